import Derived.Test.YtegmklafpoldgaaGreatDoorBRowTC4
set_option linter.unusedVariables false
set_option linter.unusedSimpArgs false
set_option maxRecDepth 100000
set_option maxHeartbeats 4000000
open Go.GL (zk)
open List (mem_append_right take_succ_eq_append_getElem take_length getElem_mem take_zero sum_cons length_take not_mem_nil cons_append length_reverse reverse_cons)
open Nat (add_zero zero_le sub_self ble_eq)
namespace Go.Proofs.YtegmklafpoldgaaGreatDoor.Cmp
open Go.GL Go.RowKit Go.Stele
open Go.Lib (decDigits itoa join)
variable{i:Nat}
mutual
theorem qtx(c:CC):∀ (s:Sm) (n:Nat),(stW c n s).2<=n+2 * ndS s
 |.mk kind name index value thn els,n=>by
  have ht:=λn=>qgO c thn n;have he:=λn=>qgO c els n;rw[ndS];unfold stW
  by_cases k1:kind=1
  rw[zp k1];simp only;omega;rw[zn k1]
  by_cases k2:kind=2
  rw[zp k2];simp only;omega;rw[zn k2]
  by_cases k3:kind=3
  rw[zp k3]
  cases els with
  |nil=>have:=ht (n+1);simp only;omega
  |cons a r=>have h1:=ht (n+2);have h2:=he (stWs c (n+2) thn).2;simp only;omega
  rw[zn k3]
  by_cases k4:kind=4
  have h1:=ht (n+2);rw[zp k4];simp only;omega;rw[zn k4]
  by_cases k5:kind=5
  rw[zp k5];simp only;omega;rw[zn k5]
  by_cases k6:kind=6
  rw[zp k6];simp only;omega;rw[zn k6]
  by_cases k7:kind=7
  rw[zp k7];simp only;omega;rw[zn k7];simp only;omega
theorem qgO(c:CC):∀ (l:List Sm) (n:Nat),(stWs c n l).2<=n+2 * ndSs l
 |[],n=>by rw[stWs,ndSs];simp
 |s::l,n=>by
  have h1:=qtx c s n;have h2:=qgO c l (stW c n s).2;rw[stWs,ndSs];simp only;omega
end
theorem qtf(c:CC)(n:Nat)(s:Sm)(l:List Sm):stWs c n (s::l)=((stW c n s).1++(stWs c (stW c n s).2 l).1,(stWs c (stW c n s).2 l).2):=by rw[stWs]
theorem ql9(c:CC)(n:Nat):stWs c n []=([],n):=by rw[stWs]
theorem qi3(x:Ex):([x]:List Ex).headD default=x:=rfl
theorem qpP:∀ {l:List Sm} {x:Sm},x∈l->ndS x<=ndSs l
 |g::l,f,h=>by
  rw[ndSs];rcases zMi.1 h with rfl|h;omega;have:=qpP h;omega
abbrev stB(b:Nat)(kind:Int)(name:Nm)(index value:List Ex)(thn els:List Sm):Nat×LObj:=(b,.cells 168 [int .i64 kind,str name,.list (index.map encE),.list (value.map encE),.list (thn.map encS),.list (els.map encS)])
attribute [local irreducible] LOps qah qae LCalls Go.GL.Pure qaw qam qad LQ LAny qay qal LS
section
variable{B0:Nat}{w0:World}
def qsG(B0:Nat)(w0:World)(k:TB)(own:Nm)(c:CC)(env:CEnv)(m:Nat):Prop:=∀ (l:List Sm) (ws:List Wd) (n:Nat) (H:Heap),ndSs l<=m->qbu l->qbB env l=0->TrH k own ws n H->ws.length+(stWs c n l).1.length<=1000000000->n+2 * ndSs l<=1000000000->LCalls (KC B0 w0) 55 [ptr k.tb 0,.list (l.map encS)] H (qh1 (TrH k own (ws++(stWs c n l).1) (stWs c n l).2))
theorem qoo(hG:GW B0 w0){k:TB}{own:Nm}{c:CC}{env:CEnv}(hX:qnK B0 w0 k own c env 2000000){m:Nat}(ih:qsG B0 w0 k own c env m)(name:Nm)(index:List Ex)(v:Ex)(thn els:List Sm)(ws:List Wd)(n:Nat)(H:Heap)(hv:ndE v<=2000000)(hm:ndSs thn+ndSs els<=m)(h2m:els.length<=2000000)
  (nv:numE v) (nt:qbu thn) (ne:qbu els) (ev:errE env v=0) (et:qbB env thn=0) (ee:qbB env els=0) (h:TrH k own ws n H) (hr:ws.length+(stW c n (.mk 3 name index [v] thn els)).1.length<=1000000000) (hN:n+2+2 * (ndSs thn+ndSs els)<=1000000000) :
  LCalls (KC B0 w0) 126 [ptr k.tb 0,encS (.mk 3 name index [v] thn els)] H (qh1 (TrH k own (ws++(stW c n (.mk 3 name index [v] thn els)).1) (stW c n (.mk 3 name index [v] thn els)).2)):=by
 have hlt:=qgO c thn (n+2);have hlab:∀ i:Nat,i<=1000000001->(labW i).length<=11:=λi hi=>qhP zo;have hle:(els.map encS).length=els.length:=zLm _;rw[qca];refine cJ Tryz.func126 (n:=65) ?_;refine gai ?_;refine oS (sB rfl λb3=>?_) rfl;refine gag ?_;refine oS (S.callS (H1:=H) (F:=[_]) [_] rfl qbd (qf7 hG h zo) λH1 h1=>?_) rfl;have hl0:=hlab n zo;refine gac ?_
 cases els with
 |nil=>
  have hS:stW c n (.mk 3 name index [v] thn [])=(exW c v++([38::labW n,[63]]++((stWs c (n+1) thn).1++[labW n++[58]])),(stWs c (n+1) thn).2):=by
   unfold stW;rw[zn zDd,zn zDd,zp rfl];simp only[qi3,zAs]
  rw[hS] at hr ⊢;simp only[zLa,zLc,zLn] at hr;refine oC rfl (λ_=>?_) (λhc=>by cases hc);refine zQ50 ?_;refine oS (zsT (H1:=H1) (F:=[_]) [_,_] rfl qbd (hX v ws (n+1) H1 hv nv ev h1 zo) λH2 h2=>?_) rfl;refine gac ?_;refine zQ8 ?_;refine oS (zsT (H1:=H2) (F:=[_]) [_,_] rfl qbd (qaC h2 [38::labW n,[63]] rfl (by simp only[zLa,zLc,zLn];omega)) λH3 h3=>?_) rfl;refine gac ?_;refine oS (zsT (H1:=H3) (F:=[_]) [_,_] rfl qbd (ih thn _ (n+1) H3 zo nt et h3 (by simp only[zLa,zLc,zLn];omega) zo) λH4 h4=>?_) rfl;refine gac ?_;refine zQ15 ?_;refine oS (zsT (H1:=H4) (F:=[_]) [_,_] rfl qbd (qaC h4 [labW n++[58]] rfl (by simp only[zLa,zLc,zLn];omega)) λH5 h5=>?_) rfl;refine gab ?_
  exact rR rfl rN qct ⟨rfl,by simp only[zAs] at h5 ⊢;exact h5⟩
 |cons s0 r0=>
  have hS:stW c n (.mk 3 name index [v] thn (s0::r0))=(exW c v++([38::labW n,[63]]++((stWs c (n+2) thn).1++([[48],38::labW (n+1),[63],labW n++[58]]++((stWs c (stWs c (n+2) thn).2 (s0::r0)).1++[labW (n+1)++[58]])))),(stWs c (stWs c (n+2) thn).2 (s0::r0)).2):=by
   unfold stW;rw[zn zDd,zn zDd,zp rfl];simp only[qi3,zAs]
  rw[hS] at hr ⊢;simp only[zLa,zLc,zLn] at hr;have hl1:=hlab (n+1) zo;generalize hels:s0::r0=els at *
  have hne:¬ ((els.map encS).length:Int)=0:=by
   rw[<-hels];simp only[zLm,zLc];omega
  refine oC rfl (λhc=>absurd (zt hc) hne) (λ_=>?_);refine gaa ?_;refine oS (S.callS (H1:=H1) (F:=[_]) [_] rfl qbd (qf7 hG h1 zo) λH1 h1=>?_) rfl;refine zQ50 ?_;refine oS (zsT (H1:=H1) (F:=[_]) [_,_] rfl qbd (hX v ws (n+1+1) H1 hv nv ev h1 zo) λH2 h2=>?_) rfl;refine gac ?_;refine zQ8 ?_;refine oS (zsT (H1:=H2) (F:=[_]) [_,_] rfl qbd (qaC h2 [38::labW n,[63]] rfl (by simp only[zLa,zLc,zLn];omega)) λH3 h3=>?_) rfl;refine gac ?_;refine oS (zsT (H1:=H3) (F:=[_]) [_,_] rfl qbd (ih thn _ (n+2) H3 zo nt et h3 (by simp only[zLa,zLc,zLn];omega) zo) λH4 h4=>?_) rfl;refine gac ?_;refine oS (sL [_,_,_,_] rfl (qa3 [_,_,_,_]) rfl rfl rfl<|oS (zsT (H1:=H4) (F:=[_]) [_,_] rfl qbd (qaC h4 [[48],38::labW (n+1),[63],labW n++[58]] rfl (by simp only[zLa,zLc,zLn];omega)) λH5 h5=>?_) rfl) rfl;refine gac ?_;refine oS (zsT (H1:=H5) (F:=[_]) [_,_] rfl qbd (ih els _ _ H5 zo ne ee h5 (by simp only[zLa,zLc,zLn];omega) zo) λH6 h6=>?_) rfl;refine gac ?_;refine zQ15 ?_;refine oS (zsT (H1:=H6) (F:=[_]) [_,_] rfl qbd (qaC h6 [labW (n+1)++[58]] rfl (by simp only[zLa,zLc,zLn];omega)) λH7 h7=>?_) rfl;refine gaf ?_;exact rO rfl rN qct ⟨rfl,by simp only[zAs] at h7 ⊢;exact h7⟩
theorem qte(hG:GW B0 w0){k:TB}{own:Nm}{c:CC}{env:CEnv}(hX:qnK B0 w0 k own c env 2000000){m:Nat}(ih:qsG B0 w0 k own c env m)(name:Nm)(index:List Ex)(v:Ex)(thn els:List Sm)(ws:List Wd)(n:Nat)(H:Heap)(hv:ndE v<=2000000)(hm:ndSs thn<=m)
  (nv:numE v) (nt:qbu thn) (ev:errE env v=0) (et:qbB env thn=0) (h:TrH k own ws n H) (hr:ws.length+(stW c n (.mk 4 name index [v] thn els)).1.length<=1000000000) (hN:n+2+2 * ndSs thn<=1000000000) :
  LCalls (KC B0 w0) 127 [ptr k.tb 0,encS (.mk 4 name index [v] thn els)] H (qh1 (TrH k own (ws++(stW c n (.mk 4 name index [v] thn els)).1) (stW c n (.mk 4 name index [v] thn els)).2)):=by
 have hl0:(labW n).length<=11:=qhP zo;have hl1:(labW (n+1)).length<=11:=qhP zo
 have hS:stW c n (.mk 4 name index [v] thn els)=([labW n++[58]]++(exW c v++([38::labW (n+1),[63]]++((stWs c (n+2) thn).1++[[48],38::labW n,[63],labW (n+1)++[58]]))),(stWs c (n+2) thn).2):=by
  unfold stW;rw[zn zDd,zn zDd,zn zDd,zp rfl];simp only[qi3,zAs]
 rw[hS] at hr ⊢;simp only[zLa,zLc,zLn] at hr;rw[qca];refine cJ Tryz.func127 (n:=37) ?_;refine gai ?_;refine oS (sB rfl λb3=>?_) rfl;refine gag ?_;refine oS (S.callS (H1:=H) (F:=[_]) [_] rfl qbd (qf7 hG h zo) λH1 h1=>?_) rfl;refine gab ?_;refine oS (S.callS (H1:=H1) (F:=[_]) [_] rfl qbd (qf7 hG h1 zo) λH1 h1=>?_) rfl;refine gac ?_;refine zQ15 ?_;refine oS (zsT (H1:=H1) (F:=[_]) [_,_] rfl qbd (qaC h1 [labW n++[58]] rfl (by simp only[zLa,zLc,zLn];omega)) λH2 h2=>?_) rfl;refine zQ50 ?_;refine oS (zsT (H1:=H2) (F:=[_]) [_,_] rfl qbd (hX v _ (n+1+1) H2 hv nv ev h2 (by simp only[zLa,zLc,zLn];omega)) λH3 h3=>?_) rfl;refine gac ?_;refine zQ8 ?_;refine oS (zsT (H1:=H3) (F:=[_]) [_,_] rfl qbd (qaC h3 [38::labW (n+1),[63]] rfl (by simp only[zLa,zLc,zLn];omega)) λH4 h4=>?_) rfl;refine gac ?_;refine oS (zsT (H1:=H4) (F:=[_]) [_,_] rfl qbd (ih thn _ (n+2) H4 zo nt et h4 (by simp only[zLa,zLc,zLn];omega) zo) λH5 h5=>?_) rfl;refine gac ?_;refine oS (sL [_,_,_,_] rfl (qa3 [_,_,_,_]) rfl rfl rfl<|oS (zsT (H1:=H5) (F:=[_]) [_,_] rfl qbd (qaC h5 [[48],38::labW n,[63],labW (n+1)++[58]] rfl (by simp only[zLa,zLc,zLn];omega)) λH6 h6=>?_) rfl) rfl;refine gaf ?_;exact rO rfl rN qct ⟨rfl,by simp only[zAs] at h6 ⊢;exact h6⟩
end
theorem qrz{name:List UInt8}{index value:List Ex}{thn els:List Sm}(h:qbJ (.mk 2 name index value thn els)=true):∃ x,index=[x]:=by
 have h1:index.length=1:=by
  simp only[qbJ] at h
  repeat' (split at h)
  all_goals first
   |(simp only[zDe] at h;omega)
   |cases h
   |contradiction
 exact zRo h1
theorem qtk{kind:Int}{name:List UInt8}{index value:List Ex}{thn els:List Sm}(h:qbJ (.mk kind name index value thn els)=true):kind=1∨kind=2∨kind=3∨kind=4∨kind=5∨kind=6∨kind=7:=by
 simp only[qbJ] at h
 repeat' (split at h)
 all_goals first
  |omega
  |cases h
section
variable{B0:Nat}{w0:World}
theorem qc9(hG:GW B0 w0){k:TB}{own:Nm}{c:CC}(hk:TBok k c own){env:CEnv}(hE:EnvOk env):∀ m:Nat,m<=2000000->qsG B0 w0 k own c env m
 |0,_=>λl ws n H hm hnum herr h hr hN=>by
  have:l=[]:=by
   cases l with
   |nil=>rfl
   |cons s r=>have:=qn0 s;rw[ndSs] at hm;omega
  subst this;rw[ql9];refine cJ Tryz.func55 (n:=97) ?_;refine gaa ?_;refine oL (λkk ls H'=>kk=0/\ls=[(0,ptr k.tb 0),(6,.list []),(7,int .i64 0),(8,int .i64 0)]/\H'=H) ⟨0,_,_,⟨rfl,rfl,rfl⟩,⟨rfl,rfl,rfl,rfl,trivial⟩,zhR _⟩ ?_;rintro kk ls H' ⟨rfl,rfl,rfl⟩ j hj;refine gaj ?_;refine oC rfl (λhc=>by cases hc) (λhc=>?_);refine gab ?_
  exact rO hj rN zhr ⟨rfl,by rw[zLz];exact h⟩
 |m+1,hm6=>by
  have ih:=qc9 hG hk hE m zo;have hX:qnK B0 w0 k own c env 2000000:=qd8 hG hk hE 2000000 (zNr _);intro l ws n H hm hnum herr h hr hN;have hal:=qek l;generalize hT:stWs c n l=T at hr ⊢;refine cJ Tryz.func55 (n:=97) ?_;refine gaa ?_
  refine oL (λkk ls H'=>∃ (pre l1:List Sm) (ws':List Wd) (n':Nat),l=pre++l1/\kk=l1.length/\ls=[(0,ptr k.tb 0),(6,.list (l.map encS)),(7,int .i64 ((l.map encS).length:Int)),(8,int .i64 (pre.length:Int))]/\TrH k own ws' n' H'/\ws'++(stWs c n' l1).1=ws++T.1/\(stWs c n' l1).2=T.2/\n'+2 * ndSs l1<=1000000000/\qbB env l1=0/\qbu l1)
   ⟨l.length,_,_,⟨[],l,ws,n,rfl,rfl,rfl,h,by rw[hT],by rw[hT],hN,herr,hnum⟩,⟨rfl,rfl,rfl,rfl,trivial⟩,zhR _⟩ ?_
  rintro kk ls H' ⟨pre,l1,ws',n',hLe,rfl,rfl,hTr,hW,hL,hN1,he1,hn1⟩ j hj
  have hb2:pre.length<=2000000:=by
   have:=congrArg List.length hLe;rw[zLa] at this;omega
  refine gaj ?_;refine oC rfl (λhc=>?_) (λhc=>?_);rotate_left;have hlen:=zf hc;rw[zLm,hLe,zLa] at hlen
  obtain rfl:l1=[]:=by
   cases l1 with
   |nil=>rfl
   |cons a l2=>simp at hlen;omega
  rw[ql9,zLz] at hW;rw[ql9] at hL;simp only at hL;refine gab ?_;exact rO hj rN zhr ⟨rfl,by rw[<-hW,<-hL];exact hTr⟩;have hlen:=zt hc;rw[zLm,hLe,zLa] at hlen
  obtain⟨s,l2,rfl⟩:∃ a l2,l1=a::l2:=by
   cases l1 with
   |nil=>simp at hlen
   |cons a l2=>exact⟨a,l2,rfl⟩
  have ham:ndS s<=ndSs l:=qpP (by rw[hLe];exact mem_append_right _ zMs);have hsl:=qtx c s n';rw[qbB] at he1;rw[qbu] at hn1;rw[ndSs] at hN1;obtain⟨hns,hn2⟩:=hn1;obtain⟨hes,he2⟩:=qac.1 he1;rw[qtf] at hW hL;simp only at hW hL;rw[<-zAs] at hW;have hlw:=congrArg List.length hW;rw[zLa,zLa,zLa] at hlw;obtain⟨kind,name,index,value,thn,els⟩:=s;rw[errS] at hes
  by_cases hf:qbJ (.mk kind name index value thn els)=false
  rw[zp hf] at hes;cases hes;rw[zn hf] at hes;rw[Bool.not_eq_false] at hf;obtain⟨e1,hes⟩:=qac.1 hes;obtain⟨e2,hes⟩:=qac.1 hes;obtain⟨e3,hes⟩:=qac.1 hes;obtain⟨e4,e5⟩:=qac.1 hes;rw[numS] at hns;obtain⟨n1,n2,n3,n4⟩:=hns;rw[ndS] at ham hN1 hsl;have hel:=qek els;refine gal ?_
  refine oP (xR (el':=.agg [int .i64 kind,str name,.list (index.map encE),.list (value.map encE),.list (thn.map encS),.list (els.map encS)]) (cs:=[_,_,_,_,_,_]) rfl rfl zo (by
   have h9:=Chk.get_mid encS pre (Sm.mk kind name index value thn els) l2;rw[qca] at h9;rw[hLe]
   exact h9) rfl rfl) rfl ?_
  refine gad ?_;refine oS (sA λb5=>?_) rfl;refine gac ?_
  have fin:∀ {e:Env} {Hx:Heap} (W:List Wd) (nx:Nat) (H2:Heap),stW c n' (.mk kind name index value thn els)=(W,nx)->TrH k own (ws'++W) nx H2->HSub H2 Hx->e.ds=j.ds ->
    (e.s 0=ptr k.tb 0/\e.s 6=.list (l.map encS)/\e.s 7=int .i64 ((l.map encS).length:Int)/\e.s 8=int .i64 ((pre.length:Int)+1)) ->
    ∃ k' ls' H3,k'<(Sm.mk kind name index value thn els::l2).length/\(∃ (pre l1:List Sm) (ws':List Wd) (n':Nat),l=pre++l1/\k'=l1.length/\ls'=[(0,ptr k.tb 0),(6,.list (l.map encS)),(7,int .i64 ((l.map encS).length:Int)),(8,int .i64 (pre.length:Int))]/\TrH k own ws' n' H3/\ws'++(stWs c n' l1).1=ws++T.1/\(stWs c n' l1).2=T.2/\n'+2 * ndSs l1<=1000000000/\qbB env l1=0/\qbu l1)/\qcF e ls'/\HSub H3 Hx/\e.ds=[]:=by
   intro e Hx W nx H2 hS hT2 hsub hd hv;rw[hS] at hW hL hsl;simp only at hW hL hsl;exact⟨l2.length,_,H2,Nat.lt_succ_self _,⟨pre++[Sm.mk kind name index value thn els],l2,ws'++W,nx,by rw[hLe];simp,rfl,rfl,hT2,hW,hL,by omega,he2,hn2⟩,⟨hv.1,hv.2.1,hv.2.2.1,by rw[hv.2.2.2];exact qao (by simp),trivial⟩,hsub,hd.trans hj⟩
  by_cases k1:kind=1
  subst k1;obtain⟨x,rfl⟩:=Inp.form_value hf zDd;rw[qba] at e1;rw[qcB] at n2;rw[ndEs,ndEs] at ham hN1 hsl;have hex:=(qac.1 e1).1;have hsc:qb9 env name=0:=by rw[zp rfl] at e3;exact e3
  have hnl:=hE.sc name hsc;have hS:stW c n' (.mk 1 name index [x] thn els)=(exW c x++[c.sc name,[33]],n'):=by unfold stW;rw[zp rfl];rfl
  have hlS:=hlw;rw[hS] at hlS;simp only[zLa,zLc,zLn] at hlS;refine oC rfl (λ_=>?_) (λhc=>by cases hc);refine zQ14 ?_;refine oS (zsT (H1:=H') (F:=[_]) [_,_] rfl qbd (hX x ws' n' H' zo n2.1 hex hTr zo) λH2 h2=>?_) rfl;refine gaa ?_;refine oS (S.callS (H1:=H2) (F:=[_]) [_,_] rfl qbd (qbT hG hk h2 name zo) λH3 h3=>?_) rfl;refine zQ8 ?_;refine oS (zsT (H1:=H3) (F:=[_]) [_,_] rfl qbd (qaC h3 [c.sc name,[33]] rfl (by simp only[zLa,zLc,zLn];omega)) λH4 h4=>?_) rfl;refine gaa ?_;exact fin _ _ H4 hS (by rw[<-zAs];exact h4) qct rfl ⟨rfl,rfl,rfl,rfl⟩;refine oC rfl (λhc=>absurd (zt hc) k1) (λ_=>?_);refine gam ?_
  by_cases k2:kind=2
  subst k2;obtain⟨x,rfl⟩:=Inp.form_value hf zDd;obtain⟨y,rfl⟩:=qrz hf;rw[qba] at e1 e2;rw[qcB] at n1 n2;rw[ndEs,ndEs,ndEs,ndEs] at ham hN1 hsl;have hex:=(qac.1 e1).1;have hey:=(qac.1 e2).1;obtain⟨a,ha1,ha2,ha3⟩:=hk.ar name;have hS:stW c n' (.mk 2 name [y] [x] thn els)=(exW c x++([c.ar name]++(exW c y++[[43],[33]])),n'):=by unfold stW;rw[zn zDd,zp rfl];rfl
  have hlS:=hlw;rw[hS] at hlS;simp only[zLa,zLc,zLn] at hlS;refine oC rfl (λ_=>?_) (λhc=>by cases hc);refine zQ14 ?_;refine oS (zsT (H1:=H') (F:=[_]) [_,_] rfl qbd (hX x ws' n' H' zo n2.1 hex hTr zo) λH2 h2=>?_) rfl;refine gab ?_;have h0:=h2;obtain⟨v,Hv,hacc,rfl⟩:=h2;refine cD (m:=11) rfl [stB b5 2 name [y] [x] thn els]<|zQ53 ?_;refine aL ?_ qsN;refine lO 4 (lH rfl rfl (pL (c:=.atom _) rfl zm1 rfl) ?_);refine lO 7 (lH rfl rfl (Pure.kvOr rfl rfl zm3 ha3) ?_);refine lO 8 (lS (H1:=[]) rfl (.inl rfl) rfl zpr qsN (sF [_] rfl (qdp hG a zo) ?_));rw[<-ha2];refine lO 9 (lS (H1:=[]) rfl (.inl rfl) rfl zpr qsN (sL [_] rfl (qa3 [_]) rfl rfl rfl ?_));refine lO 10 (lS (F:=[stB b5 2 name [y] [x] thn els]) rfl (.inl rfl) rfl qbd zhr (qae.callT [_,_] rfl (qaC h0 [c.ar name] rfl (by simp only[zLa,zLc,zLn];omega)) λH2 h2=>?_));refine zQ80 ?_;refine cW qoF ?_;refine gac ?_;refine oP (xR (el':=encE y) (cs:=[_,_,_,_]) rfl rfl zDd rfl rfl rfl) rfl<|gad ?_;refine oS (zsT (H1:=H2) (F:=[_]) [_,_] rfl qbd (hX y _ n' H2 zo n1.1 hey h2 (by simp only[zLa,zLc,zLn];omega)) λH3 h3=>?_) rfl;refine gag ?_;refine zQ8 ?_;refine oS (zsT (H1:=H3) (F:=[_]) [_,_] rfl qbd (qaC h3 [[43],[33]] rfl (by simp only[zLa,zLc,zLn];omega)) λH4 h4=>?_) rfl;refine gaa ?_;exact fin _ _ H4 hS (by simp only[zAs] at h4 ⊢;exact h4) qct rfl ⟨rfl,rfl,rfl,rfl⟩;refine oC rfl (λhc=>absurd (zt hc) k2) (λ_=>?_);refine gam ?_
  by_cases k3:kind=3
  subst k3;obtain⟨x,rfl⟩:=Inp.form_value hf zDd;rw[qba] at e1;rw[qcB] at n2;rw[ndEs,ndEs] at ham hN1 hsl;have hex:=(qac.1 e1).1;refine oC rfl (λ_=>?_) (λhc=>by cases hc);refine gac ?_;refine oS (zsT (H1:=H') (F:=[_]) [_,_] (by show [ptr k.tb 0,_]=_;rw[qca];rfl) qbd (qoo hG hX ih name index x thn els ws' n' H' zo zo zo n2.1 n3 n4 hex e4 e5 hTr zo zo) λH2 h2=>?_) rfl;refine gaa ?_;exact fin _ _ H2 rfl h2 qct rfl ⟨rfl,rfl,rfl,rfl⟩;refine oC rfl (λhc=>absurd (zt hc) k3) (λ_=>?_);refine gam ?_
  by_cases k4:kind=4
  subst k4;obtain⟨x,rfl⟩:=Inp.form_value hf zDd;rw[qba] at e1;rw[qcB] at n2;rw[ndEs,ndEs] at ham hN1 hsl;have hex:=(qac.1 e1).1;refine oC rfl (λ_=>?_) (λhc=>by cases hc);refine gac ?_;refine oS (zsT (H1:=H') (F:=[_]) [_,_] (by show [ptr k.tb 0,_]=_;rw[qca];rfl) qbd (qte hG hX ih name index x thn els ws' n' H' zo zo n2.1 n3 hex e4 hTr zo zo) λH2 h2=>?_) rfl;refine gaa ?_;exact fin _ _ H2 rfl h2 qct rfl ⟨rfl,rfl,rfl,rfl⟩;refine oC rfl (λhc=>absurd (zt hc) k4) (λ_=>?_);refine gam ?_
  by_cases k5:kind=5
  subst k5;obtain⟨x,rfl⟩:=Inp.form_value hf zDd;rw[qba] at e1;rw[qcB] at n2;rw[ndEs,ndEs] at ham hN1 hsl;have hex:=(qac.1 e1).1;have hS:stW c n' (.mk 5 name index [x] thn els)=(exW c x++[[59]],n'):=by unfold stW;rw[zn zDd,zn zDd,zn zDd,zn zDd,zp rfl];rfl
  have hlS:=hlw;rw[hS] at hlS;simp only[zLa,zLc,zLn] at hlS;refine oC rfl (λ_=>?_) (λhc=>by cases hc);refine zQ14 ?_;refine oS (zsT (H1:=H') (F:=[_]) [_,_] rfl qbd (hX x ws' n' H' zo n2.1 hex hTr zo) λH2 h2=>?_) rfl;refine gag ?_;refine zQ15 ?_;refine oS (zsT (H1:=H2) (F:=[_]) [_,_] rfl qbd (qaC h2 [[59]] rfl (by simp only[zLa,zLc,zLn];omega)) λH4 h4=>?_) rfl;refine gaa ?_;exact fin _ _ H4 hS (by rw[<-zAs];exact h4) qct rfl ⟨rfl,rfl,rfl,rfl⟩;refine oC rfl (λhc=>absurd (zt hc) k5) (λ_=>?_);refine gam ?_
  by_cases k6:kind=6
  subst k6;obtain⟨x,rfl⟩:=Inp.form_value hf zDd;rw[qba] at e1;rw[qcB] at n2;rw[ndEs,ndEs] at ham hN1 hsl;have hex:=(qac.1 e1).1;have hS:stW c n' (.mk 6 name index [x] thn els)=(exW c x++[c.t0,[33]],n'):=by unfold stW;rw[zn zDd,zn zDd,zn zDd,zn zDd,zn zDd,zp rfl];rfl
  have hlS:=hlw;rw[hS] at hlS;simp only[zLa,zLc,zLn] at hlS;refine oC rfl (λ_=>?_) (λhc=>by cases hc);refine zQ14 ?_;refine oS (zsT (H1:=H') (F:=[_]) [_,_] rfl qbd (hX x ws' n' H' zo n2.1 hex hTr zo) λH2 h2=>?_) rfl;refine gag ?_
  refine oS (S.callS (H1:=H2) (F:=[_]) [_,_] rfl qbd (by
   have h9:=qdj (B0:=B0) (w0:=w0) hG hk h2 0 zDd;rw[add_zero,<-hk.t0] at h9
   exact h9) λH3 h3=>?_) rfl
  refine zQ8 ?_;refine oS (zsT (H1:=H3) (F:=[_]) [_,_] rfl qbd (qaC h3 [c.t0,[33]] rfl (by simp only[zLa,zLc,zLn];omega)) λH4 h4=>?_) rfl;refine gaa ?_;exact fin _ _ H4 hS (by rw[<-zAs];exact h4) qct rfl ⟨rfl,rfl,rfl,rfl⟩;refine oC rfl (λhc=>absurd (zt hc) k6) (λ_=>?_);refine gam ?_;have k7:kind=7:=by have:=qtk hf;omega
  subst k7;have hS:stW c n' (.mk 7 name index value thn els)=([[36]],n'):=by unfold stW;rw[zn zDd,zn zDd,zn zDd,zn zDd,zn zDd,zn zDd,zp rfl]
  have hlS:=hlw;rw[hS] at hlS;simp only[zLa,zLc,zLn] at hlS;refine oC rfl (λ_=>?_) (λhc=>by cases hc);refine gah ?_;refine zQ15 ?_;refine oS (zsT (H1:=H') (F:=[_]) [_,_] rfl qbd (qaC hTr [[36]] rfl (by simp only[zLa,zLc,zLn];omega)) λH4 h4=>?_) rfl;refine gaa ?_;exact fin _ _ H4 hS h4 qct rfl ⟨rfl,rfl,rfl,rfl⟩
end
abbrev parW(c:CC)(l:List Nm):List Wd:=l.flatMap λp=>[c.sc p,[33]]
theorem qrp(c:CC)(p:Nm)(l:List Nm):parW c (p::l)=[c.sc p,[33]]++parW c l:=by
 unfold parW;rw[List.flatMap_cons]
theorem qut(cc:Nm->CC)(n:Nat):fnWs cc n []=([],n):=by rw[fnWs]
theorem qs2(cc:Nm->CC)(n:Nat)(f:FnD)(l:List FnD):fnWs cc n (f::l)=((fnW (cc f.name) n f).1++(fnWs cc (fnW (cc f.name) n f).2 l).1,(fnWs cc (fnW (cc f.name) n f).2 l).2):=by rw[fnWs]
theorem qxu(c:CC)(n:Nat)(f:FnD):fnW c n f=([[102,95]++f.name++[58]]++(parW c f.params.reverse++((stWs c n f.body).1++[[48],[59]])),(stWs c n f.body).2):=by
 unfold fnW parW;simp only[zAs]
theorem qu4{l:List Nm}(h:i<l.length):(l.take (i+1)).reverse=l[i]::(l.take i).reverse:=by
 rw[take_succ_eq_append_getElem h,List.reverse_append];rfl
structure FnT(k:TB)(cc:Nm->CC)(f:FnD):Prop where
 tb:TBok k (cc f.name) f.name
 name:f.name.length<=24
 params:∀ p∈f.params,p.length<=1000000
 num:qbu f.body
 env:∃ env,EnvOk env/\qbB env f.body=0
section
variable{B0:Nat}{w0:World}
theorem qdo(hG:GW B0 w0){k:TB}{cc:Nm->CC}(hsm:k.sc<=1000000000)(vars:List Nm)(arrays:List (Nm×Int))(fs:List FnD)(hnd:ndFs fs<=2000000)(hf:∀ f∈fs,FnT k cc f){own0:Nm}{c0:CC}(hk0:TBok k c0 own0)(H:Heap)(h:TrH k own0 [] 0 H)
  (hr:5+(fnWs cc 0 fs).1.length<=1000000000) :
  LCalls (KC B0 w0) 25 [ptr k.tb 0,Chk.encPrG vars arrays fs] H (qh1 (λH'=>∃ own n,TrH k own ([[38,102,95,109,97,105,110],[58],decDigits k.sc,[33],[36]]++(fnWs cc 0 fs).1) n H')):=by
 have hal:=ndFs_len fs;have hall:(fs.map qaM).length=fs.length:=zLm _;refine cJ Tryz.func25 (n:=57) ?_;refine gai ?_;refine oS (sB rfl λb3=>?_) rfl;refine gag ?_
 refine oS (S.callS (H1:=H) (F:=[_]) [_,_] rfl qbd (by
  have h9:=qdj (B0:=B0) (w0:=w0) hG hk0 h 0 zDd;rw[add_zero] at h9
  exact h9) λH1 h1=>?_) rfl
 refine oS (sL [_,_,_,_,_] rfl (qa3 [_,_,_,_,_]) rfl rfl rfl<|oS (zsT (H1:=H1) (F:=[_]) [_,_] rfl qbd (qaC h1 [[38,102,95,109,97,105,110],[58],decDigits k.sc,[33],[36]] rfl (by simp only[zLc,zLn];omega)) λH2 h2=>?_) rfl) rfl;rw[List.nil_append] at h2;refine gac ?_;generalize hP:([[38,102,95,109,97,105,110],[58],decDigits k.sc,[33],[36]]:List Wd)=P5 at h2 ⊢;have hP5:P5.length=5:=by rw[<-hP];rfl
 clear hP;generalize hT:fnWs cc 0 fs=T at hr ⊢
 refine oL (λkk ls H'=>∃ (pre l1:List FnD) (ws':List Wd) (n':Nat) (own:Nm),fs=pre++l1/\kk=l1.length/\ls=[(0,ptr k.tb 0),(13,.list (fs.map qaM)),(14,int .i64 ((fs.map qaM).length:Int)),(15,int .i64 (pre.length:Int))]/\TrH k own ws' n' H'/\ws'++(fnWs cc n' l1).1=P5++T.1/\n'+2 * ndFs l1<=1000000000)
  ⟨fs.length,_,_,⟨[],fs,P5,0,own0,rfl,rfl,rfl,h2,by rw[hT],by omega⟩,⟨rfl,rfl,rfl,rfl,trivial⟩,qct⟩ ?_
 rintro kk ls H' ⟨pre,l1,ws',n',own,hLe,rfl,rfl,hTr,hW,hN1⟩ j hj
 have hb2:pre.length<=2000000:=by
  have:=congrArg List.length hLe;rw[zLa] at this;omega
 refine gaj ?_;refine oC rfl (λhc=>?_) (λhc=>?_);rotate_left;have hlen:=zf hc;rw[zLm,hLe,zLa] at hlen
 obtain rfl:l1=[]:=by
  cases l1 with
  |nil=>rfl
  |cons a l2=>simp at hlen;omega
 rw[qut,zLz] at hW;refine gab ?_;exact rO hj rN zhr ⟨rfl,own,n',by rw[<-hW];exact hTr⟩;have hlen:=zt hc;rw[zLm,hLe,zLa] at hlen
 obtain⟨f,l2,rfl⟩:∃ a l2,l1=a::l2:=by
  cases l1 with
  |nil=>simp at hlen
  |cons a l2=>exact⟨a,l2,rfl⟩
 have hfm:f∈fs:=by rw[hLe];exact mem_append_right _ zMs
 have hnf:=qgS hfm;obtain⟨hk,hnm,hpm,hnum,env,hE,herr⟩:=hf f hfm;rw[ndFs] at hN1;have hbl:=qgO (cc f.name) f.body n';have hpl:(f.params.map str).length=f.params.length:=zLm _;unfold ndF at hnf hN1;rw[qs2] at hW;rw[qxu] at hW;simp only at hW;have hlw:=congrArg List.length hW;simp only[zLa,zLc,zLn] at hlw;obtain⟨v,Hv,hacc,rfl⟩:=hTr;refine gal ?_;refine oP (xR (el':=qaM f) (cs:=[_,_,_,_]) rfl rfl zo (by rw[hLe];exact Chk.get_mid qaM pre f l2) rfl rfl) rfl<|gad ?_;refine oS (sA λb5=>?_) rfl;refine gac ?_
 first|(refine oS (sS (cs':=[_,_,_,_,_,_]) rfl zp1 rfl rfl rfl rfl rfl ?_) rfl)|skip
 refine gac ?_;have h1:TrH k f.name ws' n' ((k.tb,.cells 66 [v,int .i64 (n':Nat),int .i64 (k.sc:Nat),.atom (.map (some k.sm)),.atom (.map (some k.am)),str f.name])::(k.sm,.map (kvs k.S) k.g1)::(k.am,.map (kvs k.A) k.g2)::Hv):=⟨v,Hv,hacc,rfl⟩;refine LOps.weak (H':=(b5,.cells 89 [str f.name,.list (f.params.map str),.list (f.locals.map str),.list (f.body.map encS)])::(k.tb,.cells 66 [v,int .i64 (n':Nat),int .i64 (k.sc:Nat),.atom (.map (some k.sm)),.atom (.map (some k.am)),str f.name])::(k.sm,.map (kvs k.S) k.g1)::(k.am,.map (kvs k.A) k.g2)::Hv) ⟨[],by rw[zLz];exact zRr _ _ _⟩ ?_;generalize ((k.tb,.cells 66 [v,int .i64 (n':Nat),int .i64 (k.sc:Nat),.atom (.map (some k.sm)),.atom (.map (some k.am)),str f.name])::(k.sm,.map (kvs k.S) k.g1)::(k.am,.map (kvs k.A) k.g2)::Hv:Heap)=H1 at h1 ⊢;refine zQ15 ?_;refine oS (zsT (H1:=H1) (F:=[_]) [_,_] rfl qbd (qaC h1 [[102,95]++f.name++[58]] rfl (by simp only[zLc,zLn];omega)) λH2 h2=>?_) rfl;refine gac ?_
 refine oL (λkk ls H'=>∃ (i:Nat) (ws2:List Wd) (H3:Heap),i<=f.params.length/\kk=i/\ls=[(0,ptr k.tb 0),(5,ptr b5 0),(6,int .i64 ((i:Int)-1)),(13,.list (fs.map qaM)),(14,int .i64 ((fs.map qaM).length:Int)),(15,int .i64 (pre.length:Int))]/\H'=(b5,.cells 89 [str f.name,.list (f.params.map str),.list (f.locals.map str),.list (f.body.map encS)])::H3/\TrH k f.name ws2 n' H3/\ws2++parW (cc f.name) (f.params.take i).reverse=ws'++[[102,95]++f.name++[58]]++parW (cc f.name) f.params.reverse)
  ⟨f.params.length,_,_,⟨f.params.length,_,H2,zNr _,rfl,rfl,rfl,h2,by rw[take_length]⟩,⟨rfl,rfl,by rw[<-hpl];rfl,rfl,rfl,rfl,trivial⟩,zhR _⟩ ?_
 rintro kk ls H' ⟨i,ws2,H3,hi,rfl,rfl,rfl,h3,hW3⟩ j2 hj2;refine gac ?_;refine oC rfl (λhc=>?_) (λhc=>?_);have hge:=zt hc;obtain⟨i,rfl⟩:∃ i',kk=i'+1:=⟨kk-1,by omega⟩;have hlt:i<f.params.length:=by omega
 rw[qu4 hlt,qrp] at hW3;have hlw3:=congrArg List.length hW3;simp only[zLa,zLc,zLn] at hlw3;have hpi:=hpm _ (getElem_mem hlt);refine gac ?_;refine oP (xR (el':=str f.params[i]) (cs:=[str f.params[i]]) rfl rfl zo (by rw[show(((i+1:Nat):Int)-1).toNat=i by omega,List.getElem?_map,zRl hlt];rfl) rfl rfl) rfl ?_;refine gad ?_;refine oS (S.callS (H1:=H3) (F:=[_]) [_,_] rfl qbd (qbT hG hk h3 f.params[i] zo) λH4 h4=>?_) rfl;refine zQ8 ?_;refine oS (zsT (H1:=H4) (F:=[_]) [_,_] rfl qbd (qaC h4 [(cc f.name).sc f.params[i],[33]] rfl (by simp only[zLc,zLn];omega)) λH5 h5=>?_) rfl;refine gac ?_;exact⟨i,_,_,Nat.lt_succ_self _,⟨i,_,H5,by omega,rfl,rfl,rfl,h5,by rw[zAs];exact hW3⟩,⟨rfl,rfl,qao zo,rfl,rfl,rfl,trivial⟩,zhR _,hj2⟩;have hlt:=zf hc;obtain rfl:kk=0:=by omega
 rw[take_zero,List.reverse_nil,show parW (cc f.name) []=[] from rfl,zLz] at hW3;have hlw3:=congrArg List.length hW3;simp only[zLa,zLc,zLn] at hlw3;refine gac ?_;refine oS (zsT (H1:=H3) (F:=[_]) [_,_] rfl qbd (qc9 hG hk hE (ndSs f.body) zo f.body ws2 n' H3 (zNr _) hnum herr h3 zo zo) λH4 h4=>?_) rfl;refine gag ?_;refine zQ8 ?_;refine oS (zsT (H1:=H4) (F:=[_]) [_,_] rfl qbd (qaC h4 [[48],[59]] rfl (by simp only[zLa,zLc,zLn];omega)) λH5 h5=>?_) rfl;refine gaa ?_
 exact⟨l2.length,_,_,Nat.lt_succ_self _,⟨pre++[f],l2,_,_,f.name,by rw[hLe];simp,rfl,rfl,h5,by
  rw[hW3];simp only[zAs] at hW ⊢
  exact hW,by omega⟩,⟨rfl,rfl,rfl,qao (by simp),trivial⟩,qct,hj2.trans hj⟩
end
def qfb(r:Int×Int):LV:=.agg [int .i64 r.1,int .i64 r.2]
def qih(o:Org):LV:=.agg [int .i64 o.code,int .i64 o.scalars,int .i64 o.arrays]
def qp1(p:Nm×Int):LV:=.agg [str p.1,int .i64 p.2]
def I64(n:Int):Prop := -9223372036854775808<=n/\n<9223372036854775808
def SmI(n:Int):Prop := -1000000000000<=n/\n<=1000000000000
theorem qoK{l:List Int}(h:i<l.length):(l.take (i+1)).sum=(l.take i).sum+l[i]:=by
 rw[take_succ_eq_append_getElem h,List.sum_append]
 simp
theorem qc6:∀ (l:List Int) (i:Nat),(∀ n∈l,0<n)->0<=(l.take i).sum/\(l.take i).sum<=l.sum
 |[],i,_=>by simp
 |a::l,0,h=>by
  have:=qc6 l l.length λn hn=>h n (zMo _ hn);have h1:=h a zMs;rw[take_length] at this;rw[take_zero,List.sum_nil,sum_cons]
  omega
 |a::l,i+1,h=>by
  have:=qc6 l i λn hn=>h n (zMo _ hn);have h1:=h a zMs;rw[List.take_succ_cons,sum_cons,sum_cons];omega
theorem qtt{l:List (Nm×Int)}(h:i<l.length)(a:Int):symA a (l.take (i+1))=symA a (l.take i)++[(l[i].1,a+((l.map (·.2)).take i).sum)]:=by
 rw[take_succ_eq_append_getElem h,qpk,<-List.map_take];rfl
section
variable{B0:Nat}{w0:World}
theorem qoB(r:Int×Int)(h2:SmI r.2):LCalls (KC B0 w0) 48 [qfb r] [] (Ret (bool (qfr r))):=by
 obtain⟨a,n⟩:=r;unfold SmI at h2;simp only at h2;have hI:qfr (a,n)=decide (0<=a/\a<=262144-n):=rfl;unfold qfb;refine cJ Tryz.func48 (n:=14) ?_;refine gai ?_;refine oS (sB rfl λb1=>?_) rfl;refine gac ?_;refine oB 6 rfl (λh=>?_) (λh=>?_);have h1:a ≥ 0:=zt h;refine gad ?_
 exact qak rfl (zra rfl) (qau (by
  rw[hI,Bool.eq_iff_iff,decide_eq_true_iff,decide_eq_true_iff]
  omega))
 have h1:¬ a ≥ 0:=zf h;refine gab ?_
 exact qak rfl (zra rfl) (qau (by
  rw[hI]
  symm
  exact decide_eq_false zo))
theorem qp8(r s:Int×Int)(h1:SmI r.1)(h2:SmI r.2)(h3:SmI s.1)(h4:SmI s.2):LCalls (KC B0 w0) 49 [qfb r,qfb s] [] (Ret (bool (qjh r s))):=by
 obtain⟨a,n⟩:=r;obtain⟨b,m⟩:=s;unfold SmI at h1 h2 h3 h4;simp only at h1 h2 h3 h4;have hI:qjh (a,n) (b,m)=decide (0<n/\0<m/\a<b+m/\b<a+n):=rfl;unfold qfb;refine cJ Tryz.func49 (n:=33) ?_;refine gai ?_;refine oS (sB rfl λb1=>oS (sB rfl λb2=>?_) rfl) rfl;refine gac ?_;refine oB 8 rfl (λg1=>?_) (λg1=>?_);rotate_left;have g1':¬ n > 0:=zf g1;refine gab ?_;exact qak rfl (zra rfl) (qau (by rw[hI];symm;exact decide_eq_false zo));have g1':n > 0:=zt g1;refine gad ?_;refine oB 13 rfl (λg2=>?_) (λg2=>?_);rotate_left;have g2':¬ m > 0:=zf g2;refine gab ?_;exact qak rfl (zra rfl) (qau (by rw[hI];symm;exact decide_eq_false zo));have g2':m > 0:=zt g2;refine gan ?_;refine oB 23 rfl (λg3=>?_) (λg3=>?_);rotate_left;have g3':¬ a<b+m:=zf g3;refine gab ?_;exact qak rfl (zra rfl) (qau (by rw[hI];symm;exact decide_eq_false zo));have g3':a<b+m:=zt g3;refine gan ?_
 exact qak rfl (zra rfl) (qau (by
  rw[hI,Bool.eq_iff_iff,decide_eq_true_iff,decide_eq_true_iff]
  omega))
theorem qnU(vars:List Nm)(arrays:List (Nm×Int))(fs:List FnD)(o:Org)(hl:arrays.length<=2000000)(hp:∀ a∈arrays,0<a.2)(h0:0<=o.arrays)(h1:o.arrays+(arrays.map (·.2)).sum<=262144):LCalls (KC B0 w0) 24 [Chk.encPrG vars arrays fs,qih o] [] (Ret (.tuple [.list ((symA o.arrays arrays).map qp1),int .i64 0])):=by
 have hal:(arrays.map Chk.encArG).length=arrays.length:=zLm _;have hml:(arrays.map (·.2)).length=arrays.length:=zLm _
 have hps:∀ n∈arrays.map (·.2),0<n:=λn hn=>by
  obtain⟨a,ha,rfl⟩:=zRf hn;exact hp a ha
 unfold Chk.encPrG qih;refine cJ Tryz.func24 (n:=50) ?_;refine gai ?_;refine oS (sB rfl λb2=>oS (sB rfl λb3=>?_) rfl) rfl;refine gac ?_
 refine oL (λkk ls H'=>∃ (i:Nat) (v:LV),i<=arrays.length/\kk=arrays.length-i/\ls=[(6,v),(7,int .i64 (o.arrays+((arrays.map (·.2)).take i).sum)),(13,.list (arrays.map Chk.encArG)),(14,int .i64 arrays.length),(15,int .i64 (i:Nat))]/\GL.Acc 2 v ((symA o.arrays (arrays.take i)).map qp1) H' [])
  ⟨_,_,_,⟨0,qab,zero_le _,rfl,rfl,Acc.nil⟩,⟨rfl,qao (by simp),rfl,qao zo,rfl,trivial⟩,HSub.nil _⟩ ?_
 rintro kk ls H' ⟨i,v,hi,rfl,rfl,hacc⟩ j hj;have hsum:=qc6 (arrays.map (·.2)) i hps;refine gaj ?_;refine oC rfl (λhc=>?_) (λhc=>?_);have hlt:i<arrays.length:=by have:=zt hc;omega
 have hpi:=hp _ (getElem_mem hlt);have hst:=qoK (l:=arrays.map (·.2)) (i:=i) zo;rw[List.getElem_map] at hst;have hsum2:=qc6 (arrays.map (·.2)) (i+1) hps
 have hlen:((symA o.arrays (arrays.take i)).map qp1).length=i:=by
  rw[zLm,qlM,length_take];omega
 generalize hsi:((arrays.map (·.2)).take i).sum=si at hsum hst;have hsy:=qtt hlt o.arrays;rw[hsi] at hsy;refine zQ83 ?_;refine oS (sA λb9=>?_) rfl;refine gac ?_;refine oB 21 rfl (λh=>?_) (λ_=>?_);have:=zt h;omega;refine gad ?_;refine oB 25 rfl (λh=>?_) (λ_=>?_);have:=zt h;omega;refine gan ?_;refine oB 30 rfl (λh=>?_) (λ_=>?_);have:=zt h;omega;refine gad ?_;refine oC rfl (λh=>?_) (λ_=>?_);have:=zt h;omega;refine gal ?_;refine zQ18 ?_;refine gad ?_;refine zQ2 ?_;refine oS (S.acc1 rfl hacc rfl (by simp;rfl) rfl (by rw[hlen];simp;omega) λv' H2 hacc'=>?_) rfl;refine zQ30 ?_;refine gaa ?_;exact⟨_,_,_,by omega,⟨i+1,v',by omega,rfl,rfl,by rw[hsy,zMa];exact hacc'⟩,⟨rfl,qao (by rw[hst];omega),rfl,rfl,qao zo,trivial⟩,zhD zhr,hj⟩;have hi':i=arrays.length:=by have:=zf hc;omega
 subst hi';rw[take_length] at hacc;refine qah.sub (d:=6) (v:=v) rfl hacc.sub ?_;refine cW zhn ?_;refine gac ?_;exact qak hj (rC (rT (v:=.list _) rfl zsr) (zra rfl)) rfl
theorem qqW(vars:List Nm)(arrays:List (Nm×Int))(fs:List FnD)(o:Org)(hv6:vars.length<=2000000)(hf6:fs.length<=2000000)(hl:arrays.length<=2000000)(hsm:∀ f∈fs,SmF f)(hn:∀ f∈fs,f.name.length<=1000/\∀ x∈f.params++f.locals,x.length<=1000)
  (hp:∀ a∈arrays,0<a.2) (ht:(arrays.map (·.2)).sum<=150000) (hsc:(qaf vars fs).length<=8000) (o1:I64 o.code) (o2:I64 o.scalars) (o3:I64 o.arrays) :
  LCalls (KC B0 w0) 22 [Chk.encPrG vars arrays fs,qih o] [] (Ret (bool (qeS vars arrays fs o))):=by
 have hal:(arrays.map Chk.encArG).length=arrays.length:=zLm _;have hml:(arrays.map (·.2)).length=arrays.length:=zLm _
 have hps:∀ n∈arrays.map (·.2),0<n:=λn hn=>by
  obtain⟨a,ha,rfl⟩:=zRf hn;exact hp a ha
 have hscl:((qaf vars fs).map str).length=(qaf vars fs).length:=zLm _;have hS:=Chk.scalars_specG (B0:=B0) (w0:=w0) (vars:=vars) (fs:=fs) (.list (arrays.map Chk.encArG)) hv6 hf6 hsm hn;rw[qwq];unfold Chk.encPrG qih;refine cJ Tryz.func22 (n:=63) ?_;refine gai ?_;refine oS (sB rfl λb2=>oS (sB rfl λb3=>?_) rfl) rfl;refine gac ?_
 refine oL (λkk ls H'=>∃ (i:Nat),i<=arrays.length/\kk=arrays.length-i/\ls=[(2,ptr b2 0),(3,ptr b3 0),(5,int .i64 (((arrays.map (·.2)).take i).sum)),(14,.list (arrays.map Chk.encArG)),(15,int .i64 arrays.length),(16,int .i64 (i:Nat))]/\H'=[(b3,.cells 35 [int .i64 o.code,int .i64 o.scalars,int .i64 o.arrays]),(b2,.cells 28 [.list (vars.map str),.list (arrays.map Chk.encArG),.list (fs.map qaM)])])
  ⟨_,_,_,⟨0,zero_le _,rfl,rfl,rfl⟩,⟨rfl,rfl,rfl,rfl,qao zo,rfl,trivial⟩,zhR _⟩ ?_
 rintro kk ls H' ⟨i,hi,rfl,rfl,rfl⟩ j hj;have hsum:=qc6 (arrays.map (·.2)) i hps;refine gaj ?_;refine oC rfl (λhc=>?_) (λhc=>?_);have hlt:i<arrays.length:=by have:=zt hc;omega
 have hpi:=hp _ (getElem_mem hlt);have hst:=qoK (l:=arrays.map (·.2)) (i:=i) zo;rw[List.getElem_map] at hst;have hsum2:=qc6 (arrays.map (·.2)) (i+1) hps;generalize hsi:((arrays.map (·.2)).take i).sum=si at hsum hst;refine zQ83 ?_;refine oS (sA λb7=>?_) rfl;refine gac ?_;exact⟨_,_,_,by omega,⟨i+1,by omega,rfl,rfl,rfl⟩,⟨rfl,rfl,qao (by rw[hst]),rfl,rfl,qao zo,trivial⟩,zhD zhr,hj⟩;have hi':i=arrays.length:=by have:=zf hc;omega
 subst hi';rw[<-hml,take_length] at hsum ⊢;generalize (arrays.map (·.2)).sum=total at hsum ht ⊢;generalize (qaf vars fs).length=ns at hsc hscl ⊢;refine gab ?_;refine cD (m:=16) rfl [(b3,.cells 35 [int .i64 o.code,int .i64 o.scalars,int .i64 o.arrays]),(b2,.cells 28 [.list (vars.map str),.list (arrays.map Chk.encArG),.list (fs.map qaM)])]<|aT 0 rfl rfl (pF rfl)<|aT 1 rfl rfl (pL (c:=.atom _) rfl zm0 rfl)<|aT 2 rfl rfl (pG (cs':=[_,_,_]) rfl zm1 rfl rfl)<|aT 7 rfl rfl (pF rfl)<|aT 8 rfl rfl (pL (c:=.atom _) rfl zm0 rfl)<|aT 9 rfl rfl (pB _ (cs:=[_,_]) rfl)<|aT 10 rfl rfl (pF rfl)<|aT 11 rfl rfl (pL (c:=.atom _) rfl zm0 rfl)<|aT 12 rfl rfl (pM (lv:=.atom _) rfl)<|aT 13 rfl rfl (pB _ (cs:=[_,_]) rfl)<|aL ?_ zhr;refine lO 3 (lS (H1:=[]) rfl (.inl rfl) rfl zpr zhr (sF [_] rfl hS ?_));refine lO 4 (lH rfl rfl (Pure.llen rfl) ?_);refine lO 5 (lH rfl rfl (Pure.add rfl rfl zo) ?_);refine lO 6 (lH rfl rfl (pB _ (cs:=[_,_]) rfl) ?_);refine lO 14 (lS (H1:=[]) rfl (.inl rfl) rfl zpr zhr (sL (es:=[LV.agg [int .i64 o.scalars,int .i64 (3+(((qaf vars fs).map str).length:Int))],.agg [int .i64 o.code,int .i64 40000],.agg [int .i64 o.arrays,int .i64 total]]) [_,_,_] rfl (eC rfl rfl (eC rfl rfl (eC rfl rfl eN))) rfl rfl rfl ?_));refine lO 15 (lH rfl rfl (pA (lv:=.list _) rfl) ?_);refine lD zk ?_;have e3:(3:Int)+(((qaf vars fs).map str).length:Int)=3+(ns:Nat):=by rw[hscl]
 rw[e3];generalize hrs:[(o.scalars,(3:Int)+(ns:Nat)),(o.code,(40000:Int)),(o.arrays,total)]=rs;have hrl:([LV.agg [int .i64 o.scalars,int .i64 (3+(ns:Int))],.agg [int .i64 o.code,int .i64 40000],.agg [int .i64 o.arrays,int .i64 total]]:List LV)=rs.map qfb:=by rw[<-hrs];rfl
 rw[hrl];have hlr:rs.length=3:=by rw[<-hrs];rfl
 have hsz:∀ r∈rs,SmI r.2/\0<=r.2:=by
  rw[<-hrs];intro r hr;simp only[zMi,not_mem_nil,or_false] at hr;unfold SmI;rcases hr with rfl|rfl|rfl <;> simp only <;> omega
 have hrm:(rs.map qfb).length=rs.length:=zLm _;clear hrl hrs;generalize hR:goR [] rs=R;refine qN ?_;refine cW zhn ?_;refine gaa ?_
 refine oL (λkk ls H'=>∃ (i:Nat),i<=rs.length/\kk=rs.length-i/\ls=[(8,.list (rs.map qfb)),(40,.list (rs.map qfb)),(41,int .i64 rs.length),(42,int .i64 (i:Nat))]/\H'=[]/\goR (rs.take i) (rs.drop i)=R/\∀ r∈rs.take i,qfr r=true)
  ⟨_,_,_,⟨0,zero_le _,rfl,rfl,rfl,hR,λr hr=>by cases hr⟩,⟨rfl,rfl,qao zo,rfl,trivial⟩,zhR _⟩ ?_
 rintro kk ls H' ⟨i,hi,rfl,rfl,rfl,hgo,hins⟩ j1 hj1;refine gaj ?_;refine oC rfl (λhc=>?_) (λhc=>?_);rotate_left;have hi':i=rs.length:=by have:=zf hc;omega
 subst hi';rw[List.drop_length,goR] at hgo;refine gaa ?_;exact qak (hj1.trans hj) (zra rfl) (qau hgo);have hlt:i<rs.length:=by have:=zt hc;omega
 have hsi:=hsz _ (getElem_mem hlt);rw[List.drop_eq_getElem_cons hlt,goR,<-take_succ_eq_append_getElem hlt] at hgo;generalize hgr:rs[i]=r at hgo hsi;refine gaa ?_;refine oP (xR (el':=qfb r) (cs:=[_,_]) rfl rfl zo (by rw[<-hgr];exact qbR _ _ _ hlt) rfl rfl) rfl<|gad ?_;refine oS (sA λb10=>?_) rfl;refine gac ?_;refine oS (sF [_] rfl (qoB r hsi.1) ?_) rfl;refine gad ?_;refine oC rfl (λh=>?_) (λh=>?_);have h':qfr r=false:=by simpa using h
 rw[h',zRs,zRs] at hgo;refine gaa ?_;exact qak (hj1.trans hj) (zra rfl) (qau hgo);have h':qfr r=true:=by simpa using h
 rw[h',Bool.true_and] at hgo
 have inb:∀ r:Int×Int,SmI r.2/\0<=r.2->qfr r=true->SmI r.1:=λr h1 h2=>by
  have:0<=r.1/\r.1<=262144-r.2:=zt h2;unfold SmI at h1 ⊢;omega
 have hri:=inb r hsi h';have htl:(rs.take i).length=i:=by rw[length_take];omega
 have htm:((rs.take i).map qfb).length=i:=by rw[zLm,htl]
 have hts:((rs.map qfb).take i)=(rs.take i).map qfb:=List.map_take.symm;refine gaa ?_;refine oP (Pure.lsliceE (i:=0) (j:=(i:Nat)) (es:=rs.map qfb) (ms:=(rs.take i).map qfb) rfl rfl ⟨_,rfl⟩ zo zo zo (λv hv=>by obtain⟨r,_,rfl⟩:=zRf hv;rfl) (by rw[Int.toNat_natCast,<-hts];rfl)) rfl<|gab ?_
 refine oL (λkk ls H'=>∃ (x:Nat),x<=i/\kk=i-x/\ls=[(8,.list (rs.map qfb)),(10,ptr b10 0),(40,.list (rs.map qfb)),(41,int .i64 rs.length),(42,int .i64 (i:Nat)),(52,.list ((rs.take i).map qfb)),(53,int .i64 i),(54,int .i64 (x:Nat))]/\H'=[(b10,.cells 125 [int .i64 r.1,int .i64 r.2])]/\((((rs.take i).drop x).all λs=>!qjh r s) && goR (rs.take (i+1)) (rs.drop (i+1)))=R)
  ⟨_,_,_,⟨0,zero_le _,rfl,rfl,rfl,by rw[List.drop_zero];exact hgo⟩,⟨rfl,rfl,rfl,rfl,rfl,rfl,qao zo,rfl,trivial⟩,zhR _⟩ ?_
 rintro kk ls H' ⟨x,hx,rfl,rfl,rfl,hall⟩ j2 hj2;refine gaj ?_;refine oC rfl (λhc=>?_) (λhc=>?_);have hlx:x<(rs.take i).length:=by have:=zt hc;omega
 have hm1:=getElem_mem hlx;have hss:=hsz _ (List.mem_of_mem_take hm1);have hsn:=inb _ hss (hins _ hm1);rw[List.drop_eq_getElem_cons hlx,List.all_cons] at hall;generalize hgs:(rs.take i)[x]=s at hall hss hsn;refine gal ?_;refine oP (xR (el':=qfb s) (cs:=[_,_]) rfl rfl zo (by rw[<-hgs];exact qbR _ _ _ hlx) rfl rfl) rfl<|gad ?_;refine oS (sA λb12=>?_) rfl;refine gac ?_;refine oS (sF [_,_] rfl (qp8 r s hri hsi.1 hsn hss.1) ?_) rfl;refine gaf ?_;refine oC rfl (λh=>?_) (λh=>?_);have h2:qjh r s=true:=h;rw[h2] at hall;refine gaa ?_;exact qak (hj2.trans (hj1.trans hj)) (zra rfl) (qau (by rw[<-hall];rfl));have h2:qjh r s=false:=h;rw[h2] at hall;refine gaa ?_;exact⟨_,_,_,by omega,⟨x+1,by omega,rfl,rfl,rfl,hall⟩,⟨rfl,rfl,rfl,rfl,rfl,rfl,rfl,qao zo,trivial⟩,zhD zhr,hj2⟩;have hx':x=i:=by have:=zf hc;omega
 subst hx';rw[List.drop_eq_nil_of_le (by rw[htl];exact zNr _)] at hall;refine gaa ?_
 exact⟨_,_,_,by omega,⟨x+1,by omega,rfl,rfl,rfl,hall,λq hq=>by
  rw[take_succ_eq_append_getElem hlt,hgr] at hq;rcases zRd hq with hq|hq;exact hins q hq
  rw[zRa hq];exact h'⟩,⟨rfl,rfl,rfl,qao zo,trivial⟩,HSub.nil _,hj2.trans hj1⟩
end
def scKV(S:Int):Nat->List Nm->KV
 |_,[]=>[]
 |i,x::r=>(x,int .i64 (S+3+(i:Nat)))::scKV S (i+1) r
theorem qoP(S:Int):∀ (l m:List Nm) (i:Nat),scKV S i (l++m)=scKV S i l++scKV S (i+l.length) m
 |[],m,i=>by simp[scKV]
 |x::r,m,i=>by
  rw[cons_append,scKV,qoP S r m,scKV,cons_append,zLc,Nat.add_right_comm,Nat.add_assoc]
theorem qnn(S:Int):∀ (l:List Nm) (i:Nat),(scKV S i l).map (·.1)=l
 |[],i=>rfl
 |x::r,i=>by rw[scKV,zMc,qnn S r]
theorem qrh{S:Int}{l:List Nm}(h:i<l.length)(hn:l.Nodup):GL.kvPut (scKV S 0 (l.take i)) l[i] (int .i64 (S+3+(i:Nat)))=scKV S 0 (l.take (i+1)):=by
 rw[take_succ_eq_append_getElem h,qoP,length_take,Nat.zero_add,Nat.min_eq_left zo];refine qj1 ?_;rw[qnn];intro hm;rw[<-List.take_append_drop i l,List.drop_eq_getElem_cons h,List.nodup_append] at hn;exact hn.2.2 _ hm _ zMs rfl
theorem ql7(S:Int)(k:Nm):∀ (l:List Nm) (i:Nat),GL.kvGet (scKV S i l) k=if k∈l then some (int .i64 (S+3+((i+l.idxOf k:Nat):Int))) else none
 |[],i=>rfl
 |x::r,i=>by
  rw[scKV,GL.kvGet]
  by_cases h:x=k
  rw[zp h,zp (by rw[h];exact List.mem_cons_self ..),List.idxOf_cons,h]
  simp
  rw[zn h,ql7 S k r (i+1)]
  by_cases hm:k∈r
  rw[zp hm,zp (zMo _ hm),List.idxOf_cons,cond_eq_ite,zn (by simpa using h)];congr 4;omega;rw[zn hm,zn (by rw[zMi];exact λg=>g.elim (λe=>h e.symm) hm)]
def arKV(l:List (Nm×Int)):KV:=l.map λp=>(p.1,int .i64 p.2)
theorem qq4{l:List (Nm×Int)}(h:i<l.length)(hn:(l.map (·.1)).Nodup):GL.kvPut (arKV (l.take i)) l[i].1 (int .i64 l[i].2)=arKV (l.take (i+1)):=by
 unfold arKV;rw[take_succ_eq_append_getElem h,zMa];refine qj1 ?_;rw[List.map_map];intro hm
 have e1:l.map (·.1)=(l.take i).map (·.1)++l[i].1::(l.drop (i+1)).map (·.1):=by
  conv=>lhs;rw[<-List.take_append_drop i l,List.drop_eq_getElem_cons h]
  rw[zMa,zMc]
 rw[e1,List.nodup_append] at hn;exact hn.2.2 _ hm _ zMs rfl
theorem qo4(name:Nm):∀ (l:List (Nm×Int)) (a:Int),(GL.kvGet (arKV (symA a l)) name).getD (int .i64 0)=int .i64 (arrA a l name)
 |[],a=>rfl
 |(x,n)::r,a=>by
  rw[symA,arrA];show(GL.kvGet ((x,int .i64 a)::arKV (symA (a+n) r)) name).getD (int .i64 0)=_;rw[GL.kvGet];simp only
  by_cases h:x=name
  rw[zp h,zp h];rfl;rw[zn h,zn h];exact qo4 name r (a+n)
def qqK:Except Int Wd->LV
 |.error e=>.tuple [str [],int .i64 e]
 |.ok t=>.tuple [str t,int .i64 0]
theorem tb_ok{P:Pr}{o:Org}(hF:FitN P o)(own:Nm)(ho:own.length<=1000000)(b1 b2 b3 g1 g2:Nat):TBok ⟨b1,b2,b3,scKV o.scalars 0 (qaf P.vars P.funcs),arKV (symA o.arrays (qa8 P)),g1,g2,o.scalars.toNat⟩ (ccF P.vars (qa8 P) P.funcs o own) own:=by
 have s0:=hF.s0;have s1:=hF.s1;have a0:=hF.a0;have a1:=hF.a1
 have hp:∀ p∈qa8 P,0<=p.2:=λp hp=>by
  obtain⟨a,_,rfl⟩:=zRf hp;exact Int.natCast_nonneg _
 have hpl:∀ k,0<=qen (qaf P.vars P.funcs) o.scalars k/\qen (qaf P.vars P.funcs) o.scalars k<=262144/\(k∈qaf P.vars P.funcs->int .i64 (o.scalars+3+((0+(qaf P.vars P.funcs).idxOf k:Nat):Int))=int .i64 (((qen (qaf P.vars P.funcs) o.scalars k).toNat:Nat):Int)):=λk=>by
  unfold qen
  by_cases h:k∈qaf P.vars P.funcs
  have:=List.idxOf_lt_length_of_mem h;rw[zp h];exact⟨by omega,by omega,λ_=>qao zo⟩;rw[zn h];exact⟨by omega,by omega,λh2=>absurd h2 h⟩
 refine⟨λname=>?_,λname=>?_,?_,?_,?_,?_,ho⟩;refine⟨(qen (qaf P.vars P.funcs) o.scalars (keyC (qaf P.vars P.funcs) own name)).toNat,?_,?_,?_⟩;have:=hpl (keyC (qaf P.vars P.funcs) own name);omega;exact qcb (hpl _).1;show(∃ v,GL.kvGet (scKV o.scalars 0 (qaf P.vars P.funcs)) (own++[46]++name)=some v/\_)∨(GL.kvGet (scKV o.scalars 0 (qaf P.vars P.funcs)) (own++[46]++name)=none/\(GL.kvGet (scKV o.scalars 0 (qaf P.vars P.funcs)) name).getD _=_);rw[ql7,ql7];unfold keyC
 by_cases h:own++[46]++name∈qaf P.vars P.funcs
 left;rw[zp h,zp h];exact⟨_,rfl,(hpl _).2.2 h⟩;right;rw[zn h,zn h];refine⟨rfl,?_⟩
 by_cases h2:name∈qaf P.vars P.funcs
 rw[zp h2];exact(hpl _).2.2 h2;rw[zn h2];unfold qen;rw[zn h2];rfl;have h1:=qgN (qa8 P) o.arrays a0 hp name;have h2:=qhY (qa8 P) o.arrays a0 hp name;have h3:((qa8 P).map (·.2)).sum=((totA P.arrays:Nat):Int):=qg5 P.arrays;rw[h3] at h2;refine⟨(arrA o.arrays (qa8 P) name).toNat,by omega,qcb h1,?_⟩;show(GL.kvGet (arKV (symA o.arrays (qa8 P))) name).getD _=_;rw[qo4];exact qao zo;exact qcb s0;show itoa (o.scalars+1)=_;rw[qcb zo];congr 1;show _=o.scalars.toNat+1;omega;show itoa (o.scalars+2)=_;rw[qcb zo];congr 1;show _=o.scalars.toNat+2;omega;show o.scalars.toNat<=_;omega
theorem qoS{s:Nm}(h:isNm s=true):s.length<=24:=by
 unfold isNm at h;rw[zBa,zBa,zDe] at h;exact h.1.1
theorem qxy{P:Pr}(hv:Valid P){f:FnD}(hf:f∈P.funcs)(hown:∀ x∈f.params++f.locals,x.length<=24){kn:List FSum}(hk:qiN P.funcs kn):EnvOk (envF P.vars (P.arrays.map (·.name)) (P.funcs.map (·.name)) kn f):=by
 have hfr:=qaP _ _ hv.names;refine⟨λs hs=>?_,λk hk'=>?_⟩;unfold qb9 at hs;split at hs
 rename_i h
 rcases h with h|h;exact qoS (hfr.2 s (List.mem_append_left _ (List.mem_append_left _ h))).2;exact hown s h;split at hs <;> cases hs;obtain⟨g,g1,g2,_⟩:=hk k hk';rw[<-g2];exact qoS (hfr.2 _ (mem_append_right _ (List.mem_map_of_mem g1))).2
theorem qhj:∀ (vars arrays later:List Nm) (known:List FSum) (fs:List FnD),qeK vars arrays later known fs=0->∀ f∈fs,∀ x∈f.params++f.locals,x.length<=24
 |_,_,_,_,[],_,f,hf=>(not_mem_nil hf).elim
 |vars,arrays,later,known,g::l,h,f,hf=>by
  rw[qeK] at h;obtain⟨h1,h2⟩:=qac.1 h;rcases zMi.1 hf with rfl|hf;unfold errF at h1;intro x hx;exact qoS ((qaP _ _ (qac.1 h1).1).2 x hx).2;exact qhj vars arrays later _ l h2 f hf
theorem qx9{t s a b3 b2:Nat×LObj}:[t,b3,s,a,b2].Perm ([t,s,a]++[b3,b2]):=zRq _ ((zRr _ _ _).trans (zRq _ (zRr _ _ _)))
section
variable{B0:Nat}{w0:World}
theorem qfJ(hG:GW B0 w0)(hM:Asm.GM w0)(vars:List Nm)(arrays:List (Nm×Int))(fs:List FnD)(o:Org)(hv6:vars.length<=2000000)(ha6:arrays.length<=2000000)(har:∀ a∈arrays,I64 a.2)(hnd:ndFs fs<=2000000)(hnum:∀ f∈fs,qbu f.body)(o1:I64 o.code)(o2:I64 o.scalars)(o3:I64 o.arrays) :
  LCalls (KC B0 w0) 8 [Chk.encPrG vars arrays fs,qih o] [] (Ret (qqK (cmpP vars arrays fs o))):=by
 have hck:=Chk.check_spec (B0:=B0) (w0:=w0) vars arrays fs hv6 ha6 har hnd;have hf6:=ndFs_len fs;have hsm:∀ f∈fs,SmF f:=λf hf=>qkX (by have:=qgS hf;omega);generalize hC:cmpP vars arrays fs o=R;unfold cmpP at hC;have ePr:Chk.encPrG vars arrays fs=.agg [.list (vars.map str),.list (arrays.map Chk.encArG),.list (fs.map qaM)]:=rfl;have eOr:qih o=.agg [int .i64 o.code,int .i64 o.scalars,int .i64 o.arrays]:=rfl;rw[ePr,eOr];refine cJ Tryz.func8 (n:=102) ?_;refine gai ?_;refine oS (sB rfl λb2=>oS (sB rfl λb3=>?_) rfl) rfl;refine gac ?_;refine oS (S.callH (H1:=[]) (F:=[_,_]) [_] rfl zpr hck ?_ (by rintro ch H' ⟨_,nm,h⟩;cases h)) rfl;rintro lv H' ⟨rfl,nm,h⟩;cases h;refine gac ?_
 by_cases hc0:qb5 vars arrays fs=0
 rotate_left;rw[zp hc0] at hC;subst hC;refine oC rfl (λ_=>?_) (λhc=>?_);refine gaa ?_;exact qak rfl (rC (zrt rfl) (zra rfl)) rfl;have h2:(!decide (qb5 vars arrays fs=0))=false:=hc;simp at h2;exact absurd h2 hc0;refine oC rfl (λhc=>?_) (λ_=>?_);have h2:(!decide (qb5 vars arrays fs=0))=true:=hc;simp[hc0] at h2;rw[zn (by simpa using hc0)] at hC;obtain⟨ht,hp,hPa,hPc,hV⟩:=qd0 hc0
 have hown:∀ f∈fs,∀ x∈f.params++f.locals,x.length<=24:=by
  have h:=hc0;unfold qb5 at h;exact qhj _ _ _ _ _ (qac.1 (qac.1 (qac.1 h).2).2).1
 have hfr:=qaP _ _ hV.names;have hfn:∀ f∈fs,f.name.length<=24:=λf hf=>qoS (hfr.2 _ (mem_append_right _ (List.mem_map_of_mem hf))).2;have hn:∀ f∈fs,f.name.length<=1000/\∀ x∈f.params++f.locals,x.length<=1000:=λf hf=>⟨by have:=hfn f hf;omega,λx hx=>by have:=hown f hf x hx;omega⟩;have hsc8:(qaf vars fs).length<=8000:=hV.few;have hft:=qqW (B0:=B0) (w0:=w0) vars arrays fs o hv6 zo ha6 hsm hn hp ht hsc8 o1 o2 o3;rw[ePr,eOr] at hft;refine gac ?_;refine oS (sF [_,_] rfl hft ?_) rfl;refine gad ?_
 by_cases hfit:qeS vars arrays fs o=true
 rotate_left;rw[zp (by simpa using hfit)] at hC;subst hC;refine oC rfl (λ_=>?_) (λhc=>?_);refine gaa ?_;exact qak rfl (rC (zrt rfl) (zra rfl)) rfl;have h2:(!qeS vars arrays fs o)=false:=hc;simp at h2;exact absurd h2 hfit;refine oC rfl (λhc=>?_) (λ_=>?_);have h2:(!qeS vars arrays fs o)=true:=hc;rw[hfit] at h2;cases h2;rw[zn (by rw[hfit];decide)] at hC;have hfitP:qeS (prOf vars arrays fs).vars (qa8 (prOf vars arrays fs)) (prOf vars arrays fs).funcs o=true:=by rw[hPa];exact hfit
 have hF:=qgq hfitP;have hS:=Chk.scalars_specG (B0:=B0) (w0:=w0) (vars:=vars) (fs:=fs) (.list (arrays.map Chk.encArG)) hv6 zo hsm hn;have hT:=hF.s1;have hS0:=hF.s0;have hA1:=hF.a1;have hA0:=hF.a0;have hkeys:(qaf vars fs).Nodup:=hV.keys
 have htot:(arrays.map (·.2)).sum=((totA (prOf vars arrays fs).arrays:Nat):Int):=by
  have:=qg5 (prOf vars arrays fs).arrays;rw[<-this];congr 2;exact hPa.symm
 have hAs:=qnU (B0:=B0) (w0:=w0) vars arrays fs o ha6 hp hA0 (by rw[htot];omega);rw[ePr,eOr] at hAs;have hT2:o.scalars.toNat+3+(qaf vars fs).length<=262144:=hT;refine gaa ?_;refine oS (S.kvNew λsm=>oS (S.kvNew λam=>?_) rfl) rfl;refine gad ?_;refine oS (sB rfl λtb=>?_) rfl;refine gac ?_;refine oS (sF [_] rfl hS ?_) rfl;have hsl:((qaf vars fs).map str).length=(qaf vars fs).length:=zLm _;refine gab ?_;generalize hsl2:qaf vars fs=sl at *
 refine oL (λkk ls H'=>∃ (i g1:Nat),i<=sl.length/\kk=sl.length-i/\ls=[(2,ptr b2 0),(3,ptr b3 0),(8,ptr tb 0),(39,.list (sl.map str)),(40,int .i64 sl.length),(41,int .i64 (i:Nat))]/\H'=[(tb,.cells 66 [qab,int .i64 0,int .i64 o.scalars,.atom (.map (some sm)),.atom (.map (some am)),str []]),(b3,.cells 35 [int .i64 o.code,int .i64 o.scalars,int .i64 o.arrays]),(sm,.map (kvs (scKV o.scalars 0 (sl.take i))) g1),(am,.map (kvs []) 0),(b2,.cells 28 [.list (vars.map str),.list (arrays.map Chk.encArG),.list (fs.map qaM)])])
  ⟨_,_,_,⟨0,0,zero_le _,rfl,rfl,rfl⟩,⟨rfl,rfl,rfl,rfl,qao zo,rfl,trivial⟩,zhP pH (zhP zp2 (zhP zp1 zhr))⟩ ?_
 rintro kk ls H' ⟨i,g1,hi,rfl,rfl,rfl⟩ j hj;refine gaj ?_;refine oC rfl (λhc=>?_) (λhc=>?_);have hlt:i<sl.length:=by have:=zt hc;omega
 have htk:=qrh (S:=o.scalars) hlt hkeys;refine gaa ?_;refine oP (xR (el':=str sl[i]) (cs:=[str sl[i]]) rfl rfl zo (qbR _ _ _ hlt) rfl rfl) rfl<|gad ?_;refine cD (m:=11) rfl [(tb,.cells 66 [qab,int .i64 0,int .i64 o.scalars,.atom (.map (some sm)),.atom (.map (some am)),str []]),(b3,.cells 35 [int .i64 o.code,int .i64 o.scalars,int .i64 o.arrays])]<|zQ10 ?_;refine aT 3 rfl rfl (pL (c:=.atom _) rfl zm0 rfl)<|aT 4 rfl rfl (pM (lv:=.atom _) rfl)<|aT 5 rfl rfl (pF rfl)<|aT 6 rfl rfl (pL (c:=.atom _) rfl zm1 rfl)<|aT 7 rfl rfl (Pure.add rfl rfl zo)<|aT 8 rfl rfl (pM (lv:=.atom _) rfl)<|aT 9 rfl rfl (Pure.add rfl rfl zo)<|aL ?_ qiE;refine lO 10 (lS (H1:=[(sm,.map (kvs (scKV o.scalars 0 (sl.take i))) g1)]) rfl (.inl rfl) rfl (show Pick _ _ _ from pT zp1) qiE (S.kvSet (k:=sl[i]) (lv:=int .i64 (o.scalars+3+(i:Nat))) rfl rfl rfl pH λg1'=>?_));rw[htk];refine zQ64 ?_;exact⟨_,_,_,by omega,⟨i+1,g1',by omega,rfl,rfl,rfl⟩,⟨rfl,rfl,rfl,rfl,rfl,qao zo,trivial⟩,zhP zp1 (zhP zp1 zhr),hj⟩;have hi':i=sl.length:=by have:=zf hc;omega
 subst hi';rw[take_length];have hyl:=qlM arrays o.arrays
 have hyn:((symA o.arrays arrays).map (·.1)).Nodup:=by
  rw[qlf];have h1:=(zRc (zRc hfr.1).1).2.1
  have e1:(prOf vars arrays fs).arrays.map (·.name)=arrays.map (·.1):=by
   unfold prOf;rw[List.map_map];rfl
  rw[e1] at h1;exact h1
 have hym:((symA o.arrays arrays).map qp1).length=(symA o.arrays arrays).length:=zLm _;refine gac ?_;refine oS (sF [_,_] rfl hAs ?_) rfl;refine gac ?_;generalize hyy:symA o.arrays arrays=ys at *;refine oC rfl (λh=>by cases h) (λ_=>?_);refine gaa ?_
 refine oL (λkk ls H'=>∃ (i g2:Nat),i<=ys.length/\kk=ys.length-i/\ls=[(2,ptr b2 0),(3,ptr b3 0),(8,ptr tb 0),(66,.list (ys.map qp1)),(67,int .i64 ys.length),(68,int .i64 (i:Nat))]/\H'=[(tb,.cells 66 [qab,int .i64 0,int .i64 o.scalars,.atom (.map (some sm)),.atom (.map (some am)),str []]),(b3,.cells 35 [int .i64 o.code,int .i64 o.scalars,int .i64 o.arrays]),(sm,.map (kvs (scKV o.scalars 0 sl)) g1),(am,.map (kvs (arKV (ys.take i))) g2),(b2,.cells 28 [.list (vars.map str),.list (arrays.map Chk.encArG),.list (fs.map qaM)])])
  ⟨_,_,_,⟨0,0,zero_le _,rfl,rfl,rfl⟩,⟨rfl,rfl,rfl,rfl,qao zo,rfl,trivial⟩,zhR _⟩ ?_
 rintro kk ls H' ⟨i,g2,hi,rfl,rfl,rfl⟩ j2 hj2;refine gaj ?_;refine oC rfl (λhc=>?_) (λhc=>?_);have hlt:i<ys.length:=by have:=zt hc;omega
 have htk:=qq4 hlt hyn;refine gal ?_;refine oP (xR (el':=qp1 ys[i]) (cs:=[_,_]) rfl rfl zo (qbR _ _ _ hlt) rfl rfl) rfl<|gad ?_;refine oS (sA λb14=>?_) rfl;refine gad ?_;refine cD (m:=9) rfl [(b14,.cells 71 [str ys[i].1,int .i64 ys[i].2]),(tb,.cells 66 [qab,int .i64 0,int .i64 o.scalars,.atom (.map (some sm)),.atom (.map (some am)),str []])]<|zQ28 ?_;refine zQ66 ?_;refine aL ?_ qiE;refine lO 8 (lS (H1:=[(am,.map (kvs (arKV (ys.take i))) g2)]) rfl (.inl rfl) rfl (show Pick _ _ _ from pT zp3) qiE (S.kvSet (k:=ys[i].1) (lv:=int .i64 ys[i].2) rfl rfl rfl pH λg2'=>?_));rw[htk];refine zQ64 ?_;exact⟨_,_,_,by omega,⟨i+1,g2',by omega,rfl,rfl,rfl⟩,⟨rfl,rfl,rfl,rfl,rfl,qao zo,trivial⟩,zhP zp2 (zhP zp2 (zhP zp2 (zhP pH (zhD zhr)))),hj2⟩;have hi':i=ys.length:=by have:=zf hc;omega
 subst hi';rw[take_length];have htb:=λown ho=>tb_ok (P:=prOf vars arrays fs) hF own ho tb sm am g1 g2;rw[hPa] at htb;have hW:=qnT hPc hnum hfitP hnd;have hjt:=qgg (qaW (prOf vars arrays fs) o)
 have hwc:qaW (prOf vars arrays fs) o=prW vars arrays fs o:=by
  unfold qaW;rw[hPa];rfl
 rw[hwc] at hW hjt;have hcc:ccF (prOf vars arrays fs).vars arrays (prOf vars arrays fs).funcs o=ccF vars arrays fs o:=rfl;rw[hPa,hcc] at hW;have hwl:=qlU (prW vars arrays fs o);have hnf:ndFs (prOf vars arrays fs).funcs=ndFs fs:=rfl;rw[hnf] at hW
 have hpw:prW vars arrays fs o=[[38,102,95,109,97,105,110],[58],decDigits o.scalars.toNat,[33],[36]]++(fnWs (ccF vars arrays fs o) 0 fs).1:=by
  unfold prW;rw[qcb hS0]
 have hpl:(prW vars arrays fs o).length=5+(fnWs (ccF vars arrays fs o) 0 fs).1.length:=by
  rw[hpw,zLa];rfl
 have hTr:TrH ⟨tb,sm,am,scKV o.scalars 0 sl,arKV ys,g1,g2,o.scalars.toNat⟩ [] [] 0 [(tb,.cells 66 [qab,int .i64 0,int .i64 o.scalars,.atom (.map (some sm)),.atom (.map (some am)),str []]),(sm,.map (kvs (scKV o.scalars 0 sl)) g1),(am,.map (kvs (arKV ys)) g2)]:=⟨qab,[],Acc.nil,by
  simp only;rw[Int.toNat_of_nonneg hS0]
  rfl⟩
 have hpg:=qdo (B0:=B0) (w0:=w0) hG (k:=⟨tb,sm,am,scKV o.scalars 0 sl,arKV ys,g1,g2,o.scalars.toNat⟩) (cc:=ccF vars arrays fs o) (by show o.scalars.toNat<=_;omega) vars arrays fs hnd (λf hf=>by
  obtain⟨kn,k1,k2⟩:=hV.bodies f hf;refine⟨?_,hfn f hf,λp hp=>by have:=hown f hf p (List.mem_append_left _ hp);omega,hnum f hf,_,qxy hV hf (hown f hf) k2,k1⟩;have:=htb f.name (by have:=hfn f hf;omega);rw[<-hsl2,<-hyy];exact this) (own0:=[]) (c0:=ccF vars arrays fs o []) (by
  have:=htb [] zDd;rw[<-hsl2,<-hyy]
  exact this) _ hTr zo
 rw[ePr] at hpg;refine gac ?_;refine oS (zsT (F:=[_,_]) [_,_] rfl qx9 hpg λH2 h2=>?_) rfl;obtain⟨own,n,h2⟩:=h2;rw[<-hpw] at h2;generalize prW vars arrays fs o=W at *;obtain⟨v,Hv,hacc,rfl⟩:=h2;have j0:=Asm.joinS_spec (B0:=B0) (w0:=w0) [32] W zo zo;have hasm:=Asm.assemble_spec (B0:=B0) (w0:=w0) hG hM (join W [32]) o.code zo;refine gaa ?_;refine oP (pL (c:=v) rfl zm2 rfl) rfl<|LOps.sub 87 rfl hacc.sub ?_;refine oS (sF [_,_] rfl j0 ?_) rfl;refine gaa ?_
 cases hx:asmP (join W [32]) o.code with
 |error e=>
  rw[hx] at hasm hC;simp only at hC;subst hC;refine oS (sF [_,_] rfl hasm ?_) rfl;unfold Asm.asmLV;refine gac ?_
  have he:¬ (e.2:Int)=0:=by
   have h3:=hF.c1;have h4:=hF.c0;have:=qt5 zo hx;omega
  refine oC rfl (λ_=>?_) (λhc=>?_);refine gaa ?_;exact qak (hj2.trans hj) (rC (zrt rfl) (zra rfl)) rfl;have h2:(!decide ((e.2:Int)=0))=false:=hc;simp at h2
  omega
 |ok x=>
  rw[hx] at hasm hC;simp only at hC;subst hC;refine oS (sF [_,_] rfl hasm ?_) rfl;unfold Asm.asmLV;refine gac ?_;refine oC rfl (λhc=>by cases hc) (λ_=>?_);refine gaa ?_;exact qak (hj2.trans hj) (rC (zrt rfl) (zra rfl)) rfl
end
section
variable{B0:Nat}{w0:World}
theorem qlh(hG:GW B0 w0)(hM:Asm.GM w0){p:Pr}{n:Nat}(h:SzP p n)(hn:n<=2000000)(o:Org)(o1:I64 o.code)(o2:I64 o.scalars)(o3:I64 o.arrays):LCalls (KC B0 w0) 8 [qfk p,qih o] [] (Ret (qqK (cmpP p.vars (qa8 p) p.funcs o))):=by
 rw[Inp.encPr_eq]
 exact qfJ hG hM _ _ _ o (zNt h.vars hn) (by rw[zLm];exact zNt h.arrays hn) (λa ha=>by
  obtain⟨x,hx,rfl⟩:=zRf ha;have:=h.size x hx;constructor;show(-9223372036854775808:Int)<=(x.size:Int);omega;show(x.size:Int)<9223372036854775808
  omega) (zNt h.funcs hn) h.nums o1 o2 o3
def defO:Org:=⟨10000,0,100000⟩
theorem qc1:LCalls (KC B0 w0) 9 [] [] (Ret (qih defO)):=by
 refine cJ Tryz.func9 (n:=2) ?_;refine gac ?_;refine oS (sA λb=>?_) rfl;refine gac ?_;exact qak rfl (rC (rA rfl zm0 rfl zsr) rN) rfl
end
end Go.Proofs.YtegmklafpoldgaaGreatDoor.Cmp
namespace Go.Proofs.YtegmklafpoldgaaGreatDoor.Mch
open Go.GL Go.RowKit Go.Stele
open Inp (u32)
variable{H:Heap}{ats:Array TypeId}{el:Nat}
def us(l:List Nat):List LV:=l.map u32
theorem qfp(l:List Nat):(us l).length=l.length:=zLm _
theorem qrD(l:List Nat):∀ v∈us l,v.cells.length=1:=λv hv=>by
 obtain⟨a,_,rfl⟩:=zRf hv;rfl
theorem qjs:∀ l:List Nat,(us l).flatMap LV.cells=us l
 |[]=>rfl
 |a::l=>by
  show(u32 a::us l).flatMap LV.cells=u32 a::us l;rw[List.flatMap_cons,qjs l];rfl
theorem qg3(l m:List Nat):us (l++m)=us l++us m:=zMa
theorem qoh{b m cap:Nat}{l:List Nat}{spare:List LV}(hm:l.length=m)(hc:m<=cap)(hl:m+spare.length=cap):MRow el 1 (.slice (some ⟨b,0,none⟩) m cap) (us l) [(b,.cells el (us l++spare))]:=
 MRow.of_cells (qrD l) (qjs l) (by rw[qfp];exact hm) hc hl
theorem qlt{s:Nat}{v:Value}{es:List LV}(h:MRow el s v es H):(LV.atom v).cells? = some [LV.atom v]/\([LV.atom v].all qcP)=true:=by
 cases h <;> exact⟨rfl,rfl⟩
theorem qsM{v:Value}{l:List Nat}(h:MRow el 1 v (us l) H)(hne:l≠[]):∃ b cap spare,v=.slice (some ⟨b,0,none⟩) l.length cap/\H=[(b,.cells el (us l++spare))]/\l.length<=cap/\l.length+spare.length=cap:=by
 obtain⟨b,cap,spare,h1,h2,h3,h4⟩:=h.addr (by intro e;exact hne (List.map_eq_nil_iff.1 e));rw[qfp] at h1 h3 h4;rw[qjs] at h2;exact⟨b,cap,spare,h1,h2,h3,by omega⟩
structure MF where
 mb:Nat
 vm:Value
 pc:Nat
 vc:Value
 inp:List Nat
 vo:LV
 digit:Bool
 st:Nat
 stop:Bool
 bm:Nat
def MF.cells(f:MF)(vd:Value):List LV:=[.atom f.vm,u32 f.pc,.atom vd,.atom f.vc,.list (us f.inp),f.vo,bool f.digit,int .i64 (f.st:Nat),bool f.stop,.atom (.map (some f.bm))]
def DH(f:MF)(data:List Nat)(H:Heap):Prop:=∃ vd HD,MRow 84 1 vd (us data.reverse) HD/\H=(f.mb,.cells 163 (f.cells vd))::HD
def qg1:List PanicEntry:=[{ v:=.iface 204 (.agg #[]),recovered:=false }]
def qoe(f:MF)(data:List Nat):LRes->Heap->Prop:=λr H=>match data with
 |[]=>r=.panic qg1/\DH f [] H
 |v::d=>r=.ret (u32 v)/\DH f d H
def qiR(f:MF)(data:List Nat)(v:Nat):LRes->Heap->Prop:=λr H=>if data.length<256 then r=.ret (.tuple [])/\DH f (v::data) H else r=.panic qg1/\DH f data H
def qiV(f:MF)(data:List Nat):LRes->Heap->Prop:=λr H=>match data with
 |[]=>r=.panic qg1/\DH f [] H
 |v::d=>if v<262144 then r=.ret (u32 v)/\DH f d H else r=.panic qg1/\DH f d H
attribute [local irreducible] LOps qah qae LCalls Go.GL.Pure qaw qam qad LQ LAny qay qal LS
section
variable{B0:Nat}{w0:World}
theorem check_spec(b:Bool):LCalls (KC B0 w0) 143 [bool b] [] (λr H'=>H'=[]/\r=if b=true then .ret (.tuple []) else .panic qg1):=by
 refine cJ Tryz.func143 (n:=6) ?_;refine gac ?_;refine oC rfl (λhc=>?_) (λhc=>?_);have hb:b=false:=by simpa using hc
 subst hb;refine gac ?_;refine oS (qae.panic rfl λe' he'=>?_) rfl;exact qad.panic (he'.trans rfl) zhr ⟨rfl,rfl⟩;have hb:b=true:=by simpa using hc
 subst hb;refine gab ?_;exact rO rfl rN zhr ⟨rfl,rfl⟩
end
section
variable{B0:Nat}{w0:World}{e:Env}{H:Heap}{dst:Option Nat}{ty:TypeId}{pos:String}{aft:Array Edge}{g:Option (Nat×Bool)}{K:LV->Heap->Prop}{X:List PanicEntry->Heap->Prop}
theorem S.check{b:Bool}{o:Operand}(hx:e.ev o=bool b)(hk:b=true->K (.tuple []) H)(hn:b=false->X qg1 H):qae (KC B0 w0) ⟨dst,.call { callee:=.value (.func 143),args:=#[o],argTypes:=ats },ty,pos,aft,g⟩ e H K X:=by
 refine S.callH (H1:=[]) (F:=H) [o] (by simp only[zMc,List.map_nil,hx]) zpr (check_spec b) ?_ ?_;rintro v H' ⟨rfl,h⟩
 cases b with
 |true=>cases h;exact hk rfl
 |false=>cases h
 rintro ch H' ⟨rfl,h⟩
 cases b with
 |true=>cases h
 |false=>cases h;exact hn rfl
end
section
variable{B0:Nat}{w0:World}{f:MF}{data:List Nat}{H:Heap}
theorem qr5(h:DH f data H)(hf:data.length<=256)(v:Nat):LCalls (KC B0 w0) 179 [ptr f.mb 0,u32 v] H (qiR f data v):=by
 obtain⟨vd,HD,hm,rfl⟩:=h;have hl:(us data.reverse).length=data.length:=by rw[qfp,length_reverse]
 unfold qiR;refine cJ Tryz.func179 (n:=21) ?_;refine gaa ?_;refine oP (Pure.mlen rfl hm) rfl<|gab ?_;refine oS (S.check rfl (λhb=>?_) (λhb e' he'=>?_)) rfl;have hlt:data.length<256:=by have:=zt hb;omega
 simp only[zp hlt];refine gaa ?_;refine zQ2 ?_;refine oS (S.appM (HM:=HD) (F:=[_]) rfl (List.perm_append_singleton _ _).symm hm rfl (by simp;rfl) rfl (by simp;omega) λv' H' hm'=>?_) rfl;refine gab ?_;refine oS (sS (n:=1) (vs:=[LV.atom v']) (cs':=[_,_,_,_,_,_,_,_,_,_]) rfl pH (qlt hm').1 rfl rfl (qlt hm').2 rfl ?_) rfl;refine gaf ?_
 exact rO rfl rN zhr ⟨rfl,v',H',by
  rw[reverse_cons,qg3]
  exact hm',rfl⟩
 have hlt:¬ data.length<256:=by have:=zf hb;omega
 simp only[zn hlt];refine gak ?_;exact qad.panic (he'.trans rfl) zhr ⟨rfl,vd,HD,hm,rfl⟩
theorem qoW(h:DH f data H)(hf:data.length<=256):LCalls (KC B0 w0) 181 [ptr f.mb 0] H (qoe f data):=by
 obtain⟨vd,HD,hm,rfl⟩:=h;have hl:(us data.reverse).length=data.length:=by rw[qfp,length_reverse]
 unfold qoe;refine cJ Tryz.func181 (n:=32) ?_;refine gaa ?_;refine oP (Pure.mlen rfl hm) rfl<|gac ?_
 cases data with
 |nil=>
  refine oS (S.check rfl (λhb=>?_) (λhb e' he'=>?_)) rfl;cases hb;refine gak ?_
  exact qad.panic (he'.trans rfl) zhr ⟨rfl,vd,HD,hm,rfl⟩
 |cons a r=>
  refine oS (S.check rfl (λhb=>?_) (λhb=>?_)) rfl;rotate_left;have:=zf hb;rw[hl,zLc] at this;omega;obtain⟨b,cap,spare,rfl,rfl,hc,hcap⟩:=qsM hm (by rw[reverse_cons];simp);rw[reverse_cons,qg3,zAs] at *;rw[zLa,length_reverse,List.length_singleton] at hc hcap;have hsz:(us r.reverse).length=r.length:=by rw[qfp,length_reverse]
  have hel:(r.reverse++[a]).length=r.length+1:=by simp
  rw[zLc] at hl hf;refine gac ?_;refine oP (Pure.indexRowE (o:=r.length) rfl rfl zo zo zo) rfl<|oP (pL (c:=u32 a) rfl zm1 (by rw[List.getElem?_append_right zo,hsz,sub_self];rfl)) rfl<|gac ?_;refine oP (Pure.rowSlice (n:=r.length) rfl (by exact qao zo) zo) rfl<|gac ?_;exact rR rfl (zra rfl) zhr ⟨rfl,_,_,qoh (l:=r.reverse) (spare:=us [a]++spare) (by rw[length_reverse]) zo (by rw[zLa,qfp];simp only[List.length_singleton];omega),rfl⟩
theorem qfE(h:DH f data H)(hf:data.length<=256):LCalls (KC B0 w0) 180 [ptr f.mb 0] H (qiV f data):=by
 have hp:=qoW (B0:=B0) (w0:=w0) h hf;unfold qoe at hp;unfold qiV;refine cJ Tryz.func180 (n:=10) ?_;refine gag ?_
 cases data with
 |nil=>
  refine oS (S.callH (H1:=H) (F:=[]) [_] rfl (by rw[zLz]) hp ?_ ?_) rfl;rintro v H' ⟨h1,_⟩;cases h1;rintro ch H' ⟨h1,h2⟩ e' he';cases h1;refine gak ?_
  exact qad.panic (he'.trans rfl) zhr ⟨rfl,by rw[zLz];exact h2⟩
 |cons a r=>
  refine oS (S.callH (H1:=H) (F:=[]) [_] rfl (by rw[zLz]) hp ?_ ?_) rfl;rotate_left;rintro ch H' ⟨h1,_⟩;cases h1;rintro v H' ⟨h1,h2⟩;cases h1;rw[zLz];refine gaa ?_;refine oS (S.check rfl (λhb=>?_) (λhb e' he'=>?_)) rfl;have hlt:a<262144:=by have:(a:Int)<262144:=zt hb;omega
  simp only[zp hlt];refine gaa ?_;exact rR rfl (zra rfl) zhr ⟨rfl,h2⟩;have hlt:¬ a<262144:=by have:¬ (a:Int)<262144:=zf hb;omega
  simp only[zn hlt];refine gak ?_;exact qad.panic (he'.trans rfl) zhr ⟨rfl,h2⟩
end
open Inp (u32 Same retS qeu qdC qn3)
variable{c:Nat}{s:MS}
def memL(f:Nat->Nat):List LV:=(List.range 262144).map λi=>u32 (f i)
theorem qhk(f:Nat->Nat):(memL f).length=262144:=by
 unfold memL;rw[zLm,List.length_range]
theorem qhb(f:Nat->Nat){a:Nat}(h:a<262144):(memL f)[a]? = some (u32 (f a)):=by
 unfold memL;rw[List.getElem?_map,List.getElem?_range h];rfl
theorem qnb(l:List LV):setL l 0 []=l:=by cases l <;> rfl
theorem qhd:∀ (l:List LV) (a:Nat) (v:LV),setL l a [v]=l.set a v
 |[],a,v=>by cases a <;> rfl
 |x::xs,0,v=>by
  show v::setL xs 0 []=_;rw[qnb]
  rfl
 |x::xs,a+1,v=>by
  show x::setL xs a [v]=_;rw[qhd xs a v];rfl
theorem qlL(f:Nat->Nat)(a v:Nat):setL (memL f) a [u32 v]=memL (λi=>if i=a then v else f i):=by
 rw[qhd];refine List.ext_getElem? λi=>?_;rw[List.getElem?_set,qhk]
 by_cases h2:i<262144
 rw[qhb (λi=>if i=a then v else f i) h2,qhb f h2]
 by_cases h:a=i
 subst h;simp[h2];have h3:¬ i=a:=λe=>h e.symm;simp[h,h3];have n1:∀ f,(memL f)[i]? = none:=λf=>List.getElem?_eq_none (by rw[qhk];omega);rw[n1 f,n1 (λi=>if i=a then v else f i)]
 by_cases h:a=i
 subst h;simp[h2];simp[h]
theorem qmD:List.replicate 262144 (LV.atom (.int .u32 0))=memL (λ_=>0):=by
 unfold memL;rw[List.map_const',List.length_range];rfl
attribute [irreducible] memL
theorem qwJ{s':MS}(h:exeM c s=.run s')(hc:qcc c=true):s'.data≠[]:=by
 unfold exeM at h;rw[zp hc] at h;unfold qlZ at h;split at h;split at h;exact zT40;cases h;unfold qdE at h;split at h;exact zT40;cases h
def fnE(k:Int)(f:FuncId)(n:Nat):MapEntry:={ key:=.int .u32 k,val:=.func (.func f) #[] #[],born:=n }
def qrQ:Array MapEntry:=#[fnE 43 139 0,fnE 45 140 1,fnE 42 141 2,fnE 47 142 3,fnE 37 144 4,fnE 94 145 5,fnE 60 146 6]
theorem qs5(h:¬ (c=43∨c=45∨c=42∨c=47∨c=37∨c=94∨c=60)):Instr.findNow (.int .u32) (.int .u32 (c:Int)) qrQ.toList 0=some none:=by
 have key:∀ k:Nat,c≠k->((c:Int) == (k:Int))=false:=λk hk=>by
  rw[beq_eq_false_iff_ne];omega
 have k1:=key 43 zo;have k2:=key 45 zo;have k3:=key 42 zo;have k4:=key 47 zo;have k5:=key 37 zo;have k6:=key 94 zo;have k7:=key 60 zo;simp only[qrQ,fnE,Instr.findNow,Instr.sameNow,if_true];simp only[Int.cast_ofNat_Int] at k1 k2 k3 k4 k5 k6 k7;simp only[k1,k2,k3,k4,k5,k6,k7]
def resM(o:Option Nat):LRes:=match o with
 |some v=>.ret (u32 v)
 |none=>.panic qg1
section
variable{B0:Nat}{w0:World}{H:Heap}{a b:Nat}
theorem qhf:LCalls (KC B0 w0) 87 [] [] (λr H=>∃ om,r=.ret (.atom (.map (some om)))/\H=[(om,.obj (.map qrQ 7))]):=by
 refine cJ Tryz.func87 (n:=3) ?_;refine gag ?_;refine oS (S.makeMap λom=>?_) rfl;refine zQ6 ?_;refine zQ58 ?_;refine oS (S.insertK (kt:=84) (el:=144) (kd:=.u32) zk zk rfl rfl rfl pH rfl rfl ?_) rfl;refine gab ?_;exact rR rfl (zra rfl) zhr ⟨om,rfl,rfl⟩
theorem qvF(ha:a<4294967296)(hb:b<4294967296):LCalls (KC B0 w0) 139 [u32 a,u32 b] H (Same (u32 ((a+b) % 4294967296)) H):=by
 refine cJ Tryz.func139 (n:=8) ?_;refine gag ?_;refine oP (Pure.addW rfl rfl) rfl<|gaf ?_;exact retS rfl (zra rfl) (qdC (by rw[qeu];omega)) zhr
theorem qvS(ha:a<4294967296)(hb:b<4294967296):LCalls (KC B0 w0) 140 [u32 a,u32 b] H (Same (u32 ((a+4294967296-b) % 4294967296)) H):=by
 refine cJ Tryz.func140 (n:=8) ?_;refine gag ?_;refine oP (Pure.subW rfl rfl) rfl<|gaf ?_;exact retS rfl (zra rfl) (qdC (by rw[qeu];omega)) zhr
theorem qwL(ha:a<4294967296)(hb:b<4294967296):LCalls (KC B0 w0) 141 [u32 a,u32 b] H (Same (u32 (a * b % 4294967296)) H):=by
 refine cJ Tryz.func141 (n:=8) ?_;refine gag ?_;refine oP (Pure.mulW rfl rfl) rfl<|gaf ?_;exact retS rfl (zra rfl) (qdC (by rw[qeu,<-Int.natCast_mul];generalize a * b=q;omega)) zhr
theorem qwy(ha:a<4294967296)(hb:b<4294967296):LCalls (KC B0 w0) 145 [u32 a,u32 b] H (Same (u32 (a ^^^ b)) H):=by
 refine cJ Tryz.func145 (n:=8) ?_;refine gag ?_;refine oP (Pure.xorW rfl rfl) rfl<|gaf ?_;exact retS rfl (zra rfl) (qdC (qn3 ha hb)) zhr
theorem qwK:LCalls (KC B0 w0) 146 [u32 a,u32 b] H (Same (u32 (if a<b then 1 else 0)) H):=by
 refine cJ Tryz.func146 (n:=8) ?_;refine gaa ?_;refine oC rfl (λhc=>?_) (λhc=>?_);have h1:a<b:=by have:=zt hc;omega
 refine gaa ?_;exact retS rfl (zra rfl) (by rw[zp h1];rfl) zhr;have h1:¬ a<b:=by have:=zf hc;omega
 refine gaa ?_;exact retS rfl (zra rfl) (by rw[zn h1];rfl) zhr
theorem qwM(ha:a<4294967296):LCalls (KC B0 w0) 142 [u32 a,u32 b] H (λr H'=>H'=H/\r=resM (if b=0 then none else some (a / b))):=by
 refine cJ Tryz.func142 (n:=11) ?_;refine gac ?_
 by_cases h0:b=0
 refine oS (S.check rfl (λhb=>?_) (λhb e' he'=>?_)) rfl;simp[h0] at hb;refine gak ?_;exact qad.panic (he'.trans rfl) zhr ⟨rfl,by rw[zp h0];rfl⟩;refine oS (S.check rfl (λhb=>?_) (λhb e' he'=>?_)) rfl;rotate_left;simp[h0] at hb;refine gag ?_;refine oP (Pure.quoW rfl rfl zo) rfl<|zQ55 ?_;rw[zn h0];exact congrArg LRes.ret (qdC (by rw[qeu,Int.tdiv_eq_ediv_of_nonneg zo,<-Int.natCast_ediv];have hq:a / b<4294967296:=Nat.lt_of_le_of_lt (Nat.div_le_self a b) ha;generalize a / b=q at hq ⊢;omega))
theorem qws(ha:a<4294967296):LCalls (KC B0 w0) 144 [u32 a,u32 b] H (λr H'=>H'=H/\r=resM (if b=0 then none else some (a % b))):=by
 refine cJ Tryz.func144 (n:=11) ?_;refine gac ?_
 by_cases h0:b=0
 refine oS (S.check rfl (λhb=>?_) (λhb e' he'=>?_)) rfl;simp[h0] at hb;refine gak ?_;exact qad.panic (he'.trans rfl) zhr ⟨rfl,by rw[zp h0];rfl⟩;refine oS (S.check rfl (λhb=>?_) (λhb e' he'=>?_)) rfl;rotate_left;simp[h0] at hb;refine gag ?_;refine oP (Pure.remW rfl rfl zo) rfl<|zQ55 ?_;rw[zn h0];exact congrArg LRes.ret (qdC (by rw[Int.tmod_eq_emod_of_nonneg zo,<-Int.natCast_emod]))
theorem qmN(hc:c=43∨c=45∨c=42∨c=47∨c=37∨c=94∨c=60)(ha:a<4294967296)(hb:b<4294967296):∃ (j:Nat) (f:FuncId),Instr.findNow (.int .u32) (.int .u32 (c:Int)) qrQ.toList 0=some (some (j,.func (.func f) #[] #[]))/\TEnter Tryz.prog f /\
  ∀ H,LCalls (KC B0 w0) f [u32 a,u32 b] H (λr H'=>H'=H/\r=resM (binM c a b)):=by
 rcases hc with rfl|rfl|rfl|rfl|rfl|rfl|rfl;exact⟨0,139,rfl,inferInstance,λH=>LCalls.mono (qvF ha hb) λr H' ⟨h1,h2⟩=>⟨h2,h1⟩⟩;exact⟨1,140,rfl,inferInstance,λH=>LCalls.mono (qvS ha hb) λr H' ⟨h1,h2⟩=>⟨h2,h1⟩⟩;exact⟨2,141,rfl,inferInstance,λH=>LCalls.mono (qwL ha hb) λr H' ⟨h1,h2⟩=>⟨h2,h1⟩⟩;exact⟨3,142,rfl,inferInstance,λH=>qwM ha⟩;exact⟨4,144,rfl,inferInstance,λH=>qws ha⟩;exact⟨5,145,rfl,inferInstance,λH=>LCalls.mono (qwy ha hb) λr H' ⟨h1,h2⟩=>⟨h2,h1⟩⟩;exact⟨6,146,rfl,inferInstance,λH=>LCalls.mono (qwK) λr H' ⟨h1,h2⟩=>⟨h2,h1⟩⟩
end
open Inp (u32 Same retS qeu qdC qma qjo)
variable{F HD:Heap}{a:Operand}{data:List Nat}{st:Nat}
structure MK where
 mb:Nat
 mm:Nat
 bm:Nat
@[reducible] def memV(k:MK):Value:=.slice (some ⟨k.mm,0,none⟩) 262144 262144
@[reducible] def MK.mf(k:MK)(s:MS)(st:Nat)(stop:Bool)(vc:Value)(vo:LV):MF:=⟨k.mb,memV k,s.pc,vc,s.inp,vo,s.digit,st,stop,k.bm⟩
@[reducible] def MK.memH(k:MK)(f:Nat->Nat):Nat×LObj:=(k.mm,.cells 84 (memL f))
@[reducible] def MK.binH(k:MK):Nat×LObj:=(k.bm,.obj (.map qrQ 7))
def StH(k:MK)(s:MS)(st:Nat)(stop:Bool)(H:Heap):Prop:=∃ vc HC vo HO HD,MRow 84 1 vc (us s.calls.reverse) HC/\Acc 1 vo (byts s.out) HO []/\DH (k.mf s st stop vc vo) s.data HD/\H=HD++(k.memH s.mem::k.binH::(HC++HO))
def qkx(k:MK)(st:Nat)(R:MR)(r:LRes)(H:Heap):Prop:=match R with
 |.run s=>r=.ret (.tuple [])/\StH k s st false H
 |.stop e o=>∃ s,s.out=o/\if e=0 then r=.ret (.tuple [])/\StH k s st true H else e=12/\r=.panic qg1/\StH k s st false H
theorem qx6{k:MK}{o:Wd}(hs:s.out=o)(h:StH k s st false H):qkx k st (.stop 12 o) (.panic qg1) H:=⟨s,hs,by rw[zn zDd];exact⟨rfl,rfl,h⟩⟩
theorem dig_t{k:Int}(h:(c:Int)=k)(hk:48<=k/\k<=57):true=qcc c:=by
 unfold qcc;rw[zRp (by omega:48<=c),zRp (by omega:c<=57)];rfl
theorem qxf{x m b:Nat×LObj}{A B C:Heap}:(x::(A++(m::b::(B++C)))).Perm (B++(x::(A++(m::b::C)))):=by
 have:=List.perm_append_comm_assoc (x::(A++[m,b])) B C;simpa using this
theorem qp2{x m b:Nat×LObj}{A B C:Heap}:(x::(A++(m::b::(B++C)))).Perm (C++(x::(A++(m::b::B)))):=by
 have:=zPc (l₁:=x::(A++(m::b::B))) (l₂:=C);simpa using this
section
variable{B0:Nat}{w0:World}{e:Env}{H:Heap}{dst:Option Nat}{ty:TypeId}{pos:String}{aft:Array Edge}{g:Option (Nat×Bool)}{K:LV->Heap->Prop}{X:List PanicEntry->Heap->Prop}
theorem S.push{f:MF}{v:Nat}{b:Operand}(hx:[e.ev a,e.ev b]=[ptr f.mb 0,u32 v])(hp:H.Perm (HD++F))(hD:DH f data HD)(hf:data.length<=256)
  (hk:data.length<256->∀ HD',DH f (v::data) HD'->K (.tuple []) (HD'++F)) (hn:¬ data.length<256->∀ HD',DH f data HD'->X qg1 (HD'++F)) :
  qae (KC B0 w0) ⟨dst,.call { callee:=.value (.func 179),args:=#[a,b],argTypes:=ats },ty,pos,aft,g⟩ e H K X:=by
 refine S.callH (H1:=HD) (F:=F) [a,b] hx hp (qr5 hD hf v) ?_ ?_;intro r H' h;unfold qiR at h;split at h
 rename_i hl
 obtain⟨h1,h2⟩:=h;cases h1;exact hk hl H' h2;obtain⟨h1,_⟩:=h;cases h1;intro ch H' h;unfold qiR at h;split at h;obtain⟨h1,_⟩:=h;cases h1
 rename_i hl
 obtain⟨h1,h2⟩:=h;cases h1;exact hn hl H' h2
theorem S.pop{f:MF}(hx:[e.ev a]=[ptr f.mb 0])(hp:H.Perm (HD++F))(hD:DH f data HD)(hf:data.length<=256)
  (hk:∀ x r,data=x::r->∀ HD',DH f r HD'->K (u32 x) (HD'++F)) (hn:data=[]->∀ HD',DH f [] HD'->X qg1 (HD'++F)) :
  qae (KC B0 w0) ⟨dst,.call { callee:=.value (.func 181),args:=#[a],argTypes:=ats },ty,pos,aft,g⟩ e H K X:=by
 refine S.callH (H1:=HD) (F:=F) [a] hx hp (qoW hD hf) ?_ ?_;intro r H' h
 cases data with
 |nil=>
  obtain⟨h1,_⟩:=h
  cases h1
 |cons x d=>
  obtain⟨h1,h2⟩:=h;cases h1;exact hk x d rfl H' h2
 intro ch H' h
 cases data with
 |nil=>
  obtain⟨h1,h2⟩:=h;cases h1
  exact hn rfl H' h2
 |cons x d=>
  obtain⟨h1,_⟩:=h;cases h1
theorem S.address{f:MF}(hx:[e.ev a]=[ptr f.mb 0])(hp:H.Perm (HD++F))(hD:DH f data HD)(hf:data.length<=256)
  (hk:∀ x r,data=x::r->x<262144->∀ HD',DH f r HD'->K (u32 x) (HD'++F)) (hn:(∀ x r,data=x::r->¬ x<262144)->∀ d HD',DH f d HD'->X qg1 (HD'++F)) :
  qae (KC B0 w0) ⟨dst,.call { callee:=.value (.func 180),args:=#[a],argTypes:=ats },ty,pos,aft,g⟩ e H K X:=by
 refine S.callH (H1:=HD) (F:=F) [a] hx hp (qfE hD hf) ?_ ?_;intro r H' h
 cases data with
 |nil=>
  obtain⟨h1,_⟩:=h
  cases h1
 |cons x d=>
  unfold qiV at h;simp only at h;split at h
  rename_i hl
  obtain⟨h1,h2⟩:=h;cases h1;exact hk x d rfl hl H' h2;obtain⟨h1,_⟩:=h;cases h1
 intro ch H' h
 cases data with
 |nil=>
  obtain⟨h1,h2⟩:=h;cases h1
  exact hn (λx r hxr=>by cases hxr) _ H' h2
 |cons x d=>
  unfold qiV at h;simp only at h;split at h;obtain⟨h1,_⟩:=h;cases h1
  rename_i hl
  obtain⟨h1,h2⟩:=h;cases h1
  exact hn (λy r hxr=>by
   injection hxr with e1 e2;rw[<-e1]
   exact hl) _ H' h2
end
section
variable{B0:Nat}{w0:World}
theorem qrv(k:MK)(hok:MsOk s)(hcl:c<4294967296)(hdig:s.digit=true->s.data≠[])(hout:s.out.length<=100000000000)(h:StH k s st false H) :
  LCalls (KC B0 w0) 148 [ptr k.mb 0,u32 c] H (qkx k st (exeM c s)):=by
 generalize hR:exeM c s=R;obtain⟨vc,HC,vo,HO,HD,hC,hO,hD,rfl⟩:=h;have hfew:=hok.few;have hdeep:=hok.deep;have hl:(us s.data.reverse).length=s.data.length:=by rw[qfp,length_reverse]
 have hlc:(us s.calls.reverse).length=s.calls.length:=by rw[qfp,length_reverse]
 have mk:∀ (d:List Nat) (HD':Heap),DH (k.mf s st false vc vo) d HD'->StH k { s with data:=d } st false (HD'++(k.memH s.mem::k.binH::(HC++HO))):=λd HD' h=>⟨vc,HC,vo,HO,HD',hC,hO,h,rfl⟩;have mkT:∀ (d:List Nat) (HD':Heap),DH (k.mf s st false vc vo) d HD'->qkx k st (MR.trap s) (.panic qg1) (HD'++(k.memH s.mem::k.binH::(HC++HO))):=λd HD' h=>qx6 (s:={ s with data:=d }) rfl (mk d HD' h);have hDD:=hD;obtain⟨vd,HD0,hm,rfl⟩:=hD;rw[cons_append];refine cJ Tryz.func148 (n:=219) ?_;refine gaa ?_;refine cC [(0,ptr k.mb 0),(1,u32 c),(14,u32 c),(36,bool (qcc c))] ?_ (λj hj=>?_);refine gam ?_;refine oC rfl (λhc=>?_) (λc0=>?_);exact zT5;refine gam ?_;refine oC rfl (λhc=>?_) (λc1=>?_);exact zT5;refine gam ?_;refine oC rfl (λhc=>?_) (λc2=>?_);exact zT5;refine gam ?_;refine oC rfl (λhc=>?_) (λc3=>?_);exact zT5;refine gam ?_;refine oC rfl (λhc=>?_) (λc4=>?_);exact zT5;refine gam ?_;refine oC rfl (λhc=>?_) (λc5=>?_);exact zT5;refine gam ?_;refine oC rfl (λhc=>?_) (λc6=>?_);exact zT5;refine gam ?_;refine oC rfl (λhc=>?_) (λc7=>?_);exact zT5;refine gam ?_;refine oC rfl (λhc=>?_) (λc8=>?_);exact zT5;refine gam ?_
 exact⟨⟨rfl,rfl,rfl,qau (by
  have d0:=zf c0;have d1:=zf c1;have d2:=zf c2;have d3:=zf c3;have d4:=zf c4;have d5:=zf c5;have d6:=zf c6;have d7:=zf c7;have d8:=zf c8;unfold qcc;rw[<-Bool.decide_and,decide_eq_decide]
  omega),trivial⟩,rfl,rfl⟩
 refine oC rfl (λhc=>?_) (λhnd=>?_)
 ·have hcd:48<=c/\c<=57:=by
   unfold qcc at hc;rw[zBa,zDe,zDe] at hc;exact hc
  have hR2:qlZ c s=R:=by
   rw[<-hR];unfold exeM;rw[zp hc]
  refine gaa ?_;refine oP (Pure.mlen rfl hm) rfl<|gac ?_;refine oC rfl (λhdg=>?_) (λhdg=>?_)
  ·obtain⟨d,r,hdr⟩:∃ d r,s.data=d::r:=by
    cases hd:s.data with
    |nil=>exact absurd hd (hdig hdg)
    |cons d r=>exact⟨d,r,rfl⟩
   have hRr:R=.run { s with data:=((d * 10+c-48) % 4294967296)::r }:=by
    rw[<-hR2];unfold qlZ;rw[zp hdg,hdr]
   subst hRr;have hln:s.data.length=r.length+1:=by rw[hdr];rfl
   have hrl:(us r.reverse).length=r.length:=by rw[qfp,length_reverse]
   have hus:us s.data.reverse=us r.reverse++us [d]:=by rw[hdr,reverse_cons,qg3]
   rw[hus] at hm;obtain⟨b,cap,spare,h1,h2,hc1,hc2⟩:=MRow.addr hm (by simp[us]);have hel:(us r.reverse++us [d]).length=r.length+1:=by rw[zLa,hrl];rfl
   have hfl:(us r.reverse++us [d]).flatMap LV.cells=us r.reverse++us [d]:=by rw[<-qg3];exact qjs _
   rw[hfl,zAs] at h2;rw[hel] at h1 hc1 hc2;subst h1 h2
   have hval:IntKind.u32.wrap (IntKind.u32.wrap (IntKind.u32.wrap ((d:Int) * 10)+(c:Int))-48)=(((d * 10+c-48) % 4294967296:Nat):Int):=by
    rw[qeu,qeu,qeu];omega
   refine cD (m:=18) rfl [(k.mb,LObj.cells 163 ((k.mf s st false vc vo).cells (.slice (some ⟨b,0,none⟩) (r.length+1) cap)))]<|zQ10 ?_;refine aT 3 rfl rfl (pL (c:=.atom _) rfl zm0 rfl)<|aT 4 rfl rfl (pM (lv:=.atom _) rfl)<|zQ46 ?_;refine aT 8 rfl rfl (pL (c:=.atom _) rfl zm0 rfl)<|aT 9 rfl rfl (pM (lv:=.atom _) rfl)<|aT 10 rfl rfl (Pure.indexRowE (o:=r.length) rfl rfl zo zo zo)<|aT 13 rfl rfl (pM (lv:=.atom _) rfl)<|aL ?_ zhp;refine lO 11 (lH rfl rfl (pL (c:=u32 d) rfl zm1 (by rw[List.getElem?_append_right zo,hrl,sub_self];rfl)) ?_);refine lO 12 (lH rfl rfl (Pure.mulW rfl rfl) ?_);refine lO 14 (lH rfl rfl (Pure.addW rfl rfl) ?_);refine lO 15 (lH rfl rfl (Pure.subW rfl rfl) ?_);refine lO 16 (lH rfl rfl (Pure.indexRowE (o:=r.length) rfl rfl zo zo zo) ?_);refine zl1 (i:=17) zk ?_;refine lS (H1:=[_]) (F:=_::(k.memH s.mem::k.binH::(HC++HO))) rfl (.inl rfl) rfl zp1 zhp ?_
   refine(sS (vs:=[u32 ((d * 10+c-48) % 4294967296)]) (cs':=us r.reverse++(u32 ((d * 10+c-48) % 4294967296)::spare)) rfl pH (by show some [int .u32 _]=some [int .u32 _];rw[<-hval]) rfl (by rw[ble_eq,zLa,hrl,zLa];show r.length+1<=r.length+(1+spare.length);omega) rfl (by
    have:=qtO (us r.reverse) (us [d]++spare) 0 [u32 ((d * 10+c-48) % 4294967296)];rw[hrl,add_zero] at this;rw[this];show us r.reverse++(u32 _::setL spare 0 [])=_
    rw[qnb]) ?_)
   refine zQ51 ?_
   have hst:StH k { s with data:=((d * 10+c-48) % 4294967296)::r } st false (((k.mb,.cells 163 ((k.mf s st false vc vo).cells (.slice (some ⟨b,0,none⟩) (r.length+1) cap)))::[(b,.cells 84 (us r.reverse++(u32 ((d * 10+c-48) % 4294967296)::spare)))])++(k.memH s.mem::k.binH::(HC++HO))):=
    mk _ _ ⟨_,_,by
     have:=qoh (el:=84) (b:=b) (m:=r.length+1) (cap:=cap) (l:=(((d * 10+c-48) % 4294967296)::r).reverse) (spare:=spare) (by simp) zo zo;rw[reverse_cons,qg3,zAs] at this;rw[reverse_cons,qg3]
     exact this,rfl⟩
   exact rO hj rN ⟨[],by rw[zLz];exact zRr _ _ _⟩ ⟨rfl,hst⟩
  have hsub:IntKind.u32.wrap ((c:Int)-48)=((c-48:Nat):Int):=by
   rw[qeu];omega
  have hRr:qdE (c-48) s=R:=by
   rw[<-hR2];unfold qlZ;have hdg':s.digit=false:=hdg;rw[zn (by rw[hdg'];decide)]
  unfold qdE at hRr;refine gah ?_;refine oP (Pure.subW rfl rfl) rfl<|oS (S.push (v:=c-48) (by show [_,int .u32 _]=[_,int .u32 _];rw[<-hsub];rfl) zpr hDD hfew (λhlt HD' hD'=>?_) (λhlt HD' hD' e' he'=>?_)) rfl;rw[zp hlt] at hRr;subst hRr;refine gab ?_;exact rO hj rN zhr ⟨rfl,mk _ _ hD'⟩;rw[zn hlt] at hRr;subst hRr;refine gae ?_;exact qad.panic (he'.trans hj) zhr (mkT _ _ hD')
 have hnd':¬ qcc c=true:=by rw[hnd];decide
 refine qah.seq ?_;refine cC [(0,ptr k.mb 0),(1,u32 c),(14,u32 c),(78,bool (decide (c=32∨c=10)))] ?_ (λj2 hj2=>?_);refine gam ?_;refine oC rfl (λhc=>?_) (λc0=>?_);refine gab ?_;exact⟨⟨rfl,rfl,rfl,qau (hc.trans (zRp (by have:=zt hc;omega)).symm),trivial⟩,rfl,rfl⟩;refine gam ?_;exact⟨⟨rfl,rfl,rfl,qau (by have:=zf c0;rw[decide_eq_decide];omega),trivial⟩,rfl,rfl⟩;have hjj:=hj2.trans hj;refine oC rfl (λhc=>?_) (λc0=>?_);have hcw:=zt hc
 have hRr:R=.run s:=by
  rw[<-hR];unfold exeM;rw[zn hnd',zp hcw]
 subst hRr;refine gab ?_;exact rO hjj rN zhr ⟨rfl,mk _ _ hDD⟩;have hw0:=zf c0;refine gam ?_;refine oC rfl (λhc=>?_) (λc1=>?_)
 ·obtain rfl:c=64:=by have:=zt hc;omega
  have hR2:ldM s=R:=hR;refine cD (m:=10) rfl []<|zQ9 ?_;refine aT 5 rfl rfl (pM (lv:=.atom _) rfl)<|aL ?_ zhn;refine zl2 (i:=4) (j:=6) zk ?_ ?_
  ·refine lH rfl rfl (pL (c:=.atom (memV k)) rfl zm0 rfl) ?_;refine zl1 (i:=6) zk ?_;refine lW rfl (.inl rfl) rfl (S.address rfl zpr hDD hfew (λa r hdr ha HD' hD'=>?_) (λhb d HD' hD' e' he'=>?_));rotate_left;exact zT31
   have hRr:qdE (s.mem a) { s with data:=r }=R:=by
    rw[<-hR2];unfold ldM;rw[hdr];simp only;rw[zp ha]
   unfold qdE at hRr;simp only at hRr;have hrl:r.length<=256:=by rw[hdr,zLc] at hfew;omega
   have hD2':=hD';obtain⟨vd',HD1,hm',rfl⟩:=hD2';refine zQ59 ?_;refine lO 8 (lH rfl rfl (pL (c:=u32 (s.mem a)) rfl (mem_append_right _ zm0) (qhb _ ha)) ?_);refine lO 9 (lW rfl (.inl rfl) rfl (S.push (v:=s.mem a) rfl zpr hD' hrl (λhlt HD2 hD2=>?_) (λhlt HD2 hD2 e' he'=>?_)));rw[zp hlt] at hRr;subst hRr;refine zQ51 ?_;exact rO hjj rN zhr ⟨rfl,mk _ _ hD2⟩;rw[zn hlt] at hRr;subst hRr;refine gae ?_;exact qad.panic (he'.trans hjj) zhr (mkT _ _ hD2)
  refine lW rfl (.inl rfl) rfl (S.address rfl zpr hDD hfew (λa r hdr ha HD' hD'=>?_) (λhb d HD' hD' e' he'=>?_));rotate_left;exact zT31
  have hRr:qdE (s.mem a) { s with data:=r }=R:=by
   rw[<-hR2];unfold ldM;rw[hdr];simp only;rw[zp ha]
  unfold qdE at hRr;simp only at hRr;have hrl:r.length<=256:=by rw[hdr,zLc] at hfew;omega
  have hD2':=hD';obtain⟨vd',HD1,hm',rfl⟩:=hD2';refine lO 4 (lH rfl rfl (pL (c:=.atom (memV k)) rfl zm0 rfl) ?_);refine zQ59 ?_;refine lO 8 (lH rfl rfl (pL (c:=u32 (s.mem a)) rfl (mem_append_right _ zm0) (qhb _ ha)) ?_);refine lO 9 (lW rfl (.inl rfl) rfl (S.push (v:=s.mem a) rfl zpr hD' hrl (λhlt HD2 hD2=>?_) (λhlt HD2 hD2 e' he'=>?_)));rw[zp hlt] at hRr;subst hRr;refine zQ51 ?_;exact rO hjj rN zhr ⟨rfl,mk _ _ hD2⟩;rw[zn hlt] at hRr;subst hRr;refine gae ?_;exact qad.panic (he'.trans hjj) zhr (mkT _ _ hD2)
 have n64:=zf c1;refine gam ?_;refine oC rfl (λhc=>?_) (λc2=>?_)
 ·obtain rfl:c=33:=by have:=zt hc;omega
  have hR2:stoM s=R:=hR;refine gah ?_;refine oS (S.address rfl zpr hDD hfew (λa r hdr ha HD' hD'=>?_) (λhb d HD' hD' e' he'=>?_)) rfl;rotate_left
  have hRt:R=.trap s:=by
   rw[<-hR2];unfold stoM
   cases hd:s.data with
   |nil=>rfl
   |cons x r=>
    cases r with
    |nil=>rfl
    |cons y r=>simp only;rw[zn (hb x _ hd)]
  subst hRt;refine gae ?_;exact qad.panic (he'.trans hjj) zhr (mkT _ _ hD');have hrl:r.length<=256:=by rw[hdr,zLc] at hfew;omega
  have hD3:=hD';obtain⟨vd',HD1,hm',rfl⟩:=hD3;refine gaf ?_;refine cD (m:=9) rfl []<|zQ10 ?_;refine aT 4 rfl rfl (pM (lv:=.atom _) rfl)<|aT 5 rfl rfl (pM (lv:=.atom _) rfl)<|aL ?_ zhn;refine zl2 (i:=3) (j:=6) zk ?_ ?_
  ·refine lH rfl rfl (pL (c:=.atom (memV k)) rfl zm0 rfl) ?_;refine zl1 (i:=6) zk ?_;refine lW rfl (.inl rfl) rfl (S.pop rfl zpr hD' hrl (λv r2 hdr2 HD2 hD2=>?_) (λhb HD2 hD2 e' he'=>?_));rotate_left
   have hRt:R=.trap s:=by
    rw[<-hR2];unfold stoM;rw[hdr,hb]
   subst hRt;refine gae ?_;exact qad.panic (he'.trans hjj) zhr (mkT _ _ hD2)
   have hRr:R=.run { s with data:=r2,mem:=λi=>if i=a then v else s.mem i }:=by
    rw[<-hR2];unfold stoM;rw[hdr,hdr2];simp only;rw[zp ha]
   subst hRr;have hD4:=hD2;obtain⟨vd2,HD3,hm2,rfl⟩:=hD4;refine zQ59 ?_;refine lO 8 (lW rfl (.inl rfl) rfl (sS (n:=1) (vs:=[u32 v]) (cs':=memL (λi=>if i=a then v else s.mem i)) rfl (show Pick _ _ _ from List.perm_middle) rfl rfl (by rw[ble_eq,qhk];omega) rfl (qlL _ _ _) ?_));refine zQ51 ?_;exact rO hjj rN ⟨[],by rw[zLz];exact List.perm_middle.symm⟩ ⟨rfl,vc,HC,vo,HO,_,hC,hO,hD2,rfl⟩
  refine lW rfl (.inl rfl) rfl (S.pop rfl zpr hD' hrl (λv r2 hdr2 HD2 hD2=>?_) (λhb HD2 hD2 e' he'=>?_));rotate_left
  have hRt:R=.trap s:=by
   rw[<-hR2];unfold stoM;rw[hdr,hb]
  subst hRt;refine gae ?_;exact qad.panic (he'.trans hjj) zhr (mkT _ _ hD2)
  have hRr:R=.run { s with data:=r2,mem:=λi=>if i=a then v else s.mem i }:=by
   rw[<-hR2];unfold stoM;rw[hdr,hdr2];simp only;rw[zp ha]
  subst hRr;have hD4:=hD2;obtain⟨vd2,HD3,hm2,rfl⟩:=hD4;refine lO 3 (lH rfl rfl (pL (c:=.atom (memV k)) rfl zm0 rfl) ?_);refine zQ59 ?_;refine lO 8 (lW rfl (.inl rfl) rfl (sS (n:=1) (vs:=[u32 v]) (cs':=memL (λi=>if i=a then v else s.mem i)) rfl (show Pick _ _ _ from List.perm_middle) rfl rfl (by rw[ble_eq,qhk];omega) rfl (qlL _ _ _) ?_));refine zQ51 ?_;exact rO hjj rN ⟨[],by rw[zLz];exact List.perm_middle.symm⟩ ⟨rfl,vc,HC,vo,HO,_,hC,hO,hD2,rfl⟩
 have n33:=zf c2;refine gam ?_;refine oC rfl (λhc=>?_) (λc3=>?_)
 ·obtain rfl:c=63:=by have:=zt hc;omega
  have hR2:jmpM s=R:=hR;refine gah ?_;refine oS (S.pop rfl zpr hDD hfew (λt r hdr HD' hD'=>?_) (λhb HD' hD' e' he'=>?_)) rfl;rotate_left
  have hRt:R=.trap s:=by
   rw[<-hR2];unfold jmpM;rw[hb]
  subst hRt;refine gae ?_;exact qad.panic (he'.trans hjj) zhr (mkT _ _ hD');have hrl:r.length<=256:=by rw[hdr,zLc] at hfew;omega
  refine gag ?_;refine oS (S.pop rfl zpr hD' hrl (λv r2 hdr2 HD2 hD2=>?_) (λhb HD2 hD2 e' he'=>?_)) rfl;rotate_left
  have hRt:R=.trap s:=by
   rw[<-hR2];unfold jmpM;rw[hdr,hb]
  subst hRt;refine gae ?_;exact qad.panic (he'.trans hjj) zhr (mkT _ _ hD2)
  have hRr:R=.run { s with data:=r2,pc:=if v=0 then t else s.pc }:=by
   rw[<-hR2];unfold jmpM;rw[hdr,hdr2]
  obtain⟨vd2,HD3,hm2,rfl⟩:=hD2;refine gab ?_;refine oC rfl (λhv=>?_) (λhv=>?_);have hv0:v=0:=by have:=zt hv;omega
  rw[zp hv0] at hRr;subst hRr;refine gac ?_;exact rO hjj rN zhr ⟨rfl,vc,HC,vo,HO,_::HD3,hC,hO,⟨vd2,HD3,hm2,rfl⟩,rfl⟩;have hv0:¬ v=0:=by have:=zf hv;omega
  rw[zn hv0] at hRr;subst hRr;refine gab ?_;exact rO hjj rN zhr ⟨rfl,mk _ _ ⟨vd2,HD3,hm2,rfl⟩⟩
 have n63:=zf c3;refine gam ?_;refine oC rfl (λhc=>?_) (λc4=>?_)
 ·obtain rfl:c=58:=by have:=zt hc;omega
  have hR2:qm5 s=R:=hR;refine gah ?_;refine oS (S.pop rfl zpr hDD hfew (λt r hdr HD' hD'=>?_) (λhb HD' hD' e' he'=>?_)) rfl;rotate_left
  have hRt:R=.trap s:=by
   rw[<-hR2];unfold qm5;rw[hb]
  subst hRt;refine gae ?_;exact qad.panic (he'.trans hjj) zhr (mkT _ _ hD');have hD3:=hD';obtain⟨vd2,HD3,hm2,rfl⟩:=hD3;refine gaa ?_;refine oP (Pure.mlen rfl hC) rfl<|gab ?_;refine oS (S.check rfl (λhb=>?_) (λhb e' he'=>?_)) rfl;rotate_left;have hlt:¬ s.calls.length<64:=by have:=zf hb;omega
  have hRt:R=.trap s:=by
   rw[<-hR2];unfold qm5;rw[hdr];simp only;rw[zn hlt]
  subst hRt;refine gae ?_;exact qad.panic (he'.trans hjj) zhr (mkT _ _ hD');have hlt:s.calls.length<64:=by have:=zt hb;omega
  have hRr:R=.run { s with data:=r,calls:=s.pc::s.calls,pc:=t }:=by
   rw[<-hR2];unfold qm5;rw[hdr];simp only;rw[zp hlt]
  subst hRr;refine gab ?_;refine cD (m:=14) rfl []<|zQ9 ?_;refine zQ46 ?_;refine aL ?_ zhn;refine zl2 (i:=4) (j:=8) zk ?_ ?_;refine lH rfl rfl (pL (c:=.atom vc) rfl zm0 rfl)<|zl1 (i:=8) zk ?_;refine lH rfl rfl (pL (c:=u32 s.pc) rfl zm0 rfl)<|zl1 (i:=9) zk ?_;refine zQ37 ?_;exact zT1;refine lH rfl rfl (pL (c:=u32 s.pc) rfl zm0 rfl)<|zl2 (i:=4) (j:=9) zk ?_ ?_;refine lH rfl rfl (pL (c:=.atom vc) rfl zm0 rfl)<|zl1 (i:=9) zk ?_;refine zQ37 ?_;exact zT1;refine zQ37 ?_;refine zl1 (i:=4) zk ?_;refine lH rfl rfl (pL (c:=.atom vc) rfl zm0 rfl) ?_;exact zT1
 have n58:=zf c4;refine gam ?_;refine oC rfl (λhc=>?_) (λc5=>?_)
 ·obtain rfl:c=59:=by have:=zt hc;omega
  have hR2:bakM s=R:=hR;refine gaa ?_;refine oP (Pure.mlen rfl hC) rfl<|gac ?_;refine oS (S.check rfl (λhb=>?_) (λhb e' he'=>?_)) rfl;rotate_left
  have hnil:s.calls=[]:=by
   have:=zf hb;exact List.length_eq_zero_iff.1 zo
  have hRt:R=.trap s:=by
   rw[<-hR2];unfold bakM;rw[hnil]
  subst hRt;refine gae ?_;exact qad.panic (he'.trans hjj) zhr (mkT _ _ hDD)
  obtain⟨t,r,hdr⟩:∃ t r,s.calls=t::r:=by
   cases hd:s.calls with
   |nil=>
    have:=zt hb;rw[hlc,hd] at this
    simp at this
   |cons t r=>exact⟨t,r,rfl⟩
  have hRr:R=.run { s with calls:=r,pc:=t }:=by
   rw[<-hR2];unfold bakM;rw[hdr]
  subst hRr;have hln:s.calls.length=r.length+1:=by rw[hdr];rfl
  have hrl:(us r.reverse).length=r.length:=by rw[qfp,length_reverse]
  have hus:us s.calls.reverse=us r.reverse++us [t]:=by rw[hdr,reverse_cons,qg3]
  have hC0:=hC;rw[hus] at hC0;obtain⟨b,cap,spare,h1,h2,hc1,hc2⟩:=MRow.addr hC0 (by simp[us]);have hel:(us r.reverse++us [t]).length=r.length+1:=by rw[zLa,hrl];rfl
  have hfl:(us r.reverse++us [t]).flatMap LV.cells=us r.reverse++us [t]:=by rw[<-qg3];exact qjs _
  rw[hfl,zAs] at h2;rw[hel] at h1 hc1 hc2;subst h1 h2;refine gac ?_;refine oP (Pure.indexRowE (o:=r.length) rfl rfl zo zo zo) rfl<|oP (pL (c:=u32 t) rfl (zMt (mem_append_right _ zm2)) (by rw[List.getElem?_append_right zo,hrl,sub_self];rfl)) rfl<|gac ?_;refine oP (Pure.rowSlice (n:=r.length) rfl (by exact qao zo) zo) rfl<|gad ?_;exact rO hjj rN zhr ⟨rfl,_,_,vo,HO,_::HD0,qoh (l:=r.reverse) (spare:=us [t]++spare) (by rw[length_reverse]) zo (by rw[zLa,qfp];simp only[List.length_singleton];omega),hO,⟨vd,HD0,hm,rfl⟩,rfl⟩
 have n59:=zf c5;refine gam ?_;refine oC rfl (λhc=>?_) (λc6=>?_)
 ·obtain rfl:c=44:=by have:=zt hc;omega
  have hR2:rdM s=R:=hR;unfold rdM at hR2;refine gac ?_
  cases hi:s.inp with
  |nil=>
   rw[hi] at hR2;unfold qdE at hR2
   have e0:(us (k.mf s st false vc vo).inp).length=0:=by
    show(us s.inp).length=0;rw[hi];rfl
   refine oC rfl (λhc=>?_) (λ_=>?_);have:=zt hc;omega;refine gaa ?_;refine oS (S.push (v:=4294967295) rfl zpr hDD hfew (λhlt HD' hD'=>?_) (λhlt HD' hD' e' he'=>?_)) rfl;rw[zp hlt] at hR2;subst hR2;refine gab ?_;exact rO hjj rN zhr ⟨rfl,mk _ _ hD'⟩;rw[zn hlt] at hR2;subst hR2;refine gae ?_
   exact qad.panic (he'.trans hjj) zhr (mkT _ _ hD')
  |cons v r=>
   rw[hi] at hR2;unfold qdE at hR2;simp only at hR2
   have hli2:(us (k.mf s st false vc vo).inp).length=r.length+1:=by
    show(us s.inp).length=_;rw[hi];simp[us]
   refine oC rfl (λ_=>?_) (λhc=>?_);rotate_left;have:=zf hc;omega;refine gac ?_;refine oP (xR (el':=u32 v) (cs:=[u32 v]) rfl rfl zDd (by show(us s.inp)[0]? = _;rw[hi];rfl) rfl rfl) rfl ?_;refine gac ?_;refine oP (Pure.lsliceE (ms:=us r) rfl ⟨_,rfl⟩ rfl zo zo zo (qrD _) (by show List.drop _ (List.take ((us s.inp).length:Int).toNat (us s.inp))=us r;rw[hi];simp[us,List.take_of_length_le])) rfl ?_;refine gac ?_;have hD5:DH (k.mf { s with inp:=r } st false vc vo) s.data ((k.mb,.cells 163 ((k.mf { s with inp:=r } st false vc vo).cells vd))::HD0):=⟨vd,HD0,hm,rfl⟩;have mk5:∀ (d:List Nat) (HD':Heap),DH (k.mf { s with inp:=r } st false vc vo) d HD'->StH k { s with inp:=r,data:=d } st false (HD'++(k.memH s.mem::k.binH::(HC++HO))):=λd HD' h=>⟨vc,HC,vo,HO,HD',hC,hO,h,rfl⟩;refine oS (S.push (v:=v) rfl zpr hD5 hfew (λhlt HD' hD'=>?_) (λhlt HD' hD' e' he'=>?_)) rfl;rw[zp hlt] at hR2;subst hR2;refine gab ?_;exact rO hjj rN zhr ⟨rfl,mk5 _ _ hD'⟩;rw[zn hlt] at hR2;subst hR2;refine gae ?_;exact qad.panic (he'.trans hjj) zhr (qx6 (s:={ s with inp:=r,data:=s.data }) rfl (mk5 _ _ hD'))
 have n44:=zf c6;refine gam ?_;refine oC rfl (λhc=>?_) (λc7=>?_)
 ·obtain rfl:c=46:=by have:=zt hc;omega
  have hR2:wrM s=R:=hR;refine cD (m:=13) rfl []<|zQ9 ?_;refine aT 5 rfl rfl (pM (lv:=.atom _) rfl)<|aL ?_ zhn;refine zl2 (i:=4) (j:=6) zk ?_ ?_
  ·refine lH rfl rfl (pL (c:=vo) rfl zm0 rfl) ?_;refine zl1 (i:=6) zk ?_;refine lW rfl (.inl rfl) rfl (S.pop rfl zpr hDD hfew (λv r hdr HD' hD'=>?_) (λhb HD' hD' e' he'=>?_));rotate_left
   have hRt:R=.trap s:=by
    rw[<-hR2];unfold wrM;rw[hb]
   subst hRt;refine gae ?_;exact qad.panic (he'.trans hjj) zhr (mkT _ _ hD')
   have hRr:R=.run { s with data:=r,out:=s.out++[UInt8.ofNat v] }:=by
    rw[<-hR2];unfold wrM;rw[hdr]
   subst hRr;obtain⟨vd2,HD3,hm2,rfl⟩:=hD'
   have e1:byts s.out++[int .u8 (IntKind.u8.wrap (v:Int))]=byts (s.out++[UInt8.ofNat v]):=by
    rw[qmf,qma];rfl
   have hroom2:((byts s.out).length+[int .u8 (IntKind.u8.wrap (v:Int))].length) * 1<=140737488355328:=by
    simp only[qhg,zLc,zLn];omega
   exact zT13
  refine lW rfl (.inl rfl) rfl (S.pop rfl zpr hDD hfew (λv r hdr HD' hD'=>?_) (λhb HD' hD' e' he'=>?_));rotate_left
  have hRt:R=.trap s:=by
   rw[<-hR2];unfold wrM;rw[hb]
  subst hRt;refine gae ?_;exact qad.panic (he'.trans hjj) zhr (mkT _ _ hD')
  have hRr:R=.run { s with data:=r,out:=s.out++[UInt8.ofNat v] }:=by
   rw[<-hR2];unfold wrM;rw[hdr]
  subst hRr;obtain⟨vd2,HD3,hm2,rfl⟩:=hD'
  have e1:byts s.out++[int .u8 (IntKind.u8.wrap (v:Int))]=byts (s.out++[UInt8.ofNat v]):=by
   rw[qmf,qma];rfl
  have hroom2:((byts s.out).length+[int .u8 (IntKind.u8.wrap (v:Int))].length) * 1<=140737488355328:=by
   simp only[qhg,zLc,zLn];omega
  refine zl2 (i:=4) (j:=7) zk ?_ ?_;refine lH rfl rfl (pL (c:=vo) rfl zm0 rfl) ?_;exact zT13;refine lH rfl rfl (Pure.cvt rfl)<|zl2 (i:=4) (j:=8) zk ?_ ?_;refine lH rfl rfl (pL (c:=vo) rfl zm0 rfl)<|zQ26 ?_;refine lW rfl (.inl rfl) rfl (sG (A:=_::(HD3++(k.memH s.mem::k.binH::HC))) qp2 rfl hO rfl (λv hv=>by rw[zRa hv];rfl) rfl hroom2 λv' H' hacc'=>?_);rw[e1] at hacc';refine zQ7 ?_;exact rO hjj rN ⟨[],by rw[zLz];exact zPc.trans qp2.symm⟩ ⟨rfl,vc,HC,v',H',_::HD3,hC,hacc',⟨vd2,HD3,hm2,rfl⟩,rfl⟩;refine lW rfl (.inl rfl) rfl (sL (es:=[int .u8 (IntKind.u8.wrap (v:Int))]) [_] rfl (eC rfl rfl eN) rfl rfl rfl ?_);refine zl1 (i:=4) zk ?_;refine lH rfl rfl (pL (c:=vo) rfl zm0 rfl)<|zl1 (i:=9) zk ?_;refine lW rfl (.inl rfl) rfl (sG (A:=_::(HD3++(k.memH s.mem::k.binH::HC))) qp2 rfl hO rfl (λv hv=>by rw[zRa hv];rfl) rfl hroom2 λv' H' hacc'=>?_);rw[e1] at hacc';refine zQ7 ?_;exact rO hjj rN ⟨[],by rw[zLz];exact zPc.trans qp2.symm⟩ ⟨rfl,vc,HC,v',H',_::HD3,hC,hacc',⟨vd2,HD3,hm2,rfl⟩,rfl⟩
 have n46:=zf c7;refine gam ?_;refine oC rfl (λhc=>?_) (λc8=>?_)
 ·obtain rfl:c=36:=by have:=zt hc;omega
  have hRr:R=.stop 0 s.out:=hR.symm;subst hRr;refine gac ?_;exact rO hjj rN zhr ⟨s,rfl,by rw[zp rfl];exact⟨rfl,vc,HC,vo,HO,_::HD0,hC,hO,⟨vd,HD0,hm,rfl⟩,rfl⟩⟩
 have n36:=zf c8
 have hsign:∀ r,(if c=43∨c=45∨c=42∨c=47∨c=37∨c=94∨c=60 then opM c s else MR.trap s)=r->R=r:=λr hr=>by
  rw[<-hR,<-hr];unfold exeM;rw[zn hnd',zn hw0,zn zo,zn zo,zn zo,zn zo,zn zo,zn zo,zn zo,zn zo]
 by_cases hop:c=43∨c=45∨c=42∨c=47∨c=37∨c=94∨c=60
 rotate_left;have hRt:=hsign _ (zn hop);subst hRt;refine gaa ?_;refine oP (Pure.lookupMiss2 (zv:=.nilFunc) (kt:=84) (el:=144) (kd:=.u32) zk zk (λw=>(Go.zero_of_info (P:=Tryz.prog) (n:=1) zk).1 w) rfl rfl (zMt (mem_append_right _ zm1)) (qs5 hop)) rfl<|gaa ?_;refine oS (S.check rfl (λhb=>?_) (λhb e' he'=>?_)) rfl;cases hb;refine gae ?_;exact qad.panic (he'.trans hjj) zhr (mkT _ _ hDD);have hR2:=hsign _ (zp hop)
 have hval:∀ (a b:Nat) (r:List Nat),s.data=b::a::r->a<4294967296/\b<4294967296:=λa b r hd=>by
  have h1:=hok.data;rw[hd] at h1;exact⟨h1 a (zMo _ zMs),h1 b zMs⟩
 obtain⟨jj,f,hf1,hf2,_⟩:=qmN (B0:=B0) (w0:=w0) hop (a:=0) (b:=0) zDd zDd;refine gaa ?_;refine oP (Pure.lookupHit2 (kt:=84) (el:=144) (kd:=.u32) zk zk rfl rfl (zMt (mem_append_right _ zm1)) hf1) rfl<|gaa ?_;refine oS (S.check rfl (λhb=>?_) (λhb e' he'=>?_)) rfl;rotate_left;cases hb;refine gag ?_;refine oS (S.pop rfl zpr hDD hfew (λb r hdr HD' hD'=>?_) (λhb HD' hD' e' he'=>?_)) rfl;rotate_left
 have hRt:R=.trap s:=by
  rw[hR2];unfold opM;rw[hb]
 subst hRt;refine gae ?_;exact qad.panic (he'.trans hjj) zhr (mkT _ _ hD');have hrl:r.length<=256:=by rw[hdr,zLc] at hfew;omega
 refine gag ?_;refine oS (S.pop rfl zpr hD' hrl (λa r2 hdr2 HD2 hD2=>?_) (λhb HD2 hD2 e' he'=>?_)) rfl;rotate_left
 have hRt:R=.trap s:=by
  rw[hR2];unfold opM;rw[hdr,hb]
 subst hRt;refine gae ?_;exact qad.panic (he'.trans hjj) zhr (mkT _ _ hD2);have hrl2:r2.length<=256:=by rw[hdr2,zLc] at hrl;omega
 obtain⟨ha,hb4⟩:=hval a b r2 (by rw[hdr,hdr2]);obtain⟨jj2,f2,hf3,hf4,hspec⟩:=qmN (B0:=B0) (w0:=w0) hop ha hb4
 obtain rfl:f=f2:=by
  rw[hf1] at hf3;injection hf3 with h1;injection h1 with h1;injection h1 with h1 h2;injection h2 with h2;injection h2
 have hR3:(match binM c a b with
   |some v=>qdE v { s with data:=r2 }
   |none=>MR.trap s)=R:=by
  rw[hR2];unfold opM;rw[hdr,hdr2];rfl
 refine gag ?_;refine oS (S.callV (f:=f) (first:=#[]) (caps:=#[]) (H1:=HD2++(k.memH s.mem::k.binH::(HC++HO))) (F:=[]) [_,_] rfl rfl (by rw[zLz]) (hspec _) ?_ ?_) rfl;rintro v H' ⟨rfl,h⟩
 cases hbm:binM c a b with
 |none=>
  rw[hbm] at h
  cases h
 |some w=>
  rw[hbm] at h hR3;cases h;simp only at hR3;unfold qdE at hR3;simp only at hR3;rw[zLz];refine oS (S.push (v:=w) rfl zpr hD2 hrl2 (λhlt HD3 hD3=>?_) (λhlt HD3 hD3 e' he'=>?_)) rfl;rw[zp hlt] at hR3;subst hR3;refine gab ?_;exact rO hjj rN zhr ⟨rfl,mk _ _ hD3⟩;rw[zn hlt] at hR3;subst hR3;refine gae ?_;exact qad.panic (he'.trans hjj) zhr (mkT _ _ hD3)
 rintro ch H' ⟨rfl,h⟩ e' he'
 cases hbm:binM c a b with
 |some w=>
  rw[hbm] at h
  cases h
 |none=>
  rw[hbm] at h hR3;cases h;simp only at hR3;subst hR3;rw[zLz];refine gae ?_;exact qad.panic (he'.trans hjj) zhr (mkT _ _ hD2)
end
open Inp (u32 Same retS qeu qdC)
variable{og:Nat}
theorem qrR(w:World):(zeroValue 204).run Tryz.prog w=.ok (.agg ([]:List Value).toArray) w:=
 (Go.zero_of_info (P:=Tryz.prog) (n:=0) zk).1 w
theorem qwe{s':MS}(h:exeM c s=.run s'):s'.out.length<=s.out.length+1:=by
 have push:∀ (v:Nat) (t:MS),qdE v t=.run s'->t.out=s.out->s'.out.length<=s.out.length+1:=λv t h ht=>by
  unfold qdE at h;split at h;injection h with h;subst h;show t.out.length<=_;rw[ht];omega;cases h
 unfold exeM at h;split at h;unfold qlZ at h;split at h;split at h;exact zT40;cases h;exact push _ _ h rfl;split at h;injection h with h;subst h;omega;split at h;unfold ldM at h;split at h;split at h;exact push _ _ h rfl;cases h;cases h;split at h;unfold stoM at h;split at h;split at h;exact zT40;cases h;cases h;split at h;unfold jmpM at h;split at h;exact zT40;cases h;split at h;unfold qm5 at h;split at h;split at h;exact zT40;cases h;cases h;split at h;unfold bakM at h;split at h;exact zT40;cases h;split at h;unfold rdM at h;split at h;exact push _ _ h rfl;exact push _ _ h rfl;split at h;unfold wrM at h;split at h;exact zT40;cases h;split at h;cases h;split at h;unfold opM at h;split at h;split at h;exact push _ _ h rfl;cases h;cases h;cases h
theorem QNo.exit{Q:Post}{e:Env}{H:Heap}{id:Nat}(h:Q (.exit id) e H):QNo Q (.exit id) e H:=h
attribute [local irreducible] qbX qaI qdz qa9
section
variable{B0:Nat}{w0:World}
theorem qlQ(b:Nat)(d:LV):qa9 (KC B0 w0) 147 [ptr b 0] .returning [(b,.cells 29 [d])]
  (λu H=>u=.returning/\H=[(b,.cells 29 [d])]):=by
 refine qa9.intro Tryz.func147 rfl (n:=14) rfl rfl rfl ?_;refine zQ19 ?_;refine gah ?_;refine oP (Chk.Pure.assertNil qrR rfl) rfl<|gad ?_;refine oS (sA λb5=>?_) rfl;refine gac ?_;refine oC rfl (λhc=>?_) (λhc=>?_);cases hc;refine gac ?_;refine oC rfl (λhc=>?_) (λhc=>?_);cases hc;refine gab ?_;exact⟨rfl,_,zhD zhr,rfl,rfl⟩
theorem ql6(b:Nat)(d:LV):qa9 (KC B0 w0) 147 [ptr b 0] (.panicking qg1) [(b,.cells 29 [d])]
  (λu H=>settle u=.returning/\H=[(b,.cells 29 [int .i64 12])]):=by
 refine qa9.intro Tryz.func147 rfl (n:=14) rfl rfl rfl ?_;refine zQ19 ?_;refine gah ?_;refine oP (Pure.assertOk (vs:=[]) rfl) rfl<|gad ?_;refine oS (sA λb5=>?_) rfl;refine gac ?_;refine oC rfl (λhc=>?_) (λhc=>?_);refine gac ?_;exact⟨rfl,_,zhP pH zhn,rfl,rfl⟩;cases hc
def EndH(k:MK)(st:Nat)(o:Wd)(H:Heap):Prop:=∃ s stop,s.out=o/\StH k s st stop H
theorem run_spec(k:MK){limit:Nat}(hok:MsOk s)(hdig:s.digit=true->s.data≠[])(hst:st<=limit)(hlim:limit<=100000000)(hout:s.out.length<=st)(h:StH k s st false H) :
  LCalls (KC B0 w0) 88 [ptr k.mb 0,int .i64 (limit:Nat)] H (λr H'=>EndH k (st+(runM (limit-st) s).2.2) (runM (limit-st) s).2.1 H'/\r=.ret (int .i64 ((runM (limit-st) s).1:Nat))):=by
 generalize hR:runM (limit-st) s=R;refine LCalls.introD Tryz.func88 rfl (n:=59) rfl rfl rfl ?_;refine zQ34 ?_;refine gai ?_;refine oS (sA λb4=>?_) rfl;refine gaf ?_;refine zQ24 ?_;refine qaI.seq ?_;refine qaI.block ?_
 refine qaI.loopI (λkk ls H'=>∃ (i:Nat) (s1:MS) (H1:Heap),i<=limit/\st<=i/\kk=limit-i/\ls=[(0,ptr k.mb 0),(1,int .i64 (limit:Nat)),(4,ptr b4 0)]/\H'=(b4,.cells 29 [int .i64 0])::H1/\StH k s1 i false H1/\MsOk s1/\(s1.digit=true->s1.data≠[])/\s1.out.length<=i/\(runM (limit-i) s1).1=R.1/\(runM (limit-i) s1).2.1=R.2.1/\i+(runM (limit-i) s1).2.2=st+R.2.2)
  ⟨_,_,_,⟨st,s,H,hst,zNr _,rfl,rfl,rfl,h,hok,hdig,hout,by rw[hR],by rw[hR],by rw[hR]⟩,⟨rfl,rfl,rfl,trivial⟩,zhR _⟩ ?_
 rintro kk ls H' ⟨i,s1,H1,hi,hsi,rfl,rfl,rfl,hS,hok1,hdig1,hout1,e1,e2,e3⟩ j hj;obtain⟨vc,HC,vo,HO,HD,hC,hO,hD,rfl⟩:=hS;have hDD:=hD;obtain⟨vd,HD0,hm,rfl⟩:=hD;rw[cons_append];have hmst:(k.mf s1 i false vc vo).st=i:=rfl;have hmpc:(k.mf s1 i false vc vo).pc=s1.pc:=rfl;refine zQ34 ?_;refine gac ?_;refine oC rfl (λhc=>?_) (λhc=>?_);rotate_left
 ·have hil:i=limit:=by have:=zf hc;omega
  subst hil;rw[sub_self,runM] at e1 e2 e3;simp only at e1 e2 e3;refine qah.exit ?_;refine QNo.exit ?_;refine gab ?_;refine qaI.of ?_;refine gac ?_
  first|refine QNo.ret ?_|skip
  exact qbN.ret1 (vs:=[int .i64 13]) (H2:=[(b4,.cells 29 [int .i64 13])]) hj zpr (qlQ b4 _)
   (rC (qcU.cellOne rfl zm0 rfl zsr) rN) (zhD zhr) ⟨⟨s1,false,e2,by rw[<-e3,add_zero];exact⟨vc,HC,vo,HO,_,hC,hO,hDD,rfl⟩⟩,by rw[<-e1];rfl⟩
 have hil:i<limit:=by have:=zt hc;omega
 have hn:limit-i=(limit-(i+1))+1:=by omega
 rw[hn,runM] at e1 e2 e3;refine qah.skip ?_
 first|refine QNo.normal ?_|skip
 refine qaI.block ?_;refine zQ34 ?_;refine gac ?_
 first|refine QNo.normal ?_|skip
 refine qaI.weak (H':=(b4,.cells 29 [int .i64 0])::(k.mb,.cells 163 ((k.mf s1 (i+1) false vc vo).cells vd))::(HD0++(k.memH s1.mem::k.binH::(HC++HO)))) ⟨[],by rw[zLz];exact zRr _ _ _⟩ ?_;have hst1:StH k s1 (i+1) false (((k.mb,.cells 163 ((k.mf s1 (i+1) false vc vo).cells vd))::HD0)++(k.memH s1.mem::k.binH::(HC++HO))):=⟨vc,HC,vo,HO,_,hC,hO,⟨vd,HD0,hm,rfl⟩,rfl⟩;have hmpc2:(k.mf s1 (i+1) false vc vo).pc=s1.pc:=rfl;refine zQ61 ?_;refine qbX.step (S.check rfl (λhb=>?_) (λhb=>?_)) rfl;rotate_left
 ·have hpc:¬ s1.pc<262144:=by have:=zf hb;omega
  have hs:stepM s1=.stop 12 s1.out:=by
   unfold stepM;rw[zn hpc];rfl
  rw[hs] at e1 e2 e3;simp only at e1 e2 e3;refine gae ?_
  exact qbN.panic1 (H1:=[(b4,.cells 29 [int .i64 0])]) (vs:=[int .i64 12]) (H2:=[(b4,.cells 29 [int .i64 12])]) hj zpr (ql6 b4 _)
   (rC (qcU.cellOne rfl zm0 rfl zsr) rN) (zhD zhr) ⟨⟨s1,false,e2,by rw[<-e3];exact hst1⟩,by rw[<-e1];rfl⟩
 have hpc:s1.pc<262144:=by have:=zt hb;omega
 refine zQ63 ?_;refine zQ34 ?_;refine zQ33 ?_;refine qP (Pure.indexRowE (o:=s1.pc) rfl rfl zo zo zo) rfl ?_;refine qP (pL (c:=u32 (s1.mem s1.pc)) rfl (zMt (zMt (mem_append_right _ zm0))) (qhb _ hpc)) rfl ?_;refine gad ?_
 first|refine QNo.normal ?_|skip
 refine zQ34 ?_;refine gac ?_;refine oP (Pure.addW rfl rfl) rfl<|gab ?_
 have hw:IntKind.u32.wrap ((s1.pc:Int)+1)=((s1.pc+1:Nat):Int):=by
  rw[qeu];omega
 refine oS (sS (n:=1) (vs:=[u32 (s1.pc+1)]) (cs':=[_,_,_,_,_,_,_,_,_,_]) rfl zp1 (by show some [int .u32 _]=some [int .u32 _];rw[<-hw]) rfl rfl rfl rfl ?_) rfl;refine gaf ?_
 first|refine QNo.normal ?_|skip
 generalize hcd:s1.mem s1.pc=c at *;have hcl:c<4294967296:=by rw[<-hcd];exact hok1.mem _
 have hok2:MsOk { s1 with pc:=s1.pc+1 }:=⟨hok1.mem,by show s1.pc+1<_;omega,hok1.data,hok1.calls,hok1.inp,hok1.few,hok1.deep⟩;have hex:=qrv (B0:=B0) (w0:=w0) k (s:={ s1 with pc:=s1.pc+1 }) (st:=i+1) (c:=c) hok2 hcl hdig1 (by show s1.out.length<=_;omega) (H:=((k.mb,.cells 163 ((k.mf { s1 with pc:=s1.pc+1 } (i+1) false vc vo).cells vd))::HD0)++(k.memH s1.mem::k.binH::(HC++HO))) ⟨vc,HC,vo,HO,_,hC,hO,⟨vd,HD0,hm,rfl⟩,rfl⟩;refine zQ61 ?_;refine qbX.step (S.callH (F:=[(b4,.cells 29 [int .i64 0])]) [_,_] rfl (zRq _ (List.perm_append_singleton _ _).symm) hex ?_ ?_) rfl
 ·intro v H2 hP
  cases hx:exeM c { s1 with pc:=s1.pc+1 } with
  |run s2=>
   rw[hx] at hP;obtain⟨hv,hS2⟩:=hP;cases hv
   have hs:stepM s1=.run { s2 with digit:=qcc c }:=by
    unfold stepM;rw[zp hpc,hcd,hx]
   rw[hs] at e1 e2 e3;simp only at e1 e2 e3;have hok3:=qxj hok2 hcl hx;have hlen:=qwe hx;have hdig3:qcc c=true->s2.data≠[]:=qwJ hx
   have hlen2:s2.out.length<=i+1:=by
    have:s2.out.length<=s1.out.length+1:=hlen;omega
   obtain⟨vc2,HC2,vo2,HO2,HD2,hC2,hO2,hD2,rfl⟩:=hS2;obtain⟨vd2,HD3,hm2,rfl⟩:=hD2;refine zQ63 ?_;refine qaI.weak (H':=(b4,.cells 29 [int .i64 0])::(k.mb,.cells 163 ((k.mf s2 (i+1) false vc2 vo2).cells vd2))::(HD3++(k.memH s2.mem::k.binH::(HC2++HO2)))) ⟨[],by rw[zLz];exact zPc⟩ ?_;refine qaI.of ?_;refine gac ?_;refine oC rfl (λhc=>by cases hc) (λ_=>?_);refine gac ?_;have fin:∀ (dg:Bool),qcc c=dg->StH k { s2 with digit:=dg } (i+1) false (((k.mb,.cells 163 ((k.mf { s2 with digit:=dg } (i+1) false vc2 vo2).cells vd2))::HD3)++(k.memH s2.mem::k.binH::(HC2++HO2)))/\MsOk { s2 with digit:=dg }/\(dg=true->s2.data≠[]):=λdg hd=>⟨⟨vc2,HC2,vo2,HO2,_,hC2,hO2,⟨vd2,HD3,hm2,rfl⟩,rfl⟩,⟨hok3.mem,hok3.pc,hok3.data,hok3.calls,hok3.inp,hok3.few,hok3.deep⟩,λh=>hdig3 (hd.trans h)⟩;refine oB 53 rfl (λh=>?_) (λh=>?_)
   ·have hdg:qcc c=decide ((c:Int)<=57):=by
     have:=zt h;unfold qcc;rw[zRp (by omega:48<=c),Bool.true_and,decide_eq_decide];omega
    obtain⟨f1,f2,f3⟩:=fin _ hdg;rw[hdg] at e1 e2 e3;refine gan ?_
    first|refine QNo.norm ?_|skip
    first|refine qam.normal ?_|skip
    first|refine qN ?_|skip
    exact⟨limit-(i+1),_,_,by omega,⟨i+1,_,_,by omega,by omega,rfl,rfl,rfl,f1,f2,f3,hlen2,e1,e2,by omega⟩,⟨rfl,rfl,rfl,trivial⟩,⟨[],by rw[zLz];exact zRr _ _ _⟩,hj⟩
   have hdg:qcc c=false:=by
    have:=zf h;unfold qcc;rw[decide_eq_false (by omega:¬ 48<=c)];rfl
   obtain⟨f1,f2,f3⟩:=fin _ hdg;rw[hdg] at e1 e2 e3;refine gan ?_
   first|refine QNo.norm ?_|skip
   first|refine qam.normal ?_|skip
   first|refine qN ?_|skip
   exact⟨limit-(i+1),_,_,by omega,⟨i+1,_,_,by omega,by omega,rfl,rfl,rfl,f1,f2,f3,hlen2,e1,e2,by omega⟩,⟨rfl,rfl,rfl,trivial⟩,⟨[],by rw[zLz];exact zRr _ _ _⟩,hj⟩
  |stop er o=>
   rw[hx] at hP;obtain⟨s2,ho,hP⟩:=hP
   by_cases he:er=0
   rotate_left;rw[zn he] at hP;obtain⟨_,hv,_⟩:=hP;cases hv;rw[zp he] at hP;obtain⟨hv,hS2⟩:=hP;cases hv;subst he
   have hs:stepM s1=.stop 0 o:=by
    unfold stepM;rw[zp hpc,hcd,hx]
   rw[hs] at e1 e2 e3;simp only at e1 e2 e3;have hend:EndH k (st+R.2.2) R.2.1 H2:=⟨s2,true,ho.trans e2,by rw[<-e3];exact hS2⟩;obtain⟨vc2,HC2,vo2,HO2,HD2,hC2,hO2,hD2,rfl⟩:=hS2;obtain⟨vd2,HD3,hm2,rfl⟩:=hD2;refine zQ63 ?_;refine qaI.weak (H':=(b4,.cells 29 [int .i64 0])::(k.mb,.cells 163 ((k.mf s2 (i+1) true vc2 vo2).cells vd2))::(HD3++(k.memH s2.mem::k.binH::(HC2++HO2)))) ⟨[],by rw[zLz];exact zPc⟩ ?_;refine qaI.of ?_;refine gac ?_;refine oC rfl (λ_=>?_) (λhc=>by cases hc);refine gac ?_
   first|refine QNo.ret ?_|skip
   first|refine qaw.ret ?_|skip
   first|refine qam.ret ?_|skip
   first|refine qaw.ret ?_|skip
   first|refine qam.ret ?_|skip
   first|refine qaw.ret ?_|skip
   exact qbN.ret1 (vs:=[int .i64 0]) (H2:=[(b4,.cells 29 [int .i64 0])]) hj zpr (qlQ b4 _)
    (rC (qcU.cellOne rfl zm0 rfl zsr) rN) (zhD zhr) ⟨hend,by rw[<-e1];rfl⟩
 intro ch H2 hP
 cases hx:exeM c { s1 with pc:=s1.pc+1 } with
 |run s2=>
  rw[hx] at hP;obtain⟨hv,_⟩:=hP
  cases hv
 |stop er o=>
  rw[hx] at hP;obtain⟨s2,ho,hP⟩:=hP
  by_cases he:er=0
  rw[zp he] at hP;obtain⟨hv,_⟩:=hP;cases hv;rw[zn he] at hP;obtain⟨h12,hv,hS2⟩:=hP;cases hv;subst h12
  have hs:stepM s1=.stop 12 o:=by
   unfold stepM;rw[zp hpc,hcd,hx]
  rw[hs] at e1 e2 e3;simp only at e1 e2 e3;refine gae ?_
  exact qbN.panic1 (H1:=[(b4,.cells 29 [int .i64 0])]) (vs:=[int .i64 12]) (H2:=[(b4,.cells 29 [int .i64 12])]) hj zPc (ql6 b4 _)
   (rC (qcU.cellOne rfl zm0 rfl zsr) rN) (zhD zhr) ⟨⟨s2,false,ho.trans e2,by rw[<-e3];exact hS2⟩,by rw[<-e1];rfl⟩
end
def quv(og:Nat)(code:Wd):LV:=.agg [int .i64 (og:Nat),str code]
def qoz(r:Nat×Wd×Nat):LV:=.agg [str r.2.1,int .i64 (r.1:Nat),int .i64 (r.2.2:Nat)]
theorem qsb{code:Wd}{n:Nat}(h:n<code.length):(λi=>if i=og+n then (code[n]).toNat else qfl (code.take n) og i)=qfl (code.take (n+1)) og:=by
 funext i;unfold qfl;rw[List.getElem?_take,List.getElem?_take]
 by_cases h1:i=og+n
 subst h1;rw[zp rfl,zp zo,show og+n-og=n by omega,zp zo,zRl h];rw[zn h1]
 by_cases h2:og<=i
 rw[zp h2,zp h2]
 by_cases h3:i-og<n
 rw[zp h3,zp zo];rw[zn h3,zn zo];rw[zn h2,zn h2]
theorem qrY(og:Nat):qfl [] og=λ_=>0:=by
 funext i;unfold qfl;split;rw[List.getElem?_nil];rfl
theorem que(code:Wd){inp:List Nat}(h:og<262144)(hi:∀ v∈inp,v<4294967296):MsOk (qeN code og inp):=
 ⟨λi=>qwT code og i,by show og<_;omega,λv hv=>(not_mem_nil hv).elim,λv hv=>(not_mem_nil hv).elim,hi,by show 0<=_;omega,by show 0<=_;omega⟩
section
variable{B0:Nat}{w0:World}
@[reducible] def stR(k:MK)(og:Nat)(inp:List Nat):Nat×LObj:=(k.mb,.cells 163 ((k.mf (qeN [] og inp) 0 false (.slice none 0 0) qab).cells (.slice none 0 0)))
@[reducible] def ouR(b:Nat):Nat×LObj:=(b,.cells 38 [str [],int .i64 0,int .i64 0])
theorem qnu{code:Wd}{inp:List Nat}{steps:Nat}(hog:og+code.length<=262144)(hog2:og<262144)(hin:∀ v∈inp,v<4294967296)(hs0:0<steps)(hs1:steps<=100000000) :
  LCalls (KC B0 w0) 31 [.list [quv og code],int .i64 (og:Nat),.list (us inp),int .i64 (steps:Nat)] [] (Ret (qoz (runM steps (qeN code og inp)))):=by
 have eX:quv og code=.agg [int .i64 (og:Nat),str code]:=rfl;rw[eX];refine cJ Tryz.func31 (n:=106) ?_;refine gai ?_;refine oS (sA λb8=>?_) rfl;refine gac ?_
 refine oL (λkk ls H'=>∃ i:Nat,i<=1/\kk=1-i/\ls=[(0,.list [.agg [int .i64 (og:Nat),str code]]),(1,int .i64 (og:Nat)),(2,.list (us inp)),(3,int .i64 (steps:Nat)),(8,ptr b8 0),(9,bool true),(23,.list [.agg [int .i64 (og:Nat),str code]]),(24,int .i64 1),(25,int .i64 (i:Nat))]/\H'=[ouR b8])
  ⟨_,_,_,⟨0,by omega,rfl,rfl,rfl⟩,⟨rfl,rfl,rfl,rfl,rfl,qau (zRp zo),rfl,rfl,rfl,trivial⟩,zhR _⟩ ?_
 rintro kk ls H' ⟨i,hi,rfl,rfl,rfl⟩ j hj;refine gaj ?_;refine oC rfl (λhc=>?_) (λhc=>?_);obtain rfl:i=0:=by have:=zt hc;omega
 refine gal ?_;refine oP (xR (el':=.agg [int .i64 (og:Nat),str code]) (cs:=[_,_]) rfl rfl zDd rfl rfl rfl) rfl<|gad ?_;refine oS (sA λb11=>?_) rfl;refine gac ?_;exact⟨_,_,_,by omega,⟨1,by omega,rfl,rfl,rfl⟩,⟨rfl,rfl,rfl,rfl,rfl,qau (zRp zo),rfl,rfl,rfl,trivial⟩,zhD zhr,hj⟩;obtain rfl:i=1:=by have:=zf hc;omega
 clear hc hi;refine gac ?_;refine oC rfl (λhc=>by cases hc) (λ_=>?_);refine gac ?_;refine oC rfl (λhc=>?_) (λ_=>?_);have:=zt hc;omega;refine gac ?_;refine oC rfl (λhc=>?_) (λ_=>?_);have:=zt hc;omega
 have hwo:IntKind.u32.wrap (og:Int)=(og:Int):=by
  rw[qeu];omega
 refine gab ?_;refine cM (A:=MK) (λk=>[(0,.list [.agg [int .i64 (og:Nat),str code]]),(3,int .i64 (steps:Nat)),(8,ptr b8 0),(12,ptr k.mb 0)]) (λk=>[stR k og inp,k.memH (λ_=>0),k.binH,ouR b8]) (λ_=>True) ?_ (λk _ j2 hj2=>?_);refine cD (m:=8) rfl []<|aT 1 rfl rfl (pM (lv:=.atom _) rfl)<|aT 2 rfl rfl (Pure.cvt rfl)<|aT 3 rfl rfl (pM (lv:=.list _) rfl) ?_;rw[hwo];refine aL ?_ zhn;refine zl2 (i:=0) (j:=4) zk ?_ ?_;refine lW rfl (.inl rfl) rfl (S.makeRow (n:=262144) rfl rfl zDd zDd λmm=>?_);rw[qmD];refine zl1 (i:=4) zk ?_;refine lW rfl (.inl rfl) rfl (S.callH (H1:=[]) [] rfl zpr qhf ?_ (by rintro ch H' ⟨_,h,_⟩;cases h));rintro lv H' ⟨bm,h,rfl⟩;cases h;exact zT24;refine lW rfl (.inl rfl) rfl (S.callH (H1:=[]) [] rfl zpr qhf ?_ (by rintro ch H' ⟨_,h,_⟩;cases h));rintro lv H' ⟨bm,h,rfl⟩;cases h;refine zl1 (i:=0) zk ?_;refine lW rfl (.inl rfl) rfl (S.makeRow (n:=262144) rfl rfl zDd zDd λmm=>?_);rw[qmD];exact zT24;have hjj:j2.ds=[]:=hj2.trans hj;refine gaa ?_
 refine oL (λkk ls H'=>∃ i:Nat,i<=1/\kk=1-i/\ls=[(3,int .i64 (steps:Nat)),(8,ptr b8 0),(12,ptr k.mb 0),(64,.list [.agg [int .i64 (og:Nat),str code]]),(65,int .i64 1),(66,int .i64 (i:Nat))]/\H'=[stR k og inp,k.memH (qfl (code.take (i * code.length)) og),k.binH,ouR b8])
  ⟨_,_,_,⟨0,by omega,rfl,rfl,rfl⟩,⟨rfl,rfl,rfl,rfl,rfl,rfl,trivial⟩,by rw[Nat.zero_mul,take_zero,qrY];exact zhR _⟩ ?_
 rintro kk ls H' ⟨i,hi,rfl,rfl,rfl⟩ j3 hj3;refine gaj ?_;refine oC rfl (λhc=>?_) (λhc=>?_);obtain rfl:i=0:=by have:=zt hc;omega
 refine gal ?_;refine oP (xR (el':=.agg [int .i64 (og:Nat),str code]) (cs:=[_,_]) rfl rfl zDd rfl rfl rfl) rfl<|gad ?_;refine oS (sA λb14=>?_) rfl;refine gac ?_
 refine oL (λkk ls H'=>∃ n:Nat,n<=code.length/\kk=code.length-n/\ls=[(3,int .i64 (steps:Nat)),(8,ptr b8 0),(12,ptr k.mb 0),(14,ptr b14 0),(64,.list [.agg [int .i64 (og:Nat),str code]]),(65,int .i64 1),(66,int .i64 0),(72,int .i64 code.length),(73,int .i64 (n:Nat))]/\H'=[stR k og inp,(b14,.cells 95 [int .i64 (og:Nat),str code]),k.memH (qfl (code.take n) og),k.binH,ouR b8])
  ⟨_,_,_,⟨0,zero_le _,rfl,rfl,rfl⟩,⟨rfl,rfl,rfl,rfl,rfl,rfl,rfl,rfl,rfl,trivial⟩,by rw[Nat.zero_mul];exact zhP zp1 zhr⟩ ?_
 rintro kk ls H' ⟨n,hn,rfl,rfl,rfl⟩ j4 hj4;refine gaj ?_;refine oC rfl (λhd=>?_) (λhd=>?_);have hlt:n<code.length:=by have:=zt hd;omega
 have hget:code[((n:Nat):Int).toNat]? = some code[n]:=by rw[Int.toNat_natCast,zRl hlt]
 have hnx:=qsb (og:=og) hlt;generalize code[n]=ch at hget hnx
 have hw8:IntKind.u32.wrap ((ch.toNat:Nat):Int)=((ch.toNat:Nat):Int):=by
  rw[qeu];have:=ch.toNat_lt;omega
 refine gaa ?_;refine cD (m:=15) rfl [stR k og inp,(b14,LObj.cells 95 [int .i64 (og:Nat),str code])]<|zQ10 ?_;refine aT 3 rfl rfl (pL (c:=.atom _) rfl zm0 rfl)<|aT 4 rfl rfl (pF rfl)<|aT 5 rfl rfl (pL (c:=.atom _) rfl zm1 rfl)<|aT 6 rfl rfl (pM (lv:=.atom _) rfl)<|aT 7 rfl rfl (Pure.add rfl rfl zo)<|aT 8 rfl rfl (pF rfl)<|aT 9 rfl rfl (pL (c:=.atom _) rfl zm1 rfl)<|aT 10 rfl rfl (pM (lv:=.atom _) rfl)<|aT 11 rfl rfl (pI (c:=ch) rfl rfl zo hget)<|aT 12 rfl rfl (Pure.cvt rfl)<|aT 13 rfl rfl (Pure.indexRowE (o:=og+n) rfl rfl zo zo zo)<|aL ?_ ⟨_,List.Perm.refl _⟩;refine zl1 (i:=14) zk ?_;refine lS (H1:=[k.memH (qfl (code.take n) og)]) (F:=[stR k og inp,(b14,LObj.cells 95 [int .i64 (og:Nat),str code]),k.binH,ouR b8]) rfl (.inl rfl) rfl zp2 ⟨_,List.Perm.refl _⟩ ?_;refine sS (n:=1) (vs:=[u32 ch.toNat]) (cs':=memL (qfl (code.take (n+1)) og)) rfl pH (congrArg (λz=>some [int .u32 z]) hw8) rfl (by rw[ble_eq,qhk];omega) rfl (by rw[<-hnx];exact qlL _ _ _) ?_;refine zQ64 ?_;exact⟨code.length-(n+1),_,_,by omega,⟨n+1,by omega,rfl,rfl,rfl⟩,⟨rfl,rfl,rfl,rfl,rfl,rfl,rfl,rfl,qao zo,trivial⟩,zhP zp1 (zhP zp1 zhr),hj4⟩;obtain rfl:n=code.length:=by have:=zf hd;omega
 refine gaa ?_;exact⟨0,_,_,by omega,⟨1,by omega,rfl,rfl,rfl⟩,⟨rfl,rfl,rfl,rfl,rfl,qao zo,trivial⟩,by rw[Nat.one_mul];exact zhP pH (zhD zhr),hj4.trans hj3⟩;obtain rfl:i=1:=by have:=zf hc;omega
 rw[Nat.one_mul,take_length];have hS:StH k (qeN code og inp) 0 false [stR k og inp,k.memH (qfl code og),k.binH]:=⟨.slice none 0 0,[],qab,[],[stR k og inp],MRow.nil,Acc.nil,⟨.slice none 0 0,[],MRow.nil,rfl⟩,rfl⟩;have hrun:=run_spec (B0:=B0) (w0:=w0) k (que code hog2 hin) (λh=>by cases h) (zero_le steps) hs1 (zNr 0) hS;rw[Nat.sub_zero] at hrun;generalize runM steps (qeN code og inp)=R at hrun ⊢;rw[Nat.zero_add] at hrun;refine gaa ?_;refine oS (S.callH (H1:=[stR k og inp,k.memH (qfl code og),k.binH]) (F:=[ouR b8]) [_,_] rfl zpr hrun ?_ (by rintro ch H' ⟨_,h⟩;cases h)) rfl;rintro v H' ⟨hE,hv⟩;cases hv;obtain⟨s2,stop,ho,vc,HC,vo,HO,HD,hC,hO,hD,rfl⟩:=hE;obtain⟨vd,HD0,hm,rfl⟩:=hD;refine LOps.weak (H':=ouR b8::(k.mb,.cells 163 ((k.mf s2 R.2.2 stop vc vo).cells vd))::(HD0++(k.memH s2.mem::k.binH::(HC++HO)))) ⟨[],by rw[zLz];exact zPc⟩ ?_;refine gab ?_;refine qah.tail 11 zk ?_;refine gan ?_;refine lP (pL (c:=vo) rfl zm1 rfl) rfl ?_;refine lP (Pure.bytesStrE (l:=s2.out) (by exact hO.elems)) rfl ?_;refine gad ?_;exact qak (hj3.trans hjj) (rC (rA (k:=3) rfl zm0 rfl zsr) rN) (by rw[ho];rfl)
end
end Go.Proofs.YtegmklafpoldgaaGreatDoor.Mch
namespace Go.Proofs.YtegmklafpoldgaaGreatDoor.Top
open Go.Stele
open Cmp (defO)
def srcT:Wd:=[118,97,114,32,120,59,32,102,117,110,99,32,109,97,105,110,40,41,32,123,32,120,32,61,32,105,110,40,41,59,32,119,104,105,108,101,32,120,32,62,32,48,32,123,32,111,117,116,40,54,52,32,43,32,120,41,59,32,120,32,61,32,120,32,45,32,49,59,32,125,32,125]
def asmT:Wd:=[38,102,95,109,97,105,110,32,58,32,48,32,33,32,36,32,102,95,109,97,105,110,58,32,44,32,51,32,33,32,106,48,58,32,51,32,64,32,48,32,50,32,33,32,49,32,33,32,50,32,64,32,49,32,64,32,60,32,38,106,49,32,63,32,54,52,32,51,32,64,32,43,32,46,32,48,32,48,32,33,32,51,32,64,32,49,32,45,32,51,32,33,32,48,32,38,106,48,32,63,32,106,49,58,32,48,32,59]
def qv8:Wd:=[48,49,48,48,49,48,58,48,33,36,44,51,33,51,64,48,32,50,33,49,33,50,64,49,64,60,48,49,48,48,53,57,63,54,52,32,51,64,43,46,48,32,48,33,51,64,49,45,51,33,48,32,48,49,48,48,49,51,63,48,59]
theorem qsm:(qc3 srcT).2=(0,0):=zk
theorem qwI:cmpP (qc3 srcT).1.vars (qa8 (qc3 srcT).1) (qc3 srcT).1.funcs defO=.ok asmT:=zk
theorem qvZ:qcy asmT=(asmT,0):=zk
theorem qww:asmP asmT 10000=.ok (qv8,[([102,95,109,97,105,110],10010),([106,48],10013),([106,49],10059)]):=zk
theorem qwE:runM 1000 (qeN qv8 10000 [3])=(0,[67,66,65],173):=zk
def prT:Pr:=⟨[[120]],[],[⟨[109,97,105,110],[],[],[(.mk 1 [120] [] [(.mk [99,97,108,108] 0 [105,110] [])] [] []),(.mk 4 [] [] [(.mk [62] 0 [] [(.mk [118,97,114] 0 [120] []),(.mk [110,117,109] 0 [] [])])] [(.mk 6 [] [] [(.mk [99,97,108,108] 0 [111,117,116] [(.mk [43] 0 [] [(.mk [110,117,109] 64 [] []),(.mk [118,97,114] 0 [120] [])])])] [] []),(.mk 1 [120] [] [(.mk [45] 0 [] [(.mk [118,97,114] 0 [120] []),(.mk [110,117,109] 1 [] [])])] [] [])] [])]⟩]⟩
theorem qxn:(qc3 srcT).1=prT:=zk
theorem qxV:SzP (qc3 srcT).1 60000:=by
 rw[qxn];refine⟨by decide,by decide,λa ha=>(by cases ha),by decide,λf hf=>?_⟩;obtain rfl:=zRa hf;simp[qbu,numS,qcB,numE,Lt]
open Go.GL Go.RowKit Go.Stele
open Inp (u32)
open Mch (qoz qnu quv us)
open Asm (asmLV)
open Cmp (I64  qqK defO qih qc1 qlh)
instance:TInt3 zTp 35:=.of zk
attribute [local irreducible] LOps qah qae LCalls Go.GL.Pure qaw qam qad LQ LAny qay qal LS
section
variable{B0:Nat}{w0:World}
theorem qj3{code:Wd}{inp:List Nat}{steps:Nat}(hlen:code.length<=252144)(hin:∀ v∈inp,v<4294967296)(h0:0<steps)(h1:steps<=100000000) :
  LCalls (KC B0 w0) 18 [str code,.list (us inp),int .i64 (steps:Nat)] [] (Ret (qoz (runM steps (qeN code 10000 inp)))):=by
 have hrun:=qnu (B0:=B0) (w0:=w0) (code:=code) (og:=10000) zo zDd hin h0 h1;have hd:=qc1 (B0:=B0) (w0:=w0);have eD:qih defO=.agg [int .i64 10000,int .i64 0,int .i64 100000]:=rfl;rw[eD] at hd;generalize runM steps (qeN code 10000 inp)=R at hrun ⊢;unfold qoz at hrun ⊢;unfold quv at hrun;refine cJ Tryz.func18 (n:=18) ?_;refine gai ?_;refine oS (sA λb6=>?_) rfl;refine gaj ?_;refine zQ57 ?_;refine gac ?_;refine zQ2 ?_;refine gab ?_;refine oS (sF [_,_,_,_] rfl hrun ?_) rfl;refine gad ?_;exact qak rfl (rC (rA rfl zm0 rfl zsr) rN) rfl
theorem qmb(hG:Pp.GW B0 w0):LCalls (KC B0 w0) 15 [] [] (Ret (bool true)):=by
 have hps:=qrA (B0:=B0) (w0:=w0) hG.base srcT;have hsz:=qxV;have hcp:=qlh (B0:=B0) (w0:=w0) hG.base hG.mx hsz zDd defO (by unfold I64;decide) (by unfold I64;decide) (by unfold I64;decide);rw[qwI] at hcp;have hop:=Pp.optimize_spec (B0:=B0) (w0:=w0) hG asmT zDd;rw[qvZ] at hop;have has:=Asm.assemble_spec (B0:=B0) (w0:=w0) hG.base hG.mx asmT 10000 zDd;rw[qww] at has;have hrun:=qj3 (B0:=B0) (w0:=w0) (code:=qv8) (inp:=[3]) (steps:=1000) zDd zDd zDd zDd;rw[qwE] at hrun;have hd:=qc1 (B0:=B0) (w0:=w0);have eD:qih defO=.agg [int .i64 10000,int .i64 0,int .i64 100000]:=rfl;rw[eD] at hd hcp;have htp:=qsm;generalize qc3 srcT=r at hps hcp htp hsz;obtain⟨p,l,e⟩:=r;simp only at htp hcp;injection htp with e1 e2;subst e1 e2;unfold qpu at hps;unfold qqK at hcp;unfold asmLV at has;unfold qoz at hrun;simp only at hps hcp hop has hrun;have eP:qfk p=.agg [.list (p.vars.map str),.list (p.arrays.map qgC),.list (p.funcs.map qaM)]:=rfl;rw[eP] at hps hcp;refine cJ Tryz.func15 (n:=63) ?_;refine gag ?_;refine oS (sF [_] rfl hps ?_) rfl;refine gad ?_;refine oS (sA λb1=>?_) rfl;refine gad ?_;refine cC [(0,bool false),(1,ptr b1 0),(3,int .i64 0),(4,str asmT),(5,int .i64 0)] ?_ (λj hj=>?_);refine cD (m:=8) rfl [(b1,.cells 28 [.list (p.vars.map str),.list (p.arrays.map qgC),.list (p.funcs.map qaM)])]<|aT 0 rfl rfl (pG (cs':=[_,_,_]) rfl zm0 rfl rfl)<|zQ31 ?_;refine zl2 (i:=4) (j:=5) zk ?_ ?_;exact zT35;refine zQ43 ?_;refine zl1 (i:=4) zk ?_;refine zQ11 ?_;exact⟨⟨rfl,rfl,rfl,rfl,rfl,trivial⟩,rfl,rfl⟩;refine gah ?_;refine oS (sF [_] rfl hop ?_) rfl;refine gaa ?_;refine zQ57 ?_;refine oS (sF [_,_] rfl has ?_) rfl;refine gac ?_;refine oC rfl (λhc=>by cases hc) (λ_=>?_);refine gaa ?_;refine zQ2 ?_;refine oS (sF [_,_,_] rfl hrun<|oS (sA λb12=>?_) rfl) rfl;refine gac ?_;exact qak hj (zra rfl) rfl
end
open Mch (qoz us)
open Cmp (I64 qqK defO qih qc1 qfJ)
open Go.Lib (decDigits join)
theorem qtU{P:Pr}{o:Org}{t:Wd}(hnum:∀ f∈P.funcs,qbu f.body)(hn:ndFs P.funcs<=2000000)(h:cmpP P.vars (qa8 P) P.funcs o=.ok t):t.length<=60+60 * ndFs P.funcs:=by
 obtain⟨hc,hfit,ht,_⟩:=qmx hnum h;have hw:=(qnT (P:=P) (o:=o) hc hnum hfit hn).1;have hj:=qgg (qaW P o);rw[ht];omega
theorem qua{P:Pr}{o:Org}{t:Wd}(hnum:∀ f∈P.funcs,qbu f.body)(hn:ndFs P.funcs<=200)(h:cmpP P.vars (qa8 P) P.funcs o=.ok t):t.length<=12060/\qcy t=(join (optP (qbc t)) [32],0)/\(join (optP (qbc t)) [32]).length<=300000000:=by
 have h1:=qtU hnum zo h;have h2:=qu6 t;refine⟨by omega,?_,by omega⟩;unfold qcy;rw[zn zo]
def SizeP(fs:List FnD)(r:LRes)(H:Heap):Prop:=H=[]/\∃ z:Int,r=.ret (int .i64 z)/\(ndFs fs:Int)<=z
section
variable{B0:Nat}{w0:World}
theorem tc_walk(hG:Pp.GW B0 w0)(vars:List Nm)(arrays:List (Nm×Int))(fs:List FnD)(hv6:vars.length<=2000000)(ha6:arrays.length<=2000000)(har:∀ a∈arrays,I64 a.2)(hnd:ndFs fs<=2000000)(hnum:∀ f∈fs,qbu f.body){inp:List Nat}(hin:∀ v∈inp,v<4294967296)
  (hsz:LCalls (KC B0 w0) 14 [Chk.encPrG vars arrays fs] [] (SizeP fs)) :
  LCalls (KC B0 w0) 5 [Chk.encPrG vars arrays fs,.list (inp.map u32)] [] (Ret (bool true)):=by
 have haw:=qmb hG;have hd:=qc1 (B0:=B0) (w0:=w0);have eD:qih defO=.agg [int .i64 10000,int .i64 0,int .i64 100000]:=rfl;rw[eD] at hd;have hck:=Chk.check_spec (B0:=B0) (w0:=w0) vars arrays fs hv6 ha6 har hnd;have hcp:=qfJ (B0:=B0) (w0:=w0) hG.base hG.mx vars arrays fs defO hv6 ha6 har hnd hnum (by unfold I64;decide) (by unfold I64;decide) (by unfold I64;decide);have ePr:Chk.encPrG vars arrays fs=.agg [.list (vars.map str),.list (arrays.map Chk.encArG),.list (fs.map qaM)]:=rfl;have hla:(inp.map u32).length=inp.length:=zLm _
 have hrn:=λ(hc0:qb5 vars arrays fs=0)=>by
  obtain⟨ht,hp,hPa,hPc,hV⟩:=qd0 hc0;have hS:SzP (prOf vars arrays fs) 2000000:=⟨hv6,by show(arrays.map _).length<=_;rw[zLm];exact ha6,λa ha=>by have:=hV.sizes a ha;omega,hnd,hnum⟩;have hchk:=Inp.checkPr_spec (B0:=B0) (w0:=w0) hS (zNr _);have hrn:=Inp.run_spec (B0:=B0) (w0:=w0) (hS.small (zNr _)) hS.nums hchk hin 3000
  have hq:Inp.runQ (prOf vars arrays fs) inp 3000=runI (prOf vars arrays fs) inp 3000:=by
   unfold Inp.runQ qoT;rw[zp hPc,zn zDd,zn zDd];rfl
  have eE:qfk (prOf vars arrays fs)=Chk.encPrG vars arrays fs:=by
   rw[Inp.encPr_eq];have:((prOf vars arrays fs).arrays.map λa=>(a.name,(a.size:Int)))=arrays:=hPa;rw[this];rfl
  rw[hq,eE,ePr] at hrn;exact hrn
 have hcd:=λ(hc0:qb5 vars arrays fs=0) (hf:ndFs fs<=200)=>by
  obtain⟨ht,hp,hPa,hPc,hV⟩:=qd0 hc0;have h1:=Wi.cmp_default (P:=prOf vars arrays fs) hPc hnum hnd
  have h2:∀ t,cmpP vars arrays fs defO=.ok t->(t.length<=12060/\qcy t=(join (optP (qbc t)) [32],0)/\(join (optP (qbc t)) [32]).length<=300000000)/\((runI (prOf vars arrays fs) inp 3000).err=0∨(runI (prOf vars arrays fs) inp 3000).err=12->∃ x labs y labs' K K',asmP t 10000=.ok (x,labs)/\asmP (join (optP (qbc t)) [32]) 10000=.ok (y,labs')/\x.length<=40000/\y.length<=x.length/\K<=180161/\K'<=K /\
   ∀ N,K<=N->runM N (qeN x 10000 inp)=((runI (prOf vars arrays fs) inp 3000).err.toNat,(runI (prOf vars arrays fs) inp 3000).out,K)/\runM N (qeN y 10000 inp)=((runI (prOf vars arrays fs) inp 3000).err.toNat,(runI (prOf vars arrays fs) inp 3000).out,K')):=λt h=>by
   have h':cmpP (prOf vars arrays fs).vars (qa8 (prOf vars arrays fs)) (prOf vars arrays fs).funcs defO=.ok t:=by rw[hPa];exact h
   exact⟨qua (P:=prOf vars arrays fs) hnum hf h',λhe=>Wi.preserves (P:=prOf vars arrays fs) (o:=defO) hnum h' hin 3000 he⟩
  have h3:∃ x f,qqK (cmpP vars arrays fs defO)=.tuple [str x,int .i64 f]/\((f=0/\cmpP vars arrays fs defO=.ok x)∨f=6):=by
   rw[hPa] at h1;rcases h1 with⟨t,h⟩|h;have h:cmpP vars arrays fs defO=.ok t:=h;exact⟨t,0,by rw[h];rfl,.inl ⟨rfl,h⟩⟩;have h:cmpP vars arrays fs defO=.error 6:=h;exact⟨[],6,by rw[h];rfl,.inr rfl⟩
  exact And.intro h2 h3
 rw[eD,ePr] at hcp;rw[ePr] at hsz hck ⊢;refine cJ Tryz.func5 (n:=146) ?_;refine gai ?_;refine oS (sB rfl λb2=>?_) rfl;refine gac ?_;refine oS (S.callH (H1:=[]) (F:=[_]) [_] rfl zpr hsz ?_ (by rintro ch H' ⟨_,z,h,_⟩;cases h)) rfl;rintro lv H' ⟨rfl,z,h,hz⟩;cases h;refine gad ?_;refine oB 25 rfl (λh1=>?_) (λh1=>?_);refine gab ?_;refine oC rfl (λ_=>?_) (λhc=>by cases hc);refine zQ45 ?_;exact qak rfl (zra rfl) rfl;have hf2:ndFs fs<=200:=by have:=zf h1;omega
 refine gad ?_;refine oC rfl (λ_=>?_) (λhc=>?_);refine zQ45 ?_;exact qak rfl (zra rfl) rfl;refine gac ?_;refine oS (S.callH (H1:=[]) (F:=[_]) [_] rfl zpr hck ?_ (by rintro ch H' ⟨_,nm,h⟩;cases h)) rfl;rintro lv H' ⟨rfl,nm,h⟩;cases h;refine gac ?_
 by_cases hc0:qb5 vars arrays fs=0
 rotate_left;refine oC rfl (λ_=>?_) (λhc=>?_);refine zQ45 ?_;exact qak rfl (zra rfl) rfl;have h2:(!decide (qb5 vars arrays fs=0))=false:=hc;simp at h2;exact absurd h2 hc0;refine oC rfl (λhc=>?_) (λ_=>?_);have h2:(!decide (qb5 vars arrays fs=0))=true:=hc;simp[hc0] at h2;have hrn2:=hrn hc0;obtain⟨hlaw,x,f,hx1,hx2⟩:=hcd hc0 hf2;rw[hx1] at hcp;generalize runI (prOf vars arrays fs) inp 3000=R at hrn2 hlaw;obtain⟨ou,er,st⟩:=R;unfold Inp.encO at hrn2;simp only at hrn2 hlaw;clear hrn hcd hx1;refine gac ?_;refine oS (sF [_,_,_] rfl hrn2<|oS (sA λb7=>?_) rfl) rfl;refine gac ?_;refine LOps.cut [(1,.list (inp.map u32)),(2,ptr b2 0),(4,bool false),(7,ptr b7 0),(49,bool (decide (er≠0/\er≠12)))] ?_ (λj hj=>?_);refine oB 45 rfl (λh1=>?_) (λh1=>?_);have h2:¬ er=0:=by simpa using h1
 refine gad ?_;exact⟨⟨rfl,rfl,rfl,rfl,qau (by simp[h2]),trivial⟩,rfl,rfl⟩;have h2:er=0:=by simpa using h1
 refine gab ?_;exact⟨⟨rfl,rfl,rfl,rfl,qau (by simp[h2]),trivial⟩,rfl,rfl⟩;refine oC rfl (λhc=>?_) (λhc=>?_);refine zQ45 ?_;exact qak hj (zra rfl) rfl
 have her:er=0∨er=12:=by
  have:=zf hc
  by_cases h:er=0
  exact .inl h;exact .inr (Classical.not_not.1 λh2=>this ⟨h,h2⟩)
 refine gab ?_;refine cC [(1,.list (inp.map u32)),(4,bool false),(7,ptr b7 0),(8,str x),(9,int .i64 f)] ?_ (λj2 hj2=>?_);refine cD (m:=8) rfl [(b7,.cells 38 [str ou,int .i64 er,int .i64 (st:Int)]),(b2,.cells 28 [.list (vars.map str),.list (arrays.map Chk.encArG),.list (fs.map qaM)])]<|aT 0 rfl rfl (pG (cs':=[_,_,_]) rfl zm1 rfl rfl)<|zQ31 ?_;refine zl2 (i:=4) (j:=5) zk ?_ ?_;exact zT35;refine zQ43 ?_;refine zl1 (i:=4) zk ?_;refine zQ11 ?_;exact⟨⟨rfl,rfl,rfl,rfl,rfl,trivial⟩,rfl,rfl⟩;refine gaa ?_;refine oC rfl (λhc=>?_) (λhc=>?_);refine zQ45 ?_;exact qak (hj2.trans hj) (zra rfl) rfl
 obtain⟨hf0,hcm⟩:f=0/\cmpP vars arrays fs defO=.ok x:=by
  rcases hx2 with h|h;exact h;exact absurd h (zf hc)
 subst hf0;obtain⟨⟨o1,o2,o3⟩,hpr⟩:=hlaw x hcm;obtain⟨c1,l1,c2,l2,K,K',p1,p2,p3,p4,p5,p6,p7⟩:=hpr her;obtain⟨q1,q2⟩:=p7 2000000 zo;have hop:=Pp.optimize_spec (B0:=B0) (w0:=w0) hG x zo;rw[o2] at hop;have a1:=Asm.assemble_spec (B0:=B0) (w0:=w0) hG.base hG.mx x 10000 zo;have a2:=Asm.assemble_spec (B0:=B0) (w0:=w0) hG.base hG.mx (join (optP (qbc x)) [32]) 10000 o3;rw[p1] at a1;rw[p2] at a2;have r1:=qj3 (B0:=B0) (w0:=w0) (code:=c1) (inp:=inp) (steps:=2000000) zo hin zDd zDd;have r2:=qj3 (B0:=B0) (w0:=w0) (code:=c2) (inp:=inp) (steps:=2000000) zo hin zDd zDd;have hea:er.toNat=er:=by omega
 rw[q1] at r1;rw[q2] at r2;unfold qoz us at r1 r2;simp only at r1 r2 hop;rw[hea] at r1 r2;unfold asmLV at a1 a2;simp only at a1 a2;generalize join (optP (qbc x)) [32]=y at hop a2;clear p1 p2 p7 q1 q2 hpr hlaw o2 o3 hcp hck hsz hrn2 hcm hx2;refine gaa ?_;refine oS (sF [_] rfl hop ?_) rfl;refine gaa ?_;refine zQ57 ?_;refine oS (sF [_,_] rfl a1 ?_) rfl;refine gac ?_;refine zQ57 ?_;refine oS (sF [_,_] rfl a2 ?_) rfl;refine gac ?_;refine oC rfl (λhc=>?_) (λ_=>?_);have:=zt hc;omega;refine gaa ?_;refine oS (sF [_,_,_] rfl r1 ?_) rfl;refine gab ?_;refine oS (sF [_,_,_] rfl r2<|oS (sA λb20=>?_) rfl) rfl;refine oS (sA λb21=>?_) rfl;refine gac ?_;refine oB 115 rfl (λ_=>?_) (λh=>absurd rfl (zf h));refine gad ?_;refine oB 122 rfl (λ_=>?_) (λh=>absurd rfl (zf h));refine gad ?_;refine oB 129 rfl (λ_=>?_) (λh=>absurd rfl (zf h));refine gad ?_;refine oB 136 rfl (λ_=>?_) (λh=>absurd rfl (zf h));refine gan ?_;refine oB 143 rfl (λ_=>?_) (λh=>absurd (show(K':Int)<=K by omega) (zf h));refine gab ?_;refine oS (sF [] rfl haw ?_) rfl;refine gab ?_;exact qak (hj2.trans hj) (zra rfl) rfl
end
end Go.Proofs.YtegmklafpoldgaaGreatDoor.Top
