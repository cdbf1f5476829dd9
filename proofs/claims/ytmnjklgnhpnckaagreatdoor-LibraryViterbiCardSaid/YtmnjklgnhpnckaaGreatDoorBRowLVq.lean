import Derived.Test.YtmnjklgnhpnckaaGreatDoorBRowLV14
set_option linter.unusedVariables false
set_option linter.unusedSimpArgs false
set_option maxRecDepth 100000
set_option maxHeartbeats 4000000
open Go.GL (zk)
open List (length_reverse reverse_cons mem_append_right not_mem_nil)
open Nat (sub_self ble_eq zero_le)
namespace Go.Proofs.YtmnjklgnhpnckaaGreatDoor.Lb
open Go.GL Go.RowKit Go.ia
open xi (u32)
open TN (XO qoa KT us)
open sq (Eu uj)
open VI (Nw aM Zn dB W0 qlJ)
variable{code:Wd}
instance:Mz Tk 25:=.of zk
structure Oz(l:List (List UInt8))(code:Wd):Prop where
 short:l.length<=1000
 ok:∃ src p n x y ub l0,aj l []=(src,0)/\Ru src=(p,l0,0)/\NG p n/\n<=2000000/\Vp p=0/\pk p.vars (sf p) p.funcs Zn=.ok x/\x.length<=1000000/\PD x=(y,0)/\y.length<=300000000/\Gh y 10000=.ok (code,ub)
 len:code.length<=40000
attribute [local irreducible] Ea fb Ya ca Go.GL.Pure ve Oe Kd LQ yb nh db LS
variable{B0:Nat}{w0:World}
theorem eK(hG:Pp.GW B0 w0){l:List (List UInt8)}(h:Oz l code):ca (KC B0 w0) 16 [.list (l.map str)] [] (Qb (.tuple [str code,int .i64 0])):=by obtain⟨hl,⟨src,p,n,x,y,ub,l0,h1,h2,h3,h4,h5,h6,h7,h8,h9,Yx⟩,_⟩:=h;have BN:=qoP (B0:=B0) (w0:=w0) l hl;rw[h1] at BN;have pn:=qnf (B0:=B0) (w0:=w0) hG.base src;rw[h2] at pn;have Om:=xi.Ll (B0:=B0) (w0:=w0) h3 h4;rw[h5] at Om;have KN:=qlJ (B0:=B0) (w0:=w0) hG.base hG.mx h3 h4 Zn (by unfold Nw;decide) (by unfold Nw;decide) (by unfold Nw;decide);rw[h6] at KN;have Xc:=Pp.mq (B0:=B0) (w0:=w0) hG x h7;rw[h8] at Xc;have has:=sq.wk (B0:=B0) (w0:=w0) hG.base hG.mx y 10000 h9;rw[Yx] at has;have hd:=W0 (B0:=B0) (w0:=w0);have eD:dB Zn=.agg [int .i64 10000,int .i64 0,int .i64 100000]:=rfl;have eP:Av p=.agg [.list (p.vars.map str),.list (p.ba.map zJ),.list (p.funcs.map pg)]:=rfl;rw[eD] at hd KN;unfold uY at pn;unfold aM at KN;unfold Eu at has;simp only at BN pn KN Xc has;rw[eP] at pn KN Om;clear h1 h2 h3 h4 h5 h6 h7 h8 h9 Yx eP eD;refine kb Tryz.func16 rfl (n:=69) rfl rfl rfl ?_;refine xa ?_;refine oS (sF [_] rfl BN ?_);refine wa ?_;refine oC rfl (λhc=>by cases hc) λ_=>?_;refine xa ?_;refine oS (sF [_] rfl pn ?_);refine Na ?_;refine oS (Jd λb6=>?_);refine wa ?_;refine oC rfl (λhc=>by cases hc) λ_=>?_;refine wa ?_;refine oS (S.Uq [_] rfl Om (λv H' h=>?_) λch H' h=>?_);rotate_left;obtain⟨_,_,h⟩:=h;cases h;obtain⟨rfl,nm,h⟩:=h;cases h;refine wa ?_;refine oC rfl (λhc=>by cases hc) λ_=>?_;refine Ti ?_;refine oS (sF [] rfl hd<|oS (Jd λF6=>?_));refine wa ?_;refine oS (sF [_,_] rfl KN ?_);refine wa ?_;refine oC rfl (λhc=>by cases hc) λ_=>?_;refine xa ?_;refine oS (sF [_] rfl Xc ?_);refine wa ?_;refine oC rfl (λhc=>by cases hc) λ_=>?_;refine xa ?_;refine oS (sF [_,_] rfl has ?_);refine wa ?_;exact qb rfl (rC (Fc rfl) (eb rfl)) rfl
theorem qiX(hG:Pp.GW B0 w0){l:List (List UInt8)}(h:Oz l code){Ia:List Nat}(Wf:∀ v∈Ia,v<4294967296){steps:Nat}(h0:0<steps)(h1:steps<=100000000) :
  ca (KC B0 w0) 6 [.list (us Ia),int .i64 (steps:Nat),.list (l.map str)] [] (Qb (XO (runM steps (Dv code 10000 Ia)))):=by
 have X3:=eK hG h;have Hd:=qoa (B0:=B0) (w0:=w0) (code:=code) (og:=10000) (Ia:=Ia) (steps:=steps) (by have:=h.len;omega) fa Wf h0 h1;have hd:=W0 (B0:=B0) (w0:=w0);have eD:dB Zn=.agg [int .i64 10000,int .i64 0,int .i64 100000]:=rfl;rw[eD] at hd;generalize runM steps (Dv code 10000 Ia)=R at Hd ⊢;unfold XO at Hd ⊢;unfold KT at Hd;refine kb Tryz.func6 rfl (n:=30) rfl rfl rfl ?_;refine qe ?_;refine oS (Jd λb6=>?_);refine xa ?_;refine oS (sF [_] rfl X3 ?_);refine wa ?_;refine oC rfl (λhc=>by cases hc) λ_=>?_;refine Ti ?_;refine oS (sF [] rfl hd<|oS (Jd λb9=>?_));refine wa ?_;refine tj ?_;refine Da ?_;refine oS (sF [_,_,_,_] rfl Hd ?_);refine Na ?_;exact qb rfl (rC (rA rfl nc rfl Nd) rN) rfl
theorem qzR:Ru []=(⟨[],[],[]⟩,0,0):=zk
theorem qoR(hG:Pp.GW B0 w0):ca (KC B0 w0) 16 [Yb] [] (Qb (.tuple [str [],int .i64 9])):=by
 have BN:=qrY (B0:=B0) (w0:=w0);have pn:=qnf (B0:=B0) (w0:=w0) hG.base [];rw[qzR] at pn;have Om:=xi.Ll (B0:=B0) (w0:=w0) (p:=⟨[],[],[]⟩) (n:=0) ⟨Jb _,Jb _,λa ha=>(by cases ha),Jb _,λa ha=>(by cases ha)⟩ fa;have h9:Vp ⟨[],[],[]⟩=9:=by kernel_rfl
 rw[h9] at Om;have eP:Av ⟨[],[],[]⟩=.agg [.list [],.list [],.list []]:=rfl;unfold uY at pn;simp only at BN pn;rw[eP] at pn Om;refine kb Tryz.func16 rfl (n:=69) rfl rfl rfl ?_;refine di ?_;refine oS (sF [_] rfl BN ?_);refine wa ?_;refine oC rfl (λhc=>by cases hc) λ_=>?_;refine xa ?_;refine oS (sF [_] rfl pn ?_);refine Na ?_;refine oS (Jd λb6=>?_);refine wa ?_;refine oC rfl (λhc=>by cases hc) λ_=>?_;refine wa ?_;refine oS (S.Uq [_] rfl Om (λv H' h=>?_) λch H' h=>?_);rotate_left;obtain⟨_,_,h⟩:=h;cases h;obtain⟨rfl,nm,h⟩:=h;cases h;refine wa ?_;refine oC rfl (λ_=>?_) (λhc=>by cases hc);refine xa ?_;exact qb rfl (rC (Fc rfl) (eb rfl)) rfl
theorem qov(hG:Pp.GW B0 w0):ca (KC B0 w0) 6 [Yb,int .i64 100,Yb] [] (Qb (.agg [str [],int .i64 9,int .i64 0])):=by have X3:=qoR (B0:=B0) (w0:=w0) hG;refine kb Tryz.func6 rfl (n:=30) rfl rfl rfl ?_;refine qe ?_;refine oS (Jd λb6=>?_);refine Di ?_;refine oS (sF [_] rfl X3 ?_);refine wa ?_;refine oC rfl (λ_=>?_) (λhc=>by cases hc);refine wa ?_;exact qb rfl (rC (rA rfl nc rfl Nd) rN) rfl
open TN (XO us)
open VI (Nw aM Zn)
open Go.ia.Wi.Wc (Me DL Hg K0)
open Go.ia.Wi.Wc.xn (uo Ut q9)
open Go.Lib (join)
theorem l9{P:Pr}{n:Nat}(ld:NG P n)(hn:n<=3100){x:Wd}(hm:pk P.vars (sf P) P.funcs Zn=.ok x){i0:List Nat}(R4:∀ v∈i0,v<4294967296){f0 l0:Nat}(h0:(Me P f0 i0 l0).1=0) :
  ∃ y code ub,x.length<=1000000/\PD x=(y,0)/\y.length<=300000000/\Gh y 10000=.ok (code,ub)/\code.length<=40000 /\
   ∀ (Ia:List Nat),(∀ v∈Ia,v<4294967296)->∀ Aa Ca,(Me P Aa Ia Ca).1=0->∃ K,∀ N,Ca+101<=N->runM N (Dv code 10000 Ia)=(0,(Me P Aa Ia Ca).2.out,K):=by
 obtain⟨o1,o2,o3⟩:=Pp.EF ld hn hm;obtain⟨x1,l1,y1,l1',K1,K1',a1,a2,a3,a4,a5,a6,a7⟩:=K0 (o:=Zn) ld.dz hm R4 f0 l0 (.inl h0);refine⟨_,y1,l1',by omega,o2,o3,a2,by omega,λIa hi Aa Ca he=>?_⟩;obtain⟨x2,l2,y2,l2',K2,K2',b1,b2,b3,b4,b5,b6,b7⟩:=K0 (o:=Zn) ld.dz hm hi Aa Ca (.inl he);rw[a2] at b2;injection b2 with b2;injection b2 with b2 _;subst b2;refine⟨K2',λN hN=>?_⟩;have:=(b7 N zo).2;rw[he] at this;exact this
noncomputable def Fw:List UInt8:=SE++fl
abbrev MB:List UInt8:=[99,114,99]
abbrev aQ:List UInt8:=[99,114,99,109,97,105,110]
theorem qy8:aj [MB,aQ] []=(Fw,0):=by rw[aj,qze,zn fa,aj,qrp,zn fa,aj];rfl
theorem qun:Ru Fw=(Go.ia.Wi.Wc.xn.P,0,0):=zk
theorem qxH:Vp Go.ia.Wi.Wc.xn.P=0:=zk
def qzD:Wd:=match pk Go.ia.Wi.Wc.xn.P.vars (sf Go.ia.Wi.Wc.xn.P) Go.ia.Wi.Wc.xn.P.funcs Zn with
 |.ok t=>t
 |.error _=>[]
theorem F9:pk Go.ia.Wi.Wc.xn.P.vars (sf Go.ia.Wi.Wc.xn.P) Go.ia.Wi.Wc.xn.P.funcs Zn=.ok qzD:=zk
theorem C8:NG Go.ia.Wi.Wc.xn.P 300:=by refine⟨by decide,by decide,λa ha=>(by cases ha),by decide,λf hf=>?_⟩;have hf:f∈[Go.ia.Wi.Wc.xn.Eh,Go.ia.Wi.Wc.xn.xf]:=hf;rcases zc.1 hf with rfl|hf;simp[Go.ia.Wi.Wc.xn.Eh,Go.ia.Wi.Wc.xn.Js,Go.ia.Wi.Wc.xn.Sw,Go.ia.Wi.Wc.xn.rD,Go.ia.Wi.Wc.xn.Uo,Go.ia.Wi.Wc.xn.Vo,cj,ep,Ck,Ji,Lt];obtain rfl:=Vi hf;simp[Go.ia.Wi.Wc.xn.xf,Go.ia.Wi.Wc.xn.jy,Go.ia.Wi.Wc.xn.pD,Go.ia.Wi.Wc.xn.GB,cj,ep,Ck,Ji,Lt]
theorem qwr:∃ code,Oz [MB,aQ] code/\∀ l:List Nat,(∀ v∈l,v<256)->∀ N,1430 * l.length+351<=N->∃ K,runM N (Dv code 10000 l)=(0,Ut (l.foldl uo 4294967295),K):=by
 have run:∀ (l:List Nat),(∀ v∈l,v<256)->∃ Aa,(Me Go.ia.Wi.Wc.xn.P Aa l (1430 * l.length+250)).1=0/\(Me Go.ia.Wi.Wc.xn.P Aa l (1430 * l.length+250)).2.out=Ut (l.foldl uo 4294967295):=λl hl=>by obtain⟨Aa,s2,h1,h2⟩:=q9 l hl (1430 * l.length+250) (Jb _);refine⟨Aa,?_⟩;unfold Me;rw[h1];exact⟨rfl,h2⟩
 obtain⟨f0,h0,_⟩:=run [] λv hv=>(not_mem_nil hv).elim;obtain⟨y,code,ub,a1,a2,a3,a4,a5,a6⟩:=l9 C8 fa F9 (i0:=[]) (λv hv=>(not_mem_nil hv).elim) h0;refine⟨code,⟨by decide,⟨Fw,_,_,_,y,ub,0,qy8,qun,C8,by decide,qxH,F9,a1,a2,a3,a4⟩,a5⟩,λl hl N hN=>?_⟩;obtain⟨Aa,g1,g2⟩:=run l hl;obtain⟨K,hK⟩:=a6 l (λv hv=>by have:=hl v hv;omega) Aa _ g1;exact⟨K,by rw[hK N zo,g2]⟩
theorem quA:Ut ((gx [49,50,51,52,53,54,55,56,57]).foldl uo 4294967295)=[3,118,230,231]:=zk
theorem qvO(hG:Pp.GW B0 w0)(s:List UInt8){N:Nat}(hN:1430 * s.length+351<=N)(N5:N<=100000000):∃ K:Nat,ca (KC B0 w0) 6 [.list ((gx s).map u32),int .i64 (N:Nat),.list [str MB,str aQ]] [] (Qb (.agg [str (Ut ((gx s).foldl uo 4294967295)),int .i64 0,int .i64 (K:Nat)])):=by obtain⟨code,h1,h2⟩:=qwr;obtain⟨K,hK⟩:=h2 (gx s) (qpR s) N (by unfold gx;rw[Db];exact hN);have:=qiX (B0:=B0) (w0:=w0) hG h1 (Ia:=gx s) (λv hv=>by have:=qpR s v hv;omega) (steps:=N) zo N5;rw[hK] at this;exact⟨K,this⟩
theorem qrl(hG:Pp.GW B0 w0):ca (KC B0 w0) 5 [] [] (Qb (bool true)):=by obtain⟨K,hx⟩:=qvO (B0:=B0) (w0:=w0) hG [49,50,51,52,53,54,55,56,57] (N:=100000) fa fa;rw[quA] at hx;have hb:=qnB (B0:=B0) (w0:=w0) [49,50,51,52,53,54,55,56,57] fa;have hy:=qov (B0:=B0) (w0:=w0) hG;generalize (gx [49,50,51,52,53,54,55,56,57]).map u32=ins at hx hb;refine kb Tryz.func5 rfl (n:=20) rfl rfl rfl ?_;refine Yn ?_;refine oS (sF [_] rfl hb<|oS (sL (s:=1) (es:=[str MB,str aQ]) [_,_] rfl (Wu [MB,aQ]) rfl rfl rfl ?_));refine oS (sF [_,_,_] rfl hx<|oS (Jd λb1=>?_));refine wa ?_;refine oS (sF [_,_,_] rfl hy<|oS (Jd λb2=>?_));refine wa ?_;refine oB 10 rfl (λ_=>?_) λh=>absurd rfl (zf h);refine oB 15 rfl (λ_=>?_) λh=>absurd rfl (zf h);refine la (Pure.CL (a:=[]) (b:=[]) (i:=9) (k:=9) (j:=0) (l:=0) rfl rfl rfl rfl rfl)<|Da ?_;exact qb rfl (eb rfl) rfl
open TN (us)
open Go.ia.Wi.Wc (Me DL Hg)
theorem qAe{P:Pr}{n:Nat}(hf:Go.ia.Wi.Wc.Q.GG P n=true){names:List (List UInt8)}{src:List UInt8}(hn:names.length<=1000)(F3:aj names []=(src,0))(hp:Ru src=(P,0,0))
  {i0:List Nat} (R4:∀ v∈i0,v<4294967296) {l0:Nat} (h0:∃ Aa,(Me P Aa i0 l0).1=0) :
  ∃ code,Oz names code/\∀ (Ia:List Nat),(∀ v∈Ia,v<4294967296)->∀ Ca o,(∃ Aa,(Me P Aa Ia Ca).1=0/\(Me P Aa Ia Ca).2.out=o)->∃ K,∀ N,Ca+101<=N->runM N (Dv code 10000 Ia)=(0,o,K):=by
 obtain⟨ld,tC,vz,x,hm⟩:=Go.ia.Wi.Wc.Q.FG hf;obtain⟨f0,h0⟩:=h0;obtain⟨y,code,ub,a1,a2,a3,a4,a5,a6⟩:=l9 ld tC hm R4 h0;refine⟨code,⟨hn,⟨src,P,n,x,y,ub,0,F3,hp,ld,by omega,vz,hm,a1,a2,a3,a4⟩,a5⟩,?_⟩;rintro Ia hi Ca o ⟨Aa,e1,e2⟩;obtain⟨K,hK⟩:=a6 Ia hi Aa Ca e1;exact⟨K,λN hN=>by rw[hK N hN,e2]⟩
theorem qzf{B0:Nat}{w0:World}(hG:Pp.GW B0 w0){names:List (List UInt8)}(h1:Oz names code){Ia:List Nat}(hi:∀ v∈Ia,v<4294967296){N K:Nat}{o:List UInt8}(hN:0<N)(N5:N<=100000000)(hK:runM N (Dv code 10000 Ia)=(0,o,K)) :
  ca (KC B0 w0) 6 [.list (Ia.map u32),int .i64 (N:Nat),.list (names.map str)] [] (Qb (.agg [str o,int .i64 0,int .i64 (K:Nat)])):=by
 have:=qiX (B0:=B0) (w0:=w0) hG h1 (Ia:=Ia) hi (steps:=N) hN N5;rw[hK] at this;exact this
end Go.Proofs.YtmnjklgnhpnckaaGreatDoor.Lb
