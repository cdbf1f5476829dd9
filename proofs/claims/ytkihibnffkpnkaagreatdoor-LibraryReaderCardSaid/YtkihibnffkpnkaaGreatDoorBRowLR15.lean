import Derived.Test.YtkihibnffkpnkaaGreatDoorBRowLR14
set_option linter.unusedVariables false
set_option linter.unusedSimpArgs false
set_option maxRecDepth 100000
set_option maxHeartbeats 4000000
namespace Go.Proofs.YtkihibnffkpnkaaGreatDoor.Lb
open Go.GL Go.RowKit Go.Stele
open Inp (u32)
open Mch (qou us)
open Cmp (I64 qqQ defO)
open Go.Stele.Wi.Wc (runC endC stC qd4)
open Go.Stele.Wi.Wc.Crc (qdQ outN qs3)
open Go.Lib (join)
theorem qw5{P:Pr}{n:Nat}(hsz:SzP P n)(hn:n<=3100){x:Wd}(hm:cmpP P.vars (qbd P) P.funcs defO=.ok x){i0:List Nat}(hi0:∀ v∈i0,v<4294967296){f0 l0:Nat}(h0:(runC P f0 i0 l0).1=0) :
  ∃ y code labs,x.length<=1000000/\qcc x=(y,0)/\y.length<=300000000/\asmP y 10000=.ok (code,labs)/\code.length<=40000 /\
   ∀ (inp:List Nat),(∀ v∈inp,v<4294967296)->∀ fuel limit,(runC P fuel inp limit).1=0->∃ K,∀ N,limit+101<=N->runM N (qdD code 10000 inp)=(0,(runC P fuel inp limit).2.out,K):=by
 obtain⟨o1,o2,o3⟩:=Pp.opt_out hsz hn hm;obtain⟨x1,l1,y1,l1',K1,K1',a1,a2,a3,a4,a5,a6,a7⟩:=qd4 (o:=defO) hsz.nums hm hi0 f0 l0 (.inl h0);refine⟨_,y1,l1',by omega,o2,o3,a2,by omega,λinp hi fuel limit he=>?_⟩;obtain⟨x2,l2,y2,l2',K2,K2',b1,b2,b3,b4,b5,b6,b7⟩:=qd4 (o:=defO) hsz.nums hm hi fuel limit (.inl he);rw[a2] at b2;injection b2 with b2;injection b2 with b2 _;subst b2;refine⟨K2',λN hN=>?_⟩;have:=(b7 N zo).2;rw[he] at this;exact this
noncomputable def crcSrc:List UInt8:=tCrc++tCrcmain
abbrev nCrc:List UInt8:=[99,114,99]
abbrev qgS:List UInt8:=[99,114,99,109,97,105,110]
theorem qw7:srcP [nCrc,qgS] []=(crcSrc,0):=by
 rw[srcP,qu6,zn zDd,srcP,qqc,zn zDd,srcP];rfl
theorem qsU:qa6 crcSrc=(Wi.Wc.Crc.P,0,0):=by kernel_rfl
theorem qvP:qb9 Wi.Wc.Crc.P=0:=by kernel_rfl
def qxw:Wd:=match cmpP Wi.Wc.Crc.P.vars (qbd Wi.Wc.Crc.P) Wi.Wc.Crc.P.funcs defO with
 |.ok t=>t
 |.error _=>[]
theorem qsJ:cmpP Wi.Wc.Crc.P.vars (qbd Wi.Wc.Crc.P) Wi.Wc.Crc.P.funcs defO=.ok qxw:=by kernel_rfl
theorem qvn:SzP Wi.Wc.Crc.P 300:=by
 refine⟨by decide,by decide,λa ha=>(by cases ha),by decide,λf hf=>?_⟩;have hf:f∈[Wi.Wc.Crc.fCrc,Wi.Wc.Crc.fMain]:=hf;rcases zMi.1 hf with rfl|hf;simp[Wi.Wc.Crc.fCrc,Wi.Wc.Crc.firstS,Wi.Wc.Crc.zeroS,Wi.Wc.Crc.backS,Wi.Wc.Crc.roundX,Wi.Wc.Crc.roundB,qcu,numS,qcX,numE,Lt];obtain rfl:=List.mem_singleton.1 hf;simp[Wi.Wc.Crc.fMain,Wi.Wc.Crc.byteX,Wi.Wc.Crc.byteB,Wi.Wc.Crc.outS,qcu,numS,qcX,numE,Lt]
theorem quI:∃ code,Prog [nCrc,qgS] code/\∀ l:List Nat,(∀ v∈l,v<256)->∀ N,1430 * l.length+351<=N->∃ K,runM N (qdD code 10000 l)=(0,outN (l.foldl qdQ 4294967295),K):=by
 have run:∀ (l:List Nat),(∀ v∈l,v<256)->∃ fuel,(runC Wi.Wc.Crc.P fuel l (1430 * l.length+250)).1=0/\(runC Wi.Wc.Crc.P fuel l (1430 * l.length+250)).2.out=outN (l.foldl qdQ 4294967295):=λl hl=>by
  obtain⟨fuel,s2,h1,h2⟩:=qs3 l hl (1430 * l.length+250) (zNr _);refine⟨fuel,?_⟩;unfold runC;rw[h1];exact⟨rfl,h2⟩
 obtain⟨f0,h0,_⟩:=run [] (λv hv=>(List.not_mem_nil hv).elim);obtain⟨y,code,labs,a1,a2,a3,a4,a5,a6⟩:=qw5 qvn zDd qsJ (i0:=[]) (λv hv=>(List.not_mem_nil hv).elim) h0;refine⟨code,⟨by decide,⟨crcSrc,_,_,_,y,labs,0,qw7,qsU,qvn,by decide,qvP,qsJ,a1,a2,a3,a4⟩,a5⟩,λl hl N hN=>?_⟩;obtain⟨fuel,g1,g2⟩:=run l hl;obtain⟨K,hK⟩:=a6 l (λv hv=>by have:=hl v hv;omega) fuel _ g1;exact⟨K,by rw[hK N zo,g2]⟩
theorem qoF(s:List UInt8):∀ v∈qhC s,v<256:=λv hv=>by
 obtain⟨c,_,rfl⟩:=List.mem_map.1 hv;exact qsV c
theorem qs7:outN ((qhC [49,50,51,52,53,54,55,56,57]).foldl qdQ 4294967295)=[3,118,230,231]:=by kernel_rfl
attribute [local irreducible] LOps qag qae LCalls Go.GL.Pure qaz qam qad LQ LAny qaI qan LS
section
variable{B0:Nat}{w0:World}
theorem qt8(hG:Pp.GW B0 w0)(s:List UInt8){N:Nat}(hN:1430 * s.length+351<=N)(hN2:N<=100000000):∃ K:Nat,LCalls (KC B0 w0) 8 [.list ((qhC s).map u32),int .i64 (N:Nat),.list [str nCrc,str qgS]] [] (Ret (.agg [str (outN ((qhC s).foldl qdQ 4294967295)),int .i64 0,int .i64 (K:Nat)])):=by
 obtain⟨code,h1,h2⟩:=quI;obtain⟨K,hK⟩:=h2 (qhC s) (qoF s) N (by unfold qhC;rw[zLm];exact hN);have:=qmI (B0:=B0) (w0:=w0) hG h1 (inp:=qhC s) (λv hv=>by have:=qoF s v hv;omega) (steps:=N) zo hN2;rw[hK] at this;exact⟨K,this⟩
theorem qp7(hG:Pp.GW B0 w0):LCalls (KC B0 w0) 7 [] [] (Ret (bool true)):=by
 obtain⟨K,hx⟩:=qt8 (B0:=B0) (w0:=w0) hG [49,50,51,52,53,54,55,56,57] (N:=100000) zDd zDd;rw[qs7] at hx;have hb:=qmH (B0:=B0) (w0:=w0) [49,50,51,52,53,54,55,56,57] zDd;have hy:=qnw (B0:=B0) (w0:=w0) hG;generalize (qhC [49,50,51,52,53,54,55,56,57]).map u32=ins at hx hb;refine zcI Tryz.func7 rfl (n:=20) rfl rfl rfl ?_;refine gar ?_;refine oS (sF [_] rfl hb<|oS (sL (s:=1) (es:=[str nCrc,str qgS]) [_,_] rfl (qaY [nCrc,qgS]) rfl rfl rfl ?_) rfl) rfl;refine oS (sF [_,_,_] rfl hx<|oS (zsA λb1=>?_) rfl) rfl;refine gaa ?_;refine oS (sF [_,_,_] rfl hy<|oS (zsA λb2=>?_) rfl) rfl;refine gaa ?_;refine zoB 10 rfl (λ_=>?_) (λh=>absurd rfl (zf h));refine zoB 15 rfl (λ_=>?_) (λh=>absurd rfl (zf h));refine oP (Pure.eqOutT (a:=[]) (b:=[]) (i:=9) (k:=9) (j:=0) (l:=0) rfl rfl rfl rfl rfl) rfl<|gab ?_;exact qac rfl (zra rfl) rfl
end
open Mch (qou qhp qqv us)
open Cmp (defO)
open Go.Stele.Wi.Wc (runC qd4)
def qeB:List UInt8:=[43,45,42,47,37,94,60,64,33,63,58,59,44,46,36,48,49,50,51,52,53,54,55,56,57,32,10]
theorem quP{c:UInt8}(h:qch.contains c=true∨c=32):Go.Lib.contains qeB [c]=true:=by
 have key:∀ n:Nat,n<256->(qch.contains (UInt8.ofNat n)=true∨UInt8.ofNat n=32)->Go.Lib.contains qeB [UInt8.ofNat n]=true:=by decide +kernel
 have:=key c.toNat c.toNat_lt;rw[UInt8.ofNat_toNat] at this;exact this h
theorem qqV{c:UInt8}(h:qch.contains c=true∨c=32):32<=c.toNat/\c.toNat<=126:=by
 have key:∀ n:Nat,n<256->(qch.contains (UInt8.ofNat n)=true∨UInt8.ofNat n=32)->32<=n/\n<=126:=by decide +kernel
 have:=key c.toNat c.toNat_lt;rw[UInt8.ofNat_toNat] at this;exact this h
theorem qv9:∃ code,Prog rdN code/\code≠[]/\(∀ c∈code,qch.contains c=true∨c=32)/\∀ a,a<4294967296->∃ K,runM 3000000 (qdD code 10000 [a])=(0,[],K):=by
 have hsz:=Wi.Wc.Rd.rd_sz;have hm:cmpP Wi.Wc.Rd.P.vars (qbd Wi.Wc.Rd.P) Wi.Wc.Rd.P.funcs defO=.ok (join (qaT Wi.Wc.Rd.P Wi.Wc.Rd.O0) [32]):=Wi.Wc.Rd.rd_cmp;have h1:=Pp.asm_len2 hsz zDd hm;have h2:=qpI (join (qaT Wi.Wc.Rd.P Wi.Wc.Rd.O0) [32]);generalize join (qaT Wi.Wc.Rd.P Wi.Wc.Rd.O0) [32]=x at hm h1 h2
 have run:∀ a,a<4294967296->∃ code labs K,asmP (join (optP (qbi x)) [32]) 10000=.ok (code,labs)/\code.length<=40000/\∀ N,180101<=N->runM N (qdD code 10000 [a])=(0,[],K):=λa ha=>by
  obtain⟨fuel,e1,e2⟩:=Wi.Wc.Rd.rd_ends a;obtain⟨x1,l1,y1,l1',K1,K1',a1,a2,a3,a4,a5,a6,a7⟩:=qd4 (o:=defO) hsz.nums hm (inp:=[a]) (λv hv=>by rw[List.mem_singleton.1 hv];exact ha) fuel 180000 (.inl e1);refine⟨y1,l1',K1',a2,by omega,λN hN=>?_⟩;have:=(a7 N zo).2;rw[e1,e2] at this;exact this
 obtain⟨code,labs,K,q1,q2,q3⟩:=run 0 zDd;have hch:=(qi9 q1).2.2
 have ho:qcc x=(join (optP (qbi x)) [32],0):=by
  unfold qcc;rw[zn zo]
 refine⟨code,⟨by decide,⟨_,_,6000,x,_,labs,0,qxH,quS,hsz,by decide,Wi.Wc.Rd.rd_chk,hm,by omega,ho,by omega,q1⟩,q2⟩,λh=>?_,hch,λa ha=>?_⟩;subst h;have h3:=q3 3000000 zDd
 have h4:(runM 3000000 (qdD [] 10000 [0])).1≠0:=by
  have:decide ((runM 3000000 (qdD [] 10000 [0])).1≠0)=true:=by kernel_rfl
  exact zt this
 rw[h3] at h4;exact h4 rfl;obtain⟨code2,labs2,K2,r1,r2,r3⟩:=run a ha;rw[q1] at r1;injection r1 with r1;injection r1 with r1 _;subst r1;exact⟨K2,r3 3000000 zDd⟩
section
variable{B0:Nat}{w0:World}
theorem qle(hG:GW B0 w0)(hM:Asm.GM w0)(s p:List UInt8)(hs:s.length<=1000000):LCalls (KC B0 w0) 33 [str s,str p] [] (Ret (bool (Go.Lib.contains s p))):=by
 refine LCalls.ret_of (vs:=[.string ⟨s.toArray⟩,.string ⟨p.toArray⟩]) λw hb=>?_;obtain⟨m,hm⟩:=Asm.GM.at hG hM hb;refine(Go.Proofs.Tryz.strings_Contains ⟨s.toArray⟩ ⟨p.toArray⟩ m w ?_ hm).mono λe w' he=>?_;show s.toArray.size<_;rw[List.size_toArray];omega;obtain⟨h1,h2⟩:=he;subst h2;exact⟨by simpa using h1,Below.refl _ _⟩
theorem qnM(hG:GW B0 w0)(hM:Asm.GM w0)(s:List UInt8)(hs:s.length<=1000000)(h:∀ c∈s,qch.contains c=true∨c=32):LCalls (KC B0 w0) 20 [str s] [] (Ret (.tuple [int .i64 0,int .i64 0])):=by
 refine zcI Tryz.func20 rfl (n:=19) rfl rfl rfl ?_;refine gaa ?_
 refine zoL (λk ls H=>∃ i:Nat,i<=s.length/\k=s.length-i/\ls=[(0,str s),(6,int .i64 s.length),(7,int .i64 (i:Nat))]/\H=[])
  ⟨_,_,_,⟨0,Nat.zero_le _,rfl,rfl,rfl⟩,⟨rfl,rfl,rfl,trivial⟩,zhR _⟩ ?_
 rintro k ls H ⟨i,hi,rfl,rfl,rfl⟩ j hj;refine gai ?_;refine zoC rfl (λhc=>?_) (λhc=>?_);have hlt:i<s.length:=by have:=zt hc;omega
 have hsl:(s.take ((i:Int)+1).toNat).drop ((i:Nat):Int).toNat=[s[i]]:=by
  rw[show((i:Int)+1).toNat=i+1 by omega,Int.toNat_natCast,List.take_succ_eq_append_getElem hlt,List.drop_append_of_le_length (by rw[List.length_take];omega),List.drop_eq_nil_of_le (by rw[List.length_take];omega)];rfl
 refine gac ?_;refine oP (Pure.ssliceE (l:=s) (m:=[s[i]]) (i:=(i:Nat)) (j:=(i:Int)+1) rfl ⟨_,rfl⟩ ⟨_,rfl⟩ zo zo zo hsl) rfl<|oS (sF [_,_] rfl (qle hG hM qeB [s[i]] zDd) ?_) rfl;rw[quP (h _ (List.getElem_mem hlt))];refine gad ?_;refine zoC rfl (λhc=>by cases hc) (λ_=>?_);refine gac ?_;exact⟨_,_,_,by omega,⟨i+1,by omega,rfl,rfl,rfl⟩,⟨rfl,rfl,qap zo,trivial⟩,zhR _,hj⟩;refine gac ?_;exact qac hj (rC (zrt rfl) (zra rfl)) rfl
theorem qoa(hG:Pp.GW B0 w0){code:Wd}(h:Prog rdN code):LCalls (KC B0 w0) 19 [] [] (Ret (str code)):=by
 have hp:=qb4 (B0:=B0) (w0:=w0) hG h;have hn:=qpP (B0:=B0) (w0:=w0);have e8:(nmS.map str).take 8=rdN.map str:=by rw[<-qxC,List.map_take]
 have hl:(nmS.map str).length=15:=by rw[zLm];rfl
 have hs1:∀ v∈nmS.map str,v.cells.length=1:=λv hv=>by
  obtain⟨a,_,rfl⟩:=List.mem_map.1 hv;rfl
 generalize nmS.map str=ns at *;generalize rdN.map str=rs at *;refine zcI Tryz.func19 rfl (n:=10) rfl rfl rfl ?_;refine gar ?_;refine oS (sF [] rfl hn<|oP (Pure.to (Pure.lslice (i:=0) (j:=8) rfl rfl ⟨_,rfl⟩ zDd zDd (by rw[hl];decide) hs1) (by show LV.list ((ns.take 8).drop 0)=.list rs;rw[List.drop_zero,e8])) rfl ?_) rfl;refine oS (sF [_] rfl hp ?_) rfl;refine gac ?_;exact qac rfl (zra rfl) rfl
theorem qjC(hG:Pp.GW B0 w0){a:Nat}(ha:a<4294967296):LCalls (KC B0 w0) 6 [int .u32 (a:Int)] [] (Ret (bool true)):=by
 have hal:=qp7 (B0:=B0) (w0:=w0) hG;obtain⟨x,h1,h2,hxc,h3⟩:=qv9;obtain⟨K,hK⟩:=h3 a ha;have hr:=qoa (B0:=B0) (w0:=w0) hG h1;have hxl:=h1.len;have hck:=qnM (B0:=B0) (w0:=w0) hG.base hG.mx x zo hxc;have hrun:=qhp (B0:=B0) (w0:=w0) (code:=x) (og:=10000) (inp:=[a]) (steps:=3000000) zo zDd (λv hv=>by rw[List.mem_singleton.1 hv];exact ha) zDd zDd;rw[hK] at hrun;unfold qou qqv at hrun;have hrun:LCalls (KC B0 w0) _ [.list [.agg [int .i64 10000,str x]],int .i64 10000,.list [int .u32 (a:Int)],int .i64 3000000] _ (Ret (.agg [str [],int .i64 0,int .i64 (K:Nat)])):=hrun;clear h1 h3 hK;refine zcI Tryz.func6 rfl (n:=57) rfl rfl rfl ?_;refine gar ?_;refine oS (sF [] rfl hal ?_) rfl;refine gad ?_;refine zoC rfl (λhc=>by cases hc) (λ_=>?_);refine gak ?_;refine oS (sF [] rfl hr ?_) rfl;refine gao ?_;refine oS (sF [_] rfl hck ?_) rfl;refine gaa ?_;refine zoB 22 rfl (λh=>absurd (zt h) h2) (λ_=>?_);refine gad ?_;refine zoC rfl (λh=>?_) (λ_=>?_);have:=zt h;omega;refine gaa ?_
 refine zoL (λk sl H=>∃ i:Nat,i<=x.length/\k=x.length-i/\sl=[(0,int .u32 (a:Int)),(3,str x),(28,int .i64 x.length),(29,int .i64 (i:Nat))]/\H=[])
  ⟨_,_,_,⟨0,Nat.zero_le _,rfl,rfl,rfl⟩,⟨rfl,rfl,rfl,rfl,trivial⟩,HSub.nil _⟩ ?_
 rintro k sl H ⟨i,hi,rfl,rfl,rfl⟩ j hj;refine gai ?_;refine zoC rfl (λhc=>?_) (λhc=>?_);have hlt:i<x.length:=by have:=zt hc;omega
 obtain⟨p1,p2⟩:=qqV (hxc _ (List.getElem_mem hlt));have hget:x[((i:Nat):Int).toNat]? = some x[i]:=by rw[Int.toNat_natCast,List.getElem?_eq_getElem hlt]
 generalize x[i]=ch at *;refine gac ?_;refine oP (pI (c:=ch) rfl rfl zo hget) rfl<|gab ?_;refine zoB 36 rfl (λhc=>?_) (λ_=>?_);have:=zt hc;omega;refine gaj ?_;refine oP (pI (c:=ch) rfl rfl zo hget) rfl<|gad ?_;refine zoC rfl (λhc=>?_) (λ_=>?_);have:=zt hc;omega;refine gac ?_;exact⟨_,_,_,by omega,⟨i+1,by omega,rfl,rfl,rfl⟩,⟨rfl,rfl,rfl,qap zo,trivial⟩,zhR _,hj⟩;refine gaa ?_;refine oS (sL (s:=2) (es:=[.agg [int .i64 10000,str x]]) [_] rfl (eC rfl rfl eN) rfl rfl rfl ?_) rfl;refine gaj ?_;refine oS (sL (s:=1) (es:=[int .u32 (a:Int)]) [_] rfl (eC rfl rfl eN) rfl rfl rfl<|oS (sF [_,_,_,_] rfl hrun ?_) rfl) rfl;refine oS (zsA λb7=>?_) rfl;refine gaa ?_;exact qac hj (zra rfl) rfl
end
end Go.Proofs.YtkihibnffkpnkaaGreatDoor.Lb
