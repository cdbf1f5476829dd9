import Derived.Shelf.Strings.Builder1
import Derived.Shelf.Strings.Builder2
import Derived.Shelf.Strings.OnBuilder
import Derived.Shelf.Strings.Trim
import Derived.Shelf.Small.Utf8
import Derived.Shelf.Small.Strs
import Derived.Shelf.Small.Wraps
import Derived.Shelf.Strings.BuilderF
import Derived.Shelf.Strings.BuilderK
import Derived.Shelf.Utf8.RuneCount
import Derived.Shelf.Strings.Builder2Cap
import Derived.Shelf.Strconv.Itoa0
import Derived.Shelf.Strconv.Itoa1
import Derived.Shelf.LaysM
import Derived.Shelf.Strconv.Itoa2
import Derived.Shelf.Strconv.Itoa3
import Derived.Shelf.Strconv.Clone
import Derived.Shelf.Strconv.SyntaxError
import Derived.Shelf.LaysC
import Derived.Shelf.Strconv.ToError
import Derived.Shelf.Strconv.Lower
import Derived.Shelf.Strconv.ParseUint10
import Derived.Shelf.Strconv.ParseUint10Empty
import Derived.Shelf.Strconv.ParseUint10Any
import Derived.Shelf.Strconv.RangeError
import Derived.Shelf.Strconv.ToErrorRange
import Derived.Shelf.Strconv.ParseUintEmpty
import Derived.Shelf.Strconv.ParseUint10b64
import Derived.Shelf.Strconv.ParseUint10b32
import Derived.Shelf.Strconv.ParseUint10b16
import Derived.Shelf.Strconv.ParseUint10b8
import Derived.Shelf.Strconv.ParseUint10At
import Derived.Ground.MpProg
import Derived.Shelf.Pu.ParseUintPublic10
import Derived.Shelf.Pu.ErrVarParseUint
import Derived.Shelf.Strings.Search1
import Derived.Shelf.Strings.Search2
import Derived.Shelf.Strings.Search3
import Derived.Shelf.Strings.Cut
import Derived.Shelf.Strings.Count
import Derived.Shelf.Strings.Shaped
import Derived.Shelf.Strings.Prefix
import Derived.Shelf.Strings.Split
import Derived.Shelf.Strings.SplitShaped
import Derived.Shelf.Unicode.Decode
import Derived.Shelf.Strings.Runes
import Derived.Shelf.Strings.RuneCount
import Derived.Shelf.Strings.AsciiSet
import Derived.Shelf.Strings.Explode
import Derived.Shelf.Unicode.DecodeSlow
import Derived.Shelf.Unicode.DecodeAny
import Derived.Shelf.Unicode.DecodeLast
import Derived.Shelf.Strings.BuilderCap
import Derived.Shelf.Slices.Turned
import Derived.Ground.Names2Prog
import Derived.Shelf.Slices.Clone
import Derived.Lib.Walk
import Derived.Lib.ItoaMem
import Derived.Lib.AppendIntMem
import Derived.WalkKit
import Derived.BigCall
import Derived.BigGuard
import Derived.WalkSmall
import Derived.Test.YtmnjklgnhpnckaaGreatDoorBRowLV8
set_option linter.unusedVariables false
set_option linter.unusedSimpArgs false
set_option maxRecDepth 100000
set_option maxHeartbeats 4000000
open Go.GL (zk)
open List (mem_append_right length_drop)
open Nat (lt_succ_self)
namespace Go.ia.Wi.Wc.Q.Lb
open Go.Lib
def XB(i s:Nat):Nat:=Wb (Wb (fc 4 i) 4) (cg s 2)
def WB(i s:Nat):Nat:=Wb (Wb (fc 4 i) 6) (cg s 2)
def Kp(cd co:Nat->Nat)(i s:Nat):Nat:=Wb (co (XB i s)) (jf cd i s 0)
def Jp(cd co:Nat->Nat)(i s:Nat):Nat:=Wb (co (WB i s)) (jf cd i s 1)
def OI(co:Nat->Nat):Nat->Nat:=Li (Li (Li (Li co 1672 0) 1673 100000) 1674 100000) 1675 100000
abbrev Row:=(Nat->Nat)×Nat×Nat
def Vj(cd:Nat->Nat)(y:Nat)(q:Row):Row:=(List.range 4).foldl (λq s=>(Li q.1 (Wb (fc 4 y) s) (Mi (Zh y 416) (Mi (Zh (Jp cd q.1 y s) (Kp cd q.1 y s)) (Jp cd q.1 y s) (Kp cd q.1 y s)) (Kp cd q.1 y s)),Mi (Zh y 416) (Mi (Zh (Jp cd q.1 y s) (Kp cd q.1 y s)) (Jp cd q.1 y s) (Kp cd q.1 y s)) (Kp cd q.1 y s),Mi (Zh y 416) (Jp cd q.1 y s) q.2.2)) q
def lh(cd:Nat->Nat)(q:Row):Nat->Row
 |0=>q
 |j+1=>Vj cd (417-j) (lh cd q j)
structure Way where
 s:Nat
 a:Nat
 b:Nat
 u:Nat
 pl:Nat->Nat
def Yi(cd co:Nat->Nat)(i:Nat)(q:Way):Way:=
 let u:=Mi (Zh i 416) (Mi (Zh (Jp cd co i q.s) (Kp cd co i q.s)) 1 0) 0
 ⟨Wb (fc 2 u) (cg q.s 2),Mi (Zh i 416) (Kp cd co i q.s) q.a,Mi (Zh i 416) (Jp cd co i q.s) q.b,u,Li q.pl i u⟩
def Dd(cd co:Nat->Nat)(q:Way):Nat->Way
 |0=>q
 |i+1=>Yi cd co i (Dd cd co q i)
theorem xP{c a b n:Nat}(ha:a<=n)(hb:b<=n):Mi c a b<=n:=by unfold Mi;split;exact hb;exact ha
theorem O7(cd co:Nat->Nat)(q:Way)(hq:q.s<4):∀ i,(Dd cd co q i).s<4
 |0=>hq
 |i+1=>by have h:=O7 cd co q hq i;have hu:Mi (Zh i 416) (Mi (Zh (Jp cd co i (Dd cd co q i).s) (Kp cd co i (Dd cd co q i).s)) 1 0) 0<=1:=xP (xP (Jb 1) (Nat.zero_le 1)) (Nat.zero_le 1);show Wb (fc 2 (Mi (Zh i 416) (Mi (Zh (Jp cd co i (Dd cd co q i).s) (Kp cd co i (Dd cd co q i).s)) 1 0) 0)) (cg (Dd cd co q i).s 2)<4;generalize Mi (Zh i 416) (Mi (Zh (Jp cd co i (Dd cd co q i).s) (Kp cd co i (Dd cd co q i).s)) 1 0) 0=u at hu ⊢;unfold Wb fc cg;omega
def TV(i s a b u:Nat)(cd pl co:Nat->Nat)(ip:List Nat)(op:List UInt8):Tt:=⟨[(ky Mn bf,i),(ky Mn Pj,s),(ky Mn TD,a),(ky Mn Zp,b),(ky Mn Hm,u)],[(Cm,(836,cd)),(Bq,(418,pl)),(Kr,(1676,co))],ip,op⟩
abbrev E6:List Sm:=Zu (yF.drop 5)
abbrev bV2:List Sm:=Zu (yF.drop 7)
abbrev xV:List Nm:=Jx WJ
section
variable{P:Pr}(hB:Lh P rB=WJ)
include hB
theorem qu0(cd pl:Nat->Nat)(u:Nat)(ip:List Nat)(op:List UInt8)(y s:Nat)(hy:y<418)(q:Row):Bx P xV zx E6 (TV (y+1) s q.2.1 q.2.2 u cd pl q.1 ip op) 8000 none (TV y 4 (Vj cd y q).2.1 (Vj cd y q).2.2 u cd pl (Vj cd y q).1 ip op):=by
 have e:zy (y+1) 1=y:=by unfold zy;omega
 have h4:∀ s,s<4->XB y s<1676:=λs hs=>by unfold XB Wb fc cg;omega
 have h6:∀ s,s<4->(Zh y 416≠0->decide (WB y s<1676)=true):=λs hs _=>Nf (by unfold WB Wb fc cg;omega);have hg:Zh y 416≠0->decide (y<418)=true:=λ_=>Nf hy;have hw:∀ s,s<4->Wb (fc 4 y) s<1676:=λs hs=>by unfold Wb fc;omega
 have hk:Bx P xV zx (E6.drop 1) (TV y s q.2.1 q.2.2 u cd pl q.1 ip op) 7900 none (TV y 4 (Vj cd y q).2.1 (Vj cd y q).2.2 u cd pl (Vj cd y q).1 ip op):=Bx.mono
  (Bx.run bj 1 (TV y 0 q.2.1 q.2.2 u cd pl q.1 ip op) [] zk
  (Bx.o7 (qs9 hB) 4 (TV y 4 (Vj cd y q).2.1 (Vj cd y q).2.2 u cd pl (Vj cd y q).1 ip op) [pb (h4 0 fa),pb hy,pf (h6 0 fa),pf hg,pb (hw 0 fa),pb (h4 1 fa),pb hy,pf (h6 1 fa),pf hg,pb (hw 1 fa),pb (h4 2 fa),pb hy,pf (h6 2 fa),pf hg,pb (hw 2 fa),pb (h4 3 fa),pb hy,pf (h6 3 fa),pf hg,pb (hw 3 fa)] zk zk Bx.nil)) (Mq zk)
 have h0:Bx P xV zx (E6.take 1) (TV (y+1) s q.2.1 q.2.2 u cd pl q.1 ip op) 30 none (TV (zy (y+1) 1) s q.2.1 q.2.2 u cd pl q.1 ip op):=Bx.mono (Bx.fin bj [] zk) (Mq zk);rw[e] at h0;exact(Bx.cut 1 h0 hk).mono fa
theorem qsN(cd co:Nat->Nat)(ip:List Nat)(op:List UInt8)(i:Nat)(hi:i<418)(q:Way)(hq:q.s<4):Bx P xV zx bV2 (TV i q.s q.a q.b q.u cd q.pl co ip op) 3000 none (TV (i+1) (Yi cd co i q).s (Yi cd co i q).a (Yi cd co i q).b (Yi cd co i q).u cd (Yi cd co i q).pl co ip op):=by have h4:Zh i 416≠0->decide (XB i q.s<1676)=true:=λ_=>Nf (by unfold XB Wb fc cg;omega);have h6:Zh i 416≠0->decide (WB i q.s<1676)=true:=λ_=>Nf (by unfold WB Wb fc cg;omega);have hg:Zh i 416≠0->decide (i<418)=true:=λ_=>Nf hi;have h:=Bx.mono (Bx.fin (P:=P) (X:=xV) (f:=zx) (b:=bV2) (t:=TV i q.s q.a q.b q.u cd q.pl co ip op) (t':=TV (Wb i 1) (Yi cd co i q).s (Yi cd co i q).a (Yi cd co i q).b (Yi cd co i q).u cd (Yi cd co i q).pl co ip op) (qs9 hB) [pf h4,pf hg,pf h6,pf hg,pb hi] zk) (K1:=3000) (Mq zk);rw[RP (n:=418) fa hi] at h;exact h
omit hB in
theorem qya(cd:Nat->Nat)(y:Nat)(g:Nat->Nat)(a b a' b':Nat):(Vj cd y (g,a,b)).1=(Vj cd y (g,a',b')).1:=zk
omit hB in
theorem N'(cd:Nat->Nat)(g:Nat->Nat)(a b:Nat):∀ j,(lh cd (g,a,b) j).1=(lh cd (g,0,0) j).1
 |0=>rfl
 |j+1=>by have h:=N' cd g a b j;show(Vj cd (417-j) (lh cd (g,a,b) j)).1=(Vj cd (417-j) (lh cd (g,0,0) j)).1;generalize lh cd (g,a,b) j=p at h;generalize lh cd (g,0,0) j=q at h;obtain⟨p1,p2,p3⟩:=p;obtain⟨q1,q2,q3⟩:=q;obtain rfl:p1=q1:=h;exact qya cd _ p1 p2 p3 q2 q3
omit hB in
theorem I9(cd co:Nat->Nat)(p q:Way)(h:p.s=q.s/\p.pl=q.pl):∀ i,(Dd cd co p i).s=(Dd cd co q i).s/\(Dd cd co p i).pl=(Dd cd co q i).pl
 |0=>h
 |i+1=>by obtain⟨h1,h2⟩:=I9 cd co p q h i;show(Yi cd co i (Dd cd co p i)).s=(Yi cd co i (Dd cd co q i)).s/\(Yi cd co i (Dd cd co p i)).pl=(Yi cd co i (Dd cd co q i)).pl;unfold Yi;rw[h1,h2];exact⟨rfl,rfl⟩
def Yh(cd co:Nat->Nat):Nat->Nat:=(lh cd (OI co,0,0) 418).1
def CF(cd co pl:Nat->Nat):Nat->Nat:=(Dd cd (Yh cd co) ⟨0,0,0,0,pl⟩ 418).pl
theorem qwF(hV:Lh P Mn=zx)(f:Pb)(cd pl co:Nat->Nat)(ip:List Nat)(op:List UInt8):Ox P (xV++Jx zx) f Mn [] ⟨[],[(Cm,(836,cd)),(Bq,(418,pl)),(Kr,(1676,co))],ip,op⟩ 5000000 0 ⟨[],[(Cm,(836,cd)),(Bq,(418,CF cd co pl)),(Kr,(1676,Yh cd co))],ip,op⟩:=by
 refine Ox.of (r:=none) (Y:=xV) hV zk λz=>?_;generalize hq:(OI co,z (ky Mn TD),z (ky Mn Zp))=q;have h1:∀ j,(lh cd q j).1=(lh cd (OI co,0,0) j).1:=λj=>by rw[<-hq];exact N' cd _ _ _ j
 let sA:Nat->Nat:=λj=>if j=0 then z (ky Mn Pj) else 4
 generalize hw:(⟨0,(lh cd q 418).2.1,(lh cd q 418).2.2,z (ky Mn Hm),pl⟩:Way)=w;have yN:w.s=0:=by rw[<-hw]
 have hco:(lh cd q 418).1=Yh cd co:=h1 418;have Un:(Dd cd (Yh cd co) w 418).pl=CF cd co pl:=(I9 cd (Yh cd co) w ⟨0,0,0,0,pl⟩ (by rw[<-hw];exact⟨rfl,rfl⟩) 418).2;have k2:Bx P xV zx (yF.drop 7) (TV 0 0 (lh cd q 418).2.1 (lh cd q 418).2.2 (z (ky Mn Hm)) cd pl (Yh cd co) ip op) 1600000 none (TV 418 (Dd cd (Yh cd co) w 418).s (Dd cd (Yh cd co) w 418).a (Dd cd (Yh cd co) w 418).b (Dd cd (Yh cd co) w 418).u cd (CF cd co pl) (Yh cd co) ip op):=by rw[<-Un];have:=Bx.loop (P:=P) (X:=xV) (f:=zx) (b:=yF.drop 7) (d:=3000) (c:=cX [] (Cg (yF.drop 7))) (λi=>TV i (Dd cd (Yh cd co) w i).s (Dd cd (Yh cd co) w i).a (Dd cd (Yh cd co) w i).b (Dd cd (Yh cd co) w i).u cd (Dd cd (Yh cd co) w i).pl (Yh cd co) ip op) 418 (λi=>Zh i 418) zk (λi _=>Cd.of bj [] zk) (λi hi=>by rw[ID hi];decide) fa (λi hi=>qsN hB cd (Yh cd co) ip op i hi _ (O7 cd _ w (by rw[yN];decide) i)) Bx.nil;rw[<-hw] at this ⊢;exact this.mono (Mq zk)
 have k1:Bx P xV zx (yF.drop 5) (TV 418 (z (ky Mn Pj)) q.2.1 q.2.2 (z (ky Mn Hm)) cd pl q.1 ip op) 4990000 none (TV 418 (Dd cd (Yh cd co) w 418).s (Dd cd (Yh cd co) w 418).a (Dd cd (Yh cd co) w 418).b (Dd cd (Yh cd co) w 418).u cd (CF cd co pl) (Yh cd co) ip op):=by
  have:=Bx.loop (P:=P) (X:=xV) (f:=zx) (b:=yF.drop 5) (d:=8000) (c:=cX [] (Cg (yF.drop 5))) (λj=>TV (418-j) (sA j) (lh cd q j).2.1 (lh cd q j).2.2 (z (ky Mn Hm)) cd pl (lh cd q j).1 ip op) 418 (λj=>OL (418-j) 0) zk (λi _=>Cd.of bj [] zk) (λi hi=>by unfold OL;rw[Nf (by omega)];decide) fa (λi hi=>by
   have e1:418-i=(417-i)+1:=by omega
   have e2:418-(i+1)=417-i:=by omega
   rw[e1,e2];exact qu0 hB cd pl _ ip op (417-i) _ ga _) (t':=TV 418 (Dd cd (Yh cd co) w 418).s (Dd cd (Yh cd co) w 418).a (Dd cd (Yh cd co) w 418).b (Dd cd (Yh cd co) w 418).u cd (CF cd co pl) (Yh cd co) ip op) (K:=1600100) (r:=none) (by
    rw[hco];exact(Bx.run bj 1 (TV 0 0 (lh cd q 418).2.1 (lh cd q 418).2.2 (z (ky Mn Hm)) cd pl (Yh cd co) ip op) [] zk k2).mono (Mq zk))
  exact this.mono (Mq zk)
 rw[<-hq] at k1;exact⟨_,Bx.mono (Bx.run bj 5 (TV 418 (z (ky Mn Pj)) (z (ky Mn TD)) (z (ky Mn Zp)) (z (ky Mn Hm)) cd pl (OI co) ip op) [] zk k1) (Mq zk),zk⟩
end
def lE(pl:Nat->Nat)(i:Nat):Nat:=(List.range 8).foldl (λb k=>Wb (fc 2 b) (pl (Wb (fc 8 i) k))) 0
def tq(pl wd:Nat->Nat):Nat->Nat->Nat
 |0=>wd
 |i+1=>Li (tq pl wd i) i (lE pl i)
theorem B8(pl wd:Nat->Nat)(j:Nat):∀ i,j<i->tq pl wd i j=lE pl j
 |i+1,h=>by show Ms (decide (j=i)) (lE pl i) (tq pl wd i j)=_;rw[CJ];by_cases e:j=i;rw[zp e,e];rw[zn e];exact B8 pl wd j i ga
def TI(i k b:Nat)(cd pl co wd:Nat->Nat)(ip:List Nat)(op:List UInt8):Tt:=⟨[(ky Ul bf,i),(ky Ul Cx,k),(ky Ul Zp,b)],[(Cm,(836,cd)),(Bq,(418,pl)),(Kr,(1676,co)),(bM,(52,wd))],ip,op⟩
def ZS(cd pl co wd:Nat->Nat)(ip:List Nat)(op:List UInt8):Tt:=⟨[],[(Cm,(836,cd)),(Bq,(418,pl)),(Kr,(1676,co)),(bM,(52,wd))],ip,op⟩
abbrev bI:List Sm:=Zu (CM.drop 2)
abbrev xI:List Nm:=xV++Jx zx++Jx vB
section
variable{P:Pr}
theorem qvu(cd pl co wd:Nat->Nat)(k b:Nat)(ip:List Nat)(op:List UInt8)(i:Nat)(hi:i<52):Bx P xI kF bI (TI i k b cd pl co wd ip op) 1200 none (TI (i+1) 8 (lE pl i) cd pl co (Li wd i (lE pl i)) ip op):=by
 have h0:∀ k,k<8->Wb (fc 8 i) k<418:=λk hk=>by unfold Wb fc;omega
 have h:=Bx.mono (Bx.run (P:=P) (X:=xI) (f:=kF) (b:=bI) (t:=TI i k b cd pl co wd ip op) (t':=TI (Wb i 1) 8 (lE pl i) cd pl co (Li wd i (lE pl i)) ip op) bj 2 (TI i 0 0 cd pl co wd ip op) [] zk
  (Bx.o7 bj 8 (TI i 8 (lE pl i) cd pl co wd ip op) [pb (h0 0 fa),pb (h0 1 fa),pb (h0 2 fa),pb (h0 3 fa),pb (h0 4 fa),pb (h0 5 fa),pb (h0 6 fa),pb (h0 7 fa)] zk zk
  (Bx.fin bj [pb hi] zk))) (K1:=1200) (Mq zk)
 rw[RP (n:=52) fa hi] at h;exact h
def kI(k:Nat):Nat->Nat
 |0=>k
 |_+1=>8
def bB(b:Nat)(pl:Nat->Nat):Nat->Nat
 |0=>b
 |j+1=>lE pl j
theorem p9(cd pl co wd:Nat->Nat)(i k b:Nat)(ip:List Nat)(op:List UInt8):Bx P xI kF (CM.drop 1) (TI i k b cd pl co wd ip op) 100000 none (TI 52 (kI k 52) (bB b pl 52) cd pl co (tq pl wd 52) ip op):=by have h:=Bx.loop (P:=P) (X:=xI) (f:=kF) (b:=CM.drop 2) (d:=1200) (c:=cX [] (Cg (CM.drop 2))) (λi=>TI i (kI k i) (bB b pl i) cd pl co (tq pl wd i) ip op) 52 (λi=>Zh i 52) zk (λi _=>Cd.of bj [] zk) (λi hi=>by rw[ID hi];decide) fa (λi hi=>qvu cd pl co (tq pl wd i) _ _ ip op i hi) (Bx.nil (f:=kF));exact(Bx.run (b:=CM.drop 1) (t1:=TI 0 k b cd pl co wd ip op) bj 1 [] zk h).mono (Mq zk)
def cz(cd pl co Vg:Nat->Nat):Prop:=(zL cd/\Vg=dm cd pl 418)∨(¬zL cd/\∃ Gq,Vg=CF cd co Gq)
theorem qxJ(hB:Lh P rB=WJ)(hX:Lh P Uu=vB)(hV:Lh P Mn=zx)(hI:Lh P Ul=kF)(cd pl co wd:Nat->Nat)(ip:List Nat)(op:List UInt8):∃ Vg FL,cz cd pl co Vg/\∀ f,Ox P (xI++Jx kF) f Ul [] (ZS cd pl co wd ip op) 5400000 0 (ZS cd Vg FL (tq Vg wd 52) ip op):=by
 obtain⟨v,Gq,h1,h2,h3⟩:=qvn (P:=P) hX cd pl ip op;have o1:Mf P xI [(Uu,200000)] [(Uu,DF [] ⟨[],[(Cm,(836,cd)),(Bq,(418,pl))],ip,op⟩ ⟨[],[(Cm,(836,cd)),(Bq,(418,Gq))],ip,op⟩ v)]:=bY (λf=>(h1 f).sub zk) ⟨by decide,zk⟩ bj
 by_cases hv:zL cd
 ·obtain⟨dG,Un⟩:=h2 hv;refine⟨Gq,co,.inl ⟨hv,Un⟩,λf=>Ox.of (r:=none) (Y:=xI) hI zk λz=>?_⟩;have ht:=p9 (P:=P) cd Gq co wd (z (ky Ul bf)) (z (ky Ul Cx)) (z (ky Ul Zp)) ip op;generalize tq Gq wd 52=W at ht ⊢;generalize kI (z (ky Ul Cx)) 52=A at ht;generalize bB (z (ky Ul Zp)) Gq 52=B at ht;exact⟨TI 52 A B cd Gq co W ip op,Bx.mono (Bx.iff (v:=mJ v 0) (t1:=TI (z (ky Ul bf)) (z (ky Ul Cx)) (z (ky Ul Zp)) cd Gq co wd ip op) o1 [pE [] ⟨[],[(Cm,(836,cd)),(Bq,(418,pl))],ip,op⟩] zk zk (by unfold mJ;rw[decide_eq_false dG];try rfl) Bx.nil ht) (Mq zk),zk⟩
 have dG:=h3 hv;have U2:=λf=>qwF hB hV f cd Gq co ip op;refine⟨CF cd co Gq,Yh cd co,.inr ⟨hv,Gq,rfl⟩,λf=>Ox.of (r:=none) (Y:=xI) hI zk λz=>?_⟩;have ht:=p9 (P:=P) cd (CF cd co Gq) (Yh cd co) wd (z (ky Ul bf)) (z (ky Ul Cx)) (z (ky Ul Zp)) ip op;generalize CF cd co Gq=BQ at U2 ht ⊢;generalize Yh cd co=B6 at U2 ht ⊢;generalize tq BQ wd 52=W at ht ⊢;generalize kI (z (ky Ul Cx)) 52=A at ht;generalize bB (z (ky Ul Zp)) BQ 52=B at ht;have o2:Mf P xI [(Mn,5000000)] [(Mn,DF [] ⟨[],[(Cm,(836,cd)),(Bq,(418,Gq)),(Kr,(1676,co))],ip,op⟩ ⟨[],[(Cm,(836,cd)),(Bq,(418,BQ)),(Kr,(1676,B6))],ip,op⟩ 0)]:=bY (λf=>(U2 f).sub zk) ⟨by decide,zk⟩ bj;exact⟨TI 52 A B cd BQ B6 W ip op,Bx.mono (Bx.tN (v:=mJ v 0) (t1:=TI (z (ky Ul bf)) (z (ky Ul Cx)) (z (ky Ul Zp)) cd Gq co wd ip op) o1 [pE [] ⟨[],[(Cm,(836,cd)),(Bq,(418,pl))],ip,op⟩] zk zk (by rw[dG];decide) (Bx.fin (t':=TI (z (ky Ul bf)) (z (ky Ul Cx)) (z (ky Ul Zp)) cd BQ B6 wd ip op) o2 [pE [] ⟨[],[(Cm,(836,cd)),(Bq,(418,Gq)),(Kr,(1676,co))],ip,op⟩] zk) ht) (Mq zk),zk⟩
end
end Go.ia.Wi.Wc.Q.Lb
namespace Go.ia.Wi.Wc.Q.Vm
open Go.Lib Lb
def GD:List Sm:=[sA bf (eN 0),sW (eB [60] (eV bf) (eN 836)) [sE Cm (eV bf) (eC T1 []),sA bf (eB [43] (eV bf) (eN 1))],sX (eC Ul []),sA bf (eN 0),sW (eB [60] (eV bf) (eN 52)) [sX (eC FQ [eE bM (eV bf)]),sA bf (eB [43] (eV bf) (eN 1))]]
def Zz:Pb:=⟨CX,[],[bf],GD⟩
def P:Pr:=⟨[],[⟨Cm,836⟩,⟨Bq,418⟩,⟨Kr,1676⟩,⟨bM,52⟩],[vB,WJ,zx,kF,Zz]⟩
def z0:Nat->Nat:=λ_=>0
def TM(i:Nat)(cd pl co wd:Nat->Nat)(ip:List Nat)(op:List UInt8):Tt:=⟨[(ky CX bf,i)],[(Cm,(836,cd)),(Bq,(418,pl)),(Kr,(1676,co)),(bM,(52,wd))],ip,op⟩
def cq(l:List Nat):Nat->Nat->Nat
 |0=>z0
 |i+1=>Li (cq l i) i ((l.drop i).headD 4294967295)
def On(wd:Nat->Nat):Nat->List UInt8
 |0=>[]
 |i+1=>On wd i++[UInt8.ofNat (wd i)]
abbrev xM:List Nm:=xI++Jx kF
theorem QQ(l:List Nat)(i:Nat)(hi:i<836):Bx P xM Zz (Zu (GD.drop 1)) (TM i (cq l i) z0 z0 z0 (l.drop i) []) 100 none (TM (i+1) (cq l (i+1)) z0 z0 z0 (l.drop (i+1)) []):=by have h:=Bx.mono (Bx.fin (P:=P) (X:=xM) (f:=Zz) (b:=Zu (GD.drop 1)) (t:=TM i (cq l i) z0 z0 z0 (l.drop i) []) (t':=TM (Wb i 1) (cq l (i+1)) z0 z0 z0 (l.drop i).tail []) bj [pb hi] zk) (K1:=100) (Mq zk);rw[RP (n:=836) fa hi,List.tail_drop] at h;exact h
theorem qxy(cd pl co wd:Nat->Nat)(ip:List Nat)(i:Nat)(hi:i<52):Bx P xM Zz (Zu (GD.drop 4)) (TM i cd pl co wd ip (On wd i)) 100 none (TM (i+1) cd pl co wd ip (On wd (i+1))):=by have h:=Bx.mono (Bx.fin (P:=P) (X:=xM) (f:=Zz) (b:=Zu (GD.drop 4)) (t:=TM i cd pl co wd ip (On wd i)) (t':=TM (Wb i 1) cd pl co wd ip (On wd (i+1))) bj [pb hi] zk) (K1:=100) (Mq zk);rw[RP (n:=52) fa hi] at h;exact h
theorem quW(l:List Nat):∃ Vg t',cz (cq l 836) z0 z0 Vg/\t'.o=On (tq Vg z0 52) 52/\Bx P xM Zz Zz.body ⟨[ky CX bf].map λx=>(x,0),P.ba.map λa=>(a.name,(a.size,λ_=>0)),l,[]⟩ 6000000 none t':=by
 obtain⟨Vg,FL,h1,h2⟩:=qxJ (P:=P) zk zk zk zk (cq l 836) z0 z0 z0 (l.drop 836) [];have o1:Mf P xM [(Ul,5400000)] [(Ul,DF [] (ZS (cq l 836) z0 z0 z0 (l.drop 836) []) (ZS (cq l 836) Vg FL (tq Vg z0 52) (l.drop 836) []) 0)]:=bY h2 ⟨by decide,zk⟩ bj;refine⟨Vg,TM 52 (cq l 836) Vg FL (tq Vg z0 52) (l.drop 836) (On (tq Vg z0 52) 52),h1,rfl,?_⟩;have k2:=Bx.loop (P:=P) (X:=xM) (f:=Zz) (b:=GD.drop 4) (d:=100) (c:=cX [] (Cg (GD.drop 4))) (λi=>TM i (cq l 836) Vg FL (tq Vg z0 52) (l.drop 836) (On (tq Vg z0 52) i)) 52 (λi=>Zh i 52) zk (λi _=>Cd.of bj [] zk) (λi hi=>by rw[ID hi];decide) fa (λi hi=>qxy _ _ _ _ _ i hi) (Bx.nil (f:=Zz))
 have k1:=Bx.loop (P:=P) (X:=xM) (f:=Zz) (b:=GD.drop 1) (d:=100) (c:=cX [] (Cg (GD.drop 1))) (λi=>TM i (cq l i) z0 z0 z0 (l.drop i) []) 836 (λi=>Zh i 836) zk (λi _=>Cd.of bj [] zk) (λi hi=>by rw[ID hi];decide) fa (λi hi=>QQ l i hi)
  (Bx.run o1 1 (TM 836 (cq l 836) Vg FL (tq Vg z0 52) (l.drop 836) []) [pE [] (ZS (cq l 836) z0 z0 z0 (l.drop 836) [])] zk
  (Bx.run bj 1 (TM 0 (cq l 836) Vg FL (tq Vg z0 52) (l.drop 836) []) [] zk k2))
 exact(Bx.run (b:=GD) (f:=Zz) bj 1 (TM 0 z0 z0 z0 z0 l []) [] zk k1).mono (Mq zk)
theorem Zm(l:List Nat)(Ca:Nat)(h:6000000<=Ca):∃ Vg,cz (cq l 836) z0 z0 Vg/\∃ Aa s2,mg (Hg P Aa (Ig P)) (Ig P).body (xq P l Ca)=.ok none s2/\s2.out=On (tq Vg z0 52) 52:=by
 have hm:Ig P=Zz:=by kernel_rfl
 obtain⟨Vg,t',h1,h2,hs⟩:=quW l;rw[<-hm] at hs;obtain⟨Aa,s2,g1,g2⟩:=VO _ hs h;exact⟨Vg,h1,Aa,s2,g1,g2.trans h2⟩
end Go.ia.Wi.Wc.Q.Vm
namespace Go.Proofs.YtmnjklgnhpnckaaGreatDoor.sj
open Go.GL Go.RowKit Go.ia
def WT(es:List LV)(r:Ie)(H:Heap):Prop:=∃ v,r=.ret v/\GL.Acc 1 v es H []
theorem Td{A B:Type}(g:A->B)(pre:List A)(a:A)(l:List A):((pre++a::l).map g)[((pre.length:Nat):Int).toNat]? = some (g a):=by rw[Int.toNat_natCast,List.getElem?_map,List.getElem?_append_right (Jb _),Nat.sub_self];rfl
theorem zF{H F:Heap}:HSub H (H++F):=⟨F,List.Perm.refl _⟩
theorem ZX(l:List (List UInt8)):∀ v∈l.map str,v.cells.length=1:=λv hv=>by obtain⟨a,_,rfl⟩:=Qh hv;rfl
theorem U7(l:List (List UInt8)):((l.map str).flatMap LV.cells).all yq=true:=by
 induction l with
 |nil=>rfl
 |cons a l ih=>simp only[jd,List.flatMap_cons,List.all_append,ih,Bool.and_true];rfl
section
variable{C:Ctx}{n:Nat}{e:Env}{H H':Heap}{rs:List ResultVar}{vs:List LV}{es:List LV}{v:LV}
theorem pP(hd:e.ds=[])(h:Dm C n e H rs [v])(hv:GL.Acc 1 v es H' [])(hH:HSub H' H):Kd C n rs (WT es) .ret e H:=rR hd h hH ⟨v,rfl,hv⟩
end
attribute [local irreducible] Ea fb Ya ca Go.GL.Pure ve Oe Kd LQ yb nh db LS
variable{B0:Nat}{w0:World}
theorem qrD(l:List (List UInt8))(hl:l.length<=2000000):ca (KC B0 w0) 87 [.list (l.map str)] [] (WT (l.map str)):=by refine kb Tryz.func87 rfl (n:=8) rfl rfl rfl ?_;refine xa ?_;refine oS (S.VA (es:=l.map str) rfl λb hb=>?_);refine dd ?_;refine Ma (λhc=>?_) λhc=>?_;have h0:=hb hc;refine Gj ?_;exact pP rfl (rC (rT (v:=Yb) rfl Nd) rN) (by rw[h0];exact Acc.nil) ob;refine Ti ?_;refine oS (S.Wt [] rfl Ch rfl rfl rfl λb4=>?_);refine Da ?_;refine oS (S.acc (es:=[]) (F:=[]) rfl Acc.row rfl (ZX l) (U7 l) (by simp;omega) λv' H' Ra=>?_);refine rm ?_;refine dd ?_;exact pP rfl (rC (rT (v:=v') rfl Nd) rN) Ra ob
theorem qt3(k:Nat)(hk:k<=1000000000):ca (KC B0 w0) 156 [Yb,int .i64 k] [] (WT []):=by
 refine kb Tryz.func156 rfl (n:=27) rfl rfl rfl ?_;refine xa ?_;refine Ma (λhc=>?_) λ_=>?_;have:=zt hc;omega;refine xa ?_;refine la (Pure.XA rfl)<|la (pM (lv:=Yb) rfl)<|la (Pure.To rfl)<|wa ?_;refine Ma (λhc=>?_) λhc=>?_
 have h0:0<k:=by have:=zt hc;simp at this;omega
 refine Bd ?_;refine la (Pure.XA rfl)<|la (Pure.il (n:=0) rfl rfl (Jb _))<|fi ?_;refine oS (S.tD (n:=k) rfl (Kg (by simp)) h0 zo λb cap Ue=>?_);refine Da ?_;refine la (Pure.il (n:=0) rfl rfl zo)<|Ea.VE 25 1 pH rfl (by simp) ?_;refine la (pA (lv:=.app b cap 1 []) rfl)<|wa ?_;exact pP rfl (rC (rT (v:=.app b cap 1 []) rfl Nd) rN) Acc.row ob;refine xa ?_;exact pP rfl (rC (rT (v:=Yb) rfl Nd) rN) Acc.nil ob
def Rp(l:List (List UInt8)):LV:=.list (l.map str)
theorem T8(L:List (List (List UInt8)))(M:Nat)(h:∀ l∈L,l.length<=M):L.flatten.length<=L.length * M:=by
 induction L with
 |nil=>simp
 |cons a L ih=>rw[List.flatten_cons,Ga,La,Nat.add_mul];have h1:=h a We;have h2:=ih λl hl=>h l (Pc _ hl);omega
theorem qkc(L:List (List (List UInt8)))(hL:L.length<=4)(hl:∀ l∈L,l.length<=2000000):ca (KC B0 w0) 88 [.list (L.map Rp)] [] (WT (L.flatten.map str)):=by
 have nq:=T8 L 2000000 hl;refine kb Tryz.func88 rfl (n:=36) rfl rfl rfl ?_;refine xa ?_;refine oL (λk ls H'=>∃ pre l1,L=pre++l1/\k=l1.length/\ls=[(0,.list (L.map Rp)),(3,int .i64 (pre.flatten.length:Int)),(9,.list (L.map Rp)),(10,int .i64 ((L.map Rp).length:Int)),(11,int .i64 (pre.length:Int))]/\H'=[])
  ⟨L.length,_,_,⟨[],L,rfl,rfl,rfl,rfl⟩,lb,Kb _⟩ ?_
 rintro k ls H' ⟨pre,l1,Xb,rfl,rfl,rfl⟩ j hj;have dL:pre.flatten.length<=8000000:=by have h1:=nq;rw[Xb,List.flatten_append,Ga] at h1;rw[Xb] at hL;omega
 have Kl:pre.length<=4:=by rw[Xb,Ga] at hL;omega
 refine Zg ?_;refine Ma (λhc=>?_) λhc=>?_;have na:=zt hc;rw[Db,Xb,Ga] at na
 obtain⟨a,l2,rfl⟩:∃ a l2,l1=a::l2:=by
  cases l1 with
  |nil=>simp at na
  |cons a l2=>exact⟨a,l2,rfl⟩
 have ha:(a.map str).length<=2000000:=by rw[Db];exact hl a (by rw[Xb];exact mem_append_right _ We)
 refine Ti ?_;refine la (xR (ke:=Rp a) (cs:=[Rp a]) rfl rfl zo (by rw[Xb];exact Td Rp pre a l2) rfl rfl)<|wa ?_;refine Ma (λhd=>?_) λ_=>?_;have:=zt hd;omega;refine xa ?_;exact⟨l2.length,_,_,lt_succ_self _,⟨pre++[a],l2,by rw[Xb];simp,rfl,rfl,rfl⟩,⟨rfl,Kg (by simp),rfl,rfl,Kg (by simp),trivial⟩,Kb _,hj⟩;have na:=zf hc;rw[Db,Xb,Ga] at na
 obtain rfl:l1=[]:=by
  cases l1 with
  |nil=>rfl
  |cons a l2=>simp at na;omega
 rw[de] at Xb;subst Xb;refine xa ?_;have Mk:L.flatten.length<=8000000:=by omega
 refine oS (S.Tc (H1:=[]) (F:=[]) [_,_] rfl mc (qt3 L.flatten.length zo) ?_ (by rintro ch H' ⟨v,h,_⟩;cases h));rintro v Ha ⟨_,h,Ra⟩;cases h;rw[de];refine la (pA (lv:=v) rfl)<|xa ?_;refine oL (λk ls H'=>∃ pre l1 v1 nE,L=pre++l1/\k=l1.length/\ls=[(6,v1),(25,.list (L.map Rp)),(26,int .i64 ((L.map Rp).length:Int)),(27,int .i64 (pre.length:Int))]/\H'=nE/\GL.Acc 1 v1 (pre.flatten.map str) nE [])
  ⟨L.length,_,_,⟨[],L,v,Ha,rfl,rfl,rfl,rfl,Ra⟩,lb,Kb _⟩ ?_
 rintro k ls H' ⟨pre,l1,v1,nE,Xb,rfl,rfl,rfl,Bp⟩ j2 wc;have dL:pre.flatten.length<=8000000:=by have h1:=nq;rw[Xb,List.flatten_append,Ga] at h1;rw[Xb] at hL;omega
 have Kl:pre.length<=4:=by rw[Xb,Ga] at hL;omega
 refine Zg ?_;refine Ma (λhc=>?_) λhc=>?_;have na:=zt hc;rw[Db,Xb,Ga] at na
 obtain⟨a,l2,rfl⟩:∃ a l2,l1=a::l2:=by
  cases l1 with
  |nil=>simp at na
  |cons a l2=>exact⟨a,l2,rfl⟩
 have ha:a.length<=2000000:=hl a (by rw[Xb];exact mem_append_right _ We);refine Ti ?_;refine la (xR (ke:=Rp a) (cs:=[Rp a]) rfl rfl zo (by rw[Xb];exact Td Rp pre a l2) rfl rfl)<|wa ?_;refine la (pM (lv:=v1) rfl)<|Da ?_;refine oS (S.acc rfl Bp rfl (ZX a) (U7 a) (by rw[Db,Db];omega) λv' H' Ra=>?_);refine rm ?_;refine Zk ?_
 exact⟨l2.length,_,_,lt_succ_self _,⟨pre++[a],l2,v',H',by rw[Xb];simp,rfl,rfl,rfl,by
  have e:((pre++[a]).flatten.map str)=pre.flatten.map str++a.map str:=by simp
  rw[e];exact Ra⟩,⟨rfl,rfl,rfl,Kg (by simp),trivial⟩,Kb _,wc⟩
 have na:=zf hc;rw[Db,Xb,Ga] at na;obtain rfl:l1=[]:=by
  cases l1 with
  |nil=>rfl
  |cons a l2=>simp at na;omega
 rw[de] at Xb;rw[<-Xb] at Bp;refine xa ?_;refine la (pM (lv:=v1) rfl)<|la (pA (lv:=v1) rfl)<|dd ?_;exact pP (wc.trans hj) (rC (rT (v:=v1) rfl Nd) rN) Bp ob
def Nn(f:Pb):List (List UInt8):=(f.params++f.locals).map λx=>f.name++[46]++x
theorem Sh{vars:List Nm}{fs:List Pb}(AL:LV)(dC:vars.length<=2000000)(XK:fs.length<=2000000)(fw:∀ f∈fs,bT f)(hn:∀ f∈fs,f.name.length<=1000/\∀ x∈f.params++f.locals,x.length<=1000):ca (KC B0 w0) 46 [.agg [.list (vars.map str),AL,.list (fs.map pg)]] [] (Qb (.list ((Vd vars fs).map str))):=by
 have mw:∀ f∈fs,(Nn f).length<=4000000:=λf hf=>by have h1:f.params.length<=2000000:=(fw f hf).params;have h2:f.locals.length<=2000000:=(fw f hf).locals;unfold Nn;rw[Db,Ga];omega
 have nq:∀ l:List Pb,(∀ f∈l,f∈fs)->((l.map Nn).flatten).length<=l.length * 4000000:=λl hl=>by
  have:=T8 (l.map Nn) 4000000 (λx hx=>by
   obtain⟨f,hf,rfl⟩:=Qh hx;exact mw f (hl f hf))
  rwa [Db] at this
 refine kb Tryz.func46 rfl (n:=40) rfl rfl rfl ?_;refine qe ?_;refine oS (sB rfl λb1=>?_);refine wa ?_;refine oS (S.Tc (H1:=[]) (F:=[_]) [_] rfl mc (qrD vars dC) ?_ (by rintro ch H' ⟨v,h,_⟩;cases h));rintro v Ha ⟨_,h,Ra⟩;cases h;refine Ea.perm (gi (l₂:=[_])) ?_;refine la (pA (lv:=v) rfl)<|wa ?_;refine oL (λk ls H'=>∃ pre l1 v1 nE,fs=pre++l1/\k=l1.length/\ls=[(3,v1),(12,.list (fs.map pg)),(13,int .i64 ((fs.map pg).length:Int)),(14,int .i64 (pre.length:Int))]/\H'=nE/\GL.Acc 1 v1 ((vars++(pre.map Nn).flatten).map str) nE [])
  ⟨fs.length,_,_,⟨[],fs,v,Ha,rfl,rfl,rfl,rfl,by simpa using Ra⟩,lb,Pg ob⟩ ?_
 rintro k ls nE ⟨pre,l1,v1,_,Xb,rfl,rfl,rfl,Bp⟩ j hj;have Kl:pre.length<=2000000:=by rw[Xb,Ga] at XK;omega
 have dL:((pre.map Nn).flatten).length<=8000000000000:=by have:=nq pre (λf hf=>by rw[Xb];exact List.mem_append_left _ hf);omega
 refine Zg ?_;refine Ma (λhc=>?_) λhc=>?_;have na:=zt hc;rw[Db,Xb,Ga] at na
 obtain⟨f,l2,rfl⟩:∃ a l2,l1=a::l2:=by
  cases l1 with
  |nil=>simp at na
  |cons a l2=>exact⟨a,l2,rfl⟩
 have JN:f∈fs:=by rw[Xb];exact mem_append_right _ We
 obtain⟨sw,tC⟩:=hn f JN;have WV:f.params.length<=2000000:=(fw f JN).params;have eW:f.locals.length<=2000000:=(fw f JN).locals;refine Ti ?_;refine la (xR (ke:=pg f) (cs:=[_,_,_,_]) rfl rfl zo (by rw[Xb];exact Td pg pre f l2) rfl rfl)<|Na ?_;refine oS (Jd λb5=>?_);refine wa ?_;refine oS (sL (es:=[Rp f.params,Rp f.locals]) [_,_] rfl (gd rfl rfl (gd rfl rfl Ch)) rfl rfl rfl ?_);refine oS (S.Tc (H1:=[]) (F:=(b5,.cells 168 [str f.name,Rp f.params,Rp f.locals,.list (f.body.map lc)])::nE) [_] rfl mc (qkc [f.params,f.locals] (by simp) (by
  intro l hl;rcases zc.1 hl with rfl|hl;exact WV;rw[Vi hl];exact eW)) ?_ (by rintro ch H' ⟨v,h,_⟩;cases h))
 rintro v2 Ha2 ⟨_,h,ie⟩;cases h;have Mk:[f.params,f.locals].flatten=f.params++f.locals:=by simp
 rw[Mk] at ie;refine Ea.sub 23 rfl ie.sub ?_;refine Ea.qc (H':=(b5,.cells 168 [str f.name,Rp f.params,Rp f.locals,.list (f.body.map lc)])::nE) ⟨Ha2,gi⟩ ?_;refine Da ?_;refine oL (λk ls H'=>∃ lq l3 v3 BW,f.params++f.locals=lq++l3/\k=l3.length/\ls=[(3,v3),(5,ptr b5 0),(12,.list (fs.map pg)),(13,int .i64 ((fs.map pg).length:Int)),(14,int .i64 (pre.length:Int)),(23,.list ((f.params++f.locals).map str)),(24,int .i64 (((f.params++f.locals).map str).length:Int)),(25,int .i64 (lq.length:Int))] /\
   H'=(b5,.cells 168 [str f.name,Rp f.params,Rp f.locals,.list (f.body.map lc)])::BW/\GL.Acc 1 v3 ((vars++(pre.map Nn).flatten++lq.map λx=>f.name++[46]++x).map str) BW [])
  ⟨(f.params++f.locals).length,_,_,⟨[],f.params++f.locals,v1,nE,rfl,rfl,rfl,rfl,by simpa using Bp⟩,lb,Kb _⟩ ?_
 rintro k ls H' ⟨lq,l3,v3,BW,wu,rfl,rfl,rfl,Vx⟩ j2 wc;have hb3:lq.length<=4000000:=by
  have:(f.params++f.locals).length<=4000000:=by rw[Ga];omega
  rw[wu,Ga] at this;omega
 refine Zg ?_;refine Ma (λhd=>?_) λhd=>?_;have El:=zt hd;rw[Db,wu,Ga] at El
 obtain⟨x,l4,rfl⟩:∃ a l2,l3=a::l2:=by
  cases l3 with
  |nil=>simp at El
  |cons a l2=>exact⟨a,l2,rfl⟩
 have hx:x.length<=1000:=tC x (by rw[wu];exact mem_append_right _ We);refine Ti ?_;refine la (xR (ke:=str x) (cs:=[str x]) rfl rfl zo (by rw[wu];exact Td str lq x l4) rfl rfl)<|wa ?_;refine la (pM (lv:=v3) rfl)<|Na ?_;refine oS (sL (es:=[str (f.name++[46]++x)]) [_] rfl (gd rfl rfl Ch) rfl rfl rfl<|oS (S.Jw rfl Vx rfl (ZX [f.name++[46]++x]) rfl (by rw[Db,Ga,Ga,Db,La,oc];omega) λv' H' ab=>?_));refine rm ?_;refine Zk ?_
 exact⟨l4.length,_,_,lt_succ_self _,⟨lq++[x],l4,v',H',by rw[wu];simp,rfl,rfl,rfl,by
  have e:((vars++(pre.map Nn).flatten++(lq++[x]).map λx=>f.name++[46]++x).map str)=((vars++(pre.map Nn).flatten++lq.map λx=>f.name++[46]++x).map str)++[str (f.name++[46]++x)]:=by simp
  rw[e];exact ab⟩,⟨rfl,rfl,rfl,rfl,rfl,rfl,rfl,Kg (by simp),trivial⟩,Kb _,wc⟩
 have El:=zf hd;rw[Db,wu,Ga] at El;obtain rfl:l3=[]:=by
  cases l3 with
  |nil=>rfl
  |cons a l2=>simp at El;omega
 rw[de] at wu;refine xa ?_;exact⟨l2.length,_,_,lt_succ_self _,⟨pre++[f],l2,v3,BW,by rw[Xb];simp,rfl,rfl,rfl,by
  have e:((vars++((pre++[f]).map Nn).flatten).map str)=(vars++(pre.map Nn).flatten++lq.map λx=>f.name++[46]++x).map str:=by rw[<-wu];simp[Nn]
  rw[e];exact Vx⟩,⟨rfl,rfl,rfl,Kg (by simp),trivial⟩,Pg ob,wc.trans hj⟩
 have na:=zf hc;rw[Db,Xb,Ga] at na;obtain rfl:l1=[]:=by
  cases l1 with
  |nil=>rfl
  |cons a l2=>simp at na;omega
 rw[de] at Xb;rw[<-Xb] at Bp;refine xa ?_;refine la (pM (lv:=v1) rfl)<|la (pA (lv:=v1) rfl)<|dd ?_;exact rR hj (rC (rT (v:=v1) rfl Bp.sub) rN) yd ⟨rfl,rfl⟩
end Go.Proofs.YtmnjklgnhpnckaaGreatDoor.sj
namespace Go.Proofs
theorem cx{P:Prop}(h:P:=by constructor <;> first|(intros;kernel_rfl)|decide|(constructor <;> first|(intros;kernel_rfl)|decide)):P:=h
def Tryz.Kh:Go.Shelf.Ren:=⟨fun|156=>49|165=>93|166=>38|169=>39|240=>72|241=>161|276=>132|277=>206|n=>n,fun|31=>30|9=>9|3=>3|4=>4|0=>0|20=>20|72=>92|76=>95|70=>90|37=>33|75=>94|127=>154|164=>204|5=>5|80=>97|n=>n,fun|n=>n⟩
theorem Tryz.Ao:Go.Proofs.Lays.n156 Tryz.prog Tryz.Kh:=cx
theorem Tryz.Cc:Builder.Extra Tryz.prog Tryz.Kh:=cx
open Go.RowKit in
theorem Tryz.strings_Join_none(a:Option Addr)(c:Nat)(sep:ByteArray)(w:World) :
  Calls Tryz.prog 49 #[.slice a 0 c,.string sep] w λe w'=>e=.returned (.string ⟨#[]⟩)/\w'=w:=Any.strings_Join_none Tryz.Ao Tryz.Cc a c sep w
open Go.RowKit in
theorem Tryz.strings_Join(bk o c:Nat)(xs:List ByteArray)(sep:ByteArray)(w:World)(Es:∀ (j:Nat) x,xs[j]? = some x->w.cell? ⟨bk,o+j,none⟩=some (.string x))(D5:bk<w.heap.size)(hN:xs.length<=140737488355328)(Ue:xs.length<=c)(na:(Lib.join (xs.map (·.data.toList)) sep.data.toList).length<=140737488355328) :
  Calls Tryz.prog 49 #[.slice (some ⟨bk,o,none⟩) xs.length c,.string sep] w λe w'=>e=.returned (.string ⟨(Lib.join (xs.map (·.data.toList)) sep.data.toList).toArray⟩)/\Below w.heap.size w w':=Any.strings_Join Tryz.Ao Tryz.Cc bk o c xs sep w Es D5 hN Ue na
def Tryz.au:Go.Shelf.Ren:=⟨fun|160=>174|232=>212|231=>211|227=>213|234=>215|233=>214|236=>217|235=>216|228=>237|271=>239|151=>238|197=>235|120=>262|152=>261|260=>260|137=>273|119=>274|224=>223|225=>222|217=>221|266=>250|n=>n,fun|9=>9|4=>4|3=>3|5=>5|117=>243|116=>242|0=>0|124=>246|21=>21|105=>254|46=>87|119=>288|139=>291|138=>290|n=>n,fun|3=>4|4=>5|n=>n⟩
theorem Tryz.Ix:Go.Proofs.Lays.n160 Tryz.prog Tryz.au:=cx
def Tryz.iu:Go.Shelf.Ren:=⟨fun|103=>162|210=>207|206=>193|n=>n,fun|9=>9|4=>4|24=>186|3=>3|n=>n,fun|n=>n⟩
theorem Tryz.VF:Go.Proofs.Lays.n103 Tryz.prog Tryz.iu:=cx
open Go.RowKit in
theorem Tryz.strings_CutPrefix(s p:ByteArray)(w:World) :
  Calls Tryz.prog 162 #[.string s,.string p] w λe w'=>e=.returned (.tuple #[.string ⟨(Lib.trimPrefix s.data.toList p.data.toList).toArray⟩,.bool (Lib.hasPrefix s.data.toList p.data.toList)])/\w'=w:=Any.strings_CutPrefix Tryz.VF s p w
def Tryz.gu:Go.Shelf.Ren:=⟨fun|104=>172|211=>210|207=>236|n=>n,fun|9=>9|4=>4|24=>186|3=>3|n=>n,fun|n=>n⟩
theorem Tryz.UF:Go.Proofs.Lays.n104 Tryz.prog Tryz.gu:=cx
open Go.RowKit in
theorem Tryz.strings_CutSuffix(s p:ByteArray)(w:World)(hs:s.size<=9223372036854775807) :
  Calls Tryz.prog 172 #[.string s,.string p] w λe w'=>e=.returned (.tuple #[.string ⟨(Lib.trimSuffix s.data.toList p.data.toList).toArray⟩,.bool (Lib.hasSuffix s.data.toList p.data.toList)])/\w'=w:=Any.strings_CutSuffix Tryz.UF s p w hs
def Tryz.Zt:Go.Shelf.Ren:=⟨fun|283=>246|n=>n,fun|3=>3|9=>9|4=>4|n=>n,fun|n=>n⟩
theorem Tryz.QF:Go.Proofs.Lays.n283 Tryz.prog Tryz.Zt:=cx
open Go.Lib in
theorem Tryz.internal_strconv_small(i:Nat)(h:i<100)(w:World) :
  Calls Tryz.prog 246 #[.int .i64 i] w λe w'=>e=.returned (.string ⟨(Lib.decDigits i).toArray⟩)/\w'=w:=Any.internal_strconv_small Tryz.QF i h w
def Tryz.Wr:Go.Shelf.Ren:=⟨fun|284=>247|129=>266|317=>265|318=>267|n=>n,fun|53=>86|3=>3|212=>281|0=>0|4=>4|46=>87|5=>5|9=>9|n=>n,fun|17=>3|n=>n⟩
theorem Tryz.RB:Go.Proofs.LaysM.n284 Tryz.prog Tryz.Wr:=cx
open Go.Lib in
theorem Tryz.internal_strconv_numDigits (u : Nat) (h1 : 1 ≤ u) (h2 : u < 18446744073709551616) (w : World) (mu : Lib.TabIs Tryz.prog w "internal/strconv.uint64pow10" .u64 Lib.pow10Tab) :
  Calls Tryz.prog 247 #[.int .u64 u] w λe w'=>e=.returned (.int .i64 (Lib.nDigits u))/\w'=w:=Any.internal_strconv_numDigits Tryz.RB u h1 h2 w mu
def Tryz.Yt:Go.Shelf.Ren:=⟨fun|285=>248|n=>n,fun|37=>33|53=>86|3=>3|4=>4|51=>54|9=>9|5=>5|0=>0|n=>n,fun|n=>n⟩
theorem Tryz.PF:Go.Proofs.Lays.n285 Tryz.prog Tryz.Yt:=cx
open Go.RowKit Go.Sort Go.Lib in
theorem Tryz.internal_strconv_formatBase10(yW off cap:Nat)(u:Nat)(d:Array UInt8)(w:World)(hH:Holds (λ(b:UInt8)=>Value.int .u8 (b.toNat:Int)) w yW off d)(hu:u<10 ^ d.size)(fC:u<18446744073709551616)(ld:d.size<4611686018427387904) :
  Calls Tryz.prog 248 #[.slice (some ⟨yW,off,none⟩) d.size cap,.int .u64 u] w λe w'=>
   e=.returned (.tuple #[])/\∃ (n v':Nat) (dk:Array UInt8),w'=(putRow (λ(b:UInt8)=>Value.int .u8 (b.toNat:Int)) w yW off dk).drewN n/\FmtInv d.size u 0 v' dk:=Any.internal_strconv_formatBase10 Tryz.PF yW off cap u d w hH hu fC ld
def Tryz.Xr:Go.Shelf.Ren:=⟨fun|171=>157|243=>202|246=>232|283=>246|284=>247|285=>248|286=>249|129=>266|317=>265|318=>267|319=>268|320=>269|337=>275|338=>276|n=>n,fun|3=>3|9=>9|2=>2|4=>4|171=>262|0=>0|53=>86|37=>33|5=>5|173=>265|212=>281|51=>54|20=>20|213=>282|46=>87|232=>297|233=>298|n=>n,fun|17=>3|18=>6|19=>7|n=>n⟩
theorem Tryz.SB:Go.Proofs.LaysM.n171 Tryz.prog Tryz.Xr:=cx
open Go.RowKit Go.Sort Go.Lib in
theorem Tryz.strconv_Itoa (n : Int) (h0 : -9223372036854775808 ≤ n) (h1 : n ≤ 9223372036854775807) (w : World) (mu : Lib.TabIs Tryz.prog w "internal/strconv.uint64pow10" .u64 Lib.pow10Tab) :
  Calls Tryz.prog 157 #[.int .i64 n] w λe w'=>e=.returned (.string ⟨(Lib.itoa n).toArray⟩)/\∃ k os,w'=grow (w.drewN k) os:=Any.strconv_Itoa Tryz.SB n h0 h1 w mu
def Tryz.Vr:Go.Shelf.Ren:=⟨fun|14=>194|16=>218|17=>219|19=>240|20=>241|21=>242|22=>243|23=>244|24=>245|25=>263|27=>157|26=>264|28=>202|29=>232|30=>246|31=>247|32=>248|33=>249|35=>266|34=>265|36=>267|37=>268|38=>269|39=>275|40=>276|n=>n,fun|9=>9|3=>3|22=>86|24=>94|25=>230|4=>4|34=>257|5=>5|36=>87|37=>33|0=>0|39=>259|21=>21|44=>278|47=>154|50=>295|48=>293|2=>2|52=>262|55=>265|59=>281|60=>54|20=>20|61=>282|65=>297|66=>298|67=>97|n=>n,fun|0=>1|1=>2|2=>3|3=>6|4=>7|n=>n⟩
theorem Tryz.lp:Go.Proofs.LaysPu.n14 Tryz.prog Tryz.Vr:=cx
open Go.RowKit in
theorem Tryz.strconv_ParseUint_10_at32_ok(s:ByteArray)(E4:s.size<=9223372036854775806)(u:Nat)(h:Lib.parseUintB 32 s.data.toList=.ok u)(w:World) :
  Calls Tryz.prog 194 #[.string s,.int .i64 10,.int .i64 32] w λe w'=>e=.returned (.tuple #[.int .u64 u,.nilIface])/\(w'=w∨w'=Lib.bytesWorld w 5 s):=Any.strconv_ParseUint_10_at32_ok Tryz.lp s E4 u h w
open Go.RowKit in
theorem Tryz.strconv_ParseUint_10_at32_syntax_var (s : ByteArray) (tG : s.size ≤ 281474976710656) (h : (∀ u, Lib.parseUintB 32 s.data.toList ≠ .ok u) ∧ Lib.parseUintB 32 s.data.toList ≠ .range) (tp : TypeId) (p : Value) (w : World) (ew : w.var? Tryz.prog "strconv.ErrSyntax" = some #[.iface tp p]) :
  Calls Tryz.prog 194 #[.string s,.int .i64 10,.int .i64 32] w λe w'=>∃ N,e=.returned (.tuple #[.int .u64 0,.iface 259 (.pointer (some ⟨N,0,none⟩))])/\w.heap.size<=N/\w'.heap[N]? = some (.cells #[.string ⟨#[80,97,114,115,101,85,105,110,116]⟩,.string s,.iface tp p] 278 (0,0))/\Below w.heap.size w w':=by
 refine Any.strconv_ParseUint_10_at32_syntax_var Tryz.lp s tG ?_ tp p w ew;cases hq:Lib.parseUintB 32 s.data.toList with
 |ok u=>exact absurd hq (h.1 u)
 |range=>exact absurd hq h.2
 |_=>rfl
open Go.RowKit in
theorem Tryz.strconv_ParseUint_10_at32_range_var (s : ByteArray) (tG : s.size ≤ 281474976710656) (h : Lib.parseUintB 32 s.data.toList = .range) (tp : TypeId) (p : Value) (w : World) (ew : w.var? Tryz.prog "strconv.ErrRange" = some #[.iface tp p]) :
  Calls Tryz.prog 194 #[.string s,.int .i64 10,.int .i64 32] w λe w'=>∃ N,e=.returned (.tuple #[.int .u64 4294967295,.iface 259 (.pointer (some ⟨N,0,none⟩))])/\w.heap.size<=N/\w'.heap[N]? = some (.cells #[.string ⟨#[80,97,114,115,101,85,105,110,116]⟩,.string s,.iface tp p] 278 (0,0))/\Below w.heap.size w w':=Any.strconv_ParseUint_10_at32_range_var Tryz.lp s tG h tp p w ew
def Tryz.du:Go.Shelf.Ren:=⟨fun|145=>105|220=>171|219=>198|217=>221|225=>222|224=>223|267=>224|266=>250|314=>251|n=>n,fun|9=>9|4=>4|59=>195|3=>3|5=>5|46=>87|146=>267|51=>54|n=>n,fun|1=>0|n=>n⟩
theorem Tryz.SF:Go.Proofs.Lays.n145 Tryz.prog Tryz.du:=cx
open Go.RowKit Go.Lib in
theorem Tryz.strings_Cut(s sep:ByteArray)(m:Int)(w:World)(hs:s.size<4294967281)(hm:w.cell? ⟨0,0,none⟩=some (.int .i64 m)) :
  Calls Tryz.prog 105 #[.string s,.string sep] w λe w'=>e=.returned (.tuple #[.string ⟨(Lib.cut s.data.toList sep.data.toList).1.toArray⟩,.string ⟨(Lib.cut s.data.toList sep.data.toList).2.1.toArray⟩,.bool (Lib.cut s.data.toList sep.data.toList).2.2])/\∃ n,w'=w.drewN n:=Any.strings_Cut Tryz.SF s sep m w hs hm
def Tryz.fu:Go.Shelf.Ren:=⟨fun|138=>75|195=>143|218=>144|143=>145|219=>198|217=>221|225=>222|224=>223|267=>224|266=>250|314=>251|n=>n,fun|9=>9|3=>3|4=>4|5=>5|0=>0|46=>87|146=>267|51=>54|n=>n,fun|1=>0|n=>n⟩
theorem Tryz.TF:Go.Proofs.Lays.n138 Tryz.prog Tryz.fu:=cx
open Go.RowKit Go.Lib in
theorem Tryz.strings_Count_one(s:ByteArray)(c:UInt8)(w:World) :
  Calls Tryz.prog 75 #[.string s,.string ⟨#[c]⟩] w λe w'=>e=.returned (.int .i64 (Lib.countByte s.data.toList c))/\w'=w:=Any.strings_Count_one Tryz.TF s c w
def Tryz.Xv:Go.Shelf.Ren:=⟨fun|99=>133|206=>193|n=>n,fun|9=>9|4=>4|3=>3|n=>n,fun|n=>n⟩
theorem Tryz.zK:Go.Proofs.Lays.n99 Tryz.prog Tryz.Xv:=cx
open Go.RowKit Go.Lib in
theorem Tryz.strings_HasPrefix(s p:ByteArray)(w:World) :
  Calls Tryz.prog 133 #[.string s,.string p] w λe w'=>e=.returned (.bool (Lib.hasPrefix s.data.toList p.data.toList))/\w'=w:=Any.strings_HasPrefix Tryz.zK s p w
def Tryz.bu:Go.Shelf.Ren:=⟨fun|146=>104|221=>170|268=>209|138=>75|143=>145|195=>143|197=>235|218=>144|219=>198|260=>260|217=>221|225=>222|224=>223|267=>224|266=>250|314=>251|n=>n,fun|9=>9|31=>30|3=>3|4=>4|0=>0|105=>254|21=>21|5=>5|46=>87|119=>288|139=>291|138=>290|146=>267|51=>54|n=>n,fun|1=>0|3=>4|4=>5|n=>n⟩
theorem Tryz.RF:Go.Proofs.Lays.n146 Tryz.prog Tryz.bu:=cx
open Go.RowKit Go.Lib in
theorem Tryz.strings_Split(s sep:ByteArray)(m:Int)(w:World)(hs:s.size<4294967281)(hm:w.cell? ⟨0,0,none⟩=some (.int .i64 m))(h1:1<=sep.size) :
  Calls Tryz.prog 104 #[.string s,.string sep] w λe w'=>
   e=.returned (.slice (some ⟨w.heap.size,0,none⟩) (Lib.countB s sep+1) (Lib.countB s sep+1))/\w'=w.alloc (.cells ((Lib.splitB sep 0 (Lib.countB s sep) s).map Value.string).toArray 9):=Any.strings_Split Tryz.RF zk s sep m w hs hm h1
end Go.Proofs
namespace Go.Proofs.YtmnjklgnhpnckaaGreatDoor
open Go.GL Go.RowKit Go.ia
attribute [local irreducible] Ea fb Ya ca Go.GL.Pure ve Oe Kd
variable{B0:Nat}{w0:World}
theorem KM{f:FuncId} [Tb Tryz.prog f](p:UInt8->Bool)(hp:∀ c:UInt8,ca (KC B0 w0) f [int .u8 c.toNat] [] (Qb (bool (p c))))(s:List UInt8)(hs:s.length<=1000000000) :
  ca (KC B0 w0) 134 [str s,.atom (.func (.func f) #[] #[])] [] (Qb (str (s.takeWhile p))):=by
 refine kb Tryz.func134 rfl (n:=22) rfl rfl rfl ?_;refine xa ?_;refine oL (λk l H=>∃ m:Nat,k=s.length-m/\l=[(0,str s),(1,.atom (.func (.func f) #[] #[])),(5,int .i64 m)]/\H=[]/\m<=s.length/\s.takeWhile p=s.take m++(s.drop m).takeWhile p)
  ⟨_,_,_,⟨0,rfl,rfl,rfl,by omega,by simp⟩,lb,Kb _⟩ ?_
 rintro k l H ⟨m,rfl,rfl,rfl,hm,hI⟩ j hj;refine wa ?_;refine oB 10 rfl (λht=>?_) λht=>?_;have Ja:m<s.length:=by simpa using ht
 refine fi ?_;refine la (pI (c:=s[m]) rfl rfl zo (by simp))<|Ea.want rfl rfl ?_;refine oS (S.kE [_] rfl rfl (hp s[m]) ?_);refine Da ?_;refine Ma (λhc=>?_) λhc=>?_;refine xa ?_;exact⟨_,_,_,by omega,⟨m+1,rfl,rfl,rfl,by omega,(qgE Ja hI).1 (by simpa using hc)⟩,lb,Kb _,hj⟩;refine xa ?_;refine la (Pure.Ak (i:=0) (j:=m) rfl rfl ⟨_,rfl⟩ zo zo zo)<|dd ?_
 exact qb hj (eb rfl) (by
  rw[(qgE Ja hI).2 (by simpa using hc)];simp[Dh])
 have Pq:s.length<=m:=by simpa using ht
 refine Da ?_;refine Ma (λhc=>?_) λhc=>?_;cases hc;refine xa ?_;refine la (Pure.Ak (i:=0) (j:=m) rfl rfl ⟨_,rfl⟩ zo zo zo)<|dd ?_
 exact qb hj (eb rfl) (by
  rw[qmh Pq hI];simp[Dh])
theorem qgy(s p:List UInt8):ca (KC B0 w0) 133 [str s,str p] [] (Qb (bool (p.isPrefixOf s))):=
 ca.wm (vs:=[.string ⟨s.toArray⟩,.string ⟨p.toArray⟩]) λw _=>(Go.Proofs.Tryz.strings_HasPrefix _ _ w).mono λe w' he=>by obtain⟨h1,h2⟩:=he;subst h2;exact⟨by simpa [Go.Lib.hasPrefix] using h1,Below.refl _ _⟩
theorem qt8(s:List UInt8)(hs:s.length<=1000000000):ca (KC B0 w0) 73 [str s] [] (Qb (int .i64 (Tu s))):=by refine kb Tryz.func73 rfl (n:=11) rfl rfl rfl ?_;refine di ?_;refine oS (sF [_,_] rfl (qgy s [47,47]) ?_);refine dd ?_;refine Ma (λhc=>?_) λhc=>?_;refine Bd ?_;refine oS (sF [_,_] rfl (KM pX qrv s hs) ?_);refine Na ?_;exact qb rfl (eb rfl) (by simp only[Dh,Tu,hc,if_true]);refine xa ?_;refine oS (sF [_,_] rfl (KM sM qr1 s hs) ?_);refine Na ?_;exact qb rfl (eb rfl) (by simp only[Dh,Tu,hc,Uk,if_false])
end Go.Proofs.YtmnjklgnhpnckaaGreatDoor
namespace Go.Proofs.YtmnjklgnhpnckaaGreatDoor
open Go Go.Shelf Go.RowKit Go.Sort Go.Lib
set_option maxHeartbeats 6400000
theorem qko (u : Nat) (fC : u < 18446744073709551616) (w : World) (mu : Lib.TabIs Tryz.prog w "internal/strconv.uint64pow10" .u64 Lib.pow10Tab) :
  Calls Tryz.prog 220 #[.int .u64 u,.int .i64 10] w λe w'=>e=.returned (.string ⟨(Lib.decDigits u).toArray⟩)/\Below w.heap.size w w':=by
 have mixed:Tryz.prog.follows .mixedOrders=true:=by kernel_rfl
 have t3:=Tryz.underlying3;have a3:=Tryz.isAgg3;have z3:=Tryz.sizeOf3;have v3:=Tryz.zeroValue3;have t9:=Tryz.underlying9;have a9:=Tryz.isAgg9;have z9:=Tryz.sizeOf9;have v9:=Tryz.zeroValue9;have t4:=Tryz.underlying4;have a4:=Tryz.isAgg4;have z4:=Tryz.sizeOf4;have v4:=Tryz.zeroValue4;have t142:=Tryz.underlying262;have aaA:=Tryz.isAgg262;have aaf:=Tryz.sizeOf262;have aag:=Tryz.zeroValue262;have t0:=Tryz.underlying0;have a0:=Tryz.isAgg0;have z0:=Tryz.sizeOf0;have v0:=Tryz.zeroValue0;have t119:=Tryz.underlying86;have a119:=Tryz.isAgg86;have z119:=Tryz.sizeOf86;have aah:=Tryz.zeroValue86;have t85:=Tryz.underlying33;have a85:=Tryz.isAgg33;have z85:=Tryz.sizeOf33;have v85:=Tryz.zeroValue33;have t5:=Tryz.underlying5;have a5:=Tryz.isAgg5;have z5:=Tryz.sizeOf5;have v5:=Tryz.zeroValue5;have aaz:∀ args w,(callFunc 246 args).run Tryz.prog w=.ok (.enter 246 args) w:=enters_of Tryz.func246 zk rfl;have aay:∀ args w,(callFunc 247 args).run Tryz.prog w=.ok (.enter 247 args) w:=enters_of Tryz.func247 zk rfl;have aax:∀ args w,(callFunc 248 args).run Tryz.prog w=.ok (.enter 248 args) w:=enters_of Tryz.func248 zk rfl;by_cases hs:u<100
 go_enter Tryz.func220,Tryz.ntmps220
 go_wp2_with (go_at_fn (246);refine(Tryz.internal_strconv_small u hs _).mono ?_;rintro e w' ⟨rfl,rfl⟩)
 go_ret
 exact⟨rfl,Below.refl _ _⟩;have AN:1<=u:=by omega
 have aab:Lib.nDigits u<=20:=by have:=Lib.numDigits_eq u AN fC;split at this <;> omega
 have uu:Tryz.prog.arrayLen 262=24:=by simp[Program.arrayLen,Tryz.underlying262]
 have ou:∀ W,(Instr.sliceAt 262 (.pointer (some ⟨w.heap.size,0,none⟩)) none (some (.int .i64 (Lib.nDigits u:Int))) none).run Tryz.prog W=.ok (.slice (some ⟨w.heap.size,0,none⟩) (Lib.nDigits u) 24) W:=λW=>by
  rw[run_sliceAt_array_h W 262 ⟨w.heap.size,0,none⟩ (by simp[Program.arrayLen,Program.elem,Tryz.underlying262]) .i64 (Lib.nDigits u:Int) (by omega) (by rw[uu];omega)]
  go_simp
 have YC:=Lib.holds_zero0 w 262 (Lib.nDigits u) ga;have PR:=Tryz.internal_strconv_formatBase10 w.heap.size 0 24 u (Array.replicate (Lib.nDigits u) 0) (w.alloc (.cells Lib.zeros24 262)) YC (by rw[Array.size_replicate];exact Lib.lt_pow_nDigits u) fC (by rw[Array.size_replicate];omega);rw[Array.size_replicate] at PR;have HH0:=Lib.hid YC;clear YC uu
 go_enter Tryz.func220,Tryz.ntmps220
 go_wp2_with (first
  |(go_at_fn (247);refine(Tryz.internal_strconv_numDigits u AN fC _ (Lib.tabIs_alloc mu _)).mono ?_;rintro e w' ⟨rfl,rfl⟩))
 go_at_fn (248)
 refine PR.mono ?_;rintro e w' ⟨rfl,k,v',dk,rfl,hF⟩;have hcv:(convert 33 9 (.slice (some ⟨w.heap.size,0,none⟩) (Lib.nDigits u) 24)).run Tryz.prog ((putRow (λ(b:UInt8)=>Value.int .u8 (b.toNat:Int)) (w.alloc (.cells Lib.zeros24 262)) w.heap.size 0 dk).drewN k)=.ok (.string ⟨(Lib.decDigits u).toArray⟩) ((putRow (λ(b:UInt8)=>Value.int .u8 (b.toNat:Int)) (w.alloc (.cells Lib.zeros24 262)) w.heap.size 0 dk).drewN k):=by
  have h:=run_convert_bytes_back (P:=Tryz.prog) ((putRow (λ(b:UInt8)=>Value.int .u8 (b.toNat:Int)) (w.alloc (.cells Lib.zeros24 262)) w.heap.size 0 dk).drewN k) 33 9 5 ⟨w.heap.size,0,none⟩ 24 (Lib.decDigits u) Tryz.underlying33 Tryz.underlying5 Tryz.underlying9 (λj hj=>by
   rw[Lib.row_is_numeral hF j hj,Lib.add_plain,World.cell?_drewN];exact cell?_putRow (λ(b:UInt8)=>Value.int .u8 (b.toNat:Int)) _ w.heap.size 0 _ dk HH0.out (by rw[hF.size,Array.size_replicate]) j (by rw[hF.size];rw[Lib.decDigits_length] at hj;exact hj))
  rw[Lib.decDigits_length] at h;exact h
 go_wp2
 go_ret
 refine⟨rfl,?_⟩;obtain⟨os,eo⟩:=Lib.fin_at w (.cells Lib.zeros24 262) dk k 0;rw[eo];exact Lib.below_grow _ w (Jb _) k os
open Go.GL Go.RowKit Go.ia
variable{T:List Tok}{i n op sb:Nat}{rs:List ResultVar}
attribute [local irreducible] Ea fb Ya ca Go.GL.Pure ve Oe Kd
structure GW(B0:Nat)(w0:World):Prop where
 AQ : Go.Lib.TabIs Tryz.prog w0 "internal/strconv.uint64pow10" .u64 Go.Lib.pow10Tab
 iD : ∃ tp p, w0.var? Tryz.prog "strconv.ErrRange" = some #[.iface tp p]
 zW:8<=B0
variable{B0:Nat}{w0:World}
theorem GW.x7 (h : GW B0 w0) {w : World} (hb : Below B0 w0 w) : Go.Lib.TabIs Tryz.prog w "internal/strconv.uint64pow10" .u64 Go.Lib.pow10Tab := by
 have hg : Tryz.prog.globalNamed "internal/strconv.uint64pow10" = some 3 := by kernel_rfl
 exact var?_below hb hg (Nat.lt_of_lt_of_le fa h.zW) h.AQ
theorem GW.err (h : GW B0 w0) {w : World} (hb : Below B0 w0 w) : ∃ tp p, w.var? Tryz.prog "strconv.ErrRange" = some #[.iface tp p] := by
 have hg : Tryz.prog.globalNamed "strconv.ErrRange" = some 2 := by kernel_rfl
 obtain⟨tp,p,hv⟩:=h.iD;exact⟨tp,p,var?_below hb hg (Nat.lt_of_lt_of_le fa h.zW) hv⟩
theorem JH(hG:GW B0 w0)(u:Nat)(hu:u<=9223372036854775807):ca (KC B0 w0) 157 [int .i64 u] [] (Qb (str (Go.Lib.decDigits u))):=
 ca.wm (vs:=[.int .i64 u]) λw hw=>(Go.Proofs.Tryz.strconv_Itoa u zo zo w (hG.x7 hw)).mono λe w' he=>by obtain⟨h1,k,os,h2⟩:=he;rw[Go.Lib.itoa_nonneg] at h1;exact⟨h1,by rw[h2];exact Go.Lib.below_grow _ w (Jb _) k os⟩
theorem Ce(hG:GW B0 w0)(u:Nat)(hu:u<18446744073709551616):ca (KC B0 w0) 195 [int .u64 u,int .i64 10] [] (Qb (str (Go.Lib.decDigits u))):=by refine kb Tryz.func195 rfl (n:=8) rfl rfl rfl ?_;refine di ?_;refine oS (sF [_,_] rfl (ca.wm (vs:=[.int .u64 u,.int .i64 10]) λw hw=>qko u hu w (hG.x7 hw)) ?_);refine dd ?_;exact qb rfl (eb rfl) rfl
theorem qi4(s:List UInt8)(hs:s.length<=1000000000)(u:Nat)(h:Go.Lib.parseUintB 32 s=.ok u) :
  ca (KC B0 w0) 194 [str s,int .i64 10,int .i64 32] [] (Qb (.tuple [int .u64 u,.atom .nilIface])):=by
 refine ca.mono (ca.fh (vs:=[.string ⟨s.toArray⟩,.int .i64 10,.int .i64 32]) (p:=λus=>us=[.int .u64 u,.nilIface]) λw hw=>?_) ?_;refine(Go.Proofs.Tryz.strconv_ParseUint_10_at32_ok ⟨s.toArray⟩ ?_ u (by simpa using h) w).mono λe w' he=>⟨_,he.1,rfl,?_⟩;show s.toArray.size<=_
 simp;omega;rcases he.2 with h2|h2;rw[h2];exact Below.refl _ _;rw[h2];exact⟨rfl,rfl,rfl,by rw[Go.Lib.bytesWorld_size];omega,λk hk=>Go.Lib.bytesWorld_at_old w 5 _ k hk⟩;rintro r H ⟨v,rfl,⟨us,rfl,rfl⟩,rfl⟩;exact⟨rfl,rfl⟩
theorem qkP(hG:GW B0 w0)(s:List UInt8)(hs:s.length<=1000000000)(h:Go.Lib.parseUintB 32 s=.range) :
  ca (KC B0 w0) 194 [str s,int .i64 10,int .i64 32] [] (Cr λlv=>∃ v t p,lv=.tuple [int .u64 v,.atom (.iface t p)]):=by
 refine ca.mono (ca.fh (vs:=[.string ⟨s.toArray⟩,.int .i64 10,.int .i64 32]) (p:=λus=>∃ v t p,us=[.int .u64 v,.iface t p]) λw hw=>?_) ?_;obtain⟨tp,p,hv⟩:=hG.err hw;refine(Go.Proofs.Tryz.strconv_ParseUint_10_at32_range_var ⟨s.toArray⟩ ?_ (by simpa using h) tp p w hv).mono λe w' he=>?_;show s.toArray.size<=_
 simp;omega;obtain⟨N,h1,_,_,h4⟩:=he;exact⟨_,h1,⟨_,_,_,rfl⟩,h4⟩;rintro r H ⟨v,rfl,⟨us,⟨a,t,p,rfl⟩,rfl⟩,rfl⟩;exact⟨_,rfl,⟨a,t,p,rfl⟩,rfl⟩
theorem qi8(s:List UInt8):ca (KC B0 w0) 75 [str s,str [10]] [] (Qb (int .i64 (s.count 10))):=
 ca.wm (vs:=[.string ⟨s.toArray⟩,.string ⟨#[10]⟩]) λw _=>(Go.Proofs.Tryz.strings_Count_one _ _ w).mono λe w' he=>by obtain⟨h1,h2⟩:=he;subst h2;exact⟨by simpa [Go.Lib.countByte] using h1,Below.refl _ _⟩
def It(t:Tok):LV:=.agg [int .i64 t.kind,str t.text,int .i64 t.line]
def fU(r:Kw):LV:=.tuple [It r.1,int .i64 r.2.1,int .i64 r.2.2]
theorem Wu(l:List (List UInt8)):dA 1 (l.map str):=λv hv=>by obtain⟨x,_,rfl⟩:=Qh hv;exact⟨rfl,rfl⟩
theorem qhJ:ca (KC B0 w0) 197 [] [] (Qb (.list (LD.map str))):=by refine kb Tryz.func197 rfl (n:=2) rfl rfl rfl ?_;refine Yn ?_;refine oS (sL [_,_,_,_,_,_,_,_] rfl (Wu LD) rfl rfl rfl ?_);refine Na ?_;exact qb rfl (rC (rT (v:=.list _) rfl Nd) rN) rfl
theorem qrx:ca (KC B0 w0) 142 [] [] (Qb (.list (kl.map str))):=by refine kb Tryz.func142 rfl (n:=2) rfl rfl rfl ?_;refine Yn ?_;refine oS (sL [_,_,_,_,_,_,_,_,_,_,_,_,_,_,_,_,_,_,_,_,_,_,_,_] rfl (Wu kl) rfl rfl rfl ?_);refine Na ?_;exact qb rfl (rC (rT (v:=.list _) rfl Nd) rN) rfl
theorem qrS(l:List (List UInt8))(x:List UInt8)(hl:l.length<=1000000000):ca (KC B0 w0) 199 [.list (l.map str),str x] [] (Cr λlv=>∃ n:Int,lv=int .i64 n/\decide (0<=n)=l.contains x):=by
 refine kb Tryz.func199 rfl (n:=19) rfl rfl rfl ?_;refine xa ?_;refine oL (λk ls H=>∃ m:Nat,k=l.length-m/\ls=[(0,.list (l.map str)),(1,str x),(7,int .i64 (l.map str).length),(8,int .i64 m)]/\H=[]/\m<=l.length/\l.contains x=(l.drop m).contains x)
  ⟨_,_,_,⟨0,rfl,rfl,rfl,by omega,by simp⟩,lb,Kb _⟩ ?_
 rintro k ls H ⟨m,rfl,rfl,rfl,hm,hI⟩ j hj;refine Zg ?_;refine Ma (λhc=>?_) λhc=>?_;have Ja:m<l.length:=by simpa using hc
 refine xa ?_;refine la (xR (ke:=str l[m]) rfl rfl zo (by simp) rfl rfl)<|Na ?_;refine Ma (λhe=>?_) λhe=>?_;refine xa ?_;have hx:x=l[m]:=by simpa using he
 exact Nr hj (eb rfl) ⟨m,rfl,by
  rw[hx,Nf zo];simp⟩
 refine xa ?_;have hx:¬ x=l[m]:=by simpa using he
 exact⟨_,_,_,by omega,⟨m+1,rfl,rfl,rfl,by omega,by
  rw[hI,List.drop_eq_getElem_cons Ja,List.contains_cons];simp[hx]⟩,lb,Kb _,hj⟩
 have Pq:l.length<=m:=by simpa using hc
 refine xa ?_;exact Nr hj (eb rfl) ⟨-1,rfl,by
  rw[hI,List.drop_eq_nil_of_le Pq];rfl⟩
theorem BV(l:List (List UInt8))(x:List UInt8)(hl:l.length<=1000000000):ca (KC B0 w0) 146 [.list (l.map str),str x] [] (Qb (bool (l.contains x))):=by refine kb Tryz.func146 rfl (n:=9) rfl rfl rfl ?_;refine xa ?_;refine oS (S.Dg [_,_] rfl (qrS l x hl) ?_);rintro lv ⟨n,rfl,hn⟩;refine Na ?_;exact qb rfl (eb rfl) (by rw[<-hn];rfl)
theorem qtS(s:List UInt8)(hs:s.length<=1000000000):ca (KC B0 w0) 140 [str s] [] (Qb (fU (LJ s))):=by
 refine kb Tryz.func140 rfl (n:=21) rfl rfl rfl ?_;refine qe ?_;refine oS (Jd λb=>?_);refine di ?_;refine oS (sF [_,_] rfl (KM Ni qrK s hs) ?_);refine wa ?_;refine Ma (λhc=>?_) λhc=>?_;refine wa ?_
 exact qb rfl (rC (rA rfl nc rfl Nd) (rC (Fc rfl) (eb rfl))) (by
  rw[LJ,zp (by have:=zt hc;omega)];rfl)
 refine xa ?_;refine oS (sF [] rfl qhJ ?_);refine fi ?_;refine oS (sF [_,_] rfl (BV LD (s.takeWhile Ni) fa) ?_);refine dd ?_;refine Ma (λhk=>?_) λhk=>?_;refine wa ?_
 exact qb rfl (rC (rA rfl nc rfl Nd) (rC (Fc rfl) (eb rfl))) (by
  rw[LJ,zn (by have:=zf hc;omega),zp hk];rfl)
 refine wa ?_;exact qb rfl (rC (rA rfl nc rfl Nd) (rC (Fc rfl) (eb rfl))) (by
  rw[LJ,zn (by have:=zf hc;omega),zn (by rw[hk];decide)];rfl)
theorem qiO(M:Nat)(acc:Nat)(l:List UInt8)(h:∀ c∈l,me c=true):Go.Lib.parseUintM M acc l=.range∨∃ u,Go.Lib.parseUintM M acc l=.ok u:=by
 induction l generalizing acc with
 |nil=>exact .inr ⟨acc,rfl⟩
 |cons c r ih=>have hc:=h c List.mem_cons_self;simp only[me,sd,Gg,cv] at hc;rw[Go.Lib.parseUintM,zp zo];split;exact .inl rfl;split;exact .inl rfl;exact ih _ λc hc=>h c (Pc _ hc)
theorem qje(M:Nat)(acc:Nat)(l:List UInt8)(ha:acc<=M){u:Nat}(h:Go.Lib.parseUintM M acc l=.ok u):u<=M:=by
 induction l generalizing acc with
 |nil=>simp only[Go.Lib.parseUintM,Go.Lib.NumEnd.ok.injEq] at h;omega
 |cons c r ih=>rw[Go.Lib.parseUintM] at h;split at h;split at h;cases h;split at h;cases h;exact ih _ zo h;cases h
theorem qjb(s:List UInt8)(Fb:s.takeWhile me≠[]):Go.Lib.parseUintB 32 (s.takeWhile me)=.range∨∃ u,u<18446744073709551616/\Go.Lib.parseUintB 32 (s.takeWhile me)=.ok u:=by
 unfold Go.Lib.parseUintB;rw[zn Fb];have Bg:∀ (s:List UInt8),∀ c∈s.takeWhile me,me c=true:=λs c hc=>by
  induction s with
  |nil=>cases hc
  |cons a r ih=>by_cases ha:me a=true;rw[List.takeWhile_cons_of_pos ha] at hc;rcases zc.1 hc with rfl|hc;exact ha;exact ih hc;rw[List.takeWhile_cons_of_neg ha] at hc;cases hc
 rcases qiO (2 ^ 32-1) 0 (s.takeWhile me) (Bg s) with h|⟨u,h⟩;exact .inl h;have:=qje _ _ _ zo h;exact .inr ⟨u,by omega,h⟩
instance:yh Tk 94:=.of zk
theorem XM(hG:GW B0 w0)(s:List UInt8)(hs:s.length<=1000000000)(Fb:s.takeWhile me≠[]):ca (KC B0 w0) 138 [str s] [] (Qb (fU (ZJ s))):=by
 refine kb Tryz.func138 rfl (n:=43) rfl rfl rfl ?_;refine qe ?_;refine oS (Jd λb=>?_);refine di ?_;refine oS (sF [_,_] rfl (KM me YZ s hs) ?_);refine wa ?_;refine Ea.cut [(0,str s),(2,ptr b 0),(5,str (s.takeWhile me)),(28,bool (OJ s (s.takeWhile me).length))] ?_ λj hj=>?_;refine oB 17 rfl (λht=>?_) λht=>?_;have Ja:(s.takeWhile me).length<s.length:=by simpa using ht
 have hw:OJ s (s.takeWhile me).length=(tl s[(s.takeWhile me).length] || decide (cv s[(s.takeWhile me).length]=95)):=by rw[OJ,jh Ja]
 refine fi ?_;refine la (pI (c:=s[(s.takeWhile me).length]) rfl rfl zo (by simp))<|Ea.want rfl rfl ?_;refine oS (sF [_] rfl (D0 _) ?_);refine fi ?_;refine oB 22 rfl (λhl=>?_) λhl=>?_;refine Da ?_;exact⟨⟨rfl,rfl,rfl,xe (by rw[hw,hl];rfl),trivial⟩,rfl,rfl⟩;refine fi ?_;refine la (pI (c:=s[(s.takeWhile me).length]) rfl rfl zo (by simp))<|Da ?_;exact⟨⟨rfl,rfl,rfl,xe (by rw[hw,hl];rfl),trivial⟩,rfl,rfl⟩;have Pq:s.length<=(s.takeWhile me).length:=by simpa using ht
 refine Na ?_;exact⟨⟨rfl,rfl,rfl,xe (by rw[OJ,List.getElem?_eq_none Pq]),trivial⟩,rfl,rfl⟩
 skip
 refine Ma (λhc=>?_) λhc=>?_;refine wa ?_
 exact qb hj (rC (rA rfl nc rfl Nd) (rC (Fc rfl) (eb rfl))) (by
  rw[ZJ,zp hc];rfl)
 refine xa ?_;rcases qjb s Fb with hp|⟨u,hu,hp⟩;refine oS (S.Dg [_,_,_] rfl (qkP hG (s.takeWhile me) (Qf (List.takeWhile_prefix me).length_le hs) hp) ?_);rintro lv ⟨v,t,p,rfl⟩;refine wa ?_;refine Ma (λhc=>?_) λhc=>?_;refine wa ?_
 exact qb hj (rC (rA rfl nc rfl Nd) (rC (Fc rfl) (eb rfl))) (by
  rw[ZJ,zn (by rw[‹OJ s _=false›];decide),hp];rfl)
 cases hc;refine oS (sF [_,_,_] rfl (qi4 (s.takeWhile me) (Qf (List.takeWhile_prefix me).length_le hs) u hp) ?_);refine wa ?_;refine Ma (λhc=>?_) λhc=>?_;cases hc;refine xa ?_;refine oS (sF [_,_] rfl (Ce hG u hu) ?_);refine Na ?_
 exact qb hj (rC (rA rfl nc rfl Nd) (rC (Fc rfl) (eb rfl))) (by
  rw[ZJ,zn (by rw[‹OJ s _=false›];decide),hp];rfl)
theorem qol(hG:GW B0 w0)(s:List UInt8)(hs:s.length<=1000000000):ca (KC B0 w0) 141 [str s] [] (Qb (fU (YJ s))):=by
 by_cases h3:s.length<3;have hl:YJ s=Sp 3:=by
  match s,h3 with
  |[],_=>rfl
  |[_],_=>rfl
  |[_,_],_=>rfl
 refine kb Tryz.func141 rfl (n:=39) rfl rfl rfl ?_;refine qe ?_;refine oS (Jd λb=>?_);refine wa ?_;refine oB 8 rfl (λht=>?_) λht=>?_;refine Da ?_;refine Ma (λhc=>?_) λhc=>?_;refine wa ?_;exact qb rfl (rC (rA rfl nc rfl Nd) (rC (Fc rfl) (eb rfl))) (by rw[hl];rfl);cases hc;exact absurd (zf ht) zo
 match s,h3 with
 |[],h=>exact absurd (by simp) h
 |[_],h=>exact absurd (by simp) h
 |[_,_],h=>exact absurd (by simp) h
 |x::c1::c2::r,h=>
  refine kb Tryz.func141 rfl (n:=39) rfl rfl rfl ?_;refine qe ?_;refine oS (Jd λb=>?_);refine wa ?_;refine Ea.cut [(0,str (x::c1::c2::r)),(2,ptr b 0),(32,bool ((!decide (cv c2=39)) || decide (cv c1<32) || decide (126<cv c1) || decide (cv c1=39) || decide (cv c1=92)))] ?_ λj hj=>?_
  ·refine oB 8 rfl (λht=>?_) λht0=>?_;exact absurd (zt ht) (by simp only[La];omega)
   skip
   refine la (pI (c:=c2) rfl rfl fa rfl)<|Na ?_;refine oB 13 rfl (λht=>?_) λPV=>?_;refine Da ?_;exact⟨⟨rfl,rfl,xe (by rw[ht];rfl),trivial⟩,rfl,rfl⟩;refine FE ?_;refine Da ?_;refine oB 18 rfl (λht=>?_) λgG=>?_;refine Da ?_;exact⟨⟨rfl,rfl,xe (by rw[PV,ht];rfl),trivial⟩,rfl,rfl⟩;refine FE ?_;refine Na ?_;refine oB 23 rfl (λht=>?_) λHK=>?_;refine Da ?_;exact⟨⟨rfl,rfl,xe (by rw[PV,gG,ht];rfl),trivial⟩,rfl,rfl⟩;refine FE ?_;refine Da ?_;refine oB 28 rfl (λht=>?_) λht4=>?_;refine Da ?_;exact⟨⟨rfl,rfl,xe (by rw[PV,gG,HK,ht];rfl),trivial⟩,rfl,rfl⟩;refine FE ?_;refine Da ?_;exact⟨⟨rfl,rfl,xe (by rw[PV,gG,HK,ht4];rfl),trivial⟩,rfl,rfl⟩
  skip
  refine Ma (λhc=>?_) λhc=>?_;refine wa ?_;exact qb hj (rC (rA rfl nc rfl Nd) (rC (Fc rfl) (eb rfl))) (by rw[YJ,zp hc];rfl);refine xa ?_;refine la (pI (c:=c1) rfl rfl fa rfl)<|la (Pure.Hz rfl) ?_;have hw:IntKind.i64.wrap (c1.toNat:Int)=((c1.toNat:Nat):Int):=Nt (by have:=c1.toNat_lt;omega);rw[hw];refine oS (sF [_] rfl (JH hG c1.toNat (by have:=c1.toNat_lt;omega)) ?_);refine Na ?_;exact qb hj (rC (rA rfl nc rfl Nd) (rC (Fc rfl) (eb rfl))) (by rw[YJ,zn (by rw[hc];decide)];rfl)
theorem qrF(hG:GW B0 w0)(s:List UInt8)(hs:s.length<=1000000000)(Fb:s≠[]):ca (KC B0 w0) 74 [str s] [] (Qb (fU (uk s))):=by
 match s,Fb with
 |c::r,_=>
  refine kb Tryz.func74 rfl (n:=49) rfl rfl rfl ?_;refine qe ?_;refine oS (Jd λb=>?_);refine xa ?_;refine la (pI (c:=c) rfl rfl fa rfl)<|oS (sF [_] rfl (YZ c) ?_);refine dd ?_;refine Ma (λhc=>?_) λhc=>?_;refine Bd ?_;refine oS (sF [_] rfl (XM hG (c::r) hs (by rw[List.takeWhile_cons_of_pos hc];simp)) ?_);refine Na ?_;exact qb rfl (rC (rA rfl nc rfl Nd) (rC (Fc rfl) (eb rfl))) (by simp only[uk,hc,if_true];rfl);refine Bd ?_;refine la (pI (c:=c) rfl rfl fa rfl)<|oS (sF [_] rfl (D0 c) ?_);refine dd ?_;refine Ma (λhl=>?_) λhl=>?_;refine Bd ?_;refine oS (sF [_] rfl (qtS (c::r) hs) ?_);refine Na ?_;exact qb rfl (rC (rA rfl nc rfl Nd) (rC (Fc rfl) (eb rfl))) (by simp only[uk,hc,hl,if_true,Uk,if_false];rfl);refine Bd ?_;refine la (pI (c:=c) rfl rfl fa rfl)<|Da ?_;refine Ma (λhq=>?_) λhq=>?_;refine Bd ?_;refine oS (sF [_] rfl (qol hG (c::r) hs) ?_);refine Na ?_;exact qb rfl (rC (rA rfl nc rfl Nd) (rC (Fc rfl) (eb rfl))) (by simp only[uk,hc,hl,Uk,if_false];rw[zp hq];rfl);have ZQ:uk (c::r)=DM (c::r):=by simp only[uk,hc,hl,Uk,if_false];rw[zn (by rw[hq];decide)]
  refine xa ?_;refine oS (sF [] rfl qrx ?_);refine Da ?_;refine oL (λk ls H=>∃ m:Nat,k=kl.length-m/\ls=[(0,str (c::r)),(2,ptr b 0),(34,.list (kl.map str)),(35,int .i64 24),(36,int .i64 m)]/\H=[(b,.cells 157 [int .i64 0,str [],int .i64 0])]/\m<=24/\kl.find? (λx=>x.isPrefixOf (c::r))=(kl.drop m).find? (λx=>x.isPrefixOf (c::r)))
   ⟨_,_,_,⟨0,rfl,rfl,rfl,by omega,by simp⟩,lb,Kb _⟩ ?_
  rintro k ls H ⟨m,rfl,rfl,rfl,hm,hI⟩ j hj;have h24:kl.length=24:=rfl;refine Zg ?_;refine Ma (λht=>?_) λht=>?_;have Ja:m<kl.length:=by have:=zt ht;omega
  refine Ti ?_;refine la (xR (ke:=str kl[m]) rfl rfl zo (by simp) rfl rfl)<|wa ?_;refine oS (sF [_,_] rfl (qgy (c::r) kl[m]) ?_);refine dd ?_;refine Ma (λhp=>?_) λhp=>?_;refine wa ?_
  exact qb hj (rC (rA rfl nc rfl Nd) (rC (Fc rfl) (eb rfl))) (by
   rw[ZQ,DM,hI,List.drop_eq_getElem_cons Ja,List.find?_cons_of_pos (by simpa using hp)];rfl)
  refine xa ?_;exact⟨_,_,_,by omega,⟨m+1,rfl,rfl,rfl,by omega,by
   rw[hI,List.drop_eq_getElem_cons Ja,List.find?_cons_of_neg (by rw[hp];decide)]⟩,lb,Kb _,hj⟩
  have Pq:kl.length<=m:=by have:=zf ht;omega
  refine wa ?_;exact qb hj (rC (rA rfl nc rfl Nd) (rC (Fc rfl) (eb rfl))) (by
   rw[ZQ,DM,hI,List.drop_eq_nil_of_le Pq];rfl)
def KD(s:List UInt8):Except (Int×Int) (List Tok):=if 60000<s.length then .error (0,6) else Ik s.length s 1
def UT:Except (Int×Int) (List Tok)->LV
 |.ok T=>.tuple [.list (T.map It),int .i64 0,int .i64 0]
 |.error (l,e)=>.tuple [.list [],int .i64 l,int .i64 e]
theorem qrM{A B D:Type}(f:A->B)(h:B->D)(r:Except (Int×Int) A):(r.map f).map h=r.map (λx=>h (f x)):=by cases r <;> rfl
theorem qq6(hG:GW B0 w0)(s:List UInt8):ca (KC B0 w0) 40 [str s] [] (Qb (UT (KD s))):=by
 refine kb Tryz.func40 rfl (n:=49) rfl rfl rfl ?_;refine wa ?_;refine Ma (λhc=>?_) λhc=>?_;refine Gj ?_
 exact qb rfl (rC (rT (v:=Yb) rfl vN) (rC (Fc rfl) (eb rfl))) (by
  rw[KD,zp (by have:=zt hc;omega)];rfl)
 have na:s.length<=60000:=by have:=zf hc;omega
 refine xa ?_;refine oL (λk ls H=>∃ (v:LV) (out:List Tok) (da:List UInt8) (line:Int) (Aa:Nat),k=da.length/\ls=[(5,v),(6,int .i64 line),(7,str da)]/\Acc 3 v (out.map It) H [] /\
   da.length<=Aa/\0<=line/\line+da.length<=60001/\out.length+da.length<=60000/\Ik s.length s 1=(Ik Aa da line).map (out++·))
  ⟨_,_,_,⟨Yb,[],s,1,s.length,rfl,rfl,Acc.nil,by omega,by omega,by omega,by simp;omega,by cases Ik s.length s 1 <;> rfl⟩,lb,Kb _⟩ ?_
 rintro k ls H ⟨v,out,da,line,Aa,rfl,rfl,Ra,hf,BC,xA,ho,hI⟩ j hj;refine wa ?_;refine Ma (λFb=>?_) λFb=>?_;have np:da≠[]:=by simpa using Fb
 obtain⟨f,rfl⟩:∃ f,Aa=f+1:=⟨Aa-1,by
  have:0<da.length:=List.length_pos_iff.2 np;omega⟩
 rw[Ik,zn np] at hI;have hsk:=qrs da;refine xa ?_;refine oS (sF [_] rfl (qt8 da zo) ?_);refine xa ?_;refine Ma (λhz=>?_) λhz=>?_;have bw:Tu da=0:=by have:=zt hz;omega
 rw[zp bw] at hI;refine Bd ?_;refine oS (sF [_] rfl (qrF hG da zo np) ?_);refine Na ?_;refine oS (Jd λb=>?_);refine wa ?_;refine Ma (λhe=>?_) λhe=>?_;have Ka:(uk da).2.2≠0:=by simpa using he
 rw[zp Ka] at hI;refine xa ?_;exact qb hj (rC (rT (v:=Yb) rfl vN) (rC (Fc rfl) (eb rfl))) (by
  rw[KD,zn zo,hI];rfl)
 have Ka:(uk da).2.2=0:=by simpa using he
 rw[zn (by simpa using Ka)] at hI;obtain⟨lG,J3⟩:=qmv da Ka;refine wa ?_;refine Xi ?_;refine Na ?_;refine tj ?_;refine Ea.qc (Pg ob) ?_;refine oS (S.acc rfl Ra rfl (by simp;rfl) rfl (by simp;omega) λv' H' ab=>?_);refine rm ?_;refine di ?_;refine la (Pure.Ak (i:=0) (j:=(uk da).2.1) rfl rfl ⟨_,rfl⟩ zo zo zo)<|oS (sF [_,_] rfl (qi8 _) ?_);have ZK:(List.drop (Int.toNat 0) (List.take ((uk da).2.1:Int).toNat da)).count 10<=(uk da).2.1:=Qf List.count_le_length (by simp;omega);refine xa ?_;refine la (Pure.Ak (i:=(uk da).2.1) (j:=da.length) rfl ⟨_,rfl⟩ rfl zo zo zo)<|Da ?_
 have ie:Acc 3 v' ((out++[{ (uk da).1 with line:=line }]).map It) H' []:=by rw[Je];exact ab
 exact⟨_,_,_,by simp only[length_drop];omega,⟨v',out++[{ (uk da).1 with line:=line }],da.drop (uk da).2.1,line+((da.take (uk da).2.1).count 10:Nat),f,rfl,rfl,ie,
  by simp only[length_drop];omega,by omega,by simp only[length_drop];simp at ZK;omega,by simp only[length_drop,Ga,List.length_singleton];omega,by
   rw[hI,qrM];congr 1;funext x;simp⟩,⟨rfl,Kg (by simp),vP (by simp),trivial⟩,Kb _,hj⟩
 have bw:¬ Tu da=0:=by have:=zf hz;omega
 rw[zn bw] at hI;refine xa ?_;refine la (Pure.Ak (i:=0) (j:=Tu da) rfl rfl ⟨_,rfl⟩ zo zo zo)<|oS (sF [_,_] rfl (qi8 _) ?_);have ZK:(List.drop (Int.toNat 0) (List.take (Tu da:Int).toNat da)).count 10<=Tu da:=Qf List.count_le_length (by simp;omega);refine xa ?_;refine la (Pure.Ak (i:=Tu da) (j:=da.length) rfl ⟨_,rfl⟩ rfl zo zo zo)<|Da ?_;exact⟨_,_,_,by simp only[length_drop];omega,⟨v,out,da.drop (Tu da),line+((da.take (Tu da)).count 10:Nat),f,rfl,rfl,Ra,
   by simp only[length_drop];omega,by omega,by simp only[length_drop];simp at ZK;omega,by simp only[length_drop];omega,hI⟩,⟨rfl,Kg (by simp),vP (by simp),trivial⟩,Kb _,hj⟩
 have np:da=[]:=by simpa using Fb
 refine xa ?_;refine LA ?_;exact qb hj (rC (rT (v:=v) rfl Ra.sub) (rC (Fc rfl) (eb rfl))) (by
  rw[KD,zn zo,hI,np];cases Aa <;> simp[Ik,Except.map,UT,Dh])
attribute [local irreducible] LQ yb nh db
@[reducible] def Gb(sb:Nat)(T:List Tok)(i op:Nat):Nat×ma:=(sb,.cells 106 [.list (T.map It),int .i64 i,int .i64 op])
def nN(l e:Int):List PanicEntry:=[{ v:=.iface 102 (.agg #[.int .i64 l,.int .i64 e]),recovered:=false }]
def Gn{A:Type}(sb:Nat)(T:List Tok)(enc:A->LV)(Cn:Jj A)(r:Ie)(H:Heap):Prop:=match Cn with
 |.ok v i op=>r=.ret (enc v)/\H=[Gb sb T i op]
 |.err l e=>r=.panic (nN l e)/\∃ i op:Nat,H=[Gb sb T i op]
def Gz:Unit->LV:=λ_=>.tuple []
theorem Ln{A:Type}(f:A->LV)(l:List A)(i:Nat)(h:i<l.length):(l.map f)[((i:Nat):Int).toNat]? = some (f l[i]):=by rw[Int.toNat_natCast,List.getElem?_map,jh h];rfl
theorem Jt(sb:Nat)(T:List Tok)(i op:Nat)(xs:List (List UInt8))(hT:T.length<=100000)(hi:i<=1000000)(hx:xs.length<=1000) :
  ca (KC B0 w0) 76 [ptr sb 0,.list (xs.map str)] [Gb sb T i op] (λr H=>r=.ret (bool (nf T i xs))/\H=[Gb sb T i op]):=by
 refine kb Tryz.func76 rfl (n:=40) rfl rfl rfl ?_;refine Yn ?_;refine Sz [(0,ptr sb 0),(1,.list (xs.map str)),(15,bool (decide (T.length<=i)))] ?_ λj hj=>?_;refine qm ?_;exact⟨⟨rfl,rfl,xe (by rw[decide_eq_decide];simp),trivial⟩,rfl,rfl⟩
 skip
 refine Ma (λhc=>?_) λhc=>?_;refine Gj ?_;exact rR hj (eb rfl) ob ⟨by rw[nf,List.getElem?_eq_none (zt hc)];rfl,rfl⟩;have Ja:i<T.length:=by have:=zf hc;omega
 refine Da ?_;refine cD (m:=12) rfl [Gb sb T i op]<|NL ?_;refine aT 3 rfl rfl (pL (c:=.list _) rfl nc rfl)<|aT 4 rfl rfl (pM (lv:=.atom _) rfl)<|aT 5 rfl rfl (pN rfl)<|aT 6 rfl rfl (pF rfl)<|aT 7 rfl rfl (pL (c:=.atom _) rfl nc rfl)<|yb.take (i:=8) ob rfl zk zk zk rfl (xR (ke:=It T[i]) (cs:=[_,_,_]) rfl rfl zo (Ln _ _ _ Ja) rfl rfl)<|aT 9 rfl rfl (pR (Ob:=[_,_,_]) rfl rfl rfl)<|aL ?_ ob;refine lO 10 (lS (H1:=[]) (F:=[Gb sb T i op]) rfl (.inl rfl) rfl mc ob (Jd λb=>?_));refine lO 11 (lS (H1:=[(b,_)]) (F:=[Gb sb T i op]) rfl (.inl rfl) rfl mc ob (sS (Ob:=[_,_,_]) rfl pH rfl rfl rfl rfl rfl ?_));refine lD zk ?_;refine xa ?_;have Bo:nf T i xs=((decide (T[i].kind=3) || decide (T[i].kind=4)) && xs.contains T[i].text):=by rw[nf,jh Ja]
 rw[Bo];refine oB 29 rfl (λh3=>?_) λh3=>?_;refine Da ?_;refine oS (sF [_,_] rfl (BV xs T[i].text zo) ?_);refine Da ?_;exact rR hj (eb rfl) (Pg ob) ⟨by rw[h3];rfl,rfl⟩;refine Da ?_;refine oB 34 rfl (λh4=>?_) λh4=>?_;refine Da ?_;refine oS (sF [_,_] rfl (BV xs T[i].text zo) ?_);refine Da ?_;exact rR hj (eb rfl) (Pg ob) ⟨by rw[h3,h4];rfl,rfl⟩;refine Da ?_;exact rR hj (eb rfl) (Pg ob) ⟨by rw[h3,h4];rfl,rfl⟩
section steps
variable{C:Ctx}{e:Env}{H:Heap}{dst:Option Nat}{ty:TypeId}{ra:String}{ua:Array Edge}{g:Option (Nat×Bool)}{K:LV->Heap->Prop}{X:List PanicEntry->Heap->Prop}
theorem sH{f:FuncId} [Tb C.P f](args:List Operand){Rd:Array TypeId}{av:List LV}{lv:LV}{p p':Nat×ma}{F:Heap}(has:args.map e.ev=av)(hp:xd p H F)(hc:ca C f av [p] λr H=>r=.ret lv/\H=[p'])(hk:K lv (p'::F)) :
  Ya C ⟨dst,.call { callee:=.value (.func f),args:=args.toArray,argTypes:=Rd },ty,ra,ua,g⟩ e H K X:=
 S.QI args has hp hc (by rintro v H' ⟨h,rfl⟩;cases h;exact hk) (by rintro ch H' ⟨h,_⟩;cases h)
theorem sP{A:Type}{enc:A->LV}{Cn:Jj A}{f:FuncId} [Tb C.P f](args:List Operand){Rd:Array TypeId}{av:List LV}{F:Heap}(has:args.map e.ev=av)(hp:xd (Gb sb T i op) H F)
  (hc:ca C f av [Gb sb T i op] (Gn sb T enc Cn)) (hk:∀ v i' Qa,Cn=.ok v i' Qa->K (enc v) (Gb sb T i' Qa::F)) (hx:∀ l er i' Qa,Cn=.err l er->X (nN l er) (Gb sb T i' Qa::F)) :
  Ya C ⟨dst,.call { callee:=.value (.func f),args:=args.toArray,argTypes:=Rd },ty,ra,ua,g⟩ e H K X:=by
 refine S.QI args has hp hc ?_ ?_;intro v H' h;cases hr:Cn with
 |ok u i' Qa=>rw[hr] at h;obtain⟨h1,rfl⟩:=h;cases h1;exact hk _ _ _ hr
 |err l er=>rw[hr] at h;obtain⟨h1,_⟩:=h;cases h1
 intro ch H' h;cases hr:Cn with
 |ok u i' Qa=>rw[hr] at h;obtain⟨h1,_⟩:=h;cases h1
 |err l er=>rw[hr] at h;obtain⟨h1,i',Qa,rfl⟩:=h;cases h1;exact hx _ _ _ _ hr
theorem Hf{A:Type}{enc:A->LV}{Cn:Jj A}{vs:List LV}{v:A}(hd:e.ds=[])(h:Dm C n e H rs vs)(hr:Cn=.ok v i op)(hv:Dh vs=enc v)(hH:HSub [Gb sb T i op] H) :
  Kd C n rs (Gn sb T enc Cn) .ret e H:=rR hd h hH (by rw[hr];exact⟨by rw[hv],rfl⟩)
theorem fX{A:Type}{enc:A->LV}{Cn:Jj A}{vs:List LV}{v:A}(hd:e.ds=[])(h:Dm C n e H rs vs)(hr:Cn=.ok v i op)(hv:Dh vs=enc v)(hH:HSub [Gb sb T i op] H) :
  Kd C n rs (Gn sb T enc Cn) .normal e H:=rO hd h hH (by rw[hr];exact⟨by rw[hv],rfl⟩)
theorem Gc{A:Type}{enc:A->LV}{Cn:Jj A}{l er:Int}(hd:e.ds=[])(hr:Cn=.err l er)(hH:HSub [Gb sb T i op] H) :
  Kd C n rs (Gn sb T enc Cn) (.panic (nN l er)) e H:=Kd.panic hd hH (by rw[hr];exact⟨rfl,i,op,rfl⟩)
end steps
variable{B0:Nat}{w0:World}
theorem lQ{A:Type}(enc:A->LV)(sb:Nat)(T:List Tok)(i op:Nat)(er:Int)(hT:T.length<=100000)(hi:i<=1000000) :
  ca (KC B0 w0) 81 [ptr sb 0,int .i64 er] [Gb sb T i op] (Gn sb T enc (.err (QM T i) er)):=by
 have Mx:(T.map It).length=T.length:=Db _;refine kb Tryz.func81 rfl (n:=31) rfl rfl rfl ?_;refine wa ?_;refine Sz [(0,ptr sb 0),(1,int .i64 er),(4,int .i64 (QM T i))] ?_ λj hj=>?_;refine Ma (λhc=>?_) λhc=>?_;have qz:0<T.length:=by have:=zt hc;simp at this;omega
 have AR:min i (T.length-1)<T.length:=by omega
 have hmv:(if ((T.map It).length:Int)-1<(i:Int) then ((T.map It).length:Int)-1 else (i:Int))=((min i (T.length-1):Nat):Int):=by rw[Db];split <;> omega
 refine qm ?_;refine qP (xR (n:=((min i (T.length-1):Nat):Int)) (ke:=It T[min i (T.length-1)]) (cs:=[_,_,_]) rfl (congrArg (int .i64) hmv) zo (Ln _ _ _ AR) rfl rfl) rfl ?_;refine Na ?_;exact⟨⟨rfl,rfl,Kg (by rw[QM,jh AR]),trivial⟩,rfl,rfl⟩;have hz:T=[]:=by have:=zf hc;exact List.length_eq_zero_iff.1 zo
 refine Da ?_;exact⟨⟨rfl,rfl,Kg (by rw[QM,hz];rfl),trivial⟩,rfl,rfl⟩;refine wa ?_;refine oS (Ya.panic rfl λe' Ka=>?_);exact Gc (Ka.trans hj) rfl ob
theorem QD(sb:Nat)(T:List Tok)(i op:Nat)(x:List UInt8)(hT:T.length<=100000)(hi:i<=1000000) :
  ca (KC B0 w0) 78 [ptr sb 0,str x] [Gb sb T i op] (λr H=>r=.ret (bool (nf T i [x]))/\H=[Gb sb T (if nf T i [x] then i+1 else i) op]):=by
 refine kb Tryz.func78 rfl (n:=17) rfl rfl rfl ?_;refine di ?_;refine tj ?_;refine oS (sH [_,_] rfl pH (Jt sb T i op [x] hT hi (by simp)) ?_);refine Na ?_;refine Ma (λhc=>?_) λhc=>?_;have h:nf T i [x]=false:=by simpa using hc
 refine Gj ?_;exact rR rfl (eb rfl) ob ⟨by rw[h];rfl,by rw[h];rfl⟩;have h:nf T i [x]=true:=by simpa using hc
 refine wa ?_;exact rR rfl (eb rfl) ob ⟨by rw[h];rfl,by rw[h];rfl⟩
theorem bK(sb:Nat)(T:List Tok)(i op:Nat)(x:List UInt8)(hT:T.length<=100000)(hi:i<=1000000) :
  ca (KC B0 w0) 148 [ptr sb 0,str x] [Gb sb T i op] (Gn sb T Gz (yv T x i op)):=by
 refine kb Tryz.func148 rfl (n:=10) rfl rfl rfl ?_;refine Bd ?_;refine oS (sH [_,_] rfl pH (QD sb T i op x hT hi) ?_);refine Na ?_;refine Ma (λhc=>?_) λhc=>?_;have h:nf T i [x]=false:=by simpa using hc
 simp only[h,Uk,if_false];refine Bd ?_;refine oS (sP [_,_] rfl pH (lQ Gz sb T i op 3 hT hi) (λ_ _ _ h=>by cases h) λl er i' Qa h e' Ka=>?_);cases h;exact Gc (Ka.trans rfl) (by rw[yv,h,zn fa];rfl) ob;have h:nf T i [x]=true:=by simpa using hc
 simp only[h,if_true];refine Da ?_;exact fX rfl rN (by rw[yv,h,zp rfl]) rfl ob
theorem gn(sb:Nat)(T:List Tok)(i op:Nat)(k:Int)(hT:T.length<=100000)(hi:i<=1000000) :
  ca (KC B0 w0) 149 [ptr sb 0,int .i64 k] [Gb sb T i op] (Gn sb T str (Gr T k i op)):=by
 have Mx:(T.map It).length=T.length:=Db _;refine kb Tryz.func149 rfl (n:=51) rfl rfl rfl ?_;refine Yn ?_;refine Sz [(0,ptr sb 0),(1,int .i64 k),(29,bool (match T[i]? with|some t=>!decide (t.kind=k)|none=>true))] ?_ λj hj=>?_;refine qm ?_;refine LQ.RI 15 rfl (λh=>?_) λh=>?_;have Pq:T.length<=i:=by have:=zt h;omega
 refine Na ?_;exact⟨⟨rfl,rfl,xe (by rw[List.getElem?_eq_none Pq]),trivial⟩,rfl,rfl⟩;have Ja:i<T.length:=by have:=zf h;omega
 refine Na ?_;refine qP (xR (ke:=It T[i]) (cs:=[_,_,_]) rfl rfl zo (Ln _ _ _ Ja) rfl rfl) rfl ?_;refine Na ?_;exact⟨⟨rfl,rfl,xe (by rw[jh Ja]),trivial⟩,rfl,rfl⟩
 skip
 refine Ma (λhc=>?_) λhc=>?_
 have hs:Gr T k i op=jM T i:=by
  unfold Gr;cases hg:T[i]? with
  |none=>rfl
  |some t=>
   rw[hg] at hc;have:¬ t.kind=k:=by simpa using hc
   simp only;rw[zn this]
 refine Bd ?_;refine oS (sP [_,_] rfl pH (lQ str sb T i op 3 hT hi) (λ_ _ _ h=>by cases h) λl er i' Qa h e' Ka=>?_);cases h;refine Ei ?_;exact Gc (Ka.trans hj) hs ob
 have Ja:i<T.length:=by rcases Nat.lt_or_ge i T.length with h|h;exact h;rw[List.getElem?_eq_none h] at hc;cases hc
 rw[jh Ja] at hc;have hk:T[i].kind=k:=by simpa using hc
 have hs:Gr T k i op=.ok T[i].text (i+1) op:=by rw[Gr,jh Ja];simp only;rw[zp hk]
 refine wa ?_;refine Sz [(0,ptr sb 0),(4,str T[i].text)] ?_ λj2 wc=>?_;refine qm ?_;refine qP (xR (n:=((i:Nat):Int)) (ke:=It T[i]) (cs:=[_,_,_]) rfl (Kg zo) zo (Ln _ _ _ Ja) rfl rfl) rfl ?_;refine Na ?_;exact⟨lb,rfl,rfl⟩;refine dd ?_;exact Hf (wc.trans hj) (eb rfl) hs rfl ob
theorem wF(sb:Nat)(T:List Tok)(i op:Nat)(x:List UInt8)(hT:T.length<=100000)(hi:i<=1000000)(ho:op<=1000000) :
  ca (KC B0 w0) 150 [ptr sb 0,str x] [Gb sb T i op] (Gn sb T Gz (Mr T x i op)):=by
 refine kb Tryz.func150 rfl (n:=32) rfl rfl rfl ?_;refine Bd ?_;refine tj ?_;refine oS (sH [_,_] rfl pH (Jt sb T i op [x] hT hi (by simp)) ?_);refine Na ?_;refine Ma (λhc=>?_) λhc=>?_;have h:nf T i [x]=false:=by simpa using hc
 refine Bd ?_;refine oS (sP [_,_] rfl pH (lQ Gz sb T i op 3 hT hi) (λ_ _ _ h=>by cases h) λl er i' Qa h' e' Ka=>?_);cases h';refine Ei ?_;exact Gc (Ka.trans rfl) (by rw[Mr,h,zn fa];rfl) ob;have h:nf T i [x]=true:=by simpa using hc
 refine wa ?_;refine Ma (λhd=>?_) λhd=>?_;have Z4:100<=op:=by have:=zt hd;omega
 refine Bd ?_;refine oS (sP [_,_] rfl pH (lQ Gz sb T i op 6 hT hi) (λ_ _ _ h=>by cases h) λl er i' Qa h' e' Ka=>?_);cases h';refine Ei ?_;exact Gc (Ka.trans rfl) (by rw[Mr,h,zp rfl,zp Z4]) ob;have Z4:¬ 100<=op:=by have:=zf hd;omega
 refine wa ?_;exact fX rfl rN (by rw[Mr,h,zp rfl,zn Z4]) rfl ob
theorem NJ(sb:Nat)(T:List Tok)(i op:Nat)(x:List UInt8)(hT:T.length<=100000)(hi:i<=1000000)(ho:op<=1000000)(h1:1<=op) :
  ca (KC B0 w0) 152 [ptr sb 0,str x] [Gb sb T i op] (Gn sb T Gz (gl T x i op)):=by
 refine kb Tryz.func152 rfl (n:=14) rfl rfl rfl ?_;refine Bd ?_;refine oS (sP [_,_] rfl pH (bK sb T i op x hT hi) (λv i' Qa h=>?_) λl er i' Qa h e' Ka=>?_)
 have Xc:Qa=op:=by unfold yv at h;split at h;cases h;rfl;cases h
 subst Xc;refine wa ?_;rw[show((Qa:Int)-1)=((Qa-1:Nat):Int) by omega];exact fX rfl rN (by rw[gl,h];rfl) rfl ob;refine Ei ?_;exact Gc (Ka.trans rfl) (by rw[gl,h];rfl) ob
theorem Ee{A B:Type}{v:A}{f:A->Nat->Nat->OR B}:Sd (some (.ok v i op)) f=f v i op:=rfl
theorem zh{A B:Type}{l e:Int}{f:A->Nat->Nat->OR B}:Sd (some (.err l e)) f=some (.err l e):=rfl
theorem Ek{A B:Type}{r:OR A}{f:A->Nat->Nat->OR B}{q:Jj B}(h:Sd r f=some q):∃ r1,r=some r1:=by
 cases r with
 |none=>cases h
 |some r1=>exact⟨r1,rfl⟩
structure Rs(T:List Tok):Prop where
 len:T.length<=100000
 ic:∀ t∈T,t.text.length<=100000
 num:∀ t∈T,t.kind=1->∃ u,u<4294967296/\Go.Lib.parseUintB 32 t.text=.ok u
theorem qwn{n:Int}(h:0<=n/\n<=4294967295):IntKind.u32.wrap n=n:=by simp only[IntKind.wrap,IntKind.bits,IntKind.signed,Ui];simp;omega
theorem oF{k:Int}{i' Qa:Nat}{s:List UInt8}(h:Gr T k i op=.ok s i' Qa):i'=i+1/\Qa=op/\∃ t,T[i]? = some t/\t.kind=k/\t.text=s:=by unfold Gr at h;split at h;rename_i t ht;split at h;rename_i hk;cases h;exact⟨rfl,rfl,t,ht,hk,rfl⟩;cases h;cases h
def qp3(l:List (List UInt8)):LV:=.list (l.map str)
def Z5(n:Nat):LV:=int .u32 n
def ZE(B0:Nat)(w0:World)(sb:Nat)(T:List Tok)(f:Nat):Prop:=
 ∀ i op r,i<=T.length->op<=100->Eg T f 0 i op=some r->ca (KC B0 w0) 225 [ptr sb 0] [Gb sb T i op] (Gn sb T Ab r)
theorem qiZ(hG:GW B0 w0)(sb:Nat)(T:List Tok)(hT:Rs T)(i op:Nat)(hi:i<=1000000):ca (KC B0 w0) 151 [ptr sb 0] [Gb sb T i op] (Gn sb T Z5 (tH T i op)):=by
 have hl:=hT.len;refine kb Tryz.func151 rfl (n:=13) rfl rfl rfl ?_;refine di ?_;refine oS (sP [_,_] rfl pH (gn sb T i op 1 hl hi) (λs i1 Nc h1=>?_) λl er i1 Nc h1 e' Ka=>?_);obtain⟨rfl,rfl,t,ht,hk,rfl⟩:=oF h1;have Uh:=List.mem_of_getElem? ht;obtain⟨u,hu,hp⟩:=hT.num t Uh hk;have htx:=hT.ic t Uh;have hn:Lu t.text=u:=by rw[Lu,hp]
 have hw:IntKind.u32.wrap (u:Int)=(u:Int):=qwn zo;refine oS (sF [_,_,_] rfl (qi4 t.text zo u hp) ?_);refine wa ?_;exact Hf (v:=Lu t.text) rfl (eb rfl) (by rw[tH,h1];rfl) (by rw[hn];exact Kg hw) ob;refine Ei ?_;exact Gc (Ka.trans rfl) (by rw[tH,h1];rfl) ob
theorem qjF(sb:Nat)(T:List Tok)(hT:Rs T)(f i op:Nat)(r:Jj (List (List UInt8)))(hi:i<=T.length)(hr:dH T f i op=some r) :
  ca (KC B0 w0) 147 [ptr sb 0] [Gb sb T i op] (Gn sb T qp3 r):=by
 have hl:=hT.len;rw[dH] at hr;refine kb Tryz.func147 rfl (n:=15) rfl rfl rfl ?_;refine di ?_;refine oS (sP [_,_] rfl pH (gn sb T i op 2 hl zo) (λs i1 Nc h1=>?_) λl er i1 Nc h1 e' Ka=>?_);rw[h1,Ee] at hr
 have zA:i1<=T.length:=by have:=mA T 2 i op;rw[h1] at this;exact this.2.2.1 hi
 refine oS (S.Wt [_] rfl (gd rfl rfl Ch) rfl rfl rfl λb=>?_);refine Na ?_
 refine oL (λk ls H=>∃ (v:LV) (l:List (List UInt8)) (i2:Nat) (Ha:Heap),ls=[(0,ptr sb 0),(3,v)]/\H=Gb sb T i2 Nc::Ha/\Acc 1 v (l.map str) Ha []/\i2<=T.length/\l.length<=i2+1/\nA T k l i2 Nc=some r)
  ⟨f,_,Gb sb T i1 Nc::[(b,.row 1)],⟨.app b 1 1 [str s],[s],i1,_,rfl,rfl,Acc.row,zA,by simp,hr⟩,lb,tc Od ob⟩ ?_
 rintro k ls H ⟨v,l,i2,Ha,rfl,rfl,Ra,xw,aE,hI⟩ j hj;obtain⟨k,rfl⟩:∃ k',k=k'+1:=by
  cases k with
  |zero=>rw[nA] at hI;cases hI
  |succ k=>exact⟨k,rfl⟩
 rw[nA] at hI;refine Bd ?_;refine oS (sH [_,_] rfl pH (QD sb T i2 Nc [44] hl zo) ?_);refine dd ?_;refine Ma (λhc=>?_) λhc=>?_;have Ja:=Dk hc;rw[zp hc] at hI;simp only[hc,if_true];refine vy ?_;refine oS (sP [_,_] rfl pH (gn sb T (i2+1) Nc 2 hl zo) (λs2 i3 yg h3=>?_) λl er i3 yg h3 e' Ka=>?_);rw[h3,Ee] at hI;obtain⟨rfl,rfl,t,ht,_,_⟩:=oF h3;have:=BJ ht;refine tj ?_;refine oS (S.Jw rfl Ra rfl (by simp;rfl) rfl (by simp;omega) λv' H' ab=>?_);refine rm ?_;refine Da ?_;exact⟨k,_,_,by omega,⟨v',l++[s2],i2+1+1,H',rfl,rfl,by rw[Je];exact ab,by omega,by simp;omega,hI⟩,lb,Kb _,hj⟩;rw[h3,zh] at hI;refine Qd ?_;exact Gc (Ka.trans hj) (by cases hI;rfl) qd;have Il:nf T i2 [[44]]=false:=hc;rw[zn (by rw[Il];decide)] at hI;simp only[Il,Uk,if_false];refine xa ?_;refine LA ?_;exact Hf (v:=l) hj (rC (rT (v:=v) rfl Ra.sub) rN) (by cases hI;rfl) rfl qd;exact zE
theorem RZ(sb:Nat)(T:List Tok)(hT:Rs T)(f:Nat)(hE:ZE B0 w0 sb T f)(i op:Nat)(r:Jj Ex)(hi:i<=T.length)(ho:op<=100)(hr:lB T (f+1) i op=some r) :
  ca (KC B0 w0) 257 [ptr sb 0] [Gb sb T i op] (Gn sb T Ab r):=by
 have hl:=hT.len;rw[lB] at hr;refine kb Tryz.func257 rfl (n:=11) rfl rfl rfl ?_;refine qe ?_;refine oS (Jd λb=>?_);refine Di ?_;refine oS (sP [_,_] rfl Od (wF sb T i op [91] hl zo zo) (λv i1 Nc h1=>?_) λl er i1 Nc h1 e' Ka=>?_);rw[h1,Ee] at hr;obtain⟨rfl,rfl,pw,zA⟩:=Pv h1;refine Di ?_;obtain⟨r1,oe⟩:=Ek hr;refine oS (sP [_] rfl pH (hE _ _ r1 zo zo oe) (λv i2 Lg h2=>?_) λl er i2 Lg h2 e' Ka=>?_);rw[oe,h2,Ee] at hr;obtain⟨g1,_,g3,rfl⟩:=(ux T f).1 0 _ _ _ (oe.trans (congrArg some h2));have g4:=g3 zo;refine oS (Jd λb2=>?_);refine wa ?_;refine oS (sP [_,_] rfl Od (NJ sb T i2 (op+1) [93] hl zo zo zo) (λu i3 yg h3=>?_) λl er i3 yg h3 e' Ka=>?_);rw[h3,Ee] at hr;refine wa ?_;exact Hf rfl (rC (rA rfl nc rfl Nd) rN) (by cases hr;rfl) rfl (Pg qd);rw[h3,zh] at hr;refine Ei ?_;exact Gc (Ka.trans rfl) (by cases hr;rfl) qd;rw[oe,h2,zh] at hr;refine Ei ?_;exact Gc (Ka.trans rfl) (by cases hr;rfl) qd;exact zE
def GS(l:List Ex):LV:=.list (l.map Ab)
theorem qne(sb:Nat)(T:List Tok)(hT:Rs T)(f:Nat)(hE:∀ g,g<f->ZE B0 w0 sb T g)(i op:Nat)(r:Jj (List Ex))(hi:i<=T.length)(ho:op<=100)(hr:AD T f i op=some r) :
  ca (KC B0 w0) 256 [ptr sb 0] [Gb sb T i op] (Gn sb T GS r):=by
 have hl:=hT.len;obtain⟨f,rfl⟩:∃ g,f=g+1:=by
  cases f with
  |zero=>rw[AD] at hr;cases hr
  |succ g=>exact⟨g,rfl⟩
 rw[AD] at hr;refine kb Tryz.func256 rfl (n:=23) rfl rfl rfl ?_;refine di ?_;refine oS (sP [_,_] rfl pH (wF sb T i op [40] hl zo zo) (λv i1 Nc h1=>?_) λl er i1 Nc h1 e' Ka=>?_);rw[h1,Ee] at hr;obtain⟨rfl,rfl,pw,zA⟩:=Pv h1;refine xa ?_;obtain⟨r1,oe⟩:=Ek hr
 refine oL (λk ls H=>∃ (v:LV) (l:List Ex) (i2:Nat) (Ha:Heap),k<=f/\ls=[(0,ptr sb 0),(3,v)]/\H=Gb sb T i2 (op+1)::Ha/\Acc 4 v (l.map Ab) Ha []/\i2<=T.length/\l.length<=i2+1/\yB T k l i2 (op+1)=some r1)
  ⟨f,_,Gb sb T (i+1) (op+1)::[],⟨Yb,[],i+1,_,Jb _,rfl,rfl,Acc.nil,by omega,by simp,oe⟩,lb,Kb _⟩ ?_
 rintro k ls H ⟨v,l,i2,Ha,L4,rfl,rfl,Ra,xw,aE,hI⟩ j hj;obtain⟨k,rfl⟩:∃ k',k=k'+1:=by
  cases k with
  |zero=>rw[yB] at hI;cases hI
  |succ k=>exact⟨k,rfl⟩
 rw[yB] at hI;refine Bd ?_;refine tj ?_;refine oS (sH [_,_] rfl pH (Jt sb T i2 (op+1) [[41]] hl zo (by simp)) ?_);refine Na ?_;refine Ma (λhc=>?_) λhc=>?_;have Il:nf T i2 [[41]]=false:=by simpa using hc
 rw[zn (by rw[Il];decide)] at hI;refine Ti ?_;refine Xi ?_;refine la (Pure.kp Ra.elems)<|Na ?_;refine Ma (λhd=>?_) λhd=>?_
 have BC:¬ l=[]:=by rintro rfl;have:=zt hd;simp at this
 rw[zn BC] at hI;refine Bd ?_;refine oS (sP [_,_] rfl pH (bK sb T i2 (op+1) [44] hl zo) (λu i3 yg h3=>?_) λl er i3 yg h3 e' Ka=>?_);rw[h3,Ee] at hI
 obtain⟨q1,q2,q3,rfl⟩:i2<=i3/\(true=true->i2<i3)/\(i2<=T.length->i3<=T.length)/\yg=op+1:=by have:=yx T [44] i2 (op+1);rw[h3] at this;exact this
 have q4:=q3 xw;refine Zg ?_;refine Xi ?_;refine fi ?_;obtain⟨r2,ae⟩:=Ek hI;refine oS (sP [_] rfl pH (hE k zo _ _ r2 zo zo ae) (λe2 i4 jn h4=>?_) λl er i4 jn h4 e' Ka=>?_);exact V6;rw[ae,h4,zh] at hI;rw[oe] at hr;cases hI;rw[zh] at hr;refine Qd ?_;exact Gc (Ka.trans hj) (by cases hr;rfl) qd;rw[h3,zh] at hI;rw[oe] at hr;cases hI;rw[zh] at hr;refine Qd ?_;exact Gc (Ka.trans hj) (by cases hr;rfl) qd
 have BC:l=[]:=by have:=zf hd;simp at this;exact this
 rw[zp BC,Ee] at hI;refine vy ?_;obtain⟨r2,ae⟩:=Ek hI;refine oS (sP [_] rfl pH (hE k zo _ _ r2 zo zo ae) (λe2 i4 jn h4=>?_) λl er i4 jn h4 e' Ka=>?_);exact V6;rw[ae,h4,zh] at hI;rw[oe] at hr;cases hI;rw[zh] at hr;refine Qd ?_;exact Gc (Ka.trans hj) (by cases hr;rfl) qd;have Il:nf T i2 [[41]]=true:=by simpa using hc
 rw[zp Il] at hI;refine xa ?_;rw[oe] at hr;cases hI;rw[Ee] at hr;refine oS (sP [_,_] rfl pH (NJ sb T i2 (op+1) [41] hl zo zo zo) (λu i3 yg h3=>?_) λl er i3 yg h3 e' Ka=>?_);rw[h3,Ee] at hr;refine Zg ?_;refine LA ?_;exact Hf (v:=l) hj (rC (rT (v:=v) rfl Ra.sub) rN) (by cases hr;rfl) rfl qd;rw[h3,zh] at hr;refine Ei ?_;exact Gc (Ka.trans hj) (by cases hr;rfl) qd;exact zE
theorem qjS(sb:Nat)(T:List Tok)(hT:Rs T)(f:Nat)(hE:∀ g,g<f->ZE B0 w0 sb T g)(i op:Nat)(r:Jj Ex)(hi:i<=T.length)(ho:op<=100)(hr:lB T f i op=some r) :
  ca (KC B0 w0) 257 [ptr sb 0] [Gb sb T i op] (Gn sb T Ab r):=by
 cases f with
 |zero=>rw[lB] at hr;cases hr
 |succ f=>exact RZ sb T hT f (hE f zo) i op r hi ho hr
theorem quO(hG:GW B0 w0)(sb:Nat)(T:List Tok)(hT:Rs T)(f:Nat)(hE:∀ g,g<f->ZE B0 w0 sb T g)(i op:Nat)(r:Jj Ex)(hi:i<=T.length)(ho:op<=100)(hr:aF T f i op=some r) :
  ca (KC B0 w0) 270 [ptr sb 0] [Gb sb T i op] (Gn sb T Ab r):=by
 have hl:=hT.len;have Mx:(T.map It).length=T.length:=Db _;obtain⟨f,rfl⟩:∃ g,f=g+1:=by
  cases f with
  |zero=>rw[aF] at hr;cases hr
  |succ g=>exact⟨g,rfl⟩
 rw[aF] at hr;refine kb Tryz.func270 rfl (n:=63) rfl rfl rfl ?_;refine qe ?_;refine oS (Jd λb=>?_);refine Di ?_;refine tj ?_;refine oS (sH [_,_] rfl Od (Jt sb T i op [[40]] hl zo (by simp)) ?_);refine dd ?_;refine Ma (λhp=>?_) λhp=>?_;rw[zp hp] at hr;refine Bd ?_;refine oS (sP [_,_] rfl pH (wF sb T i op [40] hl zo zo) (λv i1 Nc h1=>?_) λl er i1 Nc h1 e' Ka=>?_);rw[h1,Ee] at hr;obtain⟨rfl,rfl,pw,zA⟩:=Pv h1;refine Di ?_;obtain⟨r1,oe⟩:=Ek hr;refine oS (sP [_] rfl pH (hE f zo _ _ r1 zo zo oe) (λv i2 Lg h2=>?_) λl er i2 Lg h2 e' Ka=>?_);rw[oe,h2,Ee] at hr;obtain⟨g1,_,g3,rfl⟩:=(ux T f).1 0 _ _ _ (oe.trans (congrArg some h2));have g4:=g3 zo;refine oS (Jd λb2=>?_);refine wa ?_;refine oS (sP [_,_] rfl Od (NJ sb T i2 (op+1) [41] hl zo zo zo) (λu i3 yg h3=>?_) λl er i3 yg h3 e' Ka=>?_);rw[h3,Ee] at hr;refine wa ?_;exact Hf rfl (rC (rA rfl nc rfl Nd) rN) (by cases hr;rfl) rfl (Pg qd);rw[h3,zh] at hr;refine Ei ?_;exact Gc (Ka.trans rfl) (by cases hr;rfl) qd;rw[oe,h2,zh] at hr;refine Ei ?_;exact Gc (Ka.trans rfl) (by cases hr;rfl) qd;exact zE;have Xk:nf T i [[40]]=false:=hp;rw[zn (by rw[Xk];decide)] at hr;refine Da ?_;refine Sz [(0,ptr sb 0),(2,ptr b 0),(38,bool (decide (VT T i=1)))] ?_ λj hj=>?_;refine qm ?_;refine LQ.RI 25 rfl (λh=>?_) λh=>?_;have Ja:i<T.length:=by have:=zt h;omega
 refine Na ?_;refine qP (xR (ke:=It T[i]) (cs:=[_,_,_]) rfl rfl zo (Ln _ _ _ Ja) rfl rfl) rfl ?_;refine Na ?_;exact⟨⟨rfl,rfl,xe (by rw[VT,jh Ja]),trivial⟩,rfl,rfl⟩;have Pq:T.length<=i:=by have:=zf h;omega
 refine Na ?_;exact⟨⟨rfl,rfl,xe (by rw[VT,List.getElem?_eq_none Pq];rfl),trivial⟩,rfl,rfl⟩
 skip
 refine Ma (λhk=>?_) λhk=>?_;rw[zp (zt hk)] at hr;refine Bd ?_;refine oS (sP [_] rfl pH (qiZ hG sb T hT i op zo) (λn i1 Nc h1=>?_) λl er i1 Nc h1 e' Ka=>?_);rw[h1,Ee] at hr;refine Na ?_;exact Hf (v:=.mk tf n [] []) hj (rC (rA (k:=4) rfl nc rfl (vA (bs:=[_,_,_,.list []]) ⟨vR _,vR _,vR _,vN,trivial⟩)) rN) (by cases hr;rfl) (by rw[uB];rfl) (tc Od yd);rw[h1,zh] at hr;refine Ei ?_;exact Gc (Ka.trans hj) (by cases hr;rfl) qd;rw[zn (zf hk)] at hr;refine xa ?_;refine oS (sP [_,_] rfl pH (gn sb T i op 2 hl zo) (λs i1 Nc h1=>?_) λl er i1 Nc h1 e' Ka=>?_);rw[h1,Ee] at hr;obtain⟨rfl,rfl,t,ht,_,_⟩:=oF h1;have:=BJ ht;refine xa ?_;refine tj ?_;refine oS (sH [_,_] rfl pH (Jt sb T (i+1) Nc [[91]] hl zo (by simp)) ?_);refine dd ?_;refine Ma (λhx=>?_) λhx=>?_;rw[zp hx] at hr;obtain⟨r1,oe⟩:=Ek hr;refine Bd ?_;refine oS (sP [_] rfl pH (qjS sb T hT f (λg hg=>hE g zo) (i+1) Nc r1 zo zo oe) (λe2 i2 Lg h2=>?_) λl er i2 Lg h2 e' Ka=>?_);rw[oe,h2,Ee] at hr;refine tj ?_;refine Na ?_;exact Hf (v:=.mk Bj 0 s [e2]) hj (rC (rA rfl nc rfl Nd) rN) (by cases hr;rfl) (by rw[uB];rfl) (tc Od yd);exact BE;have Rn:nf T (i+1) [[91]]=false:=hx;rw[zn (by rw[Rn];decide)] at hr;refine Bd ?_;refine tj ?_;refine oS (sH [_,_] rfl pH (Jt sb T (i+1) Nc [[40]] hl zo (by simp)) ?_);refine dd ?_;refine Ma (λhy=>?_) λhy=>?_;rw[zp hy] at hr;obtain⟨r1,oe⟩:=Ek hr;refine Bd ?_;refine oS (sP [_] rfl pH (qne sb T hT f (λg hg=>hE g zo) (i+1) Nc r1 zo zo oe) (λe2 i2 Lg h2=>?_) λl er i2 Lg h2 e' Ka=>?_);rw[oe,h2,Ee] at hr;refine Na ?_;exact Hf (v:=.mk eg 0 s e2) hj (rC (rA rfl nc rfl Nd) rN) (by cases hr;rfl) (by rw[uB];rfl) (tc Od yd);exact BE;have hy':nf T (i+1) [[40]]=false:=hy;rw[zn (by rw[hy'];decide)] at hr;refine wa ?_;exact Hf (v:=.mk Uf 0 s []) hj (rC (rA (k:=4) rfl nc rfl (vA (bs:=[_,_,_,.list []]) ⟨vR _,vR _,vR _,vN,trivial⟩)) rN) (by cases hr;rfl) (by rw[uB];rfl) (tc Od yd);rw[h1,zh] at hr;refine Ei ?_;exact Gc (Ka.trans hj) (by cases hr;rfl) qd
def DA:MapEntry:={ key:=.string ⟨#[45]⟩,val:=.string ⟨#[110,101,103]⟩,born:=0 }
def kD:MapEntry:={ key:=.string ⟨#[33]⟩,val:=.string ⟨#[110,111,116]⟩,born:=1 }
def qzJ(B0:Nat)(w0:World)(sb:Nat)(T:List Tok)(f:Nat):Prop:=
 ∀ i op r,i<=T.length->op<=100->Ry T f i op=some r->ca (KC B0 w0) 252 [ptr sb 0] [Gb sb T i op] (Gn sb T Ab r)
def mP(T:List Tok)(i:Nat)(seen:Array Nat):Prop:=
 seen=#[]∨(seen=#[0]/\nf T i [[45]]=false)∨(seen=#[1]/\nf T i [[33]]=false)∨((seen=#[0,1]∨seen=#[1,0])/\nf T i [[45]]=false/\nf T i [[33]]=false)
theorem qsh{seen:Array Nat}(h:mP T i seen)(ho:#[DA,kD].filter (λe=>!seen.contains e.born)=#[]):nf T i [[45]]=false/\nf T i [[33]]=false:=by have h1:=Array.filter_eq_empty_iff.1 ho DA (by simp);have h2:=Array.filter_eq_empty_iff.1 ho kD (by simp);rcases h with rfl|⟨rfl,_⟩|⟨rfl,_⟩|⟨_,h3,h4⟩;simp[DA] at h1;simp[kD] at h2;simp[DA] at h1;exact⟨h3,h4⟩
theorem qsm{seen:Array Nat}{e:MapEntry}(h:mP T i seen)(he:e∈(#[DA,kD].filter λe=>!seen.contains e.born).toList) :
  seen.size<2/\((e=DA/\(nf T i [[45]]=false->mP T i (seen.push 0)))∨(e=kD/\(nf T i [[33]]=false->mP T i (seen.push 1)))):=by
 have Ka:=Array.mem_filter.1 (Array.mem_toList_iff.1 he);have LK:e=DA∨e=kD:=by simpa using Ka.1
 have XD:=Ka.2;rcases h with rfl|⟨rfl,h1⟩|⟨rfl,h1⟩|⟨rfl|rfl,_,_⟩;rcases LK with rfl|rfl;exact⟨by decide,.inl ⟨rfl,λh=>.inr (.inl ⟨rfl,h⟩)⟩⟩;exact⟨by decide,.inr ⟨rfl,λh=>.inr (.inr (.inl ⟨rfl,h⟩))⟩⟩;rcases LK with rfl|rfl;simp[DA] at XD;exact⟨by decide,.inr ⟨rfl,λh=>.inr (.inr (.inr ⟨.inl rfl,h1,h⟩))⟩⟩;rcases LK with rfl|rfl;exact⟨by decide,.inl ⟨rfl,λh=>.inr (.inr (.inr ⟨.inr rfl,h,h1⟩))⟩⟩;simp[kD] at XD;rcases LK with rfl|rfl;simp[DA] at XD;simp[kD] at XD;rcases LK with rfl|rfl;simp[DA] at XD;simp[kD] at XD
theorem qrj(h:nf T i [[33]]=true):nf T i [[45]]=false:=by
 unfold nf at h ⊢;split at h;rename_i t ht;simp only[sd] at h;have h2:t.text=[33]:=by simpa using h.2
 rw[h2];simp;cases h
theorem qrA(hG:GW B0 w0)(sb:Nat)(T:List Tok)(hT:Rs T):∀ f:Nat,(∀ g,g<f->ZE B0 w0 sb T g)->qzJ B0 w0 sb T f:=by
 intro f;induction f with
 |zero=>intro _ i op r _ _ hr;rw[Ry] at hr;cases hr
 |succ f ih=>
  intro hE i op r hi ho hr;have hl:=hT.len;rw[Ry] at hr;refine kb Tryz.func252 rfl (n:=36) rfl rfl rfl ?_;refine qe ?_;refine oS (Jd λb=>?_);refine Zg ?_;refine oS (S.makeMap λmb=>oS (S.insert (k:=⟨#[45]⟩) (v:=.string ⟨#[110,101,103]⟩) (kt:=9) (el:=9) zk zk rfl rfl rfl pH (by simp) ?_));refine oS (S.insert (k:=⟨#[33]⟩) (v:=.string ⟨#[110,111,116]⟩) (kt:=9) (el:=9) zk zk rfl rfl rfl pH (λe he=>⟨⟨#[45]⟩,by simp at he;rw[he],by decide⟩)<|la (pM (lv:=.atom _) rfl)<|oS (S.range (kt:=9) (el:=9) zk rfl nc λrb=>?_));refine Da ?_
  refine oL (λk ls H=>∃ seen:Array Nat,k=2-seen.size/\ls=[(0,ptr sb 0),(2,ptr b 0),(8,ptr rb 0)]/\H=[(rb,.obj (.mapIter (some mb) 2 seen 2)),(mb,.obj (.map #[DA,kD] 2)),(b,.cells 220 [str [],int .u32 0,str [],Yb]),Gb sb T i op]/\mP T i seen)
   ⟨_,_,_,⟨#[],rfl,rfl,rfl,.inl rfl⟩,lb,Kb _⟩ ?_
  rintro k ls H ⟨seen,rfl,rfl,rfl,hS⟩ j hj;refine qe ?_;refine oS (S.next (F:=[(b,.cells 220 [str [],int .u32 0,str [],Yb]),Gb sb T i op]) rfl mc fa (λhov=>?_) λen BI=>?_);obtain⟨sw,tC⟩:=qsh hS hov;rw[zn (by rw[sw];decide),zn (by rw[tC];decide)] at hr;refine Da ?_;refine Ma (λTe=>?_) λTe=>?_;cases Te;refine xa ?_;refine oS (sP [_] rfl HA (quO hG sb T hT f (λg hg=>hE g zo) i op r hi ho hr) (λv i1 Nc h1=>?_) λl er i1 Nc h1 e' Ka=>?_);refine Na ?_;exact Hf (v:=v) hj (rC (rA rfl nc rfl Nd) rN) h1 rfl (tc Od yd);refine Ei ?_;exact Gc (Ka.trans hj) h1 qd;obtain⟨ld,⟨rfl,sC⟩|⟨rfl,sC⟩⟩:=qsm hS BI;refine Da ?_;refine Ma (λTe=>?_) λTe=>?_;refine Ti ?_;refine la (Pure.entry (en:=DA) (stamp:=0) rfl nc Oh rfl (by show(seen.push 0).back? = _;simp) rfl) ?_;refine xa ?_;refine tj ?_;refine oS (sH [_,_] rfl HA (Jt sb T i op [[45]] hl zo (by simp)) ?_);refine dd ?_;refine Ma (λhc=>?_) λhc=>?_;rw[zp hc] at hr;refine Bd ?_;refine oS (sP [_,_] rfl pH (wF sb T i op [45] hl zo zo) (λv i1 Nc h1=>?_) λl er i1 Nc h1 e' Ka=>?_);rw[h1,Ee] at hr;obtain⟨rfl,rfl,pw,zA⟩:=Pv h1;refine Di ?_;obtain⟨r1,oe⟩:=Ek hr;refine oS (sP [_] rfl pH (ih (λg hg=>hE g zo) _ _ r1 zo zo oe) (λe2 i2 Lg h2=>?_) λl er i2 Lg h2 e' Ka=>?_);rw[oe,h2,Ee] at hr;obtain⟨g1,_,g3,rfl⟩:=(ux T f).2.2.1 _ _ _ (oe.trans (congrArg some h2));have g4:=g3 zo;refine tj ?_;refine Na ?_;refine oS (Jd λb2=>?_);refine wa ?_
  exact Hf (v:=.mk Ag 0 [] [e2]) hj (rC (rA rfl nc rfl Nd) rN) (by cases hr;rfl) (by rw[uB];rfl) (by
   rw[show(((op+1:Nat):Int)-1)=((op+1-1:Nat):Int) by omega];exact tc Od yd)
  exact BE;rw[h1,zh] at hr;refine Qd ?_;exact Gc (Ka.trans hj) (by cases hr;rfl) qd;refine Da ?_;exact⟨_,_,_,by have:=ld;simp;omega,⟨seen.push 0,rfl,rfl,rfl,sC hc⟩,lb,tc Od (tc Od (tc Od qd)),hj⟩;cases Te;refine Da ?_;refine Ma (λTe=>?_) λTe=>?_;refine Ti ?_;refine la (Pure.entry (en:=kD) (stamp:=1) rfl nc Oh rfl (by show(seen.push 1).back? = _;simp) rfl) ?_;refine xa ?_;refine tj ?_;refine oS (sH [_,_] rfl HA (Jt sb T i op [[33]] hl zo (by simp)) ?_);refine dd ?_;refine Ma (λhc=>?_) λhc=>?_;rw[zn (by rw[qrj hc];decide),zp hc] at hr;refine Bd ?_;refine oS (sP [_,_] rfl pH (wF sb T i op [33] hl zo zo) (λv i1 Nc h1=>?_) λl er i1 Nc h1 e' Ka=>?_);rw[h1,Ee] at hr;obtain⟨rfl,rfl,pw,zA⟩:=Pv h1;refine Di ?_;obtain⟨r1,oe⟩:=Ek hr;refine oS (sP [_] rfl pH (ih (λg hg=>hE g zo) _ _ r1 zo zo oe) (λe2 i2 Lg h2=>?_) λl er i2 Lg h2 e' Ka=>?_);rw[oe,h2,Ee] at hr;obtain⟨g1,_,g3,rfl⟩:=(ux T f).2.2.1 _ _ _ (oe.trans (congrArg some h2));have g4:=g3 zo;refine tj ?_;refine Na ?_;refine oS (Jd λb2=>?_);refine wa ?_
  exact Hf (v:=.mk jg 0 [] [e2]) hj (rC (rA rfl nc rfl Nd) rN) (by cases hr;rfl) (by rw[uB];rfl) (by
   rw[show(((op+1:Nat):Int)-1)=((op+1-1:Nat):Int) by omega];exact tc Od yd)
  exact BE;rw[h1,zh] at hr;refine Qd ?_;exact Gc (Ka.trans hj) (by cases hr;rfl) qd;refine Da ?_;exact⟨_,_,_,by have:=ld;simp;omega,⟨seen.push 1,rfl,rfl,rfl,sC hc⟩,lb,tc Od (tc Od (tc Od qd)),hj⟩;cases Te
end Go.Proofs.YtmnjklgnhpnckaaGreatDoor
