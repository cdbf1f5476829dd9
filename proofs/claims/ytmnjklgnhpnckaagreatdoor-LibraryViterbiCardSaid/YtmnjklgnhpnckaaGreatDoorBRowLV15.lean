import Derived.Test.YtmnjklgnhpnckaaGreatDoorBRowLVq
set_option linter.unusedVariables false
set_option linter.unusedSimpArgs false
set_option maxRecDepth 100000
set_option maxHeartbeats 4000000
open Go.GL (zk)
open List (range_succ foldl_append foldl_cons foldl_nil map_congr_left getD_eq_getElem?_getD getElem_mem length_range map_map map_set length_set range_add)
open Nat (zero_le mod_eq_of_lt mod_lt ble_eq_true_of_le add_zero)
namespace Go.ia.Wi.Wc.Q.Lb
open Go.Lib
variable{i:Nat}
def lR(c:Nat->Nat):Nat->Nat
 |0=>0
 |1=>0
 |k+2=>c (2 * k+1) ^^^ lR c k
theorem IU{a b:Nat}(ha:a<=1)(hb:b<=1):a ^^^ b<=1:=by have h:a ^^^ b<2 ^ 1:=Nat.xor_lt_two_pow ga ga;omega
theorem kx(c:Nat->Nat)(n:Nat)(hc:∀ k,k<n->c (2 * k+1)<=1):∀ k,k<n+2->lR c k<=1
 |0,_=>zero_le _
 |1,_=>zero_le _
 |k+2,h=>by rw[lR];exact IU (hc k ga) (kx c n hc k ga)
theorem zX(hi:i<418):fc 2 i=2 * i/\Wb (fc 2 i) 1=2 * i+1:=by unfold Wb fc;omega
theorem RT(c:Nat->Nat)(n:Nat)(hn:n<=418)(hc:∀ k,k<n->c (2 * k+1)<=1):∀ k,k<=n->Mh c k=2 * lR c (k+1)+lR c k/\(k<n->Dw c k (Mh c k)=lR c (k+2)):=by
 have hu:∀ k,k<n->Mh c k=2 * lR c (k+1)+lR c k->Dw c k (Mh c k)=lR c (k+2):=λk hk hs=>by have h0:=kx c n hc k ga;unfold Dw lr Bn;rw[(zX (show k<418 by omega)).2,hs,show(2 * lR c (k+1)+lR c k) % 2=lR c k by omega,lR]
 intro k;induction k with
 |zero=>exact λ_=>⟨rfl,λh=>hu 0 h rfl⟩
 |succ k ih=>
  intro hk;obtain⟨h1,h2⟩:=ih ga;have h2:=h2 ga;have l0:=kx c n hc k ga;have l1:=kx c n hc (k+1) ga;have l2:=kx c n hc (k+2) ga;have hs:Mh c (k+1)=2 * lR c (k+2)+lR c (k+1):=by show Wb (fc 2 (Dw c k (Mh c k))) (cg (Mh c k) 2)=_;rw[h2,h1];unfold Wb fc cg;omega
  exact⟨hs,λh=>hu (k+1) h hs⟩
def lP(c:Nat->Nat)(k:Nat):Nat:=if k<418 then lR c k else 0
def fB(c:Nat->Nat):Prop:=(∀ k,k<418->c (2 * k+1)<=1)/\∀ j,j<418->c (2 * j)=lP c (j+2) ^^^ lP c (j+1) ^^^ lP c j/\c (2 * j+1)=lP c (j+2) ^^^ lP c j
theorem y'(c:Nat->Nat)(hi:i<418):BL c i=0 ↔ c (2 * i)<=1/\c (2 * i+1)<=1:=by obtain⟨e1,e2⟩:=zX hi;unfold BL OW OL kf;rw[e2,e1];by_cases h1:1<c (2 * i) <;> by_cases h2:1<c (2 * i+1) <;> simp[h1,h2] <;> omega
theorem P9(c:Nat->Nat)(hi:i<418)(hc:∀ k,k<i+1->c (2 * k+1)<=1):Ez c i=0 ↔ c (2 * i)=lR c (i+2) ^^^ lR c (i+1) ^^^ lR c i:=by obtain⟨h1,h2⟩:=RT c (i+1) ga hc i ga;have h2:=h2 ga;have l0:=kx c (i+1) hc i ga;have l1:=kx c (i+1) hc (i+1) ga;unfold Ez lJ kf;rw[h2,(zX hi).1,h1];unfold Bn cg lr;rw[show(2 * lR c (i+1)+lR c i) / 2=lR c (i+1) by omega,show(2 * lR c (i+1)+lR c i) % 2=lR c i by omega];by_cases h:c (2 * i)=lR c (i+2) ^^^ lR c (i+1) ^^^ lR c i;simp[h];simp[h]
theorem qjU(a b:Nat):(a ^^^ b) ^^^ b=a:=by rw[Nat.xor_assoc,Nat.xor_self,Nat.xor_zero]
theorem ext_iff(c:Nat->Nat):zL c ↔ fB c:=by
 constructor;rintro⟨h,hs⟩;have h1:∀ k,k<418->c (2 * k+1)<=1:=λk hk=>((y' c hk).mp (h k hk).1).2;have IK:=(RT c 418 (Jb _) h1 418 (Jb _)).1;rw[hs] at IK;have IK:0=2 * lR c 419+lR c 418:=IK
 have hP:∀ k,k<420->lP c k=lR c k:=λk hk=>by unfold lP;by_cases Ng:k<418;rw[zp Ng];rw[zn Ng];rcases(show k=418∨k=419 by omega) with e|e;rw[e];omega;rw[e];omega
 refine⟨h1,λj hj=>?_⟩;rw[hP _ (by omega),hP _ (by omega),hP _ (by omega)];refine⟨(P9 c hj λk hk=>h1 k ga).mp (h j hj).2,?_⟩;rw[lR,qjU];rintro⟨h1,h2⟩
 have xL:∀ k,k=418∨k=419->lR c k=0:=λk hk=>by obtain⟨j,rfl⟩:∃ j,k=j+2:=⟨k-2,by omega⟩;have:=(h2 j ga).2;unfold lP at this;rw[zn (by omega),zp (by omega),Nat.zero_xor] at this;rw[lR,this,Nat.xor_self]
 have hP:∀ k,k<420->lP c k=lR c k:=λk hk=>by unfold lP;by_cases Ng:k<418;rw[zp Ng];rw[zn Ng,xL k (by omega)]
 have l:=kx c 418 h1;refine⟨λi hi=>⟨(y' c hi).mpr ⟨?_,h1 i hi⟩,(P9 c hi λk hk=>h1 k ga).mpr ?_⟩,?_⟩;rw[(h2 i hi).1,hP _ (by omega),hP _ (by omega),hP _ (by omega)];exact IU (IU (l _ ga) (l _ ga)) (l _ ga);rw[(h2 i hi).1,hP _ (by omega),hP _ (by omega),hP _ (by omega)];rw[(RT c 418 (Jb _) h1 418 (Jb _)).1,xL 418 (.inl rfl),xL 419 (.inr rfl)]
theorem T7(c pl:Nat->Nat)(j:Nat):∀ i,j<i->dm c pl i j=Dw c j (Mh c j)
 |i+1,h=>by show Ms (decide (j=i)) (Dw c i (Mh c i)) (dm c pl i j)=_;rw[CJ];by_cases e:j=i;rw[zp e,e];rw[zn e];exact T7 c pl j i ga
theorem qwc(c pl:Nat->Nat)(h:zL c)(j:Nat)(hj:j<416):dm c pl 418 j=lR c (j+2)/\lR c (j+2)<=1:=by have h1:=((ext_iff c).mp h).1;rw[T7 c pl j 418 (by omega)];exact⟨(RT c 418 (Jb _) h1 j ga).2 ga,kx c 418 h1 _ ga⟩
def gh(c:Nat->Nat):Nat->Nat->Nat
 |0,s=>if s=0 then 0 else 100000
 |m+1,s=>
  let a:=gh c m (s / 2)+jf c (417-m) s 0
  if m<2 then a else
   let b:=gh c m (2+s / 2)+jf c (417-m) s 1
   if b<a then b else a
theorem wv(c:Nat->Nat)(i s u:Nat):jf c i s u<=2:=by unfold jf;refine xP ?_ (xP fa fa);have:Mi (QA (Zh (c (fc 2 i)) 2) (lJ (c (fc 2 i)) (Bn (Bn u (cg s 2)) (lr s 2)))) 1 0<=1:=xP fa fa;unfold Wb;omega
theorem zP(c:Nat->Nat):∀ m s,gh c m s<=100000+2 * m
 |0,s=>by unfold gh;split <;> omega
 |m+1,s=>by have h1:=zP c m (s / 2);have h2:=wv c (417-m) s 0;unfold gh;simp only;split;omega;split <;> omega
def SA(c g:Nat->Nat)(y s:Nat):Nat:=Mi (Zh y 416) (Mi (Zh (Jp c g y s) (Kp c g y s)) (Jp c g y s) (Kp c g y s)) (Kp c g y s)
theorem qzt(c:Nat->Nat)(y:Nat)(hy:y<418)(q:Row)(j:Nat):(Vj c y q).1 j=if j<4 * y∨4 * y+4<=j then q.1 j else SA c q.1 y (j-4 * y):=by
 have key:∀ n,n<=4->∀ j,((List.range n).foldl (λq s=>((Li q.1 (Wb (fc 4 y) s) (SA c q.1 y s),SA c q.1 y s,Mi (Zh y 416) (Jp c q.1 y s) q.2.2):Row)) q).1 j=if j<4 * y∨4 * y+n<=j then q.1 j else SA c q.1 y (j-4 * y):=by
  intro n;induction n with
  |zero=>intro _ j;rw[zp (by omega)];try rfl
  |succ n ih=>
   intro hn j;have ih:=ih ga;rw[range_succ,foldl_append,foldl_cons,foldl_nil];generalize (List.range n).foldl (λq s=>((Li q.1 (Wb (fc 4 y) s) (SA c q.1 y s),SA c q.1 y s,Mi (Zh y 416) (Jp c q.1 y s) q.2.2):Row)) q=p at ih ⊢;have vI:Wb (fc 4 y) n=4 * y+n:=by unfold Wb fc;omega
   have h4:XB y n=4 * y+4+n / 2:=by unfold XB Wb fc cg;omega
   have h6:WB y n=4 * y+6+n / 2:=by unfold WB Wb fc cg;omega
   have hA:Kp c p.1 y n=Kp c q.1 y n:=by unfold Kp;rw[h4,ih,zp (by omega)]
   have hB:Jp c p.1 y n=Jp c q.1 y n:=by unfold Jp;rw[h6,ih,zp (by omega)]
   have hV:SA c p.1 y n=SA c q.1 y n:=by unfold SA;rw[hA,hB]
   show Ms (decide (j=Wb (fc 4 y) n)) (SA c p.1 y n) (p.1 j)=_;rw[CJ,vI,hV,ih];by_cases e:j=4 * y+n;rw[zp e,zn (by omega),show j-4 * y=n by omega];rw[zn e];by_cases e2:j<4 * y∨4 * y+n<=j;rw[zp e2,zp (by omega)];rw[zn e2,zn (by omega)]
 exact key 4 (Jb _) j
theorem V8(c co:Nat->Nat)(a b:Nat):∀ j,j<=418->∀ m s,m<=j->s<4->(lh c (OI co,a,b) j).1 (4 * (418-m)+s)=gh c m s
 |0,_,m,s,hm,hs=>by
  obtain rfl:m=0:=by omega
  show OI co (4 * 418+s)=_;rcases(show s=0∨s=1∨s=2∨s=3 by omega) with e|e|e|e <;> rw[e] <;> rfl
 |j+1,hj,m,s,hm,hs=>by
  have ih:=V8 c co a b j ga;show(Vj c (417-j) (lh c (OI co,a,b) j)).1 _=_;rw[qzt c (417-j) (by omega)];by_cases e:m<=j;rw[zp (by omega)];exact ih m s e hs;obtain rfl:m=j+1:=by omega
  rw[zn (by omega),show 4 * (418-(j+1))+s-4 * (417-j)=s by omega];generalize lh c (OI co,a,b) j=q at ih ⊢;have b0:=wv c (417-j) s 0;have b1:=wv c (417-j) s 1;have hA:Kp c q.1 (417-j) s=gh c j (s / 2)+jf c (417-j) s 0:=by
   have h4:XB (417-j) s=4 * (418-j)+s / 2:=by unfold XB Wb fc cg;omega
   have:=zP c j (s / 2);unfold Kp;rw[h4,ih j (s / 2) (Jb _) (by omega)];exact mod_eq_of_lt ga
  have hB:Jp c q.1 (417-j) s=gh c j (2+s / 2)+jf c (417-j) s 1:=by
   have h6:WB (417-j) s=4 * (418-j)+(2+s / 2):=by unfold WB Wb fc cg;omega
   have:=zP c j (2+s / 2);unfold Jp;rw[h6,ih j (2+s / 2) (Jb _) (by omega)];exact mod_eq_of_lt ga
  unfold SA;rw[hA,hB,gh];simp only;by_cases h2:j<2
  ·rw[zp h2,iU (by omega)]
   try rfl
  rw[zn h2,ID (show 417-j<416 by omega),tP fa];by_cases h3:gh c j (2+s / 2)+jf c (417-j) s 1<gh c j (s / 2)+jf c (417-j) s 0
  ·rw[zp h3,ID h3]
   try rfl
  rw[zn h3,iU h3];try rfl
theorem J8(c co:Nat->Nat)(m s:Nat)(hm:m<=418)(hs:s<4):Yh c co (4 * (418-m)+s)=gh c m s:=V8 c co 0 0 418 (Jb _) m s hm hs
def kh(c:Nat->Nat):Nat->Nat
 |0=>0
 |i+1=>2 * (if i<416/\gh c (417-i) (2+kh c i / 2)+jf c i (kh c i) 1<gh c (417-i) (kh c i / 2)+jf c i (kh c i) 0 then 1 else 0)+kh c i / 2
def yk(c:Nat->Nat)(i:Nat):Nat:=if i<416/\gh c (417-i) (2+kh c i / 2)+jf c i (kh c i) 1<gh c (417-i) (kh c i / 2)+jf c i (kh c i) 0 then 1 else 0
theorem YT(c:Nat->Nat):∀ i,kh c i<4
 |0=>by unfold kh;decide
 |i+1=>by have:=YT c i;unfold kh;split <;> omega
theorem U8(c co pl:Nat->Nat):∀ i,i<=418->(Dd c (Yh c co) ⟨0,0,0,0,pl⟩ i).s=kh c i/\∀ j,j<i->(Dd c (Yh c co) ⟨0,0,0,0,pl⟩ i).pl j=yk c j
 |0,_=>⟨rfl,λj h=>absurd h (Nat.not_lt_zero j)⟩
 |i+1,hi=>by
  obtain⟨h1,h2⟩:=U8 c co pl i ga;have Ja:=YT c i;generalize hq:Dd c (Yh c co) ⟨0,0,0,0,pl⟩ i=q at h1 h2;have hu:Mi (Zh i 416) (Mi (Zh (Jp c (Yh c co) i q.s) (Kp c (Yh c co) i q.s)) 1 0) 0=yk c i:=by
   unfold yk;by_cases HN:i<416
   ·have b0:=wv c i (kh c i) 0;have b1:=wv c i (kh c i) 1
    have hA:Kp c (Yh c co) i (kh c i)=gh c (417-i) (kh c i / 2)+jf c i (kh c i) 0:=by
     have h4:XB i (kh c i)=4 * (418-(417-i))+kh c i / 2:=by unfold XB Wb fc cg;omega
     have:=zP c (417-i) (kh c i / 2);unfold Kp;rw[h4,J8 c co _ _ (by omega) (by omega)];exact mod_eq_of_lt ga
    have hB:Jp c (Yh c co) i (kh c i)=gh c (417-i) (2+kh c i / 2)+jf c i (kh c i) 1:=by
     have h6:WB i (kh c i)=4 * (418-(417-i))+(2+kh c i / 2):=by unfold WB Wb fc cg;omega
     have:=zP c (417-i) (2+kh c i / 2);unfold Jp;rw[h6,J8 c co _ _ (by omega) (by omega)];exact mod_eq_of_lt ga
    rw[ID HN,tP fa,h1,hA,hB];by_cases h3:gh c (417-i) (2+kh c i / 2)+jf c i (kh c i) 1<gh c (417-i) (kh c i / 2)+jf c i (kh c i) 0
    ·rw[ID h3,zp ⟨HN,h3⟩];try rfl
    rw[iU h3,zn λe=>h3 e.2];try rfl
   rw[iU HN,zn λe=>HN e.1];try rfl
  have AN:yk c i<=1:=by unfold yk;split <;> omega
  have e:Dd c (Yh c co) ⟨0,0,0,0,pl⟩ (i+1)=Yi c (Yh c co) i q:=by rw[<-hq];try rfl
  rw[e];unfold Yi;simp only;rw[hu];refine⟨?_,λj hj=>?_⟩;rw[h1];show Wb (fc 2 (yk c i)) (cg (kh c i) 2)=2 * yk c i+kh c i / 2;unfold Wb fc cg;omega;simp only[CJ]
  by_cases ej:j=i;rw[zp ej,ej];rw[zn ej];exact h2 j ga
theorem qxW(c co pl Vg:Nat->Nat)(h:cz c pl co Vg)(j:Nat)(hj:j<416):(fB c/\Vg j=lR c (j+2)∨¬fB c/\Vg j=yk c j)/\Vg j<=1:=by rcases h with⟨h1,rfl⟩|⟨h1,Gq,rfl⟩;obtain⟨e1,e2⟩:=qwc c pl h1 j hj;exact⟨.inl ⟨(ext_iff c).mp h1,e1⟩,by rw[e1];exact e2⟩;have e:=(U8 c co Gq 418 (Jb _)).2 j ga;refine⟨.inr ⟨λk=>h1 ((ext_iff c).mpr k),e⟩,?_⟩;show(Dd c (Yh c co) ⟨0,0,0,0,Gq⟩ 418).pl j<=1;rw[e];unfold yk;split <;> omega
end Go.ia.Wi.Wc.Q.Lb
namespace Go.ia.Wi.Wc.Q.Vm
open Go.Lib Lb
noncomputable def Ij(c:Nat->Nat)(j:Nat):Nat:=by
 classical exact if fB c then lR c (j+2) else yk c j
def Er(bt:Nat->Nat)(i:Nat):Nat:=(List.range 8).foldl (λn k=>2 * n+bt (8 * i+k)) 0
theorem T9(wd:Nat->Nat):∀ n,On wd n=(List.range n).map λi=>UInt8.ofNat (wd i)
 |0=>rfl
 |n+1=>by rw[range_succ,Je,<-T9 wd n];try rfl
theorem qzE(pl bt:Nat->Nat)(i:Nat)(hi:i<52)(h:∀ j,j<416->pl j=bt j/\bt j<=1):lE pl i=Er bt i:=by
 have key:∀ n,n<=8->(List.range n).foldl (λb k=>Wb (fc 2 b) (pl (Wb (fc 8 i) k))) 0=(List.range n).foldl (λn k=>2 * n+bt (8 * i+k)) 0/\(List.range n).foldl (λn k=>2 * n+bt (8 * i+k)) 0<2 ^ n:=by
  intro n;induction n with
  |zero=>exact λ_=>⟨rfl,Nat.one_pos⟩
  |succ n ih=>
   intro hn;obtain⟨h1,h2⟩:=ih ga;rw[range_succ,foldl_append,foldl_append,foldl_cons,foldl_cons,foldl_nil,foldl_nil,h1];generalize (List.range n).foldl (λn k=>2 * n+bt (8 * i+k)) 0=b at h2 ⊢;have vI:Wb (fc 8 i) n=8 * i+n:=by unfold Wb fc;omega
   obtain⟨g1,g2⟩:=h (8 * i+n) ga;have hp:(2:Nat) ^ n<=2 ^ 7:=Nat.pow_le_pow_right fa ga;rw[vI,g1,Nat.pow_succ];refine⟨?_,by omega⟩;unfold Wb fc;omega
 exact(key 8 (Jb _)).1
theorem E8{c pl Vg:Nat->Nat}(h:cz c pl z0 Vg):On (tq Vg z0 52) 52=(List.range 52).map λi=>UInt8.ofNat (Er (Ij c) i):=by
 rw[T9];refine map_congr_left λi hi=>?_;have hi:=List.mem_range.mp hi;rw[B8 Vg z0 i 52 hi,qzE Vg (Ij c) i hi λj hj=>?_];obtain⟨h1,h2⟩:=qxW c z0 pl Vg h j hj
 have e:Vg j=Ij c j:=by unfold Ij;rcases h1 with⟨a,b⟩|⟨a,b⟩;rw[zp a];exact b;rw[zn a];exact b
 exact⟨e,e▸h2⟩
theorem AX(l:List Nat)(j:Nat):∀ n,j<n->j<l.length->cq l n j=l.getD j 0
 |n+1,h,hl=>by
  show Ms (decide (j=n)) ((l.drop n).headD 4294967295) (cq l n j)=_;rw[CJ];by_cases e:j=n
  ·rw[zp e,<-e,List.drop_eq_getElem_cons hl,getD_eq_getElem?_getD,jh hl]
   try rfl
  rw[zn e];exact AX l j n ga hl
def Ww(cur A:Int)(b:Nat):Int:=if A<0 then cur else if cur<0∨(b:Int)+A<cur then (b:Int)+A else cur
def Xo(c:Nat->Nat)(m s:Nat):Int:=if gh c m s<100000 then (gh c m s:Int) else -1
theorem RM(c:Nat->Nat):∀ m s,s<4->((2<=m∨(m=1/\s<2)∨(m=0/\s=0))->gh c m s<=2 * m)/\(¬(2<=m∨(m=1/\s<2)∨(m=0/\s=0))->100000<=gh c m s)
 |0,s,hs=>by unfold gh;constructor;intro h;rw[zp (by omega)];exact zero_le _;intro h;rw[zn (by omega)];exact Jb _
 |m+1,s,hs=>by have b0:=wv c (417-m) s 0;have b1:=wv c (417-m) s 1;obtain⟨p0,q0⟩:=RM c m (s / 2) ga;obtain⟨p1,q1⟩:=RM c m (2+s / 2) ga;unfold gh;simp only;generalize jf c (417-m) s 0=x0 at *;generalize jf c (417-m) s 1=x1 at *;generalize gh c m (s / 2)=a at *;generalize gh c m (2+s / 2)=b at *;constructor;intro h;have hp:=p0 ga;split;omega;split <;> omega;intro h;have hq:=q0 ga;rw[zp (by omega)];omega
theorem XZ(c:Nat->Nat)(m s:Nat)(hm:m<418)(hs:s<4):Xo c (m+1) s=Ww (Ww (-1) (Xo c m (s / 2)) (jf c (417-m) s 0)) (Xo c m (2+s / 2)) (jf c (417-m) s 1):=by
 have b0:=wv c (417-m) s 0;have b1:=wv c (417-m) s 1;obtain⟨p0,q0⟩:=RM c m (s / 2) ga;obtain⟨p1,q1⟩:=RM c m (2+s / 2) ga;have e:gh c (m+1) s=if m<2 then gh c m (s / 2)+jf c (417-m) s 0 else if gh c m (2+s / 2)+jf c (417-m) s 1<gh c m (s / 2)+jf c (417-m) s 0 then gh c m (2+s / 2)+jf c (417-m) s 1 else gh c m (s / 2)+jf c (417-m) s 0:=by rw[gh]
 unfold Xo Ww;rw[e];generalize jf c (417-m) s 0=x0 at *;generalize jf c (417-m) s 1=x1 at *;generalize gh c m (s / 2)=a at *;generalize gh c m (2+s / 2)=b at *;by_cases h2:m<2;rw[zp h2];have hb:¬ b<100000:=by have:=q1 ga;omega
 rw[zn hb,zp (show(-1:Int)<0 by decide)];by_cases ha:a<100000;have pq:a<=2 * m:=by rcases(Classical.em (2<=m∨(m=1/\s / 2<2)∨(m=0/\s / 2=0))) with h|h;exact p0 h;have:=q0 h;omega
 rw[zp ha,zn (show ¬ ((a:Int)<0) by omega),zp (show(-1:Int)<0∨_ from .inl fa),zp (by omega)];omega;rw[zn ha,zp (show(-1:Int)<0 by decide),zn (by omega)];have ha:=p0 ga;have hb:=p1 ga;rw[zn h2,zp (show a<100000 by omega),zp (show b<100000 by omega),zn (show ¬ ((a:Int)<0) by omega),zn (show ¬ ((b:Int)<0) by omega),zp (show(-1:Int)<0∨_ from .inl fa)];by_cases yz:b+x1<a+x0;rw[zp yz,zp (by omega),zp (.inr (by omega))];omega;rw[zn yz,zp (by omega),zn (by omega)];omega
theorem qjN(c:Nat->Nat):Xo c 0 0=0/\Xo c 0 1 = -1/\Xo c 0 2 = -1/\Xo c 0 3 = -1:=by refine⟨rfl,rfl,rfl,rfl⟩
theorem sY(c:Nat->Nat)(m s:Nat) : -1<=Xo c m s/\Xo c m s<100000:=by unfold Xo;split <;> omega
theorem qoT(c:Nat->Nat)(k s:Nat)(hk:k<416)(hs:s<4):0<=Xo c (417-k) (s / 2)/\(((jf c k s 0:Nat):Int)+Xo c (417-k) (s / 2)≠Xo c (418-k) s ↔ gh c (417-k) (2+s / 2)+jf c k s 1<gh c (417-k) (s / 2)+jf c k s 0):=by have b0:=wv c k s 0;have b1:=wv c k s 1;obtain⟨m,hm⟩:∃ m,417-k=m:=⟨_,rfl⟩;have e:=XZ c m s ga hs;rw[show 417-m=k by omega] at e;rw[show 418-k=m+1 by omega,hm,e];obtain⟨p0,_⟩:=RM c m (s / 2) ga;obtain⟨p1,_⟩:=RM c m (2+s / 2) ga;have ha:=p0 ga;have hb:=p1 ga;unfold Xo Ww;generalize jf c k s 0=x0 at *;generalize jf c k s 1=x1 at *;generalize gh c m (s / 2)=a at *;generalize gh c m (2+s / 2)=b at *;rw[zp (show a<100000 by omega),zp (show b<100000 by omega),zn (show ¬ ((a:Int)<0) by omega),zn (show ¬ ((b:Int)<0) by omega),zp (show(-1:Int)<0∨_ from .inl fa)];refine⟨by omega,?_⟩;by_cases yz:b+x1<a+x0;rw[zp (.inr (by omega))];omega;rw[zn (by omega)];omega
theorem qlS(c:Nat->Nat)(i:Nat):kh c (i+1)=2 * yk c i+kh c i / 2:=rfl
theorem jU(c:Nat->Nat)(i:Nat):yk c i<=1:=by unfold yk;split <;> omega
def ij(s u:Nat):Nat:=(u+s / 2+s % 2) % 2
def gj(s u:Nat):Nat:=(u+s % 2) % 2
theorem qxP:∀ s,s<4->∀ u,u<2->(u ^^^ (s / 2)) ^^^ (s % 2)=ij s u/\u ^^^ (s % 2)=gj s u:=by decide
theorem bV(c:Nat->Nat)(k s u:Nat)(hk:k<418)(hs:s<4)(hu:u<2):jf c k s u=(if c (2 * k)<2/\c (2 * k)≠ij s u then 1 else 0)+(if c (2 * k+1)<2/\c (2 * k+1)≠gj s u then 1 else 0):=by
 obtain⟨h0,h1⟩:=qxP s hs u hu;have e1:fc 2 k=2 * k:=by unfold fc;omega
 have e2:Wb (2 * k) 1=2 * k+1:=by unfold Wb;omega
 unfold jf;simp only;rw[e1,e2];unfold Bn cg lr;rw[h0,h1];generalize c (2 * k)=x;generalize c (2 * k+1)=y;generalize ij s u=a;generalize gj s u=b;unfold QA Zh lJ kf Mi Wb;by_cases p1:x<2 <;> by_cases p2:x=a <;> by_cases p3:y<2 <;> by_cases p4:y=b <;> simp[p1,p2,p3,p4]
theorem CY(bt:Nat->Nat)(i:Nat)(h:∀ j,bt j<=1):∀ n,n<=8->(List.range n).foldl (λn k=>2 * n+bt (8 * i+k)) 0<2 ^ n:=by
 intro n;induction n with
 |zero=>exact λ_=>Nat.one_pos
 |succ n ih=>intro hn;have:=ih ga;rw[range_succ,foldl_append,foldl_cons,foldl_nil];have h1:=h (8 * i+n);rw[Nat.pow_succ];omega
end Go.ia.Wi.Wc.Q.Vm
namespace Go.Proofs.YtmnjklgnhpnckaaGreatDoor.Lb
open Go.GL Go.RowKit Go.ia
open Go.ia.Wi.Wc.Q
abbrev LB:List UInt8:=[118,105,116,101,114,98,105]
abbrev dQ:List UInt8:=[118,105,116,101,114,98,105,109,97,105,110]
theorem qyj:GG Vm.P 3000=true:=zk
noncomputable def TG:List UInt8:=yj++Rg
theorem qzU:aj [LB,dQ] []=(TG,0):=by rw[aj,qrr,zn fa,aj,qk2,zn fa,aj];rfl
theorem qv7:Ru TG=(Vm.P,0,0):=zk
theorem qxZ:∃ code,Oz [LB,dQ] code/\∀ l:List Nat,(∀ v∈l,v<256)->∃ Vg,Lb.cz (Vm.cq l 836) Vm.z0 Vm.z0 Vg/\∃ K,runM 10000000 (Dv code 10000 l)=(0,Vm.On (Lb.tq Vg Vm.z0 52) 52,K):=by obtain⟨p0,_,g0⟩:=Vm.Zm [] 6000000 (Jb _);obtain⟨f0,h0,_⟩:=A' g0;obtain⟨code,h1,h2⟩:=qAe qyj (names:=[LB,dQ]) fa qzU qv7 (i0:=[]) (λv hv=>(List.not_mem_nil hv).elim) ⟨f0,h0⟩;refine⟨code,h1,λl hl=>?_⟩;obtain⟨Vg,g1,g2⟩:=Vm.Zm l 6000000 (Jb _);obtain⟨K,hK⟩:=h2 l (λv hv=>by have:=hl v hv;omega) 6000000 _ (A' g2);exact⟨Vg,g1,K,hK 10000000 fa⟩
open xi (u32 Ir Zy)
open Go.ia.Wi.Wc.Q.Vm (Er CY)
def vD(c:List UInt8):Prop:=∀ x∈c,x=48∨x=49∨x=63
def CW(c:List UInt8):Prop:=∀ x∈c,x=48∨x=49
def cN(x:UInt8):Nat:=if x=48 then 0 else if x=49 then 1 else 2
def kq(q:Nat):Nat:=128 / 2 ^ q
theorem OQ:∀ q,q<9->(0<kq q ↔ q<8)/\kq q / 2=kq (q+1)/\kq q<=128:=by decide
theorem NX{r:Int}{n:Nat}(hr:r=(n:Int))(hn:n<2):int .u8 (IntKind.u8.wrap (48+IntKind.u8.wrap r))=int .u8 ((UInt8.ofNat (48+n)).toNat:Int):=by rw[iP,iP,hr,UInt8.toNat_ofNat'];congr 1;omega
theorem iQ{n:Nat}(hn:n<2):UInt8.ofNat (48+n)=48∨UInt8.ofNat (48+n)=49:=by rcases(show n=0∨n=1 by omega) with rfl|rfl;exact .inl rfl;exact .inr rfl
attribute [local irreducible] Ea fb Ya ca Go.GL.Pure ve Oe Kd LQ yb nh db LS
variable{B0:Nat}{w0:World}
theorem E1(c:List UInt8)(hc:vD c)(hl:c.length<=1000000):ca (KC B0 w0) 20 [str c] [] (Qb (int .i64 0)):=by
 refine kb Tryz.func20 rfl (n:=26) rfl rfl rfl ?_;refine xa ?_;refine oL (λk sl H=>∃ i:Nat,i<=c.length/\k=c.length-i/\sl=[(0,str c),(3,int .i64 i)]/\H=[])
  ⟨_,_,_,⟨0,zero_le _,rfl,rfl,rfl⟩,lb,Kb _⟩ ?_
 rintro k sl H ⟨i,hi,rfl,rfl,rfl⟩ j1 pd;refine wa ?_;refine Ma (λTe=>?_) λTe=>?_;have Ja:i<c.length:=by have:=zt Te;omega
 have Vh:c[((i:Nat):Int).toNat]? = some c[i]:=by rw[Int.toNat_natCast];exact jh Ja
 have hx:=hc _ (getElem_mem Ja);generalize c[i]=x at Vh hx;rcases hx with rfl|rfl|rfl;refine yn ?_;refine Na ?_;refine oC rfl (λh=>by cases h) λ_=>?_;refine xa ?_;exact⟨_,_,_,by omega,⟨i+1,by omega,rfl,rfl,rfl⟩,lb,Kb _,pd⟩;refine yn ?_;refine Na ?_;refine vt ?_;refine Na ?_;refine oC rfl (λh=>by cases h) λ_=>?_;refine xa ?_;exact⟨_,_,_,by omega,⟨i+1,by omega,rfl,rfl,rfl⟩,lb,Kb _,pd⟩;refine yn ?_;refine Na ?_;refine vt ?_;refine Na ?_;refine vt ?_;refine Na ?_;refine oC rfl (λh=>by cases h) λ_=>?_;refine xa ?_;exact⟨_,_,_,by omega,⟨i+1,by omega,rfl,rfl,rfl⟩,lb,Kb _,pd⟩;refine xa ?_;exact qb pd (eb rfl) rfl
theorem qkX(s:List UInt8)(hs:s.length<=10000):ca (KC B0 w0) 10 [str s] [] (Cr λv=>∃ c,v=str c/\CW c/\c.length=8 * s.length):=by
 refine kb Tryz.func10 rfl (n:=31) rfl rfl rfl ?_;refine Yn ?_;refine oS (S.Wt (s:=1) (es:=[]) [] rfl Ch rfl rfl rfl λb=>?_);refine wa ?_
 refine oL (λk sl H=>∃ (i:Nat) (v:LV) (c:List UInt8),i<=s.length/\k=s.length-i/\Acc 1 v (Vb c) H []/\CW c/\c.length=8 * i/\sl=[(0,str s),(3,v),(4,int .i64 i)])
  ⟨_,_,_,⟨0,_,[],zero_le _,rfl,Acc.row,λx hx=>(List.not_mem_nil hx).elim,rfl,rfl⟩,lb,Kb _⟩ ?_
 rintro k sl H ⟨i,v,c,hi,rfl,Ra,Jl,na,rfl⟩ j1 pd;refine wa ?_;refine Ma (λTe=>?_) λTe=>?_;have Ja:i<s.length:=by have:=zt Te;omega
 have hb:=QX s[i];have e0:IntKind.i64.wrap (s[i].toNat:Int)=(s[i].toNat:Int):=Nt zo;have Vh:s[((i:Nat):Int).toNat]? = some s[i]:=by rw[Int.toNat_natCast];exact jh Ja
 generalize s[i]=ch at *;refine xa ?_;refine oL (λk sl H=>∃ (q:Nat) (v:LV) (c:List UInt8),q<=8/\k=8-q/\Acc 1 v (Vb c) H []/\CW c/\c.length=8 * i+q/\sl=[(0,str s),(3,v),(4,int .i64 i),(5,int .i64 (kq q:Nat))])
  ⟨_,_,_,⟨0,_,c,zero_le _,rfl,Ra,Jl,na,rfl⟩,lb,Kb _⟩ ?_
 rintro k sl H ⟨q,v,c,hq,rfl,Ra,Jl,na,rfl⟩ j2 wc;obtain⟨k1,k2,k3⟩:=OQ q zo;obtain⟨kn,yA⟩:∃ kn,kq (q+1)=kn:=⟨_,rfl⟩;rw[yA] at k2;generalize kq q=kk at *;refine wa ?_;refine Ma (λh1=>?_) λh1=>?_;have h1:0<(kk:Int):=zt h1;have DN:q<8:=k1.mp zo;have hr:((ch.toNat:Int) / (kk:Int)) % 2=((ch.toNat / kk % 2:Nat):Int):=by omega
 have ae:ch.toNat / kk % 2<2:=mod_lt _ fa;have hle:(ch.toNat:Int) / (kk:Int)<=9223372036854775807:=Int.le_trans (Int.ediv_le_self _ zo) zo;have Pq:0<=(ch.toNat:Int) / (kk:Int):=Int.ediv_nonneg zo zo;generalize ch.toNat / kk % 2=r at *;have kW:=iQ ae;refine vy ?_;refine vt ?_;refine la (Pure.to (Pure.Hz rfl) (congrArg (int .i64) e0))<|fi ?_;refine la (Pure.quo rfl rfl zo zo zo)<|la (Pure.rem rfl rfl zo Pq)<|la (Pure.Hz rfl)<|la (Pure.to (Pure.Fp rfl rfl) (NX hr ae))<|oS (sL [_] (es:=Vb [UInt8.ofNat (48+r)]) rfl (gd rfl rfl Ch) rfl rfl rfl ?_);refine oS (S.acc (F:=[]) rfl Ra rfl (by simp[Vb,LV.cells]) rfl (by have:(Vb [UInt8.ofNat (48+r)]).length=1:=rfl;rw[this,iA];omega) λv' H' ab=>?_);refine rm ?_;refine Zk ?_;refine la (Pure.to (Pure.quo rfl rfl zo zo zo) (Kg (b:=(kn:Int)) zo))<|dd ?_;refine⟨_,_,_,by omega,⟨q+1,v',c++[UInt8.ofNat (48+r)],by omega,rfl,by rw[EM];exact ab,λx hx=>?_,by rw[Ga,na];rfl,rfl⟩,lb,Kb _,wc⟩;rcases xj hx with hx|hx;exact Jl x hx;rw[Vi hx];exact kW;have h1:¬ 0<(kk:Int):=zf h1;have DN:q=8:=by have:=λh=>k1.mpr h;omega
 subst DN;refine xa ?_;exact⟨_,_,_,by omega,⟨i+1,v,c,by omega,rfl,Ra,Jl,by omega,rfl⟩,lb,Kb _,wc.trans pd⟩;have Ff:i=s.length:=by have:=zf Te;omega
 subst Ff;refine fb.sub (d:=3) (v:=v) rfl Ra.sub ?_;refine xa ?_;refine la (Pure.Xe (l:=c) rfl)<|dd ?_;exact Nr pd (eb rfl) ⟨c,rfl,Jl,na⟩
theorem qm1(c:List UInt8)(hc:vD c)(hl:c.length<=100000):ca (KC B0 w0) 15 [str c] [] (Qb (.list ((c.map cN).map u32))):=by
 refine kb Tryz.func15 rfl (n:=29) rfl rfl rfl ?_;refine Yn ?_;refine oS (S.Wt (s:=1) (es:=[]) [] rfl Ch rfl rfl rfl λb=>?_);refine wa ?_
 refine oL (λk sl H=>∃ (i:Nat) (v:LV),i<=c.length/\k=c.length-i/\Acc 1 v (((c.take i).map cN).map u32) H []/\sl=[(0,str c),(3,v),(4,int .i64 i)])
  ⟨_,_,_,⟨0,_,zero_le _,rfl,Acc.row,rfl⟩,lb,Kb _⟩ ?_
 rintro k sl H ⟨i,v,hi,rfl,Ra,rfl⟩ j1 pd;refine wa ?_;refine Ma (λTe=>?_) λTe=>?_;have Ja:i<c.length:=by have:=zt Te;omega
 have Vh:c[((i:Nat):Int).toNat]? = some c[i]:=by rw[Int.toNat_natCast];exact jh Ja
 have hT:((c.take (i+1)).map cN).map u32=((c.take i).map cN).map u32++[u32 (cN c[i])]:=by rw[List.take_succ_eq_append_getElem Ja];simp only[Je];rfl
 have L5:(((c.take i).map cN).map u32).length<=100000:=by simp only[Db,List.length_take];omega
 have hx:=hc _ (getElem_mem Ja);generalize c[i]=x at *;generalize ((c.take i).map cN).map u32=acc at *;rcases hx with rfl|rfl|rfl;have hT:((c.take (i+1)).map cN).map u32=acc++[u32 0]:=hT;refine yn ?_;refine xa ?_;refine oC rfl (λ_=>?_) (λh=>by cases h);refine qe ?_;refine Xi ?_;refine oS (sL [_] (es:=[u32 0]) rfl (gd rfl rfl Ch) rfl rfl rfl<|oS (S.acc (F:=[]) rfl Ra rfl (by simp[LV.cells]) rfl (by simp only[La,oc];omega) λv' H' ab=>?_));refine gr ?_;exact⟨_,_,_,by omega,⟨i+1,v',by omega,rfl,by rw[hT];exact ab,rfl⟩,lb,Kb _,pd⟩;have hT:((c.take (i+1)).map cN).map u32=acc++[u32 1]:=hT;refine yn ?_;refine xa ?_;refine oC rfl (λh=>by cases h) λ_=>?_;refine Si ?_;refine oC rfl (λ_=>?_) (λh=>by cases h);refine qe ?_;refine Xi ?_;refine oS (sL [_] (es:=[u32 1]) rfl (gd rfl rfl Ch) rfl rfl rfl<|oS (S.acc (F:=[]) rfl Ra rfl (by simp[LV.cells]) rfl (by simp only[La,oc];omega) λv' H' ab=>?_));refine gr ?_;exact⟨_,_,_,by omega,⟨i+1,v',by omega,rfl,by rw[hT];exact ab,rfl⟩,lb,Kb _,pd⟩;have hT:((c.take (i+1)).map cN).map u32=acc++[u32 2]:=hT;refine yn ?_;refine xa ?_;refine oC rfl (λh=>by cases h) λ_=>?_;refine Si ?_;refine oC rfl (λh=>by cases h) λ_=>?_;refine qe ?_;refine Xi ?_;refine oS (sL [_] (es:=[u32 2]) rfl (gd rfl rfl Ch) rfl rfl rfl<|oS (S.acc (F:=[]) rfl Ra rfl (by simp[LV.cells]) rfl (by simp only[La,oc];omega) λv' H' ab=>?_));refine gr ?_;exact⟨_,_,_,by omega,⟨i+1,v',by omega,rfl,by rw[hT];exact ab,rfl⟩,lb,Kb _,pd⟩;have Ff:i=c.length:=by have:=zf Te;omega
 subst Ff;rw[List.take_length] at Ra;refine fb.sub (d:=3) (v:=v) rfl Ra.sub ?_;refine wa ?_;exact qb pd (rC (rT (v:=.list _) rfl Nd) rN) rfl
theorem qnz(bt:Nat->Nat)(C5:∀ j,bt j<=1)(n:Nat)(hn:n<=1000):ca (KC B0 w0) 14 [str ((List.range (8 * n)).map λj=>UInt8.ofNat (48+bt j))] [] (Qb (.tuple [str ((List.range n).map λi=>UInt8.ofNat (Er bt i)),.list [],int .i64 0])):=by
 have Ge:((List.range (8 * n)).map λj=>UInt8.ofNat (48+bt j)).length=8 * n:=by rw[Db,length_range]
 have ZR:∀ j,j<8 * n->((List.range (8 * n)).map λj=>UInt8.ofNat (48+bt j))[j]? = some (UInt8.ofNat (48+bt j)):=λj hj=>by rw[List.getElem?_map,List.getElem?_range hj];rfl
 have xz:vD ((List.range (8 * n)).map λj=>UInt8.ofNat (48+bt j)):=λx hx=>by obtain⟨j,_,rfl⟩:=Qh hx;rcases iQ (n:=bt j) (by have:=C5 j;omega) with e|e;exact .inl e;exact .inr (.inl e)
 generalize ((List.range (8 * n)).map λj=>UInt8.ofNat (48+bt j))=c at Ge ZR xz ⊢;have Om:=E1 (B0:=B0) (w0:=w0) c xz zo;refine kb Tryz.func14 rfl (n:=62) rfl rfl rfl ?_;refine di ?_;refine oS (sF [_] rfl Om ?_);refine Na ?_;refine oC rfl (λh=>by cases h) λ_=>?_;refine wa ?_;refine la (Pure.rem rfl rfl zo zo)<|Na ?_;refine oC rfl (λh=>by rw[Nf (show(c.length:Int) % 8=0 by omega)] at h;cases h) λ_=>?_;refine Ti ?_;refine oS (S.Wt (s:=1) (es:=[]) [] rfl Ch rfl rfl rfl λb=>?_);refine wa ?_;refine oS (sL (s:=1) (es:=[]) [] rfl Ch rfl rfl rfl ?_);refine wa ?_
 refine oL (λk sl H=>∃ (i:Nat) (v:LV),i<=n/\k=n-i/\Acc 1 v (Vb ((List.range i).map λi=>UInt8.ofNat (Er bt i))) H []/\sl=[(0,str c),(5,v),(6,.list []),(7,int .i64 (8 * i:Nat))])
  ⟨_,_,_,⟨0,_,zero_le _,rfl,Acc.row,rfl⟩,lb,Kb _⟩ ?_
 rintro k sl H ⟨i,v,hi,rfl,Ra,rfl⟩ j1 pd;refine wa ?_;refine Ma (λTe=>?_) λTe=>?_;have Ja:i<n:=by have:=zt Te;omega
 have hT:Vb ((List.range (i+1)).map λi=>UInt8.ofNat (Er bt i))=Vb ((List.range i).map λi=>UInt8.ofNat (Er bt i))++Vb [UInt8.ofNat (Er bt i)]:=by rw[range_succ,Je,EM];rfl
 have L5:(Vb ((List.range i).map λi=>UInt8.ofNat (Er bt i))).length<=1000:=by rw[iA,Db,length_range];omega
 have h8:=CY bt i C5;refine xa ?_;refine oL (λk sl H'=>∃ (q:Nat),q<=8/\k=8-q/\sl=[(0,str c),(5,v),(6,.list []),(7,int .i64 (8 * i:Nat)),(8,int .i64 ((List.range q).foldl (λn k=>2 * n+bt (8 * i+k)) 0:Nat)),(9,bool false),(10,int .i64 (8 * i+q:Nat))]/\H'=H)
  ⟨_,_,_,⟨0,zero_le _,rfl,rfl,rfl⟩,lb,Kb _⟩ ?_
 rintro k sl H' ⟨q,hq,rfl,rfl,rfl⟩ j2 wc;have SK:=h8 q hq;have hp8:(2:Nat) ^ q<=2 ^ 8:=Nat.pow_le_pow_right fa hq;refine xa ?_;refine Ma (λh1=>?_) λh1=>?_;have h1:((8 * i+q:Nat):Int)<((8 * i:Nat):Int)+8:=zt h1
 have Vh:c[((8 * i+q:Nat):Int).toNat]? = some (UInt8.ofNat (48+bt (8 * i+q))):=by rw[Int.toNat_natCast];exact ZR _ zo
 have hN:(List.range (q+1)).foldl (λn k=>2 * n+bt (8 * i+k)) 0=2 * (List.range q).foldl (λn k=>2 * n+bt (8 * i+k)) 0+bt (8 * i+q):=by rw[range_succ,foldl_append,foldl_cons,foldl_nil]
 have dL:=C5 (8 * i+q);generalize (List.range q).foldl (λn k=>2 * n+bt (8 * i+k)) 0=m1 at hN SK ⊢;generalize bt (8 * i+q)=r at Vh hN dL;rcases(show r=0∨r=1 by omega) with rfl|rfl;refine sO ?_;refine oC rfl (λh=>by cases h) λ_=>?_;refine yn ?_;refine xa ?_;exact⟨_,_,_,by omega,⟨q+1,by omega,rfl,rfl,rfl⟩,lb,Kb _,wc⟩;refine sO ?_;refine oC rfl (λ_=>?_) (λh=>by cases h);refine yn ?_;refine xa ?_;exact⟨_,_,_,by omega,⟨q+1,by omega,rfl,rfl,rfl⟩,lb,Kb _,wc⟩;have h1:¬ ((8 * i+q:Nat):Int)<((8 * i:Nat):Int)+8:=zf h1;have DN:q=8:=by omega
 subst DN;have II:(List.range 8).foldl (λn k=>2 * n+bt (8 * i+k)) 0=Er bt i:=rfl;rw[II] at SK ⊢;generalize Er bt i=m at SK hT ⊢;refine xa ?_;refine oC rfl (λh=>by cases h) λ_=>?_;refine Ti ?_;refine Xi ?_;refine la (pM rfl)<|la (Pure.to (Pure.Hz rfl) (qyo (m:=m) rfl))<|oS (sL [_] (es:=Vb [UInt8.ofNat m]) rfl (gd rfl rfl Ch) rfl rfl rfl ?_);refine oS (S.acc (F:=[]) rfl Ra rfl (by simp[Vb,LV.cells]) rfl (by have:(Vb [UInt8.ofNat m]).length=1:=rfl;rw[this];omega) λv' H' ab=>?_);refine gr ?_;exact⟨_,_,_,by omega,⟨i+1,v',by omega,rfl,by rw[hT];exact ab,rfl⟩,lb,Kb _,wc.trans pd⟩;have Ff:i=n:=by have:=zf Te;omega
 subst Ff;refine fb.sub (d:=5) (v:=v) rfl Ra.sub ?_;refine xa ?_;refine la (Pure.Xe (l:=(List.range i).map λi=>UInt8.ofNat (Er bt i)) rfl)<|Na ?_;exact qb pd (rC (Fc rfl) (rC (rT (v:=.list _) rfl Nd) (eb rfl))) rfl
end Go.Proofs.YtmnjklgnhpnckaaGreatDoor.Lb
namespace Go.GL
open Go.RowKit
section
variable{C:Ctx}{e:Env}{H:Heap}{dst:Option Nat}{ty:TypeId}{ra:String}{ua:Array Edge}{g:Option (Nat×Bool)}{K:LV->Heap->Prop}{X:List PanicEntry->Heap->Prop}{x y:Operand}
theorem S.NF{t el bytes:Nat}{zv:Value} [ht:Oa C.P t el 1] [hr:xh C.P el 1 bytes] [hz:Og C.P el [zv]]{n:Nat}{k k2:IntKind}(hx:e.ev x=int k 0)(hy:e.ev y=int k2 n)(Co:0<n)(hb:bytes * n<=100000000000)(hn:n<=100000000000)
  (hk:∀ b,K (.app b n 1 []) ((b,.row 0)::H)):Ya C ⟨dst,.makeSlice t x y,ty,ra,ua,g⟩ e H K X:=by
 refine Ya.Iz λρ w L h hH=>?_;have h3:execOp ρ ⟨dst,.makeSlice t x y,ty,ra,ua,g⟩=(do Pure.pure (.value (<-Instr.makeSlice t (ρ x) (ρ y)))):=rfl;obtain⟨i,z,hi,hs,RC,Le,aC,uN⟩:=hr.out;obtain⟨i',z',Ff,bw,Il,jI⟩:=hz.out;rw[hi] at Ff;obtain rfl:=Option.some.inj Ff;rw[aC] at bw;obtain rfl:=Option.some.inj bw;have wn:IntKind.i64.wrap (n:Int)=n:=Nt zo;have w0:IntKind.i64.wrap 0=0:=Nt zo;have n1:¬ ((n:Int)<0):=by omega
 have n2:¬ ((281474976710656:Int)<(i.bytes:Int) * n):=by
  rw[RC];have:((bytes * n:Nat):Int)<=100000000000:=by omega
  rw[Int.natCast_mul] at this;omega
 have n3:¬ (n * i.bytes > roomBytes):=by rw[RC,Nat.mul_comm];unfold roomBytes;omega
 have h0:n≠0:=by omega
 have Hd:(Instr.makeSlice t (.int k 0) (.int k2 n)).run C.P w=.ok (.slice (some ⟨w.heap.size,0,none⟩) 0 n) (World.push w (.cells (List.replicate n zv).toArray el)):=by have Lx:=qlE n zv;simp only[Nat.mul_one,h0,if_false] at Lx;simp[Instr.makeSlice,ye ht.De,asInt,asIntOf,kN hi,Ot hi,hs,wn,w0,n1,n2,n3,h0,zeroValue,aC,Il,newRow,askRoom,newObj,World.push,Ac,Yd];simp at Lx;rw[Lx];try rfl
 rw[h3,Zb h hx,Zb h hy,Ac,Hd];have:=Uy hH (.cells (List.replicate n zv).toArray el) 0 [(w.heap.size,.row 0)] (λp hp=>by
  simp only[List.mem_singleton] at hp;subst hp;exact⟨rfl,by simp[Live.Kc],(List.replicate n zv).toArray,el,(0,0),Fq,zero_le _,Jb _⟩) (by simp)
 refine⟨.app w.heap.size n 1 [],_,_,this.1,this.2,?_,hk _⟩;simp only[xb,Qc];refine⟨rfl,zero_le _,trivial,el,n,?_,by omega⟩;have hp:(World.push w (.cells (List.replicate n zv).toArray el)).heap[w.heap.size]? = some (.cells (List.replicate n zv).toArray el):=Fq;unfold World.shape?;rw[hp];simp
end
end Go.GL
namespace Go.Proofs.YtmnjklgnhpnckaaGreatDoor.Lb
open Go.GL Go.RowKit Go.ia
open xi (u32 Ir Zy)
open Go.ia.Wi.Wc.Q.Lb (lR kx lP fB IU)
open Go.ia.Wi.Wc.Q.Vm (Er CY ij gj)
variable{j n:Nat}{x:UInt8}
def wi(l:Nat->Nat)(n:Nat):List UInt8:=(List.range n).flatMap λj=>[UInt8.ofNat (48+(l (j+2) ^^^ l (j+1) ^^^ l j)),UInt8.ofNat (48+(l (j+2) ^^^ l j))]
theorem tZ(l:Nat->Nat)(n:Nat):wi l (n+1)=wi l n++[UInt8.ofNat (48+(l (n+2) ^^^ l (n+1) ^^^ l n)),UInt8.ofNat (48+(l (n+2) ^^^ l n))]:=by unfold wi;rw[range_succ,List.flatMap_append,List.flatMap_singleton]
theorem FM(l:Nat->Nat):∀ n,(wi l n).length=2 * n
 |0=>rfl
 |n+1=>by rw[tZ,Ga,FM l n];rfl
theorem VX(l:Nat->Nat)(j:Nat):∀ n,j<n->(wi l n)[2 * j]? = some (UInt8.ofNat (48+(l (j+2) ^^^ l (j+1) ^^^ l j)))/\(wi l n)[2 * j+1]? = some (UInt8.ofNat (48+(l (j+2) ^^^ l j)))
 |n+1,h=>by
  have hl:=FM l n;rw[tZ];by_cases e:j<n;rw[List.getElem?_append_left zo,List.getElem?_append_left zo];exact VX l j n e;obtain rfl:j=n:=by omega
  rw[List.getElem?_append_right zo,List.getElem?_append_right zo,hl,Nat.sub_self,show 2 * j+1-2 * j=1 by omega];exact⟨rfl,rfl⟩
theorem bA{a b:Nat}(ha:a<2)(hb:b<2):a ^^^ b<2:=Nat.xor_lt_two_pow (n:=1) ha hb
def Qw(d:List UInt8)(c:Nat->Nat):Prop:=∀ j,j<d.length->∃ x,d[j]? = some x/\(x=48∨x=49∨x=63)/\c j=cN x
theorem dU{b:Nat}(hx:x=48∨x=49∨x=63)(hb:b<2):x=UInt8.ofNat (48+b) ↔ cN x=b:=by rcases(show b=0∨b=1 by omega) with rfl|rfl <;> rcases hx with rfl|rfl|rfl <;> decide
theorem qxL{d:List UInt8}{c l:Nat->Nat}(hc:Qw d c)(hd:d.length=836)(hl:∀ k,l k<2):wi l 418=d ↔ ∀ j,j<418->c (2 * j)=l (j+2) ^^^ l (j+1) ^^^ l j/\c (2 * j+1)=l (j+2) ^^^ l j:=by
 have hE:=FM l 418;constructor;intro h j hj;obtain⟨h1,h2⟩:=VX l j 418 hj;rw[h] at h1 h2;obtain⟨x,x1,x2,x3⟩:=hc (2 * j) zo;obtain⟨y,y1,y2,y3⟩:=hc (2 * j+1) zo;rw[x1] at h1;rw[y1] at h2;have h1:=Option.some.inj h1;have h2:=Option.some.inj h2;rw[x3,y3];exact⟨(dU x2 (bA (bA (hl _) (hl _)) (hl _))).mp h1,(dU y2 (bA (hl _) (hl _))).mp h2⟩;intro h;refine List.ext_getElem? λi=>?_
 by_cases hi:i<836;obtain⟨j,hj⟩:∃ j,j=i / 2:=⟨_,rfl⟩;obtain⟨h1,h2⟩:=VX l j 418 zo;obtain⟨g1,g2⟩:=h j zo;rcases(show i=2 * j∨i=2 * j+1 by omega) with e|e;obtain⟨x,x1,x2,x3⟩:=hc (2 * j) zo;rw[e,h1,x1,(dU x2 (bA (bA (hl _) (hl _)) (hl _))).mpr (x3▸g1)];obtain⟨x,x1,x2,x3⟩:=hc (2 * j+1) zo;rw[e,h2,x1,(dU x2 (bA (hl _) (hl _))).mpr (x3▸g2)];rw[List.getElem?_eq_none zo,List.getElem?_eq_none zo]
theorem qr3{A:Type}(f:Nat->A)(n:Nat):(List.range (n+4)).map f=([f 0,f 1]++(List.range n).map λj=>f (j+2))++[f (n+2),f (n+3)]:=by rw[range_succ,range_succ,Je,Je,List.range_succ_eq_map,List.range_succ_eq_map];simp[map_map,Function.comp_def]
theorem EZ(hn:n<2):IntKind.u8.wrap (((UInt8.ofNat (48+n)).toNat:Int)-48)=(n:Int):=by rw[iP,UInt8.toNat_ofNat'];omega
theorem NU:∀ a,a<2->∀ b,b<2->IntKind.u8.wrap ((BitVec.ofInt IntKind.u8.bits (a:Nat) ^^^ BitVec.ofInt IntKind.u8.bits (b:Nat)).toNat:Nat)=((a ^^^ b:Nat):Int):=by decide
theorem pY(hn:n<2):int .u8 (IntKind.u8.wrap (48+(n:Int)))=int .u8 ((UInt8.ofNat (48+n)).toNat:Int):=by rw[iP,UInt8.toNat_ofNat'];congr 1
def Nu(bt:Nat->Nat):List UInt8:=(List.range 416).map λj=>UInt8.ofNat (48+bt j)
noncomputable def HG(c:Nat->Nat):LV:=by
 classical exact if fB c then .tuple [str (Nu λj=>lR c (j+2)),int .i64 0] else .tuple [str [],int .i64 11]
attribute [local irreducible] Ea fb Ya ca Go.GL.Pure ve Oe Kd LQ yb nh db LS
variable{B0:Nat}{w0:World}
theorem qpV(n m:Nat)(hm:0<m):ca (KC B0 w0) 36 [int .i64 (n:Nat),int .i64 (m:Nat)] [] (Qb (int .i64 (n % m:Nat))):=by refine kb Tryz.func36 rfl (n:=15) rfl rfl rfl ?_;refine di ?_;refine la (Pure.to (Pure.rem rfl rfl zo zo) (Kg (b:=((n % m:Nat):Int)) rfl))<|xa ?_;refine oC rfl (λh=>absurd (zt h) zo) λ_=>?_;refine xa ?_;exact qb rfl (eb rfl) rfl
theorem kQ(s u:Nat)(hs:s<4)(hu:u<2):ca (KC B0 w0) 23 [int .i64 (s:Nat),int .i64 (u:Nat)] [] (Qb (.tuple [int .i64 (2 * u+s / 2:Nat),str [UInt8.ofNat (48+ij s u),UInt8.ofNat (48+gj s u)]])):=by
 have h1:=qpV (B0:=B0) (w0:=w0) s 4 fa;have h2:=qpV (B0:=B0) (w0:=w0) u 2 fa;rw[mod_eq_of_lt hs] at h1;rw[mod_eq_of_lt hu] at h2;have e0:((u:Int)+(s:Int) / 2+(s:Int) % 2) % 2=((ij s u:Nat):Int):=by unfold ij;omega
 have e1:((u:Int)+(s:Int) % 2) % 2=((gj s u:Nat):Int):=by unfold gj;omega
 have l0:ij s u<2:=mod_lt _ fa;have l1:gj s u<2:=mod_lt _ fa;generalize ij s u=x0 at *;generalize gj s u=x1 at *;refine kb Tryz.func23 rfl (n:=38) rfl rfl rfl ?_;refine di ?_;refine oS (sF [_,_] rfl h1 ?_);refine fi ?_;refine oS (sF [_,_] rfl h2 ?_);refine di ?_;refine la (Pure.quo (a:=(s:Int)) (b:=2) rfl rfl zo zo zo)<|la (pM rfl)<|la (Pure.rem (a:=(s:Int)) (b:=2) rfl rfl zo zo)<|Da ?_;refine cD (m:=22) rfl []<|aT 0 rfl rfl (pM rfl)<|aT 1 rfl rfl (Pure.to (Pure.Tv rfl rfl) (congrArg (int .i64) (Nt (n:=2 * (u:Int)) zo)))<|aT 2 rfl rfl (pM rfl)<|aT 3 rfl rfl (Pure.to (Pure.add rfl rfl zo) (Kg (b:=((2 * u+s / 2:Nat):Int)) zo))<|aT 20 rfl rfl (pA (lv:=.atom _) rfl)<|aT 4 rfl rfl (pM rfl)<|aT 5 rfl rfl (pM rfl)<|aT 6 rfl rfl (Pure.add rfl rfl zo)<|aT 7 rfl rfl (pM rfl)<|aT 8 rfl rfl (Pure.add rfl rfl zo)<|aT 9 rfl rfl (Pure.rem rfl rfl zo zo)<|aT 10 rfl rfl (Pure.Hz rfl)<|aT 11 rfl rfl (Pure.to (Pure.Fp rfl rfl) (NX e0 l0))<|aT 12 rfl rfl (pM rfl)<|aT 13 rfl rfl (pM rfl)<|aT 14 rfl rfl (Pure.add rfl rfl zo)<|aT 15 rfl rfl (Pure.rem rfl rfl zo zo)<|aT 16 rfl rfl (Pure.Hz rfl)<|aT 17 rfl rfl (Pure.to (Pure.Fp rfl rfl) (NX e1 l1))<|aL ?_ ob;refine lO 18 (lS (H1:=[]) rfl (.inl rfl) rfl mc ob (sL (s:=1) (es:=Vb [UInt8.ofNat (48+x0),UInt8.ofNat (48+x1)]) [_,_] rfl (gd rfl rfl (gd rfl rfl Ch)) rfl rfl rfl ?_));refine lO 19 (lH rfl rfl (Pure.Xe (l:=[UInt8.ofNat (48+x0),UInt8.ofNat (48+x1)]) rfl) ?_);refine lO 21 (lH rfl rfl (pA (lv:=.atom _) rfl) ?_);refine lD zk ?_;refine dd ?_;exact qb rfl (rC (Fc rfl) (eb rfl)) rfl
theorem qjH(n:Nat)(hn:n<=60000)(l:Nat->Nat)(hl:∀ k,l k<2)(z0:l 0=0)(z1:l 1=0)(z2:l (n+2)=0)(z3:l (n+3)=0):ca (KC B0 w0) 9 [str ((List.range n).map λj=>UInt8.ofNat (48+l (j+2)))] [] (Qb (.tuple [str (wi l (n+2)),int .i64 0])):=by
 have hLL:=qr3 (λj=>UInt8.ofNat (48+l j)) n;simp only[z0,z1,z2,z3] at hLL;have NN:((List.range n).map λj=>UInt8.ofNat (48+l (j+2))).length=n:=by rw[Db,length_range]
 have G5:∀ j,j<n->((List.range n).map λj=>UInt8.ofNat (48+l (j+2)))[j]? = some (UInt8.ofNat (48+l (j+2))):=λj hj=>by rw[List.getElem?_map,List.getElem?_range hj];rfl
 have TC:∀ j,j<n+4->((List.range (n+4)).map λj=>UInt8.ofNat (48+l j))[j]? = some (UInt8.ofNat (48+l j)):=λj hj=>by rw[List.getElem?_map,List.getElem?_range hj];rfl
 have hLl:((List.range (n+4)).map λj=>UInt8.ofNat (48+l j)).length=n+4:=by rw[Db,length_range]
 generalize ((List.range n).map λj=>UInt8.ofNat (48+l (j+2)))=bits at *;generalize ((List.range (n+4)).map λj=>UInt8.ofNat (48+l j))=LL at *;refine kb Tryz.func9 rfl (n:=73) rfl rfl rfl ?_;refine wa ?_;refine oC rfl (λh=>absurd (zt h) zo) λ_=>?_;refine xa ?_
 refine oL (λk sl H=>∃ i:Nat,i<=n/\k=n-i/\sl=[(0,str bits),(3,int .i64 0),(4,int .i64 i)]/\H=[])
  ⟨_,_,_,⟨0,zero_le _,rfl,rfl,rfl⟩,lb,Kb _⟩ ?_
 rintro k sl H ⟨i,hi,rfl,rfl,rfl⟩ j1 pd;refine wa ?_;refine Ma (λTe=>?_) λTe=>?_;have Ja:i<n:=by have:=zt Te;omega
 have Vh:bits[((i:Nat):Int).toNat]? = some (UInt8.ofNat (48+l (i+2))):=by rw[Int.toNat_natCast];exact G5 i Ja
 have hx:=iQ (hl (i+2));generalize UInt8.ofNat (48+l (i+2))=x at Vh hx;rcases hx with rfl|rfl;refine yn ?_;refine Na ?_;refine oC rfl (λh=>by cases h) λ_=>?_;refine xa ?_;exact⟨_,_,_,by omega,⟨i+1,by omega,rfl,rfl,rfl⟩,lb,Kb _,pd⟩;refine yn ?_;refine Na ?_;refine vt ?_;refine Na ?_;refine oC rfl (λh=>by cases h) λ_=>?_;refine xa ?_;exact⟨_,_,_,by omega,⟨i+1,by omega,rfl,rfl,rfl⟩,lb,Kb _,pd⟩;refine wa ?_;refine la (Pure.to (Pure.Tv rfl rfl) (congrArg (int .i64) (Nt (n:=2 * ((bits.length:Nat):Int)) zo)))<|la (Pure.to (Pure.add rfl rfl zo) (Kg (b:=((2 * n+4:Nat):Int)) zo))<|oS (S.NF (n:=2 * n+4) rfl rfl zo zo zo λb=>?_);refine wa ?_
 refine oL (λk sl H=>∃ (j:Nat) (v:LV),j<=n+2/\k=n+2-j/\Acc 1 v (Vb (wi l j)) H []/\sl=[(3,int .i64 0),(5,str LL),(6,v),(7,int .i64 (j+2:Nat))])
  ⟨_,_,_,⟨0,_,zero_le _,rfl,Acc.row,rfl⟩,⟨rfl,congrArg str hLL.symm,rfl,rfl,trivial⟩,Kb _⟩ ?_
 rintro k sl H ⟨j,v,hj,rfl,Ra,rfl⟩ j2 wc;refine wa ?_;refine Ma (λTe=>?_) λTe=>?_;have Ja:j<n+2:=by have:=zt Te;omega
 have g0:LL[((j+2:Nat):Int).toNat]? = some (UInt8.ofNat (48+l (j+2))):=by rw[Int.toNat_natCast];exact TC _ zo
 have g1:LL[(((j+2:Nat):Int)-1).toNat]? = some (UInt8.ofNat (48+l (j+1))):=by rw[show(((j+2:Nat):Int)-1).toNat=j+1 by omega];exact TC _ zo
 have g2:LL[(((j+2:Nat):Int)-2).toNat]? = some (UInt8.ofNat (48+l j)):=by rw[show(((j+2:Nat):Int)-2).toNat=j by omega];exact TC _ zo
 have hT:=congrArg Vb (tZ l j);have L5:(Vb (wi l j)).length<=200000:=by rw[iA,FM];omega
 have s0:=EZ (hl (j+2));have s1:=EZ (hl (j+1));have s2:=EZ (hl j);have p0:=hl (j+2);have p1:=hl (j+1);have p2:=hl j;generalize l (j+2)=u at *;generalize l (j+1)=v1 at *;generalize l j=v2 at *;have q1:=bA p0 p1;have q2:=bA q1 p2;have q3:=bA p0 p2;have r1:=NU u p0 v1 p1;have r2:=NU (u ^^^ v1) q1 v2 p2;have r3:=NU u p0 v2 p2;generalize u ^^^ v1 ^^^ v2=y0 at *;generalize u ^^^ v1=y2 at *;generalize u ^^^ v2=y1 at *;refine Da ?_;refine qm ?_;refine qP (pI rfl rfl zo g0) rfl ?_;refine qP (Pure.to (Pure.rr rfl rfl) (congrArg (int .u8) s0)) rfl ?_;refine Na ?_;refine qP (pI rfl rfl zo g1) rfl ?_;refine qP (Pure.to (Pure.rr rfl rfl) (congrArg (int .u8) s1)) rfl ?_;refine Na ?_;refine qP (pI rfl rfl zo g2) rfl ?_;refine qP (Pure.to (Pure.rr rfl rfl) (congrArg (int .u8) s2)) rfl ?_;refine wa ?_;refine Xi ?_;refine fi ?_;refine la (Pure.to (Pure.yy rfl rfl) (congrArg (int .u8) r1))<|fi ?_;refine la (Pure.to (Pure.yy rfl rfl) (congrArg (int .u8) r2))<|la (Pure.to (Pure.Fp rfl rfl) (pY q2))<|fi ?_;refine la (Pure.to (Pure.yy rfl rfl) (congrArg (int .u8) r3))<|la (Pure.to (Pure.Fp rfl rfl) (pY q3))<|oS (sL [_,_] (es:=Vb [UInt8.ofNat (48+y0),UInt8.ofNat (48+y1)]) rfl (gd rfl rfl (gd rfl rfl Ch)) rfl rfl rfl ?_);refine oS (S.acc (F:=[]) rfl Ra rfl (by simp[Vb,LV.cells]) rfl (by have:(Vb [UInt8.ofNat (48+y0),UInt8.ofNat (48+y1)]).length=2:=rfl;rw[this];omega) λv' H' ab=>?_);refine gr ?_;exact⟨_,_,_,by omega,⟨j+1,v',by omega,rfl,by rw[hT,EM];exact ab,rfl⟩,lb,Kb _,wc⟩;have Ff:j=n+2:=by have:=zf Te;omega
 subst Ff;refine fb.sub (d:=6) (v:=v) rfl Ra.sub ?_;refine xa ?_;refine la (Pure.Xe (l:=wi l (n+2)) rfl)<|dd ?_;exact qb (wc.trans pd) (rC (Fc rfl) (eb rfl)) rfl
def Gx(c:Nat->Nat)(n:Nat):List LV:=(List.range n).map λj=>int .u8 (lR c j:Nat)
theorem qvj(c:Nat->Nat)(n:Nat):Gx c (n+1)=Gx c n++[int .u8 (lR c n:Nat)]:=by unfold Gx;rw[range_succ,Je];rfl
theorem K9(c:Nat->Nat)(n:Nat):(Gx c n).length=n:=by unfold Gx;rw[Db,length_range]
theorem r8(c:Nat->Nat)(hj:j<n):(Gx c n)[j]? = some (int .u8 (lR c j:Nat)):=by unfold Gx;rw[List.getElem?_map,List.getElem?_range hj];rfl
theorem qzx(h:x=48∨x=49∨x=63)(hx:x≠63):cN x<2/\IntKind.u8.wrap ((x.toNat:Int)-48)=(cN x:Nat):=by rcases h with rfl|rfl|rfl;decide;decide;exact absurd rfl hx
theorem qnd(d:List UInt8)(c:Nat->Nat)(hc:Qw d c)(hd:d.length=836):ca (KC B0 w0) 12 [str d] [] (Qb (HG c)):=by
 have xz:vD d:=λx hx=>by obtain⟨j,hj,rfl⟩:=List.getElem_of_mem hx;obtain⟨y,y1,y2,y3⟩:=hc j hj;rw[jh hj] at y1;rw[Option.some.inj y1];exact y2
 have Om:=E1 (B0:=B0) (w0:=w0) d xz zo;refine kb Tryz.func12 rfl (n:=76) rfl rfl rfl ?_;refine di ?_;refine oS (sF [_] rfl Om ?_);refine Na ?_;refine oC rfl (λh=>by cases h) λ_=>?_;refine wa ?_;refine la (Pure.rem (a:=((d.length:Nat):Int)) (b:=2) rfl rfl zo zo)<|la (Pure.to (Pure.neq rfl rfl) (xe (b:=false) (by rw[hd];rfl)))<|Na ?_;refine oC rfl (λh=>absurd (zt h) zo) λ_=>?_;refine Ti ?_;refine oS (S.Wt (s:=1) (es:=Gx c 2) [_,_] rfl (gd rfl rfl (gd rfl rfl Ch)) rfl rfl rfl λb=>?_);refine wa ?_
 refine oL (λk sl H=>∃ (i:Nat) (v:LV),i<=418/\k=418-i/\Acc 1 v (Gx c (i+2)) H []/\(∀ q,q<i->c (2 * q+1)<=1)/\sl=[(0,str d),(4,v),(5,int .i64 (2 * i+1:Nat))])
  ⟨_,_,_,⟨0,_,zero_le _,rfl,Acc.row,λq h=>absurd h (Nat.not_lt_zero q),rfl⟩,lb,Kb _⟩ ?_
 rintro k sl H ⟨i,v,hi,rfl,Ra,hle,rfl⟩ j1 pd;refine wa ?_;refine Ma (λTe=>?_) λTe=>?_;have Ja:i<418:=by have:=zt Te;omega
 obtain⟨x,x1,x2,x3⟩:=hc (2 * i+1) zo;have Vh:d[((2 * i+1:Nat):Int).toNat]? = some x:=by rw[Int.toNat_natCast];exact x1
 by_cases aG:x=63;have XD:¬ fB c:=λh=>by have:=h.1 i Ja;rw[x3,aG] at this;exact absurd this fa
 subst aG;refine yn ?_;refine Da ?_;refine oC rfl (λ_=>?_) (λh=>by cases h);refine xa ?_;exact qb pd (rC (Fc rfl) (eb rfl)) (by unfold HG;rw[zn XD];rfl);obtain⟨c2,cw⟩:=qzx x2 aG;have Fb:¬ ((x.toNat:Int)=63):=λh=>aG (UInt8.toNat_inj.mp (by show x.toNat=63;omega));have qp:lR c i<2:=by have:=kx c i hle i zo;omega
 have hr:=NU (cN x) c2 (lR c i) qp;have hT:=qvj c (i+2);rw[lR,x3] at hT;have J4:∀ q,q<i+1->c (2 * q+1)<=1:=λq hq=>by
  by_cases e:q<i;exact hle q e;obtain rfl:q=i:=by omega
  rw[x3];omega
 have TC:=r8 c (show i<i+2 by omega);have GN:=K9 c (i+2);have hn:(((Gx c (i+2)).length:Nat):Int)-2=((i:Nat):Int):=by rw[GN];omega
 generalize Gx c (i+2)=es at *;generalize lR c i=li at *;generalize VD:cN x ^^^ li=r at *;refine yn ?_;refine la (Pure.to (Pure.eql rfl rfl) (xe (b:=false) (decide_eq_false Fb)))<|dd ?_;refine oC rfl (λh=>by cases h) λ_=>?_;refine Da ?_;refine cD (m:=15) rfl []<|aT 0 rfl rfl (pM (lv:=v) rfl)<|aT 1 rfl rfl (pM rfl)<|aT 2 rfl rfl (pM rfl)<|aT 3 rfl rfl (pI rfl rfl zo Vh)<|aT 4 rfl rfl (Pure.to (Pure.rr rfl rfl) (congrArg (int .u8) cw))<|aT 5 rfl rfl (pM (lv:=v) rfl)<|aT 6 rfl rfl (pM (lv:=v) rfl)<|aT 7 rfl rfl (Pure.kp (es:=es) Ra.elems)<|aT 8 rfl rfl (Pure.to (Pure.sub rfl rfl zo) (congrArg (int .i64) hn))<|aT 9 rfl rfl (xR (ke:=int .u8 (li:Nat)) (es:=es) Ra.elems rfl zo TC rfl rfl)<|aT 10 rfl rfl (pO (c:=int .u8 (li:Nat)) rfl rfl)<|aT 11 rfl rfl (Pure.to (Pure.yy rfl rfl) (congrArg (int .u8) hr))<|aL ?_ yd;refine lO 12 (lS (H1:=[]) rfl (.inl rfl) rfl mc yd (sL (s:=1) (es:=[int .u8 (r:Nat)]) [_] rfl (gd rfl rfl Ch) rfl rfl rfl ?_));refine lO 13 (lS (H1:=H) (F:=[]) rfl (.inl rfl) rfl (by simp) yd (S.acc (F:=[]) rfl Ra rfl (by simp[LV.cells]) rfl (by simp only[La,oc];omega) λv' H' ab=>?_));refine lO 14 (lH rfl rfl (pA (lv:=v') rfl) ?_);refine lD zk ?_;refine Oe.normal (qN ?_);refine xa ?_;exact⟨_,_,_,by omega,⟨i+1,v',by omega,rfl,by rw[hT];exact ab,J4,rfl⟩,lb,⟨[],by simp⟩,pd⟩;have Ff:i=418:=by have:=zf Te;omega
 subst Ff;have hle:∀ q,q<418->c (2 * q+1)<=1:=hle;have qp:∀ q,q<420->lR c q<2:=λq hq=>by have:=kx c 418 hle q hq;omega
 refine fb.sub (d:=4) (v:=v) rfl Ra.sub ?_;have GN:(Gx c (418+2)).length=420:=K9 c 420;have TC:∀ q,q<420->(Gx c (418+2))[q]? = some (int .u8 (lR c q:Nat)):=λq hq=>r8 c hq;generalize Gx c (418+2)=es at *;refine xa ?_
 refine oL (λk sl H=>∃ (i:Nat),i<=416/\k=416-i/\sl=[(0,str d),(4,.list es),(6,str ((List.range i).map λj=>UInt8.ofNat (48+lR c (j+2)))),(7,int .i64 (i+2:Nat))]/\H=[])
  ⟨_,_,_,⟨0,zero_le _,rfl,rfl,rfl⟩,lb,HSub.nil _⟩ ?_
 rintro k sl H ⟨i,hi,rfl,rfl,rfl⟩ j2 wc;refine wa ?_;refine Ma (λh1=>?_) λh1=>?_;have Ja:i<416:=by have:=zt h1;omega
 have hS:((List.range (i+1)).map λj=>UInt8.ofNat (48+lR c (j+2)))=((List.range i).map λj=>UInt8.ofNat (48+lR c (j+2)))++[UInt8.ofNat (48+lR c (i+2))]:=by rw[range_succ,Je];rfl
 have hSl:((List.range i).map λj=>UInt8.ofNat (48+lR c (j+2))).length<=1000:=by rw[Db,length_range];omega
 have hg:es[((i+2:Nat):Int).toNat]? = some (int .u8 (lR c (i+2):Nat)):=by rw[Int.toNat_natCast];exact TC _ zo
 have hb:=qp (i+2) zo;generalize lR c (i+2)=r at hS hg hb;generalize ((List.range i).map λj=>UInt8.ofNat (48+lR c (j+2)))=w at hS hSl ⊢;refine xa ?_;refine la (xR (ke:=int .u8 (r:Nat)) (es:=es) rfl rfl zo hg rfl rfl)<|la (pO (c:=int .u8 (r:Nat)) rfl rfl)<|la (Pure.to (Pure.Fp rfl rfl) (pY hb))<|oS (sL [_] (es:=Vb [UInt8.ofNat (48+r)]) rfl (gd rfl rfl Ch) rfl rfl rfl ?_);refine la (Pure.Xe (l:=[UInt8.ofNat (48+r)]) rfl)<|wa ?_;exact⟨_,_,_,by omega,⟨i+1,by omega,rfl,rfl,rfl⟩,⟨rfl,rfl,congrArg str hS.symm,Kg zo,trivial⟩,Kb _,wc⟩;have Ff:i=416:=by have:=zf h1;omega
 subst Ff;have hlP:∀ k,lP c k<2:=λk=>by unfold lP;split;exact qp k zo;decide
 have HI:((List.range 416).map λj=>UInt8.ofNat (48+lP c (j+2)))=Nu λj=>lR c (j+2):=by unfold Nu;refine map_congr_left λj hj=>?_;have:=List.mem_range.mp hj;unfold lP;rw[zp zo]
 have Lm:=qjH (B0:=B0) (w0:=w0) 416 fa (lP c) hlP rfl rfl rfl rfl;rw[HI] at Lm;have Lm:ca (KC B0 w0) 9 [str (Nu λj=>lR c (j+2))] [] (Qb (.tuple [str (wi (lP c) 418),int .i64 0])):=Lm;have LR:=qxL hc hd hlP
 have vp:fB c ↔ wi (lP c) 418=d:=by rw[LR];exact⟨λh=>h.2,λh=>⟨hle,h⟩⟩
 have hw:((List.range 416).map λj=>UInt8.ofNat (48+lR c (j+2)))=Nu λj=>lR c (j+2):=rfl;rw[hw];unfold HG;generalize (Nu λj=>lR c (j+2))=bits at Lm ⊢;generalize wi (lP c) 418=again at Lm vp;clear hw HI LR;refine xa ?_;refine oS (sF [_] rfl Lm ?_);refine wa ?_;refine Ma (λh=>?_) λh=>?_;have MC:¬ again=d:=λe=>by rw[Nf e] at h;cases h
 rw[zn (λh=>MC (vp.mp h))];refine Gj ?_;exact qb (wc.trans pd) (rC (Fc rfl) (eb rfl)) rfl;have MC:again=d:=Decidable.byContradiction λe=>by rw[decide_eq_false e] at h;cases h
 rw[zp (vp.mpr MC)];refine xa ?_;exact qb (wc.trans pd) (rC (Fc rfl) (eb rfl)) rfl
def u16(n:Nat):LV:=int .u16 (n:Int)
def Tq(Rd:List Nat)(Ws:List UInt8):List LV:=[.list (Rd.map u16),.list (Vb Ws)]
theorem qrf(d:List UInt8):Vb d=(d.map λb=>Value.int .u8 b.toNat).map LV.atom:=by unfold Vb;rw[map_map];rfl
theorem qom(x:LV):∀ (l:List LV) (i:Nat),i<l.length->ed l i [x]=l.set i x
 |_::l,0,_=>by cases l <;> rfl
 |y::l,i+1,h=>by show y::ed l i [x]=y::l.set i x;rw[qom x l i (by simpa using h)]
theorem qwz(d:List UInt8)(i:Nat)(y:UInt8)(spare:List LV)(hi:i<d.length):ed (Vb d++spare) i [int .u8 (y.toNat:Int)]=Vb (d.set i y)++spare:=by rw[TU _ _ _ _ (by rw[iA];simp only[La,oc];omega),qom _ _ _ (by rw[iA];exact hi)];congr 1;unfold Vb;rw[map_set]
theorem qzN(k:Nat)(hk:k<3):([48,49,63]:List UInt8)[((k:Nat):Int).toNat]? = some (([48,49,63]:List UInt8).getD k 0)/\(([48,49,63]:List UInt8).getD k 0=48∨([48,49,63]:List UInt8).getD k 0=49∨([48,49,63]:List UInt8).getD k 0=63):=by rcases(show k=0∨k=1∨k=2 by omega) with rfl|rfl|rfl <;> decide
theorem qm8(s:List UInt8)(hs:vD s)(hl:s.length<=100000)(Rd:List Nat)(TC:∀ a∈Rd,a<65536)(uu:Rd.length<=100000)(Ws:List UInt8):ca (KC B0 w0) 11 [str s,.agg (Tq Rd Ws)] [] (Cr λv=>∃ d,v=str d/\vD d/\d.length=s.length):=by
 have Mx:(Rd.map u16).length=Rd.length:=Db _;have hga:∀ i,i<Rd.length->∃ a,a<65536/\(Rd.map u16)[((i:Nat):Int).toNat]? = some (int .u16 (a:Nat)):=λi hi=>by refine⟨Rd[i],TC _ (getElem_mem hi),?_⟩;rw[Int.toNat_natCast,List.getElem?_map,jh hi];rfl
 have hgt:∀ i,i<Ws.length->∃ y:UInt8,(Vb Ws)[((i:Nat):Int).toNat]? = some (int .u8 (y.toNat:Int)):=λi hi=>by refine⟨Ws[i],?_⟩;unfold Vb;rw[Int.toNat_natCast,List.getElem?_map,jh hi];rfl
 have uA:(Vb Ws).length=Ws.length:=iA Ws;unfold Tq;generalize Rd.map u16=A at *;generalize Vb Ws=T at *;refine kb Tryz.func11 rfl (n:=45) rfl rfl rfl ?_;refine qe ?_;refine oS (sB (cs:=[.list A,.list T]) rfl λb3=>?_);refine di ?_;refine oS (S.RE (l:=s) rfl λb cap spare Ue=>?_);refine wa ?_
 refine oL (λk sl H=>∃ (i:Nat) (d:List UInt8),i<=Rd.length/\k=Rd.length-i/\vD d/\d.length=s.length/\sl=[(3,ptr b3 0),(5,.atom (.slice (some ⟨b,0,none⟩) s.length cap)),(11,.list A),(12,int .i64 A.length),(13,int .i64 i)]/\H=[(b,.Bz 5 (Vb d++spare)),(b3,.cells 35 [.list A,.list T])])
  ⟨_,_,_,⟨0,s,zero_le _,rfl,hs,rfl,rfl,rfl⟩,lb,Kb _⟩ ?_
 rintro k sl H ⟨i,d,hi,rfl,hd,ot,rfl,rfl⟩ j1 pd;refine Zg ?_;refine Ma (λTe=>?_) λTe=>?_;have Te:((i:Nat):Int)<((A.length:Nat):Int):=zt Te;have Ja:i<Rd.length:=by omega
 obtain⟨a,ha,hg⟩:=hga i Ja;have ea:IntKind.i64.wrap (a:Int)=(a:Int):=Nt zo;refine xa ?_;refine la (xR (ke:=int .u16 (a:Nat)) (es:=A) rfl rfl zo hg rfl rfl)<|la (pO (c:=int .u16 (a:Nat)) rfl rfl)<|wa ?_;refine oB 23 rfl (λh1=>?_) λh1=>?_;have h1:((i:Nat):Int)<((T.length:Nat):Int):=zt h1;refine fi ?_;refine la (Pure.To rfl)<|Na ?_;refine Ma (λh2=>?_) λh2=>?_;have h2:((s.length:Nat):Int) > 0:=zt h2;obtain⟨y,hy⟩:=hgt i zo;have hy3:(y.toNat:Int).tmod 3=((y.toNat % 3:Nat):Int):=rfl;obtain⟨g1,g2⟩:=qzN (y.toNat % 3) (mod_lt _ fa);generalize ([48,49,63]:List UInt8).getD (y.toNat % 3) 0=z at g1 g2;generalize y.toNat % 3=y3 at hy3 g1;have hr:((a:Int) % ((s.length:Nat):Int))=((a % s.length:Nat):Int):=rfl;have ae:a % s.length<s.length:=mod_lt _ zo;generalize a % s.length=r at hr ae;refine fb.tail 14 zk ?_;refine Wm (pM rfl) rfl ?_;refine Wm (pM rfl) rfl ?_;refine Wm (Pure.to (Pure.Hz rfl) (congrArg (int .i64) ea)) rfl ?_;refine Wm (pM rfl) rfl ?_;refine Wm (Pure.To rfl) rfl ?_;refine Wm (Pure.to (Pure.rem rfl rfl zo zo) (congrArg (int .i64) hr)) rfl ?_;refine Wm (pF rfl) rfl ?_;refine Wm (pL (c:=.list T) rfl Oh rfl) rfl ?_;refine Wm (pM rfl) rfl ?_;refine Wm (xR (ke:=int .u8 (y.toNat:Int)) (es:=T) rfl rfl zo hy rfl rfl) rfl ?_;refine Wm (pO (c:=int .u8 (y.toNat:Int)) rfl rfl) rfl ?_;refine Wm (Pure.to (Pure.tJ rfl rfl fa) (congrArg (int .u8) hy3)) rfl ?_;refine Wm (pI (l:=[48,49,63]) rfl rfl zo g1) rfl ?_;refine Wm (Pure.to (Pure.Fj rfl rfl zo zo) (show ptr b _=ptr b r from by rw[Int.toNat_natCast];congr 1;simp)) rfl ?_;refine LS.nil ?_;refine oS (S.oJ (n:=1) (off:=r) (Ob:=Vb (d.set r z)++spare) (vs:=[int .u8 (z.toNat:Int)]) rfl pH rfl rfl (by rw[Ga,iA];omega) rfl (qwz d r z spare zo) ?_);refine Zk ?_;refine⟨_,_,_,by omega,⟨i+1,d.set r z,by omega,rfl,λx hx=>?_,by rw[length_set];exact ot,rfl,rfl⟩,lb,Kb _,pd⟩;rcases List.mem_or_eq_of_mem_set hx with e|e;exact hd x e;rw[e];exact g2;refine xa ?_;exact⟨_,_,_,by omega,⟨i+1,d,by omega,rfl,hd,ot,rfl,rfl⟩,lb,Kb _,pd⟩;refine Da ?_;refine oC rfl (λh=>by cases h) λ_=>?_;refine xa ?_;exact⟨_,_,_,by omega,⟨i+1,d,by omega,rfl,hd,ot,rfl,rfl⟩,lb,Kb _,pd⟩;have RC:=qrf d;have WQ:(d.map λb=>Value.int .u8 b.toNat).length=s.length:=by rw[Db];exact ot
 have Mm:GL.elems (.list ((d.map λb=>Value.int .u8 b.toNat).map LV.atom))=some (Vb d):=congrArg some RC.symm;rw[RC];generalize (d.map λb=>Value.int .u8 b.toNat)=vs at WQ Mm ⊢;refine fb.EG 5 (vs:=vs) (by rw[WQ];exact Ue) pH (by rw[WQ];rfl) ?_;refine xa ?_;refine la (Pure.Xe (l:=d) Mm)<|dd ?_;exact Nr pd (eb rfl) ⟨d,rfl,hd,ot⟩
open Go.ia.Wi.Wc.Q.Lb (jf wv)
open Go.ia.Wi.Wc.Q.Vm (ij gj bV Ww)
instance:Xq Tk 63 62 4 2:=.of zk zk
def kz(a o:Nat):Nat:=if a<2/\a≠o then 1 else 0
def iz(n:Int):LV:=int .i64 n
theorem tT(w:List Int){i:Nat}(hi:i<w.length):(w.map iz)[i]? = some (iz (w.getD i 0)):=by rw[List.getElem?_map,getD_eq_getElem?_getD,jh hi];rfl
theorem qzg(w:List Int)(i:Nat)(x:Int)(hi:i<w.length):ed (w.map iz) i [iz x]=(w.set i x).map iz:=by
 have h:∀ (l:List LV) (i:Nat),i<l.length->ed l i [iz x]=l.set i (iz x):=λl=>by
  induction l with
  |nil=>intro i h;cases h
  |cons y l ih=>
   intro i h;cases i with
   |zero=>cases l <;> rfl
   |succ i=>show y::ed l i [iz x]=y::l.set i (iz x);rw[ih i (by simpa using h)]
 rw[h _ _ (by rw[Db];exact hi),map_set]
theorem qqb:∀ (l:List LV) (i:Nat) (x y:LV),i+1<l.length->ed l i [x,y]=(l.set i x).set (i+1) y
 |[],_,_,_,h=>by simp at h
 |[_],0,_,_,h=>by simp at h
 |a::b::l,0,x,y,_=>by cases l <;> rfl
 |a::l,i+1,x,y,h=>by show a::ed l i [x,y]=a::(l.set i x).set (i+1) y;rw[qqb l i x y (by simpa using h)]
theorem J'(w:List Int)(i:Nat)(x y:Int)(hi:i+1<w.length):ed (w.map iz) i [iz x,iz y]=((w.set i x).set (i+1) y).map iz:=by rw[qqb _ _ _ _ (by rw[Db];exact hi),map_set,map_set]
theorem oM(w:List Int)(i j:Nat)(x:Int)(hj:j<w.length):(w.set i x).getD j 0=if i=j then x else w.getD j 0:=by rw[getD_eq_getElem?_getD,List.getElem?_set];split;rw[zp zo];rfl;rw[<-getD_eq_getElem?_getD]
theorem aY{w:List Int}(hw:w.length=8):((w.map iz).drop 0).take 8=w.map iz:=by rw[List.drop_zero];exact List.take_of_length_le (by rw[Db];omega)
theorem oX:∀ w:List Int,(w.map iz).all yq=true
 |[]=>rfl
 |x::w=>by rw[jd,List.all_cons,oX w];rfl
theorem qzb{o:Nat}(hx:x=48∨x=49∨x=63)(ho:o<2):(x=63/\kz (cN x) o=0)∨(x≠63/\kz (cN x) o=if (x.toNat:Int)=((UInt8.ofNat (48+o)).toNat:Int) then 0 else 1):=by rcases(show o=0∨o=1 by omega) with rfl|rfl <;> rcases hx with rfl|rfl|rfl <;> decide
theorem Q1(h:x≠63):¬ (x.toNat:Int)=63:=λe=>h (UInt8.toNat_inj.mp (by show x.toNat=63;omega))
theorem qn1(d:List UInt8)(hd:vD d)(hl:d.length=836):ca (KC B0 w0) 21 [str d] [] (Qb (int .i64 0)):=by have Om:=E1 (B0:=B0) (w0:=w0) d hd zo;refine kb Tryz.func21 rfl (n:=15) rfl rfl rfl ?_;refine di ?_;refine oS (sF [_] rfl Om ?_);refine Na ?_;refine oC rfl (λh=>by cases h) λ_=>?_;refine wa ?_;refine la (Pure.rem (a:=((d.length:Nat):Int)) (b:=2) rfl rfl zo zo)<|la (Pure.to (Pure.neq rfl rfl) (xe (b:=false) (by rw[hl];rfl)))<|Na ?_;refine oC rfl (λh=>absurd (zt h) zo) λ_=>?_;refine xa ?_;exact qb rfl (eb rfl) rfl
theorem qhy(d:List UInt8)(c:Nat->Nat)(hc:Qw d c)(hd:d.length=836)(k:Nat)(hk:k<418)(o0 o1:Nat)(h0:o0<2)(h1:o1<2):ca (KC B0 w0) 24 [str d,int .i64 (k:Nat),str [UInt8.ofNat (48+o0),UInt8.ofNat (48+o1)]] [] (Qb (int .i64 (kz (c (2 * k)) o0+kz (c (2 * k+1)) o1:Nat))):=by
 obtain⟨x0,a0,b0,e0⟩:=hc (2 * k) zo;obtain⟨x1,a1,b1,e1⟩:=hc (2 * k+1) zo;obtain⟨acc,Ra⟩:∃ acc:Nat->Nat,acc=λi=>if i=0 then 0 else if i=1 then kz (c (2 * k)) o0 else kz (c (2 * k)) o0+kz (c (2 * k+1)) o1:=⟨_,rfl⟩
 have z0:acc 0=0:=by rw[Ra];rfl
 have z2:acc 2=kz (c (2 * k)) o0+kz (c (2 * k+1)) o1:=by rw[Ra];rfl
 rw[<-z2];have nu:∀ i:Nat,i<2->∃ (x:UInt8) (o:Nat),d[(2 * (k:Int)+(i:Int)).toNat]? = some x/\([UInt8.ofNat (48+o0),UInt8.ofNat (48+o1)]:List UInt8)[((i:Nat):Int).toNat]? = some (UInt8.ofNat (48+o))/\o<2/\(x=48∨x=49∨x=63)/\acc (i+1)=acc i+kz (cN x) o/\acc i<=1:=λi hi=>by
  have m01:∀ a o,kz a o<=1:=λa o=>by unfold kz;split <;> omega
  rcases(show i=0∨i=1 by omega) with rfl|rfl;refine⟨x0,o0,by rw[show(2 * (k:Int)+((0:Nat):Int)).toNat=2 * k by omega];exact a0,rfl,h0,b0,?_,by rw[z0];decide⟩;rw[Ra,<-e0];show kz _ _=0+_;omega;refine⟨x1,o1,by rw[show(2 * (k:Int)+((1:Nat):Int)).toNat=2 * k+1 by omega];exact a1,rfl,h1,b1,?_,by rw[Ra];exact m01 _ _⟩;rw[Ra,<-e1];rfl
 generalize ([UInt8.ofNat (48+o0),UInt8.ofNat (48+o1)]:List UInt8)=out at nu ⊢;clear Ra z2;refine kb Tryz.func24 rfl (n:=35) rfl rfl rfl ?_;refine xa ?_;refine oL (λq sl H=>∃ i:Nat,i<=2/\q=2-i/\sl=[(0,str d),(1,int .i64 (k:Nat)),(2,str out),(7,int .i64 (acc i:Nat)),(8,int .i64 i)]/\H=[])
  ⟨_,_,_,⟨0,zero_le _,rfl,rfl,rfl⟩,lb,Kb _⟩ ?_
 rintro q sl H ⟨i,hi,rfl,rfl,rfl⟩ j1 pd;refine xa ?_;refine Ma (λTe=>?_) λTe=>?_;have Ja:i<2:=by have:=zt Te;omega
 obtain⟨x,o,hg,fE,ho,hx,hA,rW⟩:=nu i Ja;rcases qzb hx ho with⟨p1,p2⟩|⟨p1,p2⟩;subst p1;refine Da ?_;refine qm ?_;refine gJ ?_;refine Na ?_;refine oC rfl (λh=>by cases h) λ_=>?_;refine xa ?_;exact⟨_,_,_,by omega,⟨i+1,by omega,rfl,rfl,rfl⟩,lb,Kb _,pd⟩;have q1:=Q1 p1;refine Da ?_;refine qm ?_;refine gJ ?_;refine qP (Pure.to (Pure.neq rfl rfl) (xe (b:=true) (by rw[decide_eq_false q1];rfl))) rfl ?_;refine Na ?_;refine gJ ?_;refine Na ?_;refine qP (pI rfl rfl zo fE) rfl ?_;refine Na ?_;refine Ma (λh=>?_) λh=>?_;rw[zn (λe=>by rw[Nf e] at h;cases h)] at p2;refine xa ?_;exact⟨_,_,_,by omega,⟨i+1,by omega,rfl,rfl,rfl⟩,lb,Kb _,pd⟩;rw[zp (Decidable.byContradiction λe=>by rw[decide_eq_false e] at h;cases h)] at p2;refine xa ?_;exact⟨_,_,_,by omega,⟨i+1,by omega,rfl,rfl,rfl⟩,lb,Kb _,pd⟩;have Ff:i=2:=by have:=zf Te;omega
 subst Ff;refine xa ?_;exact qb pd (eb rfl) rfl
theorem qph(d:List UInt8)(c:Nat->Nat)(hc:Qw d c)(hd:d.length=836)(k:Nat)(hk:k<418)(a:List Int)(ha:a.length=8)(uu:∀ s,s<4 -> -1<=a.getD (2 * s) 0/\a.getD (2 * s) 0<100000):ca (KC B0 w0) 35 [str d,int .i64 (k:Nat),.agg (a.map iz)] [] (Cr λv=>∃ w:List Int,v=.agg (w.map iz)/\w.length=8/\∀ s,s<4->w.getD (2 * s) 0=Ww (Ww (-1) (a.getD (2 * (s / 2)) 0) (jf c k s 0)) (a.getD (2 * (2+s / 2)) 0) (jf c k s 1)):=by
 have uC:∀ s u,s<4->u<2->ca (KC B0 w0) 24 [str d,int .i64 (k:Nat),str [UInt8.ofNat (48+ij s u),UInt8.ofNat (48+gj s u)]] [] (Qb (int .i64 (jf c k s u:Nat))):=λs u hs hu=>by have:=qhy (B0:=B0) (w0:=w0) d c hc hd k hk (ij s u) (gj s u) (mod_lt _ fa) (mod_lt _ fa);rw[bV c k s u hk hs hu];exact this
 have kW:∀ s u,jf c k s u<=2:=λs u=>wv c k s u;obtain⟨cur,NC⟩:∃ cur:Nat->Nat->Int,cur=λs u=>if u=0 then -1 else if u=1 then Ww (-1) (a.getD (2 * (s / 2)) 0) (jf c k s 0) else Ww (Ww (-1) (a.getD (2 * (s / 2)) 0) (jf c k s 0)) (a.getD (2 * (2+s / 2)) 0) (jf c k s 1):=⟨_,rfl⟩
 have c0:∀ s,cur s 0 = -1:=λs=>by rw[NC];rfl
 have c2:∀ s,Ww (Ww (-1) (a.getD (2 * (s / 2)) 0) (jf c k s 0)) (a.getD (2 * (2+s / 2)) 0) (jf c k s 1)=cur s 2:=λs=>by rw[NC];rfl
 have cS:∀ s u,u<2->cur s (u+1)=Ww (cur s u) (a.getD (2 * (2 * u+s / 2)) 0) (jf c k s u):=λs u hu=>by rcases(show u=0∨u=1 by omega) with rfl|rfl;rw[NC,show 2 * 0+s / 2=s / 2 by omega];rfl;rw[NC,show 2 * 1+s / 2=2+s / 2 by omega];rfl
 simp only[c2];clear NC c2;generalize jf c k=br at uC kW cS;refine kb Tryz.func35 rfl (n:=76) rfl rfl rfl ?_;refine qe ?_;refine oS (sB (cs:=a.map iz) rfl λb5=>oS (Jd λb6=>?_));refine Zg ?_;refine la (Pure.qD _ (cs:=(List.replicate 8 0).map iz) rfl)<|oS (Jd λb7=>?_);refine oS (sS (Ob:=(List.replicate 8 0).map iz) (vs:=(List.replicate 8 0).map iz) rfl pH rfl rfl rfl rfl rfl ?_);refine xa ?_
 refine oL (λq sl H=>∃ (s:Nat) (w:List Int),s<=4/\q=4-s/\w.length=8/\(∀ j,j<s->w.getD (2 * j) 0=cur j 2)/\sl=[(0,str d),(1,int .i64 (k:Nat)),(5,ptr b5 0),(6,ptr b6 0),(7,ptr b7 0),(8,int .i64 s)]/\H=[(b7,.cells 63 (w.map iz)),(b6,.cells 63 ((List.replicate 8 0).map iz)),(b5,.cells 63 (a.map iz))])
  ⟨_,_,_,⟨0,List.replicate 8 0,zero_le _,rfl,rfl,λj h=>absurd h (Nat.not_lt_zero j),rfl,rfl⟩,lb,Kb _⟩ ?_
 rintro q sl H ⟨s,w,hs,rfl,hw,JV,rfl,rfl⟩ j1 pd;refine xa ?_;refine Ma (λTe=>?_) λTe=>?_;have iw:s<4:=by have:=zt Te;omega
 obtain⟨w1,ft⟩:∃ w1,(w.set (2 * s) (-1)).set (2 * s+1) 0=w1:=⟨_,rfl⟩;have e1:ed (w.map iz) (2 * s) [iz (-1),iz 0]=w1.map iz:=by rw[<-ft];exact J' w _ _ _ zo
 have l1:w1.length=8:=by rw[<-ft,length_set,length_set];exact hw
 have p1:∀ j,j<4->w1.getD (2 * j) 0=if j=s then -1 else w.getD (2 * j) 0:=λj hj=>by rw[<-ft,oM _ _ _ _ (by rw[length_set];omega),zn zo,oM _ _ _ _ zo];by_cases e:j=s;rw[zp zo,zp e];rw[zn zo,zn e]
 have m0:Nat.ble (2 * s+2) (w.map iz).length=true:=ble_eq_true_of_le (by rw[Db,hw];omega);refine wa ?_;refine wy ?_;refine oS (sS (Ob:=w1.map iz) (vs:=[iz (-1),iz 0]) rfl pH rfl rfl m0 rfl e1 ?_);refine xa ?_;refine oL (λq sl H=>∃ (u:Nat) (w2:List Int),u<=2/\q=2-u/\w2.length=8/\(∀ j,j<s->w2.getD (2 * j) 0=cur j 2)/\w2.getD (2 * s) 0=cur s u/\sl=[(0,str d),(1,int .i64 (k:Nat)),(5,ptr b5 0),(6,ptr b6 0),(7,ptr b7 0),(8,int .i64 s),(9,int .i64 u)]/\H=[(b7,.cells 63 (w2.map iz)),(b6,.cells 63 ((List.replicate 8 0).map iz)),(b5,.cells 63 (a.map iz))])
  ⟨_,_,_,⟨0,w1,zero_le _,rfl,l1,λj hj=>by rw[p1 j zo,zn zo];exact JV j hj,by rw[p1 s iw,zp rfl,c0],rfl,rfl⟩,lb,Kb _⟩ ?_
 rintro q sl H ⟨u,w2,hu,rfl,l2,lI,mG,rfl,rfl⟩ j2 wc;refine xa ?_;refine Ma (λh1=>?_) λh1=>?_;have YQ:u<2:=by have:=zt h1;omega
 have As:=kQ (B0:=B0) (w0:=w0) s u iw YQ;have hm:=uC s u iw YQ;have Kl:=kW s u;have hC:=cS s u YQ;obtain⟨nx,Z3⟩:∃ nx,2 * u+s / 2=nx:=⟨_,rfl⟩;have bW:nx<4:=by omega
 rw[Z3] at As hC;obtain⟨A1,A2⟩:=uu nx bW;have gA:(a.map iz)[2 * nx]? = some (iz (a.getD (2 * nx) 0)):=tT a zo;have gP:(a.map iz)[2 * nx+1]? = some (iz (a.getD (2 * nx+1) 0)):=tT a zo;have gC:(w2.map iz)[2 * s]? = some (iz (cur s u)):=by rw[<-mG];exact tT w2 zo
 generalize a.getD (2 * nx) 0=A at gA A1 A2 hC;generalize a.getD (2 * nx+1) 0=PA at gP;generalize br s u=B at hm Kl hC;generalize [UInt8.ofNat (48+ij s u),UInt8.ofNat (48+gj s u)]=cells at As hm;refine xa ?_;refine oS (sF [_,_] rfl As ?_);refine xa ?_;refine la (Pure.FV (i:=nx) (q:=2 * nx) rfl rfl rfl bW zo)<|la (pF rfl)<|la (pL (c:=iz A) rfl sy gA)<|Da ?_;refine Ma (λh2=>?_) λh2=>?_;have h2:A<0:=zt h2;have hC:cur s (u+1)=cur s u:=by rw[hC];exact zp h2
 refine xa ?_;exact⟨_,_,_,by omega,⟨u+1,w2,by omega,rfl,l2,lI,by rw[hC];exact mG,rfl,rfl⟩,lb,Kb _,wc⟩;have h2:¬ A<0:=zf h2;have hC:cur s (u+1)=if cur s u<0∨(B:Int)+A<cur s u then (B:Int)+A else cur s u:=by rw[hC];exact zn h2
 refine Da ?_;refine cD (m:=10) rfl [(b5,.cells 63 (a.map iz))]<|aT 0 rfl rfl (pM rfl) ?_ (Ho:=tc Fi yd);refine aT 1 rfl rfl (pM rfl) ?_ (Ho:=tc Fi yd);refine aT 2 rfl rfl (pM rfl) ?_ (Ho:=tc Fi yd);refine aT 4 rfl rfl (pM rfl) ?_ (Ho:=tc Fi yd);refine aT 5 rfl rfl (Pure.FV (i:=nx) (q:=2 * nx) rfl rfl rfl bW zo) ?_ (Ho:=tc Fi yd);refine aT 6 rfl rfl (pF rfl) ?_ (Ho:=tc Fi yd);refine aT 7 rfl rfl (pL (c:=iz A) rfl nc gA) ?_ (Ho:=tc Fi yd);refine aL ?_ (tc Fi yd);refine lO 3 (lS (H1:=[]) rfl (.inl rfl) rfl mc (tc Fi yd) (sF [_,_,_] rfl hm ?_));refine lO 8 (lH rfl rfl (Pure.add rfl rfl zo) ?_);refine lO 9 (lH rfl rfl (pA (lv:=.atom _) rfl) ?_);refine fq ?_;have lw:∀ x y:Int,((w2.set (2 * s) x).set (2 * s+1) y).length=8:=λx y=>by rw[length_set,length_set];exact l2
 have gw:∀ (x y:Int) j,j<4->((w2.set (2 * s) x).set (2 * s+1) y).getD (2 * j) 0=if j=s then x else w2.getD (2 * j) 0:=λx y j hj=>by rw[oM _ _ _ _ (by rw[length_set];omega),zn zo,oM _ _ _ _ zo];by_cases e:j=s;rw[zp zo,zp e];rw[zn zo,zn e]
 have m2:Nat.ble (2 * s+2) (w2.map iz).length=true:=ble_eq_true_of_le (by rw[Db,l2];omega);have m1:Nat.ble (2 * s+1+1) (w2.map iz).length=true:=ble_eq_true_of_le (by rw[Db,l2];omega);have e2:ed (w2.map iz) (2 * s) [iz ((B:Int)+A),iz PA]=((w2.set (2 * s) ((B:Int)+A)).set (2 * s+1) PA).map iz:=J' w2 _ _ _ zo;have e3:ed (w2.map iz) (2 * s+1) [iz 2]=(w2.set (2 * s+1) 2).map iz:=qzg w2 _ _ zo;generalize hcu:cur s u=cu at *;refine Bd ?_;refine wy ?_;refine la (pF rfl)<|la (pL (c:=iz cu) rfl nc gC)<|Da ?_;refine Ea.cut [(0,str d),(1,int .i64 (k:Nat)),(5,ptr b5 0),(6,ptr b6 0),(7,ptr b7 0),(8,int .i64 s),(9,int .i64 u),(10,int .i64 nx),(12,int .i64 ((B:Int)+A)),(57,bool (decide (cu<0∨(B:Int)+A<cu)))] ?_ λj3 qn=>?_;refine oB 50 rfl (λh3=>?_) λh3=>?_;have h3:cu<0:=zt h3;refine Da ?_;exact⟨⟨rfl,rfl,rfl,rfl,rfl,rfl,rfl,rfl,rfl,xe (Nf (.inl h3)).symm,trivial⟩,rfl,rfl⟩;have h3:¬ cu<0:=zf h3;refine fi ?_;refine wy ?_;refine Da ?_;refine la (pL (c:=iz cu) rfl nc gC)<|Da ?_;exact⟨⟨rfl,rfl,rfl,rfl,rfl,rfl,rfl,rfl,rfl,xe (decide_eq_decide.mpr ⟨.inr,λh=>h.resolve_left h3⟩),trivial⟩,rfl,rfl⟩;refine Ma (λh4=>?_) λh4=>?_;have h4:cu<0∨(B:Int)+A<cu:=zt h4;rw[zp h4] at hC;refine Bd ?_;refine la (Pure.FV (i:=nx) (q:=2 * nx) rfl rfl rfl bW zo)<|la (pF rfl)<|la (pL (c:=iz PA) rfl sy gP)<|la (pB _ (cs:=[iz ((B:Int)+A),iz PA]) rfl)<|wy ?_;refine oS (sS (Ob:=((w2.set (2 * s) ((B:Int)+A)).set (2 * s+1) PA).map iz) (vs:=[iz ((B:Int)+A),iz PA]) rfl pH rfl rfl m2 rfl e2 ?_);refine xa ?_;exact⟨_,_,_,by omega,⟨u+1,_,by omega,rfl,lw _ _,λj hj=>by rw[gw _ _ j zo,zn zo];exact lI j hj,by rw[gw _ _ s iw,zp rfl,hC],rfl,rfl⟩,lb,Kb _,qn.trans wc⟩;have h4:¬ (cu<0∨(B:Int)+A<cu):=zf h4;rw[zn h4] at hC;refine Bd ?_;refine wy ?_;refine la (pF rfl)<|la (pL (c:=iz cu) rfl nc gC)<|Da ?_;refine Ma (λ_=>?_) λ_=>?_;refine Bd ?_;refine wy ?_;refine la (pF rfl)<|oS (sS (Ob:=(w2.set (2 * s+1) 2).map iz) (vs:=[iz 2]) rfl pH rfl rfl m1 rfl e3 ?_);refine xa ?_;exact⟨_,_,_,by omega,⟨u+1,_,by omega,rfl,by rw[length_set];exact l2,λj hj=>by rw[oM _ _ _ _ zo,zn zo];exact lI j hj,by rw[oM _ _ _ _ zo,zn zo,hC];exact mG,rfl,rfl⟩,lb,Kb _,qn.trans wc⟩;refine xa ?_;exact⟨_,_,_,by omega,⟨u+1,w2,by omega,rfl,l2,lI,by rw[hC];exact mG,rfl,rfl⟩,lb,Kb _,qn.trans wc⟩;have YQ:u=2:=by have:=zf h1;omega
 subst YQ;refine xa ?_;exact⟨_,_,_,by omega,⟨s+1,w2,by omega,rfl,l2,λj hj=>by
  by_cases e:j<s;exact lI j e;obtain rfl:j=s:=by omega
  exact mG,rfl,rfl⟩,lb,Kb _,wc.trans pd⟩
 have iw:s=4:=by have:=zf Te;omega
 subst iw;refine xa ?_;refine la (Pure.to (Pure.gp (n:=8) rfl nc (by rw[Db,hw];decide)) (congrArg LV.agg (aY hw)))<|oS (sS (Ob:=w.map iz) (vs:=w.map iz) rfl Od rfl (by rw[Db];exact hw) rfl (oX w) (by rw[mH _ _ _ (by rw[Db,Db,hw];decide)];simp[hw]) ?_);refine dd ?_;exact Nr pd (rC (rA (k:=8) rfl nc (ble_eq_true_of_le (by rw[Db,hw];decide)) Nd) rN) ⟨w,congrArg LV.agg (aY hw),hw,JV⟩
open Go.ia.Wi.Wc.Q.Lb (jf wv gh kh YT yk)
open Go.ia.Wi.Wc.Q.Vm (ij gj bV Ww Xo XZ qjN sY qoT qlS jU)
def Bk(w:List Int):LV:=.agg (w.map iz)
def jl(R:Nat->List Int)(n:Nat):List LV:=(List.range n).map λj=>Bk (R j)
theorem TJ(R:Nat->List Int)(n:Nat):(jl R n).length=n:=by unfold jl;rw[Db,length_range]
theorem qvv(R:Nat->List Int)(hj:j<n):(jl R n)[j]? = some (Bk (R j)):=by unfold jl;rw[List.getElem?_map,List.getElem?_range hj];rfl
theorem qni(R:Nat->List Int)(hj:j<n):∃ bs,jl R n=jl R j++Bk (R j)::bs/\∀ w:List Int,jl (λi=>if i=j then w else R i) n=jl R j++Bk w::bs:=by refine⟨(List.range (n-j-1)).map λi=>Bk (R (j+1+i)),?_,λw=>?_⟩;unfold jl;rw[show n=j+(1+(n-j-1)) by omega,range_add,Je,map_map,range_add,Je,map_map];simp only[Function.comp_def,List.range_one,jd,List.map_nil,add_zero,List.cons_append,List.nil_append];simp only[Nat.add_assoc];rw[show j+(1+(n-j-1))-j-1=n-j-1 by omega];unfold jl;rw[show n=j+(1+(n-j-1)) by omega,range_add,Je,map_map,range_add,Je,map_map];simp only[Function.comp_def,List.range_one,jd,List.map_nil,add_zero,List.cons_append,List.nil_append];rw[zp trivial,show j+(1+(n-j-1))-j-1=n-j-1 by omega];congr 1;refine map_congr_left λi hi=>?_;have:=List.mem_range.mp hi;rw[zn zo];congr 1;refine map_congr_left λi hi=>?_;rw[zn zo,Nat.add_assoc]
theorem fZ(w:List Int)(hw:w.length=8):(Bk w).cells.length=8:=by show(w.map iz).length=8;rw[Db];exact hw
theorem XU{R:Nat->List Int}(h:∀ j,(R j).length=8)(n:Nat):∀ v∈jl R n,v.cells.length=8:=λv hv=>by unfold jl at hv;obtain⟨j,_,rfl⟩:=Qh hv;exact fZ _ (h j)
theorem qtb{R:Nat->List Int}(h:∀ j,(R j).length=8)(hj:j<n)(spare:List LV):((((jl R n).flatMap LV.cells++spare).drop (j * 8)).take 8)=(R j).map iz:=by obtain⟨bs,e,_⟩:=qni R hj;have:=quE (s:=8) (ls:=jl R j) (bs:=bs) (a:=Bk (R j)) (spare:=spare) (XU h j) 0 8 (by rw[fZ _ (h j)];decide);rw[TJ,add_zero] at this;rw[e,this];show(((R j).map iz).drop 0).take 8=_;exact aY (h j)
theorem qla{R:Nat->List Int}(h:∀ j,(R j).length=8)(hj:j<n)(w:List Int)(hw:w.length=8)(spare:List LV):ed ((jl R n).flatMap LV.cells++spare) (j * 8) (w.map iz)=(jl (λi=>if i=j then w else R i) n).flatMap LV.cells++spare:=by
 obtain⟨bs,e,e2⟩:=qni R hj;have:=qsd (s:=8) (ls:=jl R j) (bs:=bs) (a:=Bk (R j)) (a':=Bk w) (spare:=spare) (vs:=w.map iz) (XU h j) 0 (by rw[fZ _ (h j),Db,hw];decide) (by
  show w.map iz=ed ((R j).map iz) 0 (w.map iz);rw[mH _ _ _ (by rw[Db,Db,hw,h j];decide)];simp[hw,h j])
 rw[TJ,add_zero] at this;rw[e,this,e2 w]
def Q6(c:Nat->Nat)(R:Nat->List Int)(k:Nat):Prop:=∀ j,k<=j->j<=418->∀ s,s<4->(R j).getD (2 * s) 0=Xo c (418-j) s
theorem qrZ(d:List UInt8)(c:Nat->Nat)(hc:Qw d c)(hd:d.length=836):ca (KC B0 w0) 22 [str d] [] (Cr λv=>∃ R:Nat->List Int,v=.list (jl R 419)/\(∀ j,(R j).length=8)/\Q6 c R 0):=by
 have F5:=λk hk a ha uu=>qph (B0:=B0) (w0:=w0) d c hc hd k hk a ha uu;have ru:((d.length:Nat):Int) / 2=((418:Nat):Int):=by rw[hd];rfl
 have z0:=qjN c;refine kb Tryz.func22 rfl (n:=38) rfl rfl rfl ?_;refine wa ?_;refine la (Pure.to (Pure.quo (a:=((d.length:Nat):Int)) (b:=2) rfl rfl zo zo zo) (congrArg (int .i64) ru))<|xa ?_;refine oS (S.PB (n:=419) rfl rfl fa fa fa fa λv H' hm=>?_);obtain⟨b,cap,spare,rfl,rfl,Ue,Bo⟩:=hm.addr fa
 have Tn:(List.replicate 419 (LV.agg (([.int .i64 0,.int .i64 0,.int .i64 0,.int .i64 0,.int .i64 0,.int .i64 0,.int .i64 0,.int .i64 0]:List Value).map .atom)))=jl (λ_=>List.replicate 8 0) 419:=by unfold jl;rw[List.map_const',length_range];rfl
 rw[Tn] at Bo Ue ⊢;have Mk:∀ {R:Nat->List Int},(∀ j,(R j).length=8)->((jl R 419).flatMap LV.cells).length=419 * 8:=λh=>by rw[RD (XU h 419),TJ]
 refine la (pA (lv:=.atom _) rfl) ?_;have A7:=qla (R:=λ_=>List.replicate 8 0) (n:=419) (j:=418) (λ_=>rfl) fa [0,1,-1,0,-1,0,-1,0] rfl spare;rw[TJ] at Ue Bo ⊢;clear Tn hm;refine wa ?_;refine la (Pure.qD _ (cs:=([0,1,-1,0,-1,0,-1,0]:List Int).map iz) rfl)<|la (Pure.to (Pure.Fj rfl rfl zo zo) (show ptr b _=ptr b (418 * 8) from rfl))<|oS (sS (n:=8) (Ob:=(jl (λi=>if i=418 then [0,1,-1,0,-1,0,-1,0] else List.replicate 8 0) 419).flatMap LV.cells++spare) (vs:=([0,1,-1,0,-1,0,-1,0]:List Int).map iz) rfl pH rfl rfl (ble_eq_true_of_le (by rw[Ga,Mk λ_=>rfl];omega)) rfl A7 ?_);have T0:Q6 c (λi=>if i=418 then [0,1,-1,0,-1,0,-1,0] else List.replicate 8 0) 418:=λj h1 h2 s hs=>by
  obtain rfl:j=418:=by omega
  show([0,1,-1,0,-1,0,-1,0]:List Int).getD (2 * s) 0=_;obtain⟨p0,p1,p2,p3⟩:=z0;rcases(show s=0∨s=1∨s=2∨s=3 by omega) with rfl|rfl|rfl|rfl;exact p0.symm;exact p1.symm;exact p2.symm;exact p3.symm
 have L0:∀ j,((λi=>if i=418 then [0,1,-1,0,-1,0,-1,0] else List.replicate 8 0:Nat->List Int) j).length=8:=λj=>by show(if j=418 then _ else _:List Int).length=8;split <;> rfl
 generalize (λi=>if i=418 then [0,1,-1,0,-1,0,-1,0] else List.replicate 8 0:Nat->List Int)=R0 at T0 L0 ⊢;clear A7;refine wa ?_;refine oL (λq sl H=>∃ (k:Nat) (R:Nat->List Int),k<=418/\q=k/\(∀ j,(R j).length=8)/\Q6 c R k/\sl=[(0,str d),(4,.atom (.slice (some ⟨b,0,none⟩) 419 cap)),(5,int .i64 ((k:Int)-1))]/\H=[(b,.cells 63 ((jl R 419).flatMap LV.cells++spare))])
  ⟨_,_,_,⟨418,R0,Jb _,rfl,L0,T0,rfl,rfl⟩,lb,Kb _⟩ ?_
 rintro q sl H ⟨k,R,hk,rfl,hL,hT,rfl,rfl⟩ j1 pd;refine wa ?_;refine Ma (λTe=>?_) λTe=>?_;have Te:((q:Nat):Int)-1 ≥ 0:=zt Te;obtain⟨k,rfl⟩:∃ k,q=k+1:=⟨q-1,by omega⟩;have e1:((k+1:Nat):Int)-1=((k:Nat):Int):=by omega
 have hld:=qtb hL (n:=419) (j:=k+1) zo spare;have hb:=F5 k zo (R (k+1)) (hL _) (λs hs=>by
  rw[hT (k+1) (Jb _) zo s hs];exact sY c _ s)
 have na:=Mk hL;rw[e1];refine xa ?_;refine la (Pure.to (Pure.Fj rfl rfl zo zo) (show ptr b _=ptr b ((k+1) * 8) from by congr 1;omega))<|la (Pure.to (Pure.gp (n:=8) rfl nc (by rw[Ga,na];omega)) (congrArg LV.agg hld))<|oS (S.Dg [_,_,_] rfl hb λlv uz=>?_);obtain⟨w,rfl,hw,JV⟩:=uz;have Kk:=qla hL (n:=419) (j:=k) zo w hw spare;refine la (Pure.to (Pure.Fj rfl rfl zo zo) (show ptr b _=ptr b (k * 8) from by congr 1;omega))<|oS (sS (n:=8) (Ob:=(jl (λi=>if i=k then w else R i) 419).flatMap LV.cells++spare) (vs:=w.map iz) rfl pH rfl (by rw[Db];exact hw) (ble_eq_true_of_le (by rw[Ga,na];omega)) (oX w) Kk ?_);refine wa ?_;refine⟨_,_,_,by omega,⟨k,_,by omega,rfl,λj=>?_,λj h1 h2 s hs=>?_,rfl,rfl⟩,lb,Kb _,pd⟩;show(if j=k then w else R j).length=8;split;exact hw;exact hL j;show(if j=k then w else R j).getD (2 * s) 0=_
 by_cases e:j=k;subst e;rw[zp rfl,JV s hs,hT (j+1) (Jb _) zo (s / 2) zo,hT (j+1) (Jb _) zo (2+s / 2) zo];have:=XZ c (417-j) s zo hs;rw[show 417-j+1=418-j by omega,show 417-(417-j)=j by omega] at this;rw[this,show 418-(j+1)=417-j by omega];rw[zn e];exact hT j zo h2 s hs;have hq:q=0:=by have h:¬ ((q:Nat):Int)-1 ≥ 0:=zf Te;omega
 subst hq;have Sn:Ae 63 8 (.slice (some ⟨b,0,none⟩) (jl R 419).length cap) (jl R 419) [(b,.cells 63 ((jl R 419).flatMap LV.cells++spare))]:=Ae.row (XU hL 419) (by rw[TJ];exact Ue) (by rw[TJ];omega);refine fb.settle 4 (F:=[]) Sn (by simp) (by rw[TJ];rfl) λv' H' Ra=>?_;refine fb.sub (d:=4) (v:=v') rfl Ra.sub ?_;refine wa ?_;exact Nr pd (rC (rT (v:=.list _) rfl Nd) rN) ⟨R,rfl,hL,hT⟩
theorem aU(w:List Int){i f:Nat}(hi:i * 2+f<w.length):((((w.map iz).drop (i * 2)).drop f))[0]? = some (iz (w.getD (i * 2+f) 0)):=by rw[List.drop_drop,List.getElem?_drop,add_zero];exact tT w hi
theorem qth(c:Nat->Nat)(k:Nat):((List.range (k+1)).map λj=>UInt8.ofNat (48+yk c j))=((List.range k).map λj=>UInt8.ofNat (48+yk c j))++[UInt8.ofNat (48+yk c k)]:=by rw[range_succ,Je];rfl
theorem qpJ(d:List UInt8)(c:Nat->Nat)(hc:Qw d c)(hd:d.length=836):ca (KC B0 w0) 13 [str d] [] (Cr λv=>∃ (a:Int) (b:Bool),v=.tuple [str (Nu (yk c)),int .i64 a,bool b,int .i64 0]):=by
 have xz:vD d:=λx hx=>by obtain⟨j,hj,rfl⟩:=List.getElem_of_mem hx;obtain⟨y,y1,y2,y3⟩:=hc j hj;rw[jh hj] at y1;rw[Option.some.inj y1];exact y2
 have Om:=qn1 (B0:=B0) (w0:=w0) d xz hd;have mu:=qrZ (B0:=B0) (w0:=w0) d c hc hd;have uC:∀ k s,k<418->s<4->ca (KC B0 w0) 24 [str d,int .i64 (k:Nat),str [UInt8.ofNat (48+ij s 0),UInt8.ofNat (48+gj s 0)]] [] (Qb (int .i64 (jf c k s 0:Nat))):=λk s hk hs=>by have:=qhy (B0:=B0) (w0:=w0) d c hc hd k hk (ij s 0) (gj s 0) (mod_lt _ fa) (mod_lt _ fa);rw[bV c k s 0 hk hs fa];exact this
 have ru:((d.length:Nat):Int) / 2=((418:Nat):Int):=by rw[hd];rfl
 refine ca.YB Tryz.func13 rfl (n:=90) rfl rfl rfl ?_;refine di ?_;refine oS (sF [_] rfl Om ?_);refine wa ?_;refine oC rfl (λh=>by cases h) λ_=>?_;refine xa ?_;refine oS (S.Dg [_] rfl mu λlv uz=>?_);obtain⟨R,rfl,hL,hT⟩:=uz
 have Sn:∀ j,j<419->(jl R 419)[((j:Nat):Int).toNat]? = some (Bk (R j)):=λj hj=>by rw[Int.toNat_natCast];exact qvv R hj
 generalize jl R 419=es at Sn ⊢;refine wa ?_;refine oS (S.Wt (s:=1) (es:=[]) [] rfl Ch rfl rfl rfl λb=>?_);refine wa ?_
 refine oL (λq sl H=>∃ (k:Nat) (v:LV),k<=416/\q=416-k/\Acc 1 v (Vb ((List.range k).map λj=>UInt8.ofNat (48+yk c j))) H []/\sl=[(0,str d),(7,.list es),(8,v),(9,int .i64 (kh c k:Nat)),(10,int .i64 k)])
  ⟨_,_,_,⟨0,_,zero_le _,rfl,Acc.row,rfl⟩,lb,Kb _⟩ ?_
 rintro q sl H ⟨k,v,hk,rfl,Ra,rfl⟩ j1 pd;refine wa ?_;refine la (Pure.to (Pure.quo (a:=((d.length:Nat):Int)) (b:=2) rfl rfl zo zo zo) (congrArg (int .i64) ru))<|Na ?_;refine Ma (λTe=>?_) λTe=>?_
 have EC:k<416:=by have h:((k:Nat):Int)<((418:Nat):Int)-2:=zt Te;omega
 have iw:=YT c k;have hU:=jU c k;have hN:=qlS c k;have K5:yk c k=if gh c (417-k) (2+kh c k / 2)+jf c k (kh c k) 1<gh c (417-k) (kh c k / 2)+jf c k (kh c k) 0 then 1 else 0:=by unfold yk;by_cases e:gh c (417-k) (2+kh c k / 2)+jf c k (kh c k) 1<gh c (417-k) (kh c k / 2)+jf c k (kh c k) 0;rw[zp ⟨EC,e⟩,zp e];rw[zn λh=>e h.2,zn e]
 have hTS:=congrArg Vb (qth c k);have L5:(Vb ((List.range k).map λj=>UInt8.ofNat (48+yk c j))).length<=1000:=by rw[iA,Db,length_range];omega
 obtain⟨s,hs⟩:∃ s,kh c k=s:=⟨_,rfl⟩;rw[hs] at iw hN K5 ⊢;obtain⟨w1,w2⟩:=qoT c k s EC iw;have Co:=kQ (B0:=B0) (w0:=w0) s 0 iw fa;have sw:=kQ (B0:=B0) (w0:=w0) s 1 iw fa;have hm:=uC k s zo iw;have Kl:=wv c k s 0;have A2:=(sY c (417-k) (s / 2)).2;have As:2 * 0+s / 2=s / 2:=by omega
 rw[As] at Co;have OK:s / 2<4:=by omega
 have g1:(((((R (k+1)).map iz).drop (s / 2 * 2)).drop 0))[0]? = some (iz (Xo c (417-k) (s / 2))):=by rw[aU _ (by rw[hL];omega),show s / 2 * 2+0=2 * (s / 2) by omega,hT (k+1) (zero_le _) zo _ OK,show 418-(k+1)=417-k by omega]
 have g0:(((((R k).map iz).drop (s * 2)).drop 0))[0]? = some (iz (Xo c (418-k) s)):=by rw[aU _ (by rw[hL];omega),show s * 2+0=2 * s by omega,hT k (zero_le _) zo _ iw]
 have r1:es[((k:Int)+1).toNat]? = some (Bk (R (k+1))):=Sn (k+1) zo;have r0:=Sn k zo;have l1:((R (k+1)).map iz).length=8:=by rw[Db];exact hL _
 have l0:((R k).map iz).length=8:=by rw[Db];exact hL _
 have hC:((jf c k s 0:Nat):Int)+Xo c (417-k) (s / 2)=Xo c (418-k) s ↔ yk c k=0:=by rw[K5];by_cases e:gh c (417-k) (2+s / 2)+jf c k s 1<gh c (417-k) (s / 2)+jf c k s 0;rw[zp e];exact⟨λh=>absurd h (w2.mpr e),λh=>by cases h⟩;rw[zn e];exact⟨λ_=>rfl,λ_=>Decidable.byContradiction λh=>e (w2.mp h)⟩
 generalize Xo c (417-k) (s / 2)=A at *;generalize Xo c (418-k) s=C0 at *;generalize jf c k s 0=B at *;generalize [UInt8.ofNat (48+ij s 0),UInt8.ofNat (48+gj s 0)]=cl0 at Co hm;generalize [UInt8.ofNat (48+ij s 1),UInt8.ofNat (48+gj s 1)]=cl1 at sw;clear w2 K5 Om mu uC hT;refine xa ?_;refine oS (sF [_,_] rfl Co ?_);refine xa ?_;refine cD (m:=32) rfl []<|aT 0 rfl rfl (pM (lv:=.list es) rfl)<|aT 1 rfl rfl (pM rfl)<|aT 2 rfl rfl (Pure.add rfl rfl zo)<|aT 3 rfl rfl (pM rfl)<|aT 4 rfl rfl (xR (es:=es) (ke:=Bk (R (k+1))) (cs:=(R (k+1)).map iz) rfl rfl zo r1 rfl l1)<|aT 5 rfl rfl (Pure.YF (i:=s / 2) rfl rfl rfl OK)<|aT 6 rfl rfl (Pure.Tm rfl rfl)<|aT 7 rfl rfl (pO (c:=iz A) rfl g1)<|aT 8 rfl rfl (Pure.to (Pure.lss rfl rfl) (xe (b:=false) (decide_eq_false zo)))<|aT 9 rfl rfl (pM rfl)<|yb.qo 10 rfl rfl rfl rfl (pM rfl)<|yb.qo 11 rfl rfl rfl rfl (pM rfl)<|yb.qo 12 rfl rfl rfl rfl (pM rfl)<|yb.qo 14 rfl rfl rfl rfl (pM (lv:=.list es) rfl)<|yb.qo 15 rfl rfl rfl rfl (pM rfl)<|yb.qo 16 rfl rfl rfl rfl (Pure.add rfl rfl zo)<|yb.qo 17 rfl rfl rfl rfl (pM rfl)<|yb.qo 18 rfl rfl rfl rfl (xR (es:=es) (ke:=Bk (R (k+1))) (cs:=(R (k+1)).map iz) rfl rfl zo r1 rfl l1)<|yb.qo 19 rfl rfl rfl rfl (Pure.YF (i:=s / 2) rfl rfl rfl OK)<|yb.qo 20 rfl rfl rfl rfl (Pure.Tm rfl rfl)<|yb.qo 21 rfl rfl rfl rfl (pO (c:=iz A) rfl g1)<|yb.qo 23 rfl rfl rfl rfl (pM (lv:=.list es) rfl)<|yb.qo 24 rfl rfl rfl rfl (pM rfl)<|yb.qo 25 rfl rfl rfl rfl (pM rfl)<|yb.qo 26 rfl rfl rfl rfl (xR (es:=es) (ke:=Bk (R k)) (cs:=(R k).map iz) rfl rfl zo r0 rfl l0)<|yb.qo 27 rfl rfl rfl rfl (Pure.YF (i:=s) rfl rfl rfl iw)<|yb.qo 28 rfl rfl rfl rfl (Pure.Tm rfl rfl)<|yb.qo 29 rfl rfl rfl rfl (pO (c:=iz C0) rfl g0)<|aL ?_ yd;refine lO 13 (lS (H1:=[]) (F:=H) rfl (.inr ⟨_,_,_,rfl,rfl,rfl⟩) rfl mc yd (sF [_,_,_] rfl hm ?_));refine lO 22 (Go.Proofs.YtmnjklgnhpnckaaGreatDoor.xi.db.DB rfl rfl rfl rfl (Pure.add rfl rfl zo) ?_);refine lO 30 (Go.Proofs.YtmnjklgnhpnckaaGreatDoor.xi.db.DB rfl rfl rfl rfl (Pure.neq rfl rfl) ?_);refine lO 31 (lH rfl rfl (Pure.vl (lv:=.atom _) rfl rfl) ?_);refine fq ?_;refine fb.fy [(0,str d),(7,.list es),(8,v),(10,int .i64 k),(11,int .i64 (kh c (k+1):Nat)),(13,int .u8 ((UInt8.ofNat (48+yk c k)).toNat:Int))] H ?_ λj2 wc=>?_;refine Ma (λh=>?_) λh=>?_;have Fb:¬ yk c k=0:=λe=>by rw[Nf (hC.mpr e)] at h;cases h
 have AN:yk c k=1:=by omega
 rw[AN] at hN;rw[hN,AN];refine Bd ?_;refine oS (sF [_,_] rfl sw ?_);refine xa ?_;exact⟨lb,rfl,rfl⟩;have he:yk c k=0:=hC.mp (Decidable.byContradiction λe=>by rw[decide_eq_false e] at h;cases h);rw[he,As] at hN;rw[hN,he];refine Da ?_;exact⟨lb,rfl,rfl⟩;generalize UInt8.ofNat (48+yk c k)=ch at hTS ⊢;refine qe ?_;refine Xi ?_;refine fi ?_;refine oS (sL [_] (es:=Vb [ch]) rfl (gd rfl rfl Ch) rfl rfl rfl<|oS (S.acc (F:=[]) rfl Ra rfl (by simp[Vb,LV.cells]) rfl (by have:(Vb [ch]).length=1:=rfl;rw[this];omega) λv' H' ab=>?_));refine gr ?_;exact⟨_,_,_,by omega,⟨k+1,v',by omega,rfl,by rw[hTS,EM];exact ab,rfl⟩,lb,Kb _,wc.trans pd⟩
 have EC:k=416:=by have h:¬ ((k:Nat):Int)<((418:Nat):Int)-2:=zf Te;omega
 subst EC;have r0:=Sn 0 fa;have l0:((R 0).map iz).length=8:=by rw[Db];exact hL _
 have g0:=aU (R 0) (i:=0) (f:=0) (by rw[hL];decide);have g1:=aU (R 0) (i:=0) (f:=1) (by rw[hL];decide);refine fb.sub (d:=8) (v:=v) rfl Ra.sub ?_;refine Da ?_;refine qm ?_;refine qP (Pure.Xe (l:=Nu (yk c)) rfl) rfl ?_;refine xO ?_;refine qP (pO rfl g0) rfl ?_;refine xO ?_;refine qP (pO rfl g1) rfl ?_;refine Na ?_;exact Nr pd (rC (Fc rfl) (rC (Fc rfl) (rC (Fc rfl) (eb rfl)))) ⟨_,_,rfl⟩
open xi (u32)
open Go.ia.Wi.Wc.Q.Lb (lR kx lP fB yk)
open Go.ia.Wi.Wc.Q.Vm (Ij Er E8 cq AX jU)
def clip(bt:Nat->Nat)(j:Nat):Nat:=if j<416 then bt j else 0
theorem qsY(bt:Nat->Nat):Nu (clip bt)=Nu bt:=by unfold Nu;refine map_congr_left λj hj=>?_;have:=List.mem_range.mp hj;unfold clip;rw[zp this]
theorem quS(bt:Nat->Nat):((List.range 52).map λi=>UInt8.ofNat (Er (clip bt) i))=(List.range 52).map λi=>UInt8.ofNat (Er bt i):=by
 refine map_congr_left λi hi=>?_;have hi:=List.mem_range.mp hi;unfold Er;congr 1
 have key:∀ n,n<=8->(List.range n).foldl (λn k=>2 * n+clip bt (8 * i+k)) 0=(List.range n).foldl (λn k=>2 * n+bt (8 * i+k)) 0:=by
  intro n;induction n with
  |zero=>exact λ_=>rfl
  |succ n ih=>intro hn;rw[range_succ,foldl_append,foldl_append,ih zo,foldl_cons,foldl_cons,foldl_nil,foldl_nil];unfold clip;rw[zp zo]
 exact key 8 (Jb _)
theorem qxK(w:List UInt8)(hw:CW w)(n:Nat)(hn:w.length=n):∃ l:Nat->Nat,(∀ k,l k<2)/\l 0=0/\l 1=0/\l (n+2)=0/\l (n+3)=0/\w=(List.range n).map λj=>UInt8.ofNat (48+l (j+2)):=by
 refine⟨λk=>if 2<=k/\w.getD (k-2) 48=49 then 1 else 0,λk=>?_,rfl,rfl,?_,?_,?_⟩;show(if _ then 1 else 0)<2;split <;> decide;show(if 2<=n+2/\w.getD (n+2-2) 48=49 then 1 else 0)=0;rw[zn];rintro⟨_,h⟩;rw[getD_eq_getElem?_getD,List.getElem?_eq_none zo] at h;cases h;show(if 2<=n+3/\w.getD (n+3-2) 48=49 then 1 else 0)=0;rw[zn];rintro⟨_,h⟩;rw[getD_eq_getElem?_getD,List.getElem?_eq_none zo] at h;cases h;refine List.ext_getElem (by rw[Db,length_range,hn]) λj h1 h2=>?_;rw[List.getElem_map,List.getElem_range];show _=UInt8.ofNat (48+if 2<=j+2/\w.getD (j+2-2) 48=49 then 1 else 0)
 have e:w.getD (j+2-2) 48=w[j]:=by rw[Nat.add_sub_cancel,getD_eq_getElem?_getD,jh h1];rfl
 rw[e];rcases hw _ (getElem_mem h1) with h|h;rw[h,zn (by rintro⟨_,h⟩;cases h)];rfl;rw[h,zp ⟨by omega,rfl⟩];rfl
theorem qym(l:Nat->Nat)(hl:∀ k,l k<2)(n:Nat):vD (wi l n):=λx hx=>by unfold wi at hx;obtain⟨j,_,hj⟩:=List.mem_flatMap.1 hx;rcases zc.1 hj with e|hj;rw[e];exact(iQ (bA (bA (hl _) (hl _)) (hl _))).elim .inl λe=>.inr (.inl e);rw[Vi hj];exact(iQ (bA (hl _) (hl _))).elim .inl λe=>.inr (.inl e)
theorem qyh(d:List UInt8)(hd:vD d)(hl:d.length=836):Qw d (cq (d.map cN) 836):=λj hj=>by refine⟨d[j],jh hj,hd _ (getElem_mem hj),?_⟩;rw[AX _ j 836 zo (by rw[Db];exact hj),getD_eq_getElem?_getD,List.getElem?_map,jh hj];rfl
theorem I7(x:UInt8):cN x<256:=by unfold cN;split <;> (try split) <;> decide
theorem qyN{c:Nat->Nat}(hc:∀ k,k<418->fB c->c (2 * k+1)<=1)(j:Nat):clip (Ij c) j<=1:=by unfold clip Ij;split;split;rename_i h1 h2;exact kx c 418 (λk hk=>hc k hk h2) _ zo;exact jU c j;decide
theorem qiW(hG:Pp.GW B0 w0)(b:List UInt8)(Rd:List Nat)(TC:∀ a∈Rd,a<65536)(Ws:List UInt8):ca (KC B0 w0) 4 [str b,.agg (Tq Rd Ws)] [] (Qb (bool true)):=by
 have uu:=qrl (B0:=B0) (w0:=w0) hG;have Mx:(Rd.map u16).length=Rd.length:=Db _;refine kb Tryz.func4 rfl (n:=67) rfl rfl rfl ?_;refine qe ?_;refine oS (sB (cs:=Tq Rd Ws) rfl λb3=>?_);refine Yn ?_;refine oS (sF [] rfl uu ?_);refine Na ?_;refine oC rfl (λhc=>by cases hc) λ_=>?_;refine wa ?_;refine oB 19 rfl (λ_=>?_) λT5=>?_;refine Da ?_;refine oC rfl (λ_=>?_) (λhc=>by cases hc);refine Gj ?_;exact qb rfl (eb rfl) rfl
 have T5:b.length=52:=by
  have e:((b.length:Nat):Int)=52:=Decidable.byContradiction λe=>by rw[decide_eq_false e] at T5;cases T5
  omega
 refine Na ?_;refine Ma (λ_=>?_) λhc=>?_;refine Gj ?_;exact qb rfl (eb rfl) rfl
 have aaw:Rd.length<=836:=by have h:¬ (((Rd.map u16).length:Nat):Int) > 836:=zf hc;omega
 have hfb:=qkX (B0:=B0) (w0:=w0) b zo;refine xa ?_;refine oS (S.Dg [_] rfl hfb λlv uz=>?_);obtain⟨w,rfl,hw,FK⟩:=uz;obtain⟨l,l0,l1,l2,l3,l4,UQ⟩:=qxK w hw 416 zo;have Lm:=qjH (B0:=B0) (w0:=w0) 416 fa l l0 l1 l2 l3 l4;rw[<-UQ] at Lm;have Lm:ca (KC B0 w0) 9 [str w] [] (Qb (.tuple [str (wi l 418),int .i64 0])):=Lm;have YR:=qm8 (B0:=B0) (w0:=w0) (wi l 418) (qym l l0 418) (by rw[FM];decide) Rd TC zo Ws;have Mm:(wi l 418).length=836:=FM l 418;generalize wi l 418=en at Lm YR Mm;refine oS (sF [_] rfl Lm ?_);refine wa ?_;refine oS (S.Dg [_,_] rfl YR λlv uz=>?_);obtain⟨d,rfl,hd,ot⟩:=uz;rw[Mm] at ot;have l5:=qyh d hd ot;obtain⟨code,p1,p2⟩:=qxZ;obtain⟨Vg,q1,K,hK⟩:=p2 (d.map cN) (λv hv=>by
  obtain⟨x,_,rfl⟩:=Qh hv;exact I7 x)
 rw[E8 q1] at hK;have hx:=qzf (B0:=B0) (w0:=w0) hG p1 (Ia:=d.map cN) (λv hv=>by
  obtain⟨x,_,rfl⟩:=Qh hv;have:=I7 x;omega) (N:=10000000) fa fa hK
 have Ge:=qm1 (B0:=B0) (w0:=w0) d hd zo;generalize cq (d.map cN) 836=c at l5 hx;generalize (d.map cN).map u32=ins at hx Ge;have vp:=qnd (B0:=B0) (w0:=w0) d c l5 ot;have Y4:=qpJ (B0:=B0) (w0:=w0) d c l5 ot;have II:=qnz (B0:=B0) (w0:=w0) (clip (Ij c)) (qyN λk hk h=>h.1 k hk) 52 fa;have II:ca (KC B0 w0) 14 [str (Nu (clip (Ij c)))] [] (Qb (.tuple [str ((List.range 52).map λi=>UInt8.ofNat (Er (clip (Ij c)) i)),.list [],int .i64 0])):=II;rw[qsY,quS] at II;generalize ((List.range 52).map λi=>UInt8.ofNat (Er (Ij c) i))=want at II hx;clear hK q1 p2 p1 YR Lm hfb uu;refine di ?_
 obtain⟨x,e,vp,S2⟩:∃ (x:List UInt8) (e:Int),ca (KC B0 w0) 12 [str d] [] (Qb (.tuple [str x,int .i64 e]))/\((e=0/\x=Nu (Ij c))∨(e=11/\Ij c=yk c)):=by unfold HG at vp;by_cases hE:fB c;rw[zp hE] at vp;exact⟨_,_,vp,.inl ⟨rfl,congrArg Nu (funext λj=>by unfold Ij;rw[zp hE])⟩⟩;rw[zn hE] at vp;exact⟨_,_,vp,.inr ⟨rfl,funext λj=>by unfold Ij;rw[zn hE]⟩⟩
 refine oS (sF [_] rfl vp ?_);refine wa ?_;refine Sz [(7,str d),(8,str (Nu (Ij c)))] ?_ λj hj=>?_;rcases S2 with⟨rfl,rfl⟩|⟨rfl,hb⟩;refine oC rfl (λh=>by cases h) λ_=>?_;refine Da ?_;exact⟨lb,rfl,rfl⟩;rw[hb];refine oC rfl (λ_=>?_) (λh=>by cases h);refine Bd ?_;refine oS (S.Dg [_] rfl Y4 λlv uz=>?_);obtain⟨a1,a2,rfl⟩:=uz;refine Da ?_;exact⟨lb,rfl,rfl⟩;generalize Nu (Ij c)=bits at II ⊢;refine Bd ?_;refine oS (sF [_] rfl II ?_);refine wa ?_;refine oS (sF [_] rfl Ge<|oS (sL (s:=1) (es:=[str LB,str dQ]) [_,_] rfl (Wu [LB,dQ]) rfl rfl rfl ?_));refine oS (sF [_,_,_] rfl hx<|oS (Jd λb4=>?_));refine wa ?_;exact qb hj (eb rfl) (xe (Nf rfl))
end Go.Proofs.YtmnjklgnhpnckaaGreatDoor.Lb
