import Derived.Test.YtmnjklgnhpnckaaGreatDoorBRowLB13
set_option linter.unusedVariables false
set_option linter.unusedSimpArgs false
set_option maxRecDepth 100000
set_option maxHeartbeats 4000000
open Go.GL (zk)
open List (length_reverse reverse_cons mem_append_right not_mem_nil)
open Nat (sub_self ble_eq zero_le)
namespace Go.Proofs.YtmnjklgnhpnckaaGreatDoor.YM
open Go.GL Go.RowKit Go.ea
open pi (u32 Same Ao gn Ji QT AX)
variable{F H HD:Heap}{a:Operand}{yg:Array TypeId}{c st:Nat}{data:List Nat}{s:MS}
structure MK where
 mb:Nat
 mm:Nat
 bm:Nat
@[reducible] def SA(k:MK):Value:=.slice (some ⟨k.mm,0,none⟩) 262144 262144
@[reducible] def MK.mf(k:MK)(s:MS)(st:Nat)(stop:Bool)(vc:Value)(vo:LV):MF:=⟨k.mb,SA k,s.pc,vc,s.xa,vo,s.digit,st,stop,k.bm⟩
@[reducible] def MK.Og(k:MK)(f:Nat->Nat):Nat×ga:=(k.mm,.cells 54 (cl f))
@[reducible] def MK.Pg(k:MK):Nat×ga:=(k.bm,.obj (.map AO 7))
def Fx(k:MK)(s:MS)(st:Nat)(stop:Bool)(H:Heap):Prop:=∃ vc HC vo HO HD,jf 54 1 vc (us s.calls.reverse) HC/\Acc 1 vo (Qe s.out) HO []/\DH (k.mf s st stop vc vo) s.data HD/\H=HD++(k.Og s.mem::k.Pg::(HC++HO))
def tC(k:MK)(st:Nat)(R:MR)(r:re)(H:Heap):Prop:=match R with
 |.run s=>r=.ret (.tuple [])/\Fx k s st false H
 |.stop e o=>∃ s,s.out=o/\if e=0 then r=.ret (.tuple [])/\Fx k s st true H else e=12/\r=.panic Cw/\Fx k s st false H
theorem qAr{k:MK}{o:Wd}(hs:s.out=o)(h:Fx k s st false H):tC k st (.stop 12 o) (.panic Cw) H:=⟨s,hs,by rw[zn da];exact⟨rfl,rfl,h⟩⟩
theorem WR{k:Int}(h:(c:Int)=k)(hk:48<=k/\k<=57):true=pn c:=by unfold pn;rw[Vg (by omega:48<=c),Vg (by omega:c<=57)];rfl
theorem P7{x m b:Nat×ga}{A B C:Heap}:(x::(A++(m::b::(B++C)))).Perm (B++(x::(A++(m::b::C)))):=by have:=List.perm_append_comm_assoc (x::(A++[m,b])) B C;simpa using this
theorem cL{x m b:Nat×ga}{A B C:Heap}:(x::(A++(m::b::(B++C)))).Perm (C++(x::(A++(m::b::B)))):=by have:=Nh (l₁:=x::(A++(m::b::B))) (l₂:=C);simpa using this
section
variable{B0:Nat}{w0:World}{e:Env}{H:Heap}{dst:Option Nat}{ty:TypeId}{pos:String}{ka:Array Edge}{g:Option (Nat×Bool)}{K:LV->Heap->Prop}{X:List PanicEntry->Heap->Prop}
theorem S.push{f:MF}{v:Nat}{b:Operand}(hx:[e.ev a,e.ev b]=[ptr f.mb 0,u32 v])(hp:H.Perm (HD++F))(hD:DH f data HD)(hf:data.length<=256)
  (hk:data.length<256->∀ Kf,DH f (v::data) Kf->K (.tuple []) (Kf++F)) (hn:¬ data.length<256->∀ Kf,DH f data Kf->X Cw (Kf++F)) :
  Ra (KC B0 w0) ⟨dst,.call { callee:=.value (.func 113),args:=#[a,b],argTypes:=yg },ty,pos,ka,g⟩ e H K X:=by
 refine S.Ec (H1:=HD) (F:=F) [a,b] hx hp (qtz hD hf v) ?_ ?_;intro r H' h;unfold fU at h;split at h;rename_i hl;obtain⟨h1,h2⟩:=h;cases h1;exact hk hl H' h2;obtain⟨h1,_⟩:=h;cases h1;intro ch H' h;unfold fU at h;split at h;obtain⟨h1,_⟩:=h;cases h1;rename_i hl;obtain⟨h1,h2⟩:=h;cases h1;exact hn hl H' h2
theorem S.pop{f:MF}(hx:[e.ev a]=[ptr f.mb 0])(hp:H.Perm (HD++F))(hD:DH f data HD)(hf:data.length<=256)
  (hk:∀ x r,data=x::r->∀ Kf,DH f r Kf->K (u32 x) (Kf++F)) (hn:data=[]->∀ Kf,DH f [] Kf->X Cw (Kf++F)) :
  Ra (KC B0 w0) ⟨dst,.call { callee:=.value (.func 115),args:=#[a],argTypes:=yg },ty,pos,ka,g⟩ e H K X:=by
 refine S.Ec (H1:=HD) (F:=F) [a] hx hp (qpZ hD hf) ?_ ?_;intro r H' h;cases data with
 |nil=>obtain⟨h1,_⟩:=h;cases h1
 |cons x d=>obtain⟨h1,h2⟩:=h;cases h1;exact hk x d rfl H' h2
 intro ch H' h;cases data with
 |nil=>obtain⟨h1,h2⟩:=h;cases h1;exact hn rfl H' h2
 |cons x d=>obtain⟨h1,_⟩:=h;cases h1
theorem S.address{f:MF}(hx:[e.ev a]=[ptr f.mb 0])(hp:H.Perm (HD++F))(hD:DH f data HD)(hf:data.length<=256)
  (hk:∀ x r,data=x::r->x<262144->∀ Kf,DH f r Kf->K (u32 x) (Kf++F)) (hn:(∀ x r,data=x::r->¬ x<262144)->∀ d Kf,DH f d Kf->X Cw (Kf++F)) :
  Ra (KC B0 w0) ⟨dst,.call { callee:=.value (.func 114),args:=#[a],argTypes:=yg },ty,pos,ka,g⟩ e H K X:=by
 refine S.Ec (H1:=HD) (F:=F) [a] hx hp (OZ hD hf) ?_ ?_;intro r H' h;cases data with
 |nil=>obtain⟨h1,_⟩:=h;cases h1
 |cons x d=>unfold aU at h;simp only at h;split at h;rename_i hl;obtain⟨h1,h2⟩:=h;cases h1;exact hk x d rfl hl H' h2;obtain⟨h1,_⟩:=h;cases h1
 intro ch H' h;cases data with
 |nil=>obtain⟨h1,h2⟩:=h;cases h1;exact hn (λx r C1=>by cases C1) _ H' h2
 |cons x d=>
  unfold aU at h;simp only at h;split at h;obtain⟨h1,_⟩:=h;cases h1;rename_i hl;obtain⟨h1,h2⟩:=h;cases h1;exact hn (λy r C1=>by
   injection C1 with e1 e2;rw[<-e1];exact hl) _ H' h2
end
attribute [local irreducible] wa Qa Ra ca Go.GL.Pure Ud xe od LQ Eb Tf Rh LS
variable{B0:Nat}{w0:World}
theorem qsZ(k:MK)(xc:Dk s)(oe:c<4294967296)(mK:s.digit=true->s.data≠[])(Me:s.out.length<=100000000000)(h:Fx k s st false H) :
  ca (KC B0 w0) 64 [ptr k.mb 0,u32 c] H (tC k st (yd c s)):=by
 generalize hR:yd c s=R;obtain⟨vc,HC,vo,HO,HD,hC,hO,hD,rfl⟩:=h;have Nj:=xc.az;have aae:=xc.deep;have hl:(us s.data.reverse).length=s.data.length:=by rw[yA,length_reverse]
 have hlc:(us s.calls.reverse).length=s.calls.length:=by rw[yA,length_reverse]
 have mk:∀ (d:List Nat) (Kf:Heap),DH (k.mf s st false vc vo) d Kf->Fx k { s with data:=d } st false (Kf++(k.Og s.mem::k.Pg::(HC++HO))):=λd Kf h=>⟨vc,HC,vo,HO,Kf,hC,hO,h,rfl⟩;have lq:∀ (d:List Nat) (Kf:Heap),DH (k.mf s st false vc vo) d Kf->tC k st (MR.Td s) (.panic Cw) (Kf++(k.Og s.mem::k.Pg::(HC++HO))):=λd Kf h=>qAr (s:={ s with data:=d }) rfl (mk d Kf h);have Yi:=hD;obtain⟨vd,Ix,hm,rfl⟩:=hD;rw[List.cons_append];refine Xa Tryz.func64 rfl (n:=219) rfl rfl rfl ?_;refine oa ?_;refine Wz [(0,ptr k.mb 0),(1,u32 c),(14,u32 c),(36,bool (pn c))] ?_ λj hj=>?_;refine Ch ?_;refine Ca (λhc=>?_) λc0=>?_;exact vD;refine Ch ?_;refine Ca (λhc=>?_) λc1=>?_;exact vD;refine Ch ?_;refine Ca (λhc=>?_) λc2=>?_;exact vD;refine Ch ?_;refine Ca (λhc=>?_) λc3=>?_;exact vD;refine Ch ?_;refine Ca (λhc=>?_) λc4=>?_;exact vD;refine Ch ?_;refine Ca (λhc=>?_) λc5=>?_;exact vD;refine Ch ?_;refine Ca (λhc=>?_) λc6=>?_;exact vD;refine Ch ?_;refine Ca (λhc=>?_) λc7=>?_;exact vD;refine Ch ?_;refine Ca (λhc=>?_) λc8=>?_;exact vD;refine Ch ?_
 exact⟨⟨rfl,rfl,rfl,Ae (by
  have d0:=zf c0;have d1:=zf c1;have d2:=zf c2;have d3:=zf c3;have d4:=zf c4;have d5:=zf c5;have d6:=zf c6;have d7:=zf c7;have d8:=zf c8;unfold pn;rw[<-Bool.decide_and,decide_eq_decide];omega),trivial⟩,rfl,rfl⟩
 refine Ca (λhc=>?_) λdh=>?_
 ·have Br:48<=c/\c<=57:=by
   unfold pn at hc;rw[Yc,Mf,Mf] at hc;exact hc
  have vg:YD c s=R:=by rw[<-hR];unfold yd;rw[zp hc]
  refine oa ?_;refine ia (Pure.QA rfl hm)<|ja ?_;refine Ca (λAp=>?_) λAp=>?_
  ·obtain⟨d,r,Lh⟩:∃ d r,s.data=d::r:=by
    cases hd:s.data with
    |nil=>exact absurd hd (mK Ap)
    |cons d r=>exact⟨d,r,rfl⟩
   have Mh:R=.run { s with data:=((d * 10+c-48) % 4294967296)::r }:=by rw[<-vg];unfold YD;rw[zp Ap,Lh]
   subst Mh;have J3:s.data.length=r.length+1:=by rw[Lh];rfl
   have zj:(us r.reverse).length=r.length:=by rw[yA,length_reverse]
   have uQ:us s.data.reverse=us r.reverse++us [d]:=by rw[Lh,reverse_cons,aE]
   rw[uQ] at hm;obtain⟨b,cap,spare,h1,h2,Pm,Oe⟩:=jf.addr hm (by simp[us]);have Ot:(us r.reverse++us [d]).length=r.length+1:=by rw[ya,zj];rfl
   have Dn:(us r.reverse++us [d]).flatMap LV.cells=us r.reverse++us [d]:=by rw[<-aE];exact aP _
   rw[Dn,Pc] at h2;rw[Ot] at h1 Pm Oe;subst h1 h2;have rm:IntKind.u32.wrap (IntKind.u32.wrap (IntKind.u32.wrap ((d:Int) * 10)+(c:Int))-48)=(((d * 10+c-48) % 4294967296:Nat):Int):=by rw[gn,gn,gn];omega
   refine bj (m:=18) rfl [(k.mb,ga.cells 80 ((k.mf s st false vc vo).cells (.slice (some ⟨b,0,none⟩) (r.length+1) cap)))] ?_;refine Mx ?_;refine aT 3 rfl rfl (pL (c:=.atom _) rfl Bb rfl)<|aT 4 rfl rfl (pM (lv:=.atom _) rfl)<|aT 5 rfl rfl (pM (lv:=.atom _) rfl)<|aT 6 rfl rfl (pN rfl)<|aT 7 rfl rfl (pF rfl)<|aT 8 rfl rfl (pL (c:=.atom _) rfl Bb rfl)<|aT 9 rfl rfl (pM (lv:=.atom _) rfl)<|aT 10 rfl rfl (Pure.Cf (o:=r.length) rfl rfl zo zo zo)<|aT 13 rfl rfl (pM (lv:=.atom _) rfl)<|aL ?_ Xc;refine lO 11 (lH rfl rfl (pL (c:=u32 d) rfl xf (by rw[List.getElem?_append_right zo,zj,sub_self];rfl)) ?_);refine lO 12 (lH rfl rfl (Pure.Fv rfl rfl) ?_);refine lO 14 (lH rfl rfl (Pure.Vo rfl rfl) ?_);refine lO 15 (lH rfl rfl (Pure.Tx rfl rfl) ?_);refine lO 16 (lH rfl rfl (Pure.Cf (o:=r.length) rfl rfl zo zo zo) ?_);refine Cj (i:=17) zk ?_;refine lS (H1:=[_]) (F:=_::(k.Og s.mem::k.Pg::(HC++HO))) rfl (.inl rfl) rfl Fc Xc ?_;refine(sS (vs:=[u32 ((d * 10+c-48) % 4294967296)]) (Ab:=us r.reverse++(u32 ((d * 10+c-48) % 4294967296)::spare)) rfl pH (by show some [int .u32 _]=some [int .u32 _];rw[<-rm]) rfl (by rw[ble_eq,ya,zj,ya];show r.length+1<=r.length+(1+spare.length);omega) rfl (by
    have:=qvm (us r.reverse) (us [d]++spare) 0 [u32 ((d * 10+c-48) % 4294967296)];rw[zj,Nat.add_zero] at this;rw[this];show us r.reverse++(u32 _::Kd spare 0 [])=_;rw[qnZ]) ?_)
   refine lD zk ?_;refine qa ?_;have gl:Fx k { s with data:=((d * 10+c-48) % 4294967296)::r } st false (((k.mb,.cells 80 ((k.mf s st false vc vo).cells (.slice (some ⟨b,0,none⟩) (r.length+1) cap)))::[(b,.cells 54 (us r.reverse++(u32 ((d * 10+c-48) % 4294967296)::spare)))])++(k.Og s.mem::k.Pg::(HC++HO))):=
    mk _ _ ⟨_,_,by
     have:=tX (el:=54) (b:=b) (m:=r.length+1) (cap:=cap) (l:=(((d * 10+c-48) % 4294967296)::r).reverse) (spare:=spare) (by simp) zo zo;rw[reverse_cons,aE,Pc] at this;rw[reverse_cons,aE];exact this,rfl⟩
   exact rO hj rN ⟨[],by rw[Jd];exact Vp _ _ _⟩ ⟨rfl,gl⟩
  have Oy:IntKind.u32.wrap ((c:Int)-48)=((c-48:Nat):Int):=by rw[gn];omega
  have Mh:Vn (c-48) s=R:=by rw[<-vg];unfold YD;have D4:s.digit=false:=Ap;rw[zn (by rw[D4];decide)]
  unfold Vn at Mh;refine Bd ?_;refine ia (Pure.Tx rfl rfl)<|oS (S.push (v:=c-48) (by show [_,int .u32 _]=[_,int .u32 _];rw[<-Oy];rfl) Kb Yi Nj (λza Kf eh=>?_) λza Kf eh e' Aa=>?_);rw[zp za] at Mh;subst Mh;refine qa ?_;exact rO hj rN Ya ⟨rfl,mk _ _ eh⟩;rw[zn za] at Mh;subst Mh;refine qd ?_;exact od.panic (Aa.trans hj) Ya (lq _ _ eh)
 have PQ:¬ pn c=true:=by rw[dh];decide
 refine Qa.seq ?_;refine Wz [(0,ptr k.mb 0),(1,u32 c),(14,u32 c),(78,bool (decide (c=32∨c=10)))] ?_ λj2 tc=>?_;refine Ch ?_;refine Ca (λhc=>?_) λc0=>?_;refine qa ?_;exact⟨⟨rfl,rfl,rfl,Ae (hc.trans (Vg (by have:=zt hc;omega)).symm),trivial⟩,rfl,rfl⟩;refine Ch ?_;exact⟨⟨rfl,rfl,rfl,Ae (by have:=zf c0;rw[decide_eq_decide];omega),trivial⟩,rfl,rfl⟩;have Ci:=tc.trans hj;refine Ca (λhc=>?_) λc0=>?_;have hcw:=zt hc
 have Mh:R=.run s:=by rw[<-hR];unfold yd;rw[zn PQ,zp hcw]
 subst Mh;refine qa ?_;exact rO Ci rN Ya ⟨rfl,mk _ _ Yi⟩;have sV:=zf c0;refine Ch ?_;refine Ca (λhc=>?_) λc1=>?_
 ·obtain rfl:c=64:=by have:=zt hc;omega
  have vg:kH s=R:=hR;refine bj (m:=10) rfl [] ?_;refine BS ?_;refine aT 5 rfl rfl (pM (lv:=.atom _) rfl)<|aL ?_ Vc;refine Tp (i:=4) (j:=6) zk ?_ ?_
  ·refine lH rfl rfl (pL (c:=.atom (SA k)) rfl Bb rfl) ?_;refine Cj (i:=6) zk ?_;refine lW rfl (.inl rfl) rfl (S.address rfl Kb Yi Nj (λa r Lh ha Kf eh=>?_) λhb d Kf eh e' Aa=>?_);rotate_left;exact jN
   have Mh:Vn (s.mem a) { s with data:=r }=R:=by rw[<-vg];unfold kH;rw[Lh];simp only;rw[zp ha]
   unfold Vn at Mh;simp only at Mh;have zj:r.length<=256:=by rw[Lh,Ba] at Nj;omega
   have zK:=eh;obtain⟨F7,HD1,XC,rfl⟩:=zK;refine CD ?_;refine lO 8 (lH rfl rfl (pL (c:=u32 (s.mem a)) rfl (mem_append_right _ Bb) (uP _ ha)) ?_);refine lO 9 (lW rfl (.inl rfl) rfl (S.push (v:=s.mem a) rfl Kb eh zj (λza Gx Kk=>?_) λza Gx Kk e' Aa=>?_));rw[zp za] at Mh;subst Mh;refine lD zk ?_;refine qa ?_;exact rO Ci rN Ya ⟨rfl,mk _ _ Kk⟩;rw[zn za] at Mh;subst Mh;refine qd ?_;exact od.panic (Aa.trans Ci) Ya (lq _ _ Kk)
  refine lW rfl (.inl rfl) rfl (S.address rfl Kb Yi Nj (λa r Lh ha Kf eh=>?_) λhb d Kf eh e' Aa=>?_);rotate_left;exact jN
  have Mh:Vn (s.mem a) { s with data:=r }=R:=by rw[<-vg];unfold kH;rw[Lh];simp only;rw[zp ha]
  unfold Vn at Mh;simp only at Mh;have zj:r.length<=256:=by rw[Lh,Ba] at Nj;omega
  have zK:=eh;obtain⟨F7,HD1,XC,rfl⟩:=zK;refine lO 4 (lH rfl rfl (pL (c:=.atom (SA k)) rfl Bb rfl) ?_);refine CD ?_;refine lO 8 (lH rfl rfl (pL (c:=u32 (s.mem a)) rfl (mem_append_right _ Bb) (uP _ ha)) ?_);refine lO 9 (lW rfl (.inl rfl) rfl (S.push (v:=s.mem a) rfl Kb eh zj (λza Gx Kk=>?_) λza Gx Kk e' Aa=>?_));rw[zp za] at Mh;subst Mh;refine lD zk ?_;refine qa ?_;exact rO Ci rN Ya ⟨rfl,mk _ _ Kk⟩;rw[zn za] at Mh;subst Mh;refine qd ?_;exact od.panic (Aa.trans Ci) Ya (lq _ _ Kk)
 have n64:=zf c1;refine Ch ?_;refine Ca (λhc=>?_) λc2=>?_
 ·obtain rfl:c=33:=by have:=zt hc;omega
  have vg:Dp s=R:=hR;refine Bd ?_;refine oS (S.address rfl Kb Yi Nj (λa r Lh ha Kf eh=>?_) λhb d Kf eh e' Aa=>?_);rotate_left
  have ym:R=.Td s:=by
   rw[<-vg];unfold Dp;cases hd:s.data with
   |nil=>rfl
   |cons x r=>
    cases r with
    |nil=>rfl
    |cons y r=>simp only;rw[zn (hb x _ hd)]
  subst ym;refine qd ?_;exact od.panic (Aa.trans Ci) Ya (lq _ _ eh);have zj:r.length<=256:=by rw[Lh,Ba] at Nj;omega
  have yK:=eh;obtain⟨F7,HD1,XC,rfl⟩:=yK;refine Qc ?_;refine bj (m:=9) rfl [] ?_;refine Mx ?_;refine aT 4 rfl rfl (pM (lv:=.atom _) rfl)<|aT 5 rfl rfl (pM (lv:=.atom _) rfl)<|aL ?_ Vc;refine Tp (i:=3) (j:=6) zk ?_ ?_
  ·refine lH rfl rfl (pL (c:=.atom (SA k)) rfl Bb rfl) ?_;refine Cj (i:=6) zk ?_;refine lW rfl (.inl rfl) rfl (S.pop rfl Kb eh zj (λv r2 sr Gx Kk=>?_) λhb Gx Kk e' Aa=>?_);rotate_left
   have ym:R=.Td s:=by rw[<-vg];unfold Dp;rw[Lh,hb]
   subst ym;refine qd ?_;exact od.panic (Aa.trans Ci) Ya (lq _ _ Kk);have Mh:R=.run { s with data:=r2,mem:=λi=>if i=a then v else s.mem i }:=by rw[<-vg];unfold Dp;rw[Lh,sr];simp only;rw[zp ha]
   subst Mh;have ER:=Kk;obtain⟨Ms,Ol,Cu,rfl⟩:=ER;refine CD ?_;refine lO 8 (lW rfl (.inl rfl) rfl (sS (n:=1) (vs:=[u32 v]) (Ab:=cl λi=>if i=a then v else s.mem i) rfl (show zd _ _ _ from List.perm_middle) rfl rfl (by rw[ble_eq,pP];omega) rfl (SX _ _ _) ?_));refine lD zk ?_;refine qa ?_;exact rO Ci rN ⟨[],by rw[Jd];exact List.perm_middle.symm⟩ ⟨rfl,vc,HC,vo,HO,_,hC,hO,Kk,rfl⟩
  refine lW rfl (.inl rfl) rfl (S.pop rfl Kb eh zj (λv r2 sr Gx Kk=>?_) λhb Gx Kk e' Aa=>?_);rotate_left
  have ym:R=.Td s:=by rw[<-vg];unfold Dp;rw[Lh,hb]
  subst ym;refine qd ?_;exact od.panic (Aa.trans Ci) Ya (lq _ _ Kk);have Mh:R=.run { s with data:=r2,mem:=λi=>if i=a then v else s.mem i }:=by rw[<-vg];unfold Dp;rw[Lh,sr];simp only;rw[zp ha]
  subst Mh;have ER:=Kk;obtain⟨Ms,Ol,Cu,rfl⟩:=ER;refine lO 3 (lH rfl rfl (pL (c:=.atom (SA k)) rfl Bb rfl) ?_);refine CD ?_;refine lO 8 (lW rfl (.inl rfl) rfl (sS (n:=1) (vs:=[u32 v]) (Ab:=cl λi=>if i=a then v else s.mem i) rfl (show zd _ _ _ from List.perm_middle) rfl rfl (by rw[ble_eq,pP];omega) rfl (SX _ _ _) ?_));refine lD zk ?_;refine qa ?_;exact rO Ci rN ⟨[],by rw[Jd];exact List.perm_middle.symm⟩ ⟨rfl,vc,HC,vo,HO,_,hC,hO,Kk,rfl⟩
 have n33:=zf c2;refine Ch ?_;refine Ca (λhc=>?_) λc3=>?_
 ·obtain rfl:c=63:=by have:=zt hc;omega
  have vg:Ht s=R:=hR;refine Bd ?_;refine oS (S.pop rfl Kb Yi Nj (λt r Lh Kf eh=>?_) λhb Kf eh e' Aa=>?_);rotate_left
  have ym:R=.Td s:=by rw[<-vg];unfold Ht;rw[hb]
  subst ym;refine qd ?_;exact od.panic (Aa.trans Ci) Ya (lq _ _ eh);have zj:r.length<=256:=by rw[Lh,Ba] at Nj;omega
  refine Pj ?_;refine oS (S.pop rfl Kb eh zj (λv r2 sr Gx Kk=>?_) λhb Gx Kk e' Aa=>?_);rotate_left
  have ym:R=.Td s:=by rw[<-vg];unfold Ht;rw[Lh,hb]
  subst ym;refine qd ?_;exact od.panic (Aa.trans Ci) Ya (lq _ _ Kk);have Mh:R=.run { s with data:=r2,pc:=if v=0 then t else s.pc }:=by rw[<-vg];unfold Ht;rw[Lh,sr]
  obtain⟨Ms,Ol,Cu,rfl⟩:=Kk;refine qa ?_;refine Ca (λhv=>?_) λhv=>?_;have RC:v=0:=by have:=zt hv;omega
  rw[zp RC] at Mh;subst Mh;refine ja ?_;exact rO Ci rN Ya ⟨rfl,vc,HC,vo,HO,_::Ol,hC,hO,⟨Ms,Ol,Cu,rfl⟩,rfl⟩;have RC:¬ v=0:=by have:=zf hv;omega
  rw[zn RC] at Mh;subst Mh;refine qa ?_;exact rO Ci rN Ya ⟨rfl,mk _ _ ⟨Ms,Ol,Cu,rfl⟩⟩
 have n63:=zf c3;refine Ch ?_;refine Ca (λhc=>?_) λc4=>?_
 ·obtain rfl:c=58:=by have:=zt hc;omega
  have vg:dG s=R:=hR;refine Bd ?_;refine oS (S.pop rfl Kb Yi Nj (λt r Lh Kf eh=>?_) λhb Kf eh e' Aa=>?_);rotate_left
  have ym:R=.Td s:=by rw[<-vg];unfold dG;rw[hb]
  subst ym;refine qd ?_;exact od.panic (Aa.trans Ci) Ya (lq _ _ eh);have yK:=eh;obtain⟨Ms,Ol,Cu,rfl⟩:=yK;refine oa ?_;refine ia (Pure.QA rfl hC)<|qa ?_;refine oS (S.check rfl (λhb=>?_) λhb e' Aa=>?_);rotate_left;have za:¬ s.calls.length<64:=by have:=zf hb;omega
  have ym:R=.Td s:=by rw[<-vg];unfold dG;rw[Lh];simp only;rw[zn za]
  subst ym;refine qd ?_;exact od.panic (Aa.trans Ci) Ya (lq _ _ eh);have za:s.calls.length<64:=by have:=zt hb;omega
  have Mh:R=.run { s with data:=r,calls:=s.pc::s.calls,pc:=t }:=by rw[<-vg];unfold dG;rw[Lh];simp only;rw[zp za]
  subst Mh;refine qa ?_;refine bj (m:=14) rfl [] ?_;refine BS ?_;refine aT 5 rfl rfl (pM (lv:=.atom _) rfl)<|aT 6 rfl rfl (pN rfl)<|aT 7 rfl rfl (pF rfl)<|aL ?_ Vc;refine Tp (i:=4) (j:=8) zk ?_ ?_;refine lH rfl rfl (pL (c:=.atom vc) rfl Bb rfl)<|Cj (i:=8) zk ?_;refine lH rfl rfl (pL (c:=u32 s.pc) rfl Bb rfl)<|Cj (i:=9) zk ?_;refine dA ?_;exact bW;refine lH rfl rfl (pL (c:=u32 s.pc) rfl Bb rfl)<|Tp (i:=4) (j:=9) zk ?_ ?_;refine lH rfl rfl (pL (c:=.atom vc) rfl Bb rfl)<|Cj (i:=9) zk ?_;refine dA ?_;exact bW;refine dA ?_;refine Cj (i:=4) zk ?_;refine lH rfl rfl (pL (c:=.atom vc) rfl Bb rfl) ?_;exact bW
 have n58:=zf c4;refine Ch ?_;refine Ca (λhc=>?_) λc5=>?_
 ·obtain rfl:c=59:=by have:=zt hc;omega
  have vg:mw s=R:=hR;refine oa ?_;refine ia (Pure.QA rfl hC)<|ja ?_;refine oS (S.check rfl (λhb=>?_) λhb e' Aa=>?_);rotate_left
  have Wv:s.calls=[]:=by have:=zf hb;exact List.length_eq_zero_iff.1 zo
  have ym:R=.Td s:=by rw[<-vg];unfold mw;rw[Wv]
  subst ym;refine qd ?_;exact od.panic (Aa.trans Ci) Ya (lq _ _ Yi);obtain⟨t,r,Lh⟩:∃ t r,s.calls=t::r:=by
   cases hd:s.calls with
   |nil=>have:=zt hb;rw[hlc,hd] at this;simp at this
   |cons t r=>exact⟨t,r,rfl⟩
  have Mh:R=.run { s with calls:=r,pc:=t }:=by rw[<-vg];unfold mw;rw[Lh]
  subst Mh;have J3:s.calls.length=r.length+1:=by rw[Lh];rfl
  have zj:(us r.reverse).length=r.length:=by rw[yA,length_reverse]
  have uQ:us s.calls.reverse=us r.reverse++us [t]:=by rw[Lh,reverse_cons,aE]
  have hC0:=hC;rw[uQ] at hC0;obtain⟨b,cap,spare,h1,h2,Pm,Oe⟩:=jf.addr hC0 (by simp[us]);have Ot:(us r.reverse++us [t]).length=r.length+1:=by rw[ya,zj];rfl
  have Dn:(us r.reverse++us [t]).flatMap LV.cells=us r.reverse++us [t]:=by rw[<-aE];exact aP _
  rw[Dn,Pc] at h2;rw[Ot] at h1 Pm Oe;subst h1 h2;refine ja ?_;refine ia (Pure.Cf (o:=r.length) rfl rfl zo zo zo)<|ia (pL (c:=u32 t) rfl (Mc (mem_append_right _ Vz)) (by rw[List.getElem?_append_right zo,zj,sub_self];rfl)) ?_;refine ja ?_;refine ia (Pure.Sk (n:=r.length) rfl (by exact lh zo) zo)<|Ga ?_;exact rO Ci rN Ya ⟨rfl,_,_,vo,HO,_::Ix,tX (l:=r.reverse) (spare:=us [t]++spare) (by rw[length_reverse]) zo (by rw[ya,yA];simp only[List.length_singleton];omega),hO,⟨vd,Ix,hm,rfl⟩,rfl⟩
 have n59:=zf c5;refine Ch ?_;refine Ca (λhc=>?_) λc6=>?_
 ·obtain rfl:c=44:=by have:=zt hc;omega
  have vg:VK s=R:=hR;unfold VK at vg;refine ja ?_;cases hi:s.xa with
  |nil=>
   rw[hi] at vg;unfold Vn at vg;have e0:(us (k.mf s st false vc vo).xa).length=0:=by show(us s.xa).length=0;rw[hi];rfl
   refine Ca (λhc=>?_) λ_=>?_;have:=zt hc;omega;refine oa ?_;refine oS (S.push (v:=4294967295) rfl Kb Yi Nj (λza Kf eh=>?_) λza Kf eh e' Aa=>?_);rw[zp za] at vg;subst vg;refine qa ?_;exact rO Ci rN Ya ⟨rfl,mk _ _ eh⟩;rw[zn za] at vg;subst vg;refine qd ?_
   exact od.panic (Aa.trans Ci) Ya (lq _ _ eh)
  |cons v r=>
   rw[hi] at vg;unfold Vn at vg;simp only at vg;have aat:(us (k.mf s st false vc vo).xa).length=r.length+1:=by show(us s.xa).length=_;rw[hi];simp[us]
   refine Ca (λ_=>?_) λhc=>?_;rotate_left;have:=zf hc;omega;refine ja ?_;refine ia (xR (ve:=u32 v) (cs:=[u32 v]) rfl rfl da (by show(us s.xa)[0]? = _;rw[hi];rfl) rfl rfl) ?_;refine ja ?_;refine ia (Pure.Ww (ms:=us r) rfl ⟨_,rfl⟩ rfl zo zo zo (qs9 _) (by show List.drop _ (List.take ((us s.xa).length:Int).toNat (us s.xa))=us r;rw[hi];simp[us,List.take_of_length_le])) ?_;refine ja ?_;have hD5:DH (k.mf { s with xa:=r } st false vc vo) s.data ((k.mb,.cells 80 ((k.mf { s with xa:=r } st false vc vo).cells vd))::Ix):=⟨vd,Ix,hm,rfl⟩;have mk5:∀ (d:List Nat) (Kf:Heap),DH (k.mf { s with xa:=r } st false vc vo) d Kf->Fx k { s with xa:=r,data:=d } st false (Kf++(k.Og s.mem::k.Pg::(HC++HO))):=λd Kf h=>⟨vc,HC,vo,HO,Kf,hC,hO,h,rfl⟩;refine oS (S.push (v:=v) rfl Kb hD5 Nj (λza Kf eh=>?_) λza Kf eh e' Aa=>?_);rw[zp za] at vg;subst vg;refine qa ?_;exact rO Ci rN Ya ⟨rfl,mk5 _ _ eh⟩;rw[zn za] at vg;subst vg;refine qd ?_;exact od.panic (Aa.trans Ci) Ya (qAr (s:={ s with xa:=r,data:=s.data }) rfl (mk5 _ _ eh))
 have n44:=zf c6;refine Ch ?_;refine Ca (λhc=>?_) λc7=>?_
 ·obtain rfl:c=46:=by have:=zt hc;omega
  have vg:KD s=R:=hR;refine bj (m:=13) rfl [] ?_;refine BS ?_;refine aT 5 rfl rfl (pM (lv:=.atom _) rfl)<|aL ?_ Vc;refine Tp (i:=4) (j:=6) zk ?_ ?_
  ·refine lH rfl rfl (pL (c:=vo) rfl Bb rfl) ?_;refine Cj (i:=6) zk ?_;refine lW rfl (.inl rfl) rfl (S.pop rfl Kb Yi Nj (λv r Lh Kf eh=>?_) λhb Kf eh e' Aa=>?_);rotate_left
   have ym:R=.Td s:=by rw[<-vg];unfold KD;rw[hb]
   subst ym;refine qd ?_;exact od.panic (Aa.trans Ci) Ya (lq _ _ eh);have Mh:R=.run { s with data:=r,out:=s.out++[UInt8.ofNat v] }:=by rw[<-vg];unfold KD;rw[Lh]
   subst Mh;obtain⟨Ms,Ol,Cu,rfl⟩:=eh;have e1:Qe s.out++[int .u8 (IntKind.u8.wrap (v:Int))]=Qe (s.out++[UInt8.ofNat v]):=by rw[eY,QT];rfl
   have mr:((Qe s.out).length+[int .u8 (IntKind.u8.wrap (v:Int))].length) * 1<=140737488355328:=by simp only[rP,Ba,dc];omega
   exact tN
  refine lW rfl (.inl rfl) rfl (S.pop rfl Kb Yi Nj (λv r Lh Kf eh=>?_) λhb Kf eh e' Aa=>?_);rotate_left
  have ym:R=.Td s:=by rw[<-vg];unfold KD;rw[hb]
  subst ym;refine qd ?_;exact od.panic (Aa.trans Ci) Ya (lq _ _ eh);have Mh:R=.run { s with data:=r,out:=s.out++[UInt8.ofNat v] }:=by rw[<-vg];unfold KD;rw[Lh]
  subst Mh;obtain⟨Ms,Ol,Cu,rfl⟩:=eh;have e1:Qe s.out++[int .u8 (IntKind.u8.wrap (v:Int))]=Qe (s.out++[UInt8.ofNat v]):=by rw[eY,QT];rfl
  have mr:((Qe s.out).length+[int .u8 (IntKind.u8.wrap (v:Int))].length) * 1<=140737488355328:=by simp only[rP,Ba,dc];omega
  refine Tp (i:=4) (j:=7) zk ?_ ?_;refine lH rfl rfl (pL (c:=vo) rfl Bb rfl) ?_;exact tN;refine lH rfl rfl (Pure.xx rfl)<|Tp (i:=4) (j:=8) zk ?_ ?_;refine lH rfl rfl (pL (c:=vo) rfl Bb rfl)<|JN ?_;refine lW rfl (.inl rfl) rfl (sG (A:=_::(Ol++(k.Og s.mem::k.Pg::HC))) cL rfl hO rfl (λv hv=>by rw[cj hv];rfl) rfl mr λv' H' qb=>?_);rw[e1] at qb;refine dW ?_;exact rO Ci rN ⟨[],by rw[Jd];exact Nh.trans cL.symm⟩ ⟨rfl,vc,HC,v',H',_::Ol,hC,qb,⟨Ms,Ol,Cu,rfl⟩,rfl⟩;refine lW rfl (.inl rfl) rfl (sL (es:=[int .u8 (IntKind.u8.wrap (v:Int))]) [_] rfl (Hd rfl rfl Ek) rfl rfl rfl ?_);refine Cj (i:=4) zk ?_;refine lH rfl rfl (pL (c:=vo) rfl Bb rfl)<|Cj (i:=9) zk ?_;refine lW rfl (.inl rfl) rfl (sG (A:=_::(Ol++(k.Og s.mem::k.Pg::HC))) cL rfl hO rfl (λv hv=>by rw[cj hv];rfl) rfl mr λv' H' qb=>?_);rw[e1] at qb;refine dW ?_;exact rO Ci rN ⟨[],by rw[Jd];exact Nh.trans cL.symm⟩ ⟨rfl,vc,HC,v',H',_::Ol,hC,qb,⟨Ms,Ol,Cu,rfl⟩,rfl⟩
 have n46:=zf c7;refine Ch ?_;refine Ca (λhc=>?_) λc8=>?_
 ·obtain rfl:c=36:=by have:=zt hc;omega
  have Mh:R=.stop 0 s.out:=hR.symm;subst Mh;refine ja ?_;exact rO Ci rN Ya ⟨s,rfl,by rw[zp rfl];exact⟨rfl,vc,HC,vo,HO,_::Ix,hC,hO,⟨vd,Ix,hm,rfl⟩,rfl⟩⟩
 have n36:=zf c8;have wH:∀ r,(if c=43∨c=45∨c=42∨c=47∨c=37∨c=94∨c=60 then NC c s else MR.Td s)=r->R=r:=λr hr=>by rw[<-hR,<-hr];unfold yd;rw[zn PQ,zn sV,zn zo,zn zo,zn zo,zn zo,zn zo,zn zo,zn zo,zn zo]
 by_cases Lc:c=43∨c=45∨c=42∨c=47∨c=37∨c=94∨c=60;rotate_left;have ym:=wH _ (zn Lc);subst ym;refine oa ?_;refine ia (Pure.ot (zv:=.nilFunc) (kt:=54) (el:=136) (kd:=.u32) zk zk (λw=>(Go.zero_of_info (P:=Tryz.prog) (n:=1) zk).1 w) rfl rfl (Mc (mem_append_right _ xf)) (quE Lc))<|oa ?_;refine oS (S.check rfl (λhb=>?_) λhb e' Aa=>?_);cases hb;refine qd ?_;exact od.panic (Aa.trans Ci) Ya (lq _ _ Yi);have vg:=wH _ (zp Lc)
 have rm:∀ (a b:Nat) (r:List Nat),s.data=b::a::r->a<4294967296/\b<4294967296:=λa b r hd=>by have h1:=xc.data;rw[hd] at h1;exact⟨h1 a (Gc _ Ce),h1 b Ce⟩
 obtain⟨jj,f,hf1,JV,_⟩:=qnx (B0:=B0) (w0:=w0) Lc (a:=0) (b:=0) da da;refine oa ?_;refine ia (Pure.Iv (kt:=54) (el:=136) (kd:=.u32) zk zk rfl rfl (Mc (mem_append_right _ xf)) hf1)<|oa ?_;refine oS (S.check rfl (λhb=>?_) λhb e' Aa=>?_);rotate_left;cases hb;refine Xh ?_;refine oS (S.pop rfl Kb Yi Nj (λb r Lh Kf eh=>?_) λhb Kf eh e' Aa=>?_);rotate_left
 have ym:R=.Td s:=by rw[vg];unfold NC;rw[hb]
 subst ym;refine qd ?_;exact od.panic (Aa.trans Ci) Ya (lq _ _ eh);have zj:r.length<=256:=by rw[Lh,Ba] at Nj;omega
 refine Pj ?_;refine oS (S.pop rfl Kb eh zj (λa r2 sr Gx Kk=>?_) λhb Gx Kk e' Aa=>?_);rotate_left
 have ym:R=.Td s:=by rw[vg];unfold NC;rw[Lh,hb]
 subst ym;refine qd ?_;exact od.panic (Aa.trans Ci) Ya (lq _ _ Kk);have G2:r2.length<=256:=by rw[sr,Ba] at zj;omega
 obtain⟨ha,hb4⟩:=rm a b r2 (by rw[Lh,sr]);obtain⟨jj2,f2,hf3,hf4,zQ⟩:=qnx (B0:=B0) (w0:=w0) Lc ha hb4;obtain rfl:f=f2:=by rw[hf1] at hf3;injection hf3 with h1;injection h1 with h1;injection h1 with h1 h2;injection h2 with h2;injection h2
 have NB:(match ad c a b with
   |some v=>Vn v { s with data:=r2 }
   |none=>MR.Td s)=R:=by
  rw[vg];unfold NC;rw[Lh,sr];rfl
 refine Pj ?_;refine oS (S.yl (f:=f) (first:=#[]) (Ua:=#[]) (H1:=Gx++(k.Og s.mem::k.Pg::(HC++HO))) (F:=[]) [_,_] rfl rfl (by rw[Jd]) (zQ _) ?_ ?_);rintro v H' ⟨rfl,h⟩;cases oR:ad c a b with
 |none=>rw[oR] at h;cases h
 |some w=>rw[oR] at h NB;cases h;simp only at NB;unfold Vn at NB;simp only at NB;rw[Jd];refine oS (S.push (v:=w) rfl Kb Kk G2 (λza Ol yK=>?_) λza Ol yK e' Aa=>?_);rw[zp za] at NB;subst NB;refine qa ?_;exact rO Ci rN Ya ⟨rfl,mk _ _ yK⟩;rw[zn za] at NB;subst NB;refine qd ?_;exact od.panic (Aa.trans Ci) Ya (lq _ _ yK)
 rintro ch H' ⟨rfl,h⟩ e' Aa;cases oR:ad c a b with
 |some w=>rw[oR] at h;cases h
 |none=>rw[oR] at h NB;cases h;simp only at NB;subst NB;rw[Jd];refine qd ?_;exact od.panic (Aa.trans Ci) Ya (lq _ _ Kk)
open pi (u32 Same Ao gn Ji)
variable{og:Nat}
theorem qtl(w:World):(zeroValue 139).run Tryz.prog w=.ok (.agg ([]:List Value).toArray) w:=
 (Go.zero_of_info (P:=Tryz.prog) (n:=0) zk).1 w
theorem qyg{s':MS}(h:yd c s=.run s'):s'.out.length<=s.out.length+1:=by
 have push:∀ (v:Nat) (t:MS),Vn v t=.run s'->t.out=s.out->s'.out.length<=s.out.length+1:=λv t h ht=>by unfold Vn at h;split at h;injection h with h;subst h;show t.out.length<=_;rw[ht];omega;cases h
 unfold yd at h;split at h;unfold YD at h;split at h;split at h;exact Is;cases h;exact push _ _ h rfl;split at h;injection h with h;subst h;omega;split at h;unfold kH at h;split at h;split at h;exact push _ _ h rfl;cases h;cases h;split at h;unfold Dp at h;split at h;split at h;exact Is;cases h;cases h;split at h;unfold Ht at h;split at h;exact Is;cases h;split at h;unfold dG at h;split at h;split at h;exact Is;cases h;cases h;split at h;unfold mw at h;split at h;exact Is;cases h;split at h;unfold VK at h;split at h;exact push _ _ h rfl;exact push _ _ h rfl;split at h;unfold KD at h;split at h;exact Is;cases h;split at h;cases h;split at h;unfold NC at h;split at h;split at h;exact push _ _ h rfl;cases h;cases h;cases h
theorem Gu.exit{Q:uc}{e:Env}{H:Heap}{id:Nat}(h:Q (.exit id) e H):Gu Q (.exit id) e H:=h
attribute [local irreducible] Ii ng fv qn
theorem JT(b:Nat)(d:LV):qn (KC B0 w0) 63 [ptr b 0] .returning [(b,.cells 23 [d])]
  (λu H=>u=.returning/\H=[(b,.cells 23 [d])]):=by
 refine qn.intro Tryz.func63 rfl (n:=14) rfl rfl rfl ?_;refine Lx ?_;refine Bd ?_;refine ia (Ti.Pure.wq qtl rfl)<|Ga ?_;refine oS (Rc λb5=>?_);refine ja ?_;refine Ca (λhc=>?_) λhc=>?_;cases hc;refine ja ?_;refine Ca (λhc=>?_) λhc=>?_;cases hc;refine qa ?_;exact⟨rfl,_,Gg Ya,rfl,rfl⟩
theorem UT(b:Nat)(d:LV):qn (KC B0 w0) 63 [ptr b 0] (.panicking Cw) [(b,.cells 23 [d])]
  (λu H=>settle u=.returning/\H=[(b,.cells 23 [int .i64 12])]):=by
 refine qn.intro Tryz.func63 rfl (n:=14) rfl rfl rfl ?_;refine Lx ?_;refine Bd ?_;refine ia (Pure.Uo (vs:=[]) rfl)<|Ga ?_;refine oS (Rc λb5=>?_);refine ja ?_;refine Ca (λhc=>?_) λhc=>?_;refine ja ?_;exact⟨rfl,_,Pb pH Vc,rfl,rfl⟩;cases hc
def vS(k:MK)(st:Nat)(o:Wd)(H:Heap):Prop:=∃ s stop,s.out=o/\Fx k s st stop H
theorem UL(k:MK){ra:Nat}(xc:Dk s)(mK:s.digit=true->s.data≠[])(gl:st<=ra)(kF:ra<=100000000)(Me:s.out.length<=st)(h:Fx k s st false H) :
  ca (KC B0 w0) 32 [ptr k.mb 0,int .i64 (ra:Nat)] H (λr H'=>vS k (st+(runM (ra-st) s).2.2) (runM (ra-st) s).2.1 H'/\r=.ret (int .i64 ((runM (ra-st) s).1:Nat))):=by
 generalize hR:runM (ra-st) s=R;refine ca.Nv Tryz.func32 rfl (n:=59) rfl rfl rfl ?_;refine Ym ?_;refine Xd ?_;refine oS (Rc λb4=>?_);refine Qc ?_;refine Ku ?_;refine Ii.defer rfl rfl ?_;refine zq ?_;refine ng.seq ?_;refine ng.block ?_;refine ng.jQ (λkk ls H'=>∃ (i:Nat) (s1:MS) (H1:Heap),i<=ra/\st<=i/\kk=ra-i/\ls=[(0,ptr k.mb 0),(1,int .i64 (ra:Nat)),(4,ptr b4 0)]/\H'=(b4,.cells 23 [int .i64 0])::H1/\Fx k s1 i false H1/\Dk s1/\(s1.digit=true->s1.data≠[])/\s1.out.length<=i/\(runM (ra-i) s1).1=R.1/\(runM (ra-i) s1).2.1=R.2.1/\i+(runM (ra-i) s1).2.2=st+R.2.2)
  ⟨_,_,_,⟨st,s,H,gl,Nb _,rfl,rfl,rfl,h,xc,mK,Me,by rw[hR],by rw[hR],by rw[hR]⟩,jb,Tb _⟩ ?_
 rintro kk ls H' ⟨i,s1,H1,hi,xH,rfl,rfl,rfl,hS,Uv,jR,aaa,e1,e2,e3⟩ j hj;obtain⟨vc,HC,vo,HO,HD,hC,hO,hD,rfl⟩:=hS;have Yi:=hD;obtain⟨vd,Ix,hm,rfl⟩:=hD;rw[List.cons_append];have aap:(k.mf s1 i false vc vo).st=i:=rfl;have aaq:(k.mf s1 i false vc vo).pc=s1.pc:=rfl;refine Ym ?_;refine ja ?_;refine Ca (λhc=>?_) λhc=>?_;rotate_left
 ·have hil:i=ra:=by have:=zf hc;omega
  subst hil;rw[sub_self,runM] at e1 e2 e3;simp only at e1 e2 e3;refine Qa.exit ?_;refine Gu.exit ?_;refine qa ?_;refine ng.of ?_;refine ja ?_;first|refine Gu.ret ?_|skip
  exact qv.Gj (vs:=[int .i64 13]) (H2:=[(b4,.cells 23 [int .i64 13])]) hj Kb (JT b4 _)
   (rC (Xl.ic rfl Bb rfl ld) rN) (Gg Ya) ⟨⟨s1,false,e2,by rw[<-e3,Nat.add_zero];exact⟨vc,HC,vo,HO,_,hC,hO,Yi,rfl⟩⟩,by rw[<-e1];rfl⟩
 have hil:i<ra:=by have:=zt hc;omega
 have hn:ra-i=(ra-(i+1))+1:=by omega
 rw[hn,runM] at e1 e2 e3;refine Qa.skip ?_;first|refine Gu.normal ?_|skip
 refine ng.block ?_;refine Ym ?_;refine ja ?_;first|refine Gu.normal ?_|skip
 refine ng.Zb (H':=(b4,.cells 23 [int .i64 0])::(k.mb,.cells 80 ((k.mf s1 (i+1) false vc vo).cells vd))::(Ix++(k.Og s1.mem::k.Pg::(HC++HO)))) ⟨[],by rw[Jd];exact Vp _ _ _⟩ ?_;have A2:Fx k s1 (i+1) false (((k.mb,.cells 80 ((k.mf s1 (i+1) false vc vo).cells vd))::Ix)++(k.Og s1.mem::k.Pg::(HC++HO))):=⟨vc,HC,vo,HO,_,hC,hO,⟨vd,Ix,hm,rfl⟩,rfl⟩;have aac:(k.mf s1 (i+1) false vc vo).pc=s1.pc:=rfl;refine Ku ?_;refine Ii.step (S.check rfl (λhb=>?_) λhb=>?_) rfl;rotate_left
 ·have Np:¬ s1.pc<262144:=by have:=zf hb;omega
  have hs:Sa s1=.stop 12 s1.out:=by unfold Sa;rw[zn Np];rfl
  rw[hs] at e1 e2 e3;simp only at e1 e2 e3;refine qd ?_;exact qv.Xq (H1:=[(b4,.cells 23 [int .i64 0])]) (vs:=[int .i64 12]) (H2:=[(b4,.cells 23 [int .i64 12])]) hj Kb (UT b4 _)
   (rC (Xl.ic rfl Bb rfl ld) rN) (Gg Ya) ⟨⟨s1,false,e2,by rw[<-e3];exact A2⟩,by rw[<-e1];rfl⟩
 have Np:s1.pc<262144:=by have:=zt hb;omega
 refine zq ?_;refine Ym ?_;refine Aq ?_;refine qP (Pure.Cf (o:=s1.pc) rfl rfl zo zo zo) rfl ?_;refine qP (pL (c:=u32 (s1.mem s1.pc)) rfl (Mc (Mc (mem_append_right _ Bb))) (uP _ Np)) rfl ?_;refine Ga ?_;first|refine Gu.normal ?_|skip
 refine Ym ?_;refine ja ?_;refine ia (Pure.Vo rfl rfl)<|qa ?_;have hw:IntKind.u32.wrap ((s1.pc:Int)+1)=((s1.pc+1:Nat):Int):=by rw[gn];omega
 refine oS (sS (n:=1) (vs:=[u32 (s1.pc+1)]) (Ab:=[_,_,_,_,_,_,_,_,_,_]) rfl Fc (by show some [int .u32 _]=some [int .u32 _];rw[<-hw]) rfl rfl rfl rfl ?_);refine Qc ?_;first|refine Gu.normal ?_|skip
 generalize Br:s1.mem s1.pc=c at *;have oe:c<4294967296:=by rw[<-Br];exact Uv.mem _
 have KQ:Dk { s1 with pc:=s1.pc+1 }:=⟨Uv.mem,by show s1.pc+1<_;omega,Uv.data,Uv.calls,Uv.xa,Uv.az,Uv.deep⟩;have hex:=qsZ (B0:=B0) (w0:=w0) k (s:={ s1 with pc:=s1.pc+1 }) (st:=i+1) (c:=c) KQ oe jR (by show s1.out.length<=_;omega) (H:=((k.mb,.cells 80 ((k.mf { s1 with pc:=s1.pc+1 } (i+1) false vc vo).cells vd))::Ix)++(k.Og s1.mem::k.Pg::(HC++HO))) ⟨vc,HC,vo,HO,_,hC,hO,⟨vd,Ix,hm,rfl⟩,rfl⟩;refine Ku ?_;refine Ii.step (S.Ec (F:=[(b4,.cells 23 [int .i64 0])]) [_,_] rfl (Sr _ (List.perm_append_singleton _ _).symm) hex ?_ ?_) rfl
 ·intro v H2 hP
  cases hx:yd c { s1 with pc:=s1.pc+1 } with
  |run s2=>
   rw[hx] at hP;obtain⟨hv,RM⟩:=hP;cases hv;have hs:Sa s1=.run { s2 with digit:=pn c }:=by unfold Sa;rw[zp Np,Br,hx]
   rw[hs] at e1 e2 e3;simp only at e1 e2 e3;have Tv:=qzB KQ oe hx;have hlen:=qyg hx;have iR:pn c=true->s2.data≠[]:=qyK hx;have kl:s2.out.length<=i+1:=by have:s2.out.length<=s1.out.length+1:=hlen;omega
   obtain⟨WN,uS,UN,rS,Gx,hC2,hO2,Kk,rfl⟩:=RM;obtain⟨Ms,Ol,Cu,rfl⟩:=Kk;refine zq ?_;refine ng.Zb (H':=(b4,.cells 23 [int .i64 0])::(k.mb,.cells 80 ((k.mf s2 (i+1) false WN UN).cells Ms))::(Ol++(k.Og s2.mem::k.Pg::(uS++rS)))) ⟨[],by rw[Jd];exact Nh⟩ ?_;refine ng.of ?_;refine ja ?_;refine oC rfl (λhc=>by cases hc) λ_=>?_;refine ja ?_;have fin:∀ (dg:Bool),pn c=dg->Fx k { s2 with digit:=dg } (i+1) false (((k.mb,.cells 80 ((k.mf { s2 with digit:=dg } (i+1) false WN UN).cells Ms))::Ol)++(k.Og s2.mem::k.Pg::(uS++rS)))/\Dk { s2 with digit:=dg }/\(dg=true->s2.data≠[]):=λdg hd=>⟨⟨WN,uS,UN,rS,_,hC2,hO2,⟨Ms,Ol,Cu,rfl⟩,rfl⟩,⟨Tv.mem,Tv.pc,Tv.data,Tv.calls,Tv.xa,Tv.az,Tv.deep⟩,λh=>iR (hd.trans h)⟩;refine oB 53 rfl (λh=>?_) λh=>?_
   ·have Ap:pn c=decide ((c:Int)<=57):=by
     have:=zt h;unfold pn;rw[Vg (by omega:48<=c),Bool.true_and,decide_eq_decide];omega
    obtain⟨f1,f2,f3⟩:=fin _ Ap;rw[Ap] at e1 e2 e3;refine Ga ?_;first|refine Gu.norm ?_|skip
    first|refine xe.normal ?_|skip
    first|refine qN ?_|skip
    exact⟨ra-(i+1),_,_,by omega,⟨i+1,_,_,by omega,by omega,rfl,rfl,rfl,f1,f2,f3,kl,e1,e2,by omega⟩,jb,⟨[],by rw[Jd];exact Vp _ _ _⟩,hj⟩
   have Ap:pn c=false:=by have:=zf h;unfold pn;rw[decide_eq_false (by omega:¬ 48<=c)];rfl
   obtain⟨f1,f2,f3⟩:=fin _ Ap;rw[Ap] at e1 e2 e3;refine Ga ?_;first|refine Gu.norm ?_|skip
   first|refine xe.normal ?_|skip
   first|refine qN ?_|skip
   exact⟨ra-(i+1),_,_,by omega,⟨i+1,_,_,by omega,by omega,rfl,rfl,rfl,f1,f2,f3,kl,e1,e2,by omega⟩,jb,⟨[],by rw[Jd];exact Vp _ _ _⟩,hj⟩
  |stop er o=>
   rw[hx] at hP;obtain⟨s2,ho,hP⟩:=hP;by_cases he:er=0;rotate_left;rw[zn he] at hP;obtain⟨_,hv,_⟩:=hP;cases hv;rw[zp he] at hP;obtain⟨hv,RM⟩:=hP;cases hv;subst he;have hs:Sa s1=.stop 0 o:=by unfold Sa;rw[zp Np,Br,hx]
   rw[hs] at e1 e2 e3;simp only at e1 e2 e3;have Oo:vS k (st+R.2.2) R.2.1 H2:=⟨s2,true,ho.trans e2,by rw[<-e3];exact RM⟩;obtain⟨WN,uS,UN,rS,Gx,hC2,hO2,Kk,rfl⟩:=RM;obtain⟨Ms,Ol,Cu,rfl⟩:=Kk;refine zq ?_;refine ng.Zb (H':=(b4,.cells 23 [int .i64 0])::(k.mb,.cells 80 ((k.mf s2 (i+1) true WN UN).cells Ms))::(Ol++(k.Og s2.mem::k.Pg::(uS++rS)))) ⟨[],by rw[Jd];exact Nh⟩ ?_;refine ng.of ?_;refine ja ?_;refine oC rfl (λ_=>?_) (λhc=>by cases hc);refine ja ?_;first|refine Gu.ret ?_|skip
   first|refine Ud.ret ?_|skip
   first|refine xe.ret ?_|skip
   first|refine Ud.ret ?_|skip
   first|refine xe.ret ?_|skip
   first|refine Ud.ret ?_|skip
   exact qv.Gj (vs:=[int .i64 0]) (H2:=[(b4,.cells 23 [int .i64 0])]) hj Kb (JT b4 _)
    (rC (Xl.ic rfl Bb rfl ld) rN) (Gg Ya) ⟨Oo,by rw[<-e1];rfl⟩
 intro ch H2 hP;cases hx:yd c { s1 with pc:=s1.pc+1 } with
 |run s2=>rw[hx] at hP;obtain⟨hv,_⟩:=hP;cases hv
 |stop er o=>
  rw[hx] at hP;obtain⟨s2,ho,hP⟩:=hP;by_cases he:er=0;rw[zp he] at hP;obtain⟨hv,_⟩:=hP;cases hv;rw[zn he] at hP;obtain⟨h12,hv,RM⟩:=hP;cases hv;subst h12;have hs:Sa s1=.stop 12 o:=by unfold Sa;rw[zp Np,Br,hx]
  rw[hs] at e1 e2 e3;simp only at e1 e2 e3;refine qd ?_;exact qv.Xq (H1:=[(b4,.cells 23 [int .i64 0])]) (vs:=[int .i64 12]) (H2:=[(b4,.cells 23 [int .i64 12])]) hj Nh (UT b4 _)
   (rC (Xl.ic rfl Bb rfl ld) rN) (Gg Ya) ⟨⟨s2,false,ho.trans e2,by rw[<-e3];exact RM⟩,by rw[<-e1];rfl⟩
def PS(og:Nat)(code:Wd):LV:=.agg [int .i64 (og:Nat),str code]
def wO(r:Nat×Wd×Nat):LV:=.agg [str r.2.1,int .i64 (r.1:Nat),int .i64 (r.2.2:Nat)]
theorem qtE{code:Wd}{n:Nat}(h:n<code.length):(λi=>if i=og+n then (code[n]).toNat else Tr (code.take n) og i)=Tr (code.take (n+1)) og:=by funext i;unfold Tr;rw[List.getElem?_take,List.getElem?_take];by_cases h1:i=og+n;subst h1;rw[zp rfl,zp zo,show og+n-og=n by omega,zp zo,di h];rw[zn h1];by_cases h2:og<=i;rw[zp h2,zp h2];by_cases h3:i-og<n;rw[zp h3,zp zo];rw[zn h3,zn zo];rw[zn h2,zn h2]
theorem qts(og:Nat):Tr [] og=λ_=>0:=by funext i;unfold Tr;split;rw[List.getElem?_nil];rfl
theorem qvP(code:Wd){xa:List Nat}(h:og<262144)(hi:∀ v∈xa,v<4294967296):Dk (Zu code og xa):=
 ⟨λi=>qyV code og i,by show og<_;omega,λv hv=>(not_mem_nil hv).elim,λv hv=>(not_mem_nil hv).elim,hi,by show 0<=_;omega,by show 0<=_;omega⟩
@[reducible] def ZF(k:MK)(og:Nat)(xa:List Nat):Nat×ga:=(k.mb,.cells 80 ((k.mf (Zu [] og xa) 0 false (.slice none 0 0) Ob).cells (.slice none 0 0)))
@[reducible] def BJ(b:Nat):Nat×ga:=(b,.cells 25 [str [],int .i64 0,int .i64 0])
theorem qoj{code:Wd}{xa:List Nat}{steps:Nat}(MQ:og+code.length<=262144)(Y2:og<262144)(fg:∀ v∈xa,v<4294967296)(cF:0<steps)(F2:steps<=100000000) :
  ca (KC B0 w0) 18 [.list [PS og code],int .i64 (og:Nat),.list (us xa),int .i64 (steps:Nat)] [] (Hb (wO (runM steps (Zu code og xa)))):=by
 have eX:PS og code=.agg [int .i64 (og:Nat),str code]:=rfl;rw[eX];refine Xa Tryz.func18 rfl (n:=106) rfl rfl rfl ?_;refine Xd ?_;refine oS (Rc λb8=>?_);refine ja ?_;refine oL (λkk ls H'=>∃ i:Nat,i<=1/\kk=1-i/\ls=[(0,.list [.agg [int .i64 (og:Nat),str code]]),(1,int .i64 (og:Nat)),(2,.list (us xa)),(3,int .i64 (steps:Nat)),(8,ptr b8 0),(9,bool true),(23,.list [.agg [int .i64 (og:Nat),str code]]),(24,int .i64 1),(25,int .i64 (i:Nat))]/\H'=[BJ b8])
  ⟨_,_,_,⟨0,by omega,rfl,rfl,rfl⟩,⟨rfl,rfl,rfl,rfl,rfl,Ae (Vg zo),rfl,rfl,rfl,trivial⟩,Tb _⟩ ?_
 rintro kk ls H' ⟨i,hi,rfl,rfl,rfl⟩ j hj;refine wg ?_;refine Ca (λhc=>?_) λhc=>?_;obtain rfl:i=0:=by have:=zt hc;omega
 refine Zi ?_;refine ia (xR (ve:=.agg [int .i64 (og:Nat),str code]) (cs:=[_,_]) rfl rfl da rfl rfl rfl)<|Ga ?_;refine oS (Rc λb11=>?_);refine ja ?_;exact⟨_,_,_,by omega,⟨1,by omega,rfl,rfl,rfl⟩,⟨rfl,rfl,rfl,rfl,rfl,Ae (Vg zo),rfl,rfl,rfl,trivial⟩,Gg Ya,hj⟩;obtain rfl:i=1:=by have:=zf hc;omega
 clear hc hi;refine ja ?_;refine oC rfl (λhc=>by cases hc) λ_=>?_;refine ja ?_;refine Ca (λhc=>?_) λ_=>?_;have:=zt hc;omega;refine ja ?_;refine Ca (λhc=>?_) λ_=>?_;have:=zt hc;omega
 have hwo:IntKind.u32.wrap (og:Int)=(og:Int):=by rw[gn];omega
 refine qa ?_;refine cM (A:=MK) (λk=>[(0,.list [.agg [int .i64 (og:Nat),str code]]),(3,int .i64 (steps:Nat)),(8,ptr b8 0),(12,ptr k.mb 0)]) (λk=>[ZF k og xa,k.Og λ_=>0,k.Pg,BJ b8]) (λ_=>True) ?_ λk _ j2 tc=>?_;refine bj (m:=8) rfl [] ?_;refine aT 1 rfl rfl (pM (lv:=.atom _) rfl)<|aT 2 rfl rfl (Pure.xx rfl)<|aT 3 rfl rfl (pM (lv:=.list _) rfl) ?_;rw[hwo];refine aL ?_ Vc;refine Tp (i:=0) (j:=4) zk ?_ ?_;refine lW rfl (.inl rfl) rfl (S.Uw (n:=262144) rfl rfl da da λmm=>?_);rw[qnm];refine Cj (i:=4) zk ?_;refine lW rfl (.inl rfl) rfl (S.Ec (H1:=[]) [] rfl Kb qhK ?_ (by rintro ch H' ⟨_,h,_⟩;cases h));rintro lv H' ⟨bm,h,rfl⟩;cases h;exact mN;refine lW rfl (.inl rfl) rfl (S.Ec (H1:=[]) [] rfl Kb qhK ?_ (by rintro ch H' ⟨_,h,_⟩;cases h));rintro lv H' ⟨bm,h,rfl⟩;cases h;refine Cj (i:=0) zk ?_;refine lW rfl (.inl rfl) rfl (S.Uw (n:=262144) rfl rfl da da λmm=>?_);rw[qnm];exact mN;have Ci:j2.ds=[]:=tc.trans hj;refine ja ?_
 refine oL (λkk ls H'=>∃ i:Nat,i<=1/\kk=1-i/\ls=[(3,int .i64 (steps:Nat)),(8,ptr b8 0),(12,ptr k.mb 0),(64,.list [.agg [int .i64 (og:Nat),str code]]),(65,int .i64 1),(66,int .i64 (i:Nat))]/\H'=[ZF k og xa,k.Og (Tr (code.take (i * code.length)) og),k.Pg,BJ b8])
  ⟨_,_,_,⟨0,by omega,rfl,rfl,rfl⟩,jb,by rw[Nat.zero_mul,List.take_zero,qts];exact Tb _⟩ ?_
 rintro kk ls H' ⟨i,hi,rfl,rfl,rfl⟩ j3 Om;refine wg ?_;refine Ca (λhc=>?_) λhc=>?_;obtain rfl:i=0:=by have:=zt hc;omega
 refine Zi ?_;refine ia (xR (ve:=.agg [int .i64 (og:Nat),str code]) (cs:=[_,_]) rfl rfl da rfl rfl rfl)<|Ga ?_;refine oS (Rc λXM=>?_);refine ja ?_;refine oL (λkk ls H'=>∃ n:Nat,n<=code.length/\kk=code.length-n/\ls=[(3,int .i64 (steps:Nat)),(8,ptr b8 0),(12,ptr k.mb 0),(14,ptr XM 0),(64,.list [.agg [int .i64 (og:Nat),str code]]),(65,int .i64 1),(66,int .i64 0),(72,int .i64 code.length),(73,int .i64 (n:Nat))]/\H'=[ZF k og xa,(XM,.cells 52 [int .i64 (og:Nat),str code]),k.Og (Tr (code.take n) og),k.Pg,BJ b8])
  ⟨_,_,_,⟨0,zero_le _,rfl,rfl,rfl⟩,jb,by rw[Nat.zero_mul];exact Pb Fc Ya⟩ ?_
 rintro kk ls H' ⟨n,hn,rfl,rfl,rfl⟩ j4 pr;refine wg ?_;refine Ca (λhd=>?_) λhd=>?_;have za:n<code.length:=by have:=zt hd;omega
 have wm:code[((n:Nat):Int).toNat]? = some code[n]:=by rw[Int.toNat_natCast,di za]
 have nr:=qtE (og:=og) za;generalize code[n]=ch at wm nr;have hw8:IntKind.u32.wrap ((ch.toNat:Nat):Int)=((ch.toNat:Nat):Int):=by rw[gn];have:=ch.toNat_lt;omega
 refine oa ?_;refine bj (m:=15) rfl [ZF k og xa,(XM,ga.cells 52 [int .i64 (og:Nat),str code])] ?_;refine Mx ?_;refine aT 3 rfl rfl (pL (c:=.atom _) rfl Bb rfl)<|aT 4 rfl rfl (pF rfl)<|aT 5 rfl rfl (pL (c:=.atom _) rfl xf rfl)<|aT 6 rfl rfl (pM (lv:=.atom _) rfl)<|aT 7 rfl rfl (Pure.add rfl rfl zo)<|aT 8 rfl rfl (pF rfl)<|aT 9 rfl rfl (pL (c:=.atom _) rfl xf rfl)<|aT 10 rfl rfl (pM (lv:=.atom _) rfl)<|aT 11 rfl rfl (pI (c:=ch) rfl rfl zo wm)<|aT 12 rfl rfl (Pure.xx rfl)<|aT 13 rfl rfl (Pure.Cf (o:=og+n) rfl rfl zo zo zo)<|aL ?_ ⟨_,List.Perm.refl _⟩;refine Cj (i:=14) zk ?_;refine lS (H1:=[k.Og (Tr (code.take n) og)]) (F:=[ZF k og xa,(XM,ga.cells 52 [int .i64 (og:Nat),str code]),k.Pg,BJ b8]) rfl (.inl rfl) rfl Bj ⟨_,List.Perm.refl _⟩ ?_;refine sS (n:=1) (vs:=[u32 ch.toNat]) (Ab:=cl (Tr (code.take (n+1)) og)) rfl pH (congrArg (λz=>some [int .u32 z]) hw8) rfl (by rw[ble_eq,pP];omega) rfl (by rw[<-nr];exact SX _ _ _) ?_;refine lD zk ?_;refine rl ?_;exact⟨code.length-(n+1),_,_,by omega,⟨n+1,by omega,rfl,rfl,rfl⟩,jb,Pb Fc (Pb Fc Ya),pr⟩;obtain rfl:n=code.length:=by have:=zf hd;omega
 refine oa ?_;exact⟨0,_,_,by omega,⟨1,by omega,rfl,rfl,rfl⟩,jb,by rw[Nat.one_mul];exact Pb pH (Gg Ya),pr.trans Om⟩;obtain rfl:i=1:=by have:=zf hc;omega
 rw[Nat.one_mul,List.take_length];have hS:Fx k (Zu code og xa) 0 false [ZF k og xa,k.Og (Tr code og),k.Pg]:=⟨.slice none 0 0,[],Ob,[],[ZF k og xa],jf.nil,Acc.nil,⟨.slice none 0 0,[],jf.nil,rfl⟩,rfl⟩;have Ge:=UL (B0:=B0) (w0:=w0) k (qvP code Y2 fg) (λh=>by cases h) (zero_le steps) F2 (Nb 0) hS;rw[Nat.sub_zero] at Ge;generalize runM steps (Zu code og xa)=R at Ge ⊢;rw[Nat.zero_add] at Ge;refine oa ?_;refine oS (S.Ec (H1:=[ZF k og xa,k.Og (Tr code og),k.Pg]) (F:=[BJ b8]) [_,_] rfl Kb Ge ?_ (by rintro ch H' ⟨_,h⟩;cases h));rintro v H' ⟨hE,hv⟩;cases hv;obtain⟨s2,stop,ho,vc,HC,vo,HO,HD,hC,hO,hD,rfl⟩:=hE;obtain⟨vd,Ix,hm,rfl⟩:=hD;refine wa.Zb (H':=BJ b8::(k.mb,.cells 80 ((k.mf s2 R.2.2 stop vc vo).cells vd))::(Ix++(k.Og s2.mem::k.Pg::(HC++HO)))) ⟨[],by rw[Jd];exact Nh⟩ ?_;refine qa ?_;refine Qa.tail 11 zk ?_;refine Ga ?_;refine lP (pL (c:=vo) rfl xf rfl) rfl ?_;refine lP (Pure.vq (l:=s2.out) (by exact hO.elems)) rfl ?_;refine Ga ?_;exact Wa (Om.trans Ci) (rC (rA (k:=3) rfl Bb rfl ld) rN) (by rw[ho];rfl)
end Go.Proofs.YtmnjklgnhpnckaaGreatDoor.YM
namespace Go.Proofs.YtmnjklgnhpnckaaGreatDoor.bN
open Go.GL Go.RowKit Go.ea
open Go.Lib (decDigits itoa join)
attribute [local irreducible] wa Qa Ra ca Go.GL.Pure Ud xe od LQ Eb Tf Rh LS
variable{B0:Nat}{w0:World}
theorem qlS(hG:GW B0 w0)(hM:Sp.GM w0){p:Pr}{n:Nat}(h:QF p n)(hn:n<=2000000)(o:fk)(o1:qw o.code)(o2:qw o.scalars)(o3:qw o.ba):ca (KC B0 w0) 28 [Tu p,tA o] [] (Hb (fL (Tj p.vars (Ue p) p.funcs o))):=by
 rw[pi.Zt];exact qnL hG hM _ _ _ o (Se h.vars hn) (by rw[ab];exact Se h.ba hn) (λa ha=>by
  obtain⟨x,hx,rfl⟩:=Ei ha;have:=h.size x hx;constructor;show(-9223372036854775808:Int)<=(x.size:Int);omega;show(x.size:Int)<9223372036854775808;omega) (Se h.funcs hn) h.Ey o1 o2 o3
def Mn:fk:=⟨10000,0,100000⟩
theorem NZ:ca (KC B0 w0) 17 [] [] (Hb (tA Mn)):=by refine Xa Tryz.func17 rfl (n:=2) rfl rfl rfl ?_;refine Xd ?_;refine oS (Rc λb=>?_);refine ja ?_;exact Wa rfl (rC (rA rfl Bb rfl ld) rN) rfl
end Go.Proofs.YtmnjklgnhpnckaaGreatDoor.bN
namespace Go.Proofs.YtmnjklgnhpnckaaGreatDoor.Lb
open Go.GL Go.RowKit Go.ea
noncomputable def Wb(f:Go.Func):List UInt8:=match f.body with
 |some (.seq _ (.seq (.region _ ops _) _))=>(match ops.toList with
  |o::_=>(match o.op with
   |.assign (.const (.string s))=>s.data.toList
   |_=>[])
  |[]=>[])
 |_=>[]
noncomputable def K7:List UInt8:=(Wb Go.Proofs.Tryz.f117)
noncomputable def ND:List UInt8:=(Wb Go.Proofs.Tryz.f118)
noncomputable def qo:List UInt8:=(Wb Go.Proofs.Tryz.f175)++(Wb Go.Proofs.Tryz.f176)
noncomputable def uW:List UInt8:=(Wb Go.Proofs.Tryz.f177)++(Wb Go.Proofs.Tryz.f178)
noncomputable def Nu:List UInt8:=(Wb Go.Proofs.Tryz.f179)++(Wb Go.Proofs.Tryz.f180)++(Wb Go.Proofs.Tryz.f181)
noncomputable def Ns:List UInt8:=(Wb Go.Proofs.Tryz.f122)
noncomputable def uo:List UInt8:=(Wb Go.Proofs.Tryz.f182)++(Wb Go.Proofs.Tryz.f183)++(Wb Go.Proofs.Tryz.f184)
noncomputable def Cq:List UInt8:=(Wb Go.Proofs.Tryz.f185)++(Wb Go.Proofs.Tryz.f186)++(Wb Go.Proofs.Tryz.f187)++(Wb Go.Proofs.Tryz.f188)
noncomputable def Qk:List UInt8:=(Wb Go.Proofs.Tryz.f125)
noncomputable def Nk:List UInt8:=(Wb Go.Proofs.Tryz.f126)
noncomputable def zw:List UInt8:=(Wb Go.Proofs.Tryz.f127)
noncomputable def so:List UInt8:=(Wb Go.Proofs.Tryz.f128)
noncomputable def Pk:List UInt8:=(Wb Go.Proofs.Tryz.f129)
noncomputable def ri:List UInt8:=(Wb Go.Proofs.Tryz.f130)
noncomputable def Bq:List UInt8:=(Wb Go.Proofs.Tryz.f189)++(Wb Go.Proofs.Tryz.f190)++(Wb Go.Proofs.Tryz.f191)++(Wb Go.Proofs.Tryz.f192)
attribute [local irreducible] wa Qa Ra ca Go.GL.Pure Ud xe od LQ Eb Tf Rh LS
variable{B0:Nat}{w0:World}
theorem fO:ca (KC B0 w0) 117 [] [] (Hb (str K7)):=by refine Xa Tryz.func117 rfl (n:=1) rfl rfl rfl ?_;refine zm ?_;exact Wa rfl (Oa rfl) rfl
theorem qzh:ca (KC B0 w0) 118 [] [] (Hb (str ND)):=by refine Xa Tryz.func118 rfl (n:=1) rfl rfl rfl ?_;refine zm ?_;exact Wa rfl (Oa rfl) rfl
theorem qpB:ca (KC B0 w0) 175 [] [] (Hb (str (Wb Go.Proofs.Tryz.f175))):=by refine Xa Tryz.func175 rfl (n:=1) rfl rfl rfl ?_;refine zm ?_;exact Wa rfl (Oa rfl) rfl
theorem qoJ:ca (KC B0 w0) 176 [] [] (Hb (str (Wb Go.Proofs.Tryz.f176))):=by refine Xa Tryz.func176 rfl (n:=1) rfl rfl rfl ?_;refine zm ?_;exact Wa rfl (Oa rfl) rfl
theorem qrS:ca (KC B0 w0) 119 [] [] (Hb (str qo)):=by have h1:=qpB (B0:=B0) (w0:=w0);have h2:=qoJ (B0:=B0) (w0:=w0);have n1:(Wb Go.Proofs.Tryz.f175).length<=10000:=zt zk;have n2:(Wb Go.Proofs.Tryz.f176).length<=10000:=zt zk;unfold qo;generalize (Wb Go.Proofs.Tryz.f175)=x1 at h1 n1 ⊢;generalize (Wb Go.Proofs.Tryz.f176)=x2 at h2 n2 ⊢;refine Xa Tryz.func119 rfl (n:=4) rfl rfl rfl ?_;refine Ln ?_;refine oS (sF [] rfl h1<|oS (sF [] rfl h2 ?_));refine FD ?_;exact Wa rfl (Oa rfl) rfl
theorem qAd:ca (KC B0 w0) 177 [] [] (Hb (str (Wb Go.Proofs.Tryz.f177))):=by refine Xa Tryz.func177 rfl (n:=1) rfl rfl rfl ?_;refine zm ?_;exact Wa rfl (Oa rfl) rfl
theorem qAh:ca (KC B0 w0) 178 [] [] (Hb (str (Wb Go.Proofs.Tryz.f178))):=by refine Xa Tryz.func178 rfl (n:=1) rfl rfl rfl ?_;refine zm ?_;exact Wa rfl (Oa rfl) rfl
theorem dO:ca (KC B0 w0) 120 [] [] (Hb (str uW)):=by have h1:=qAd (B0:=B0) (w0:=w0);have h2:=qAh (B0:=B0) (w0:=w0);have n1:(Wb Go.Proofs.Tryz.f177).length<=10000:=zt zk;have n2:(Wb Go.Proofs.Tryz.f178).length<=10000:=zt zk;unfold uW;generalize (Wb Go.Proofs.Tryz.f177)=x1 at h1 n1 ⊢;generalize (Wb Go.Proofs.Tryz.f178)=x2 at h2 n2 ⊢;refine Xa Tryz.func120 rfl (n:=4) rfl rfl rfl ?_;refine Ln ?_;refine oS (sF [] rfl h1<|oS (sF [] rfl h2 ?_));refine FD ?_;exact Wa rfl (Oa rfl) rfl
theorem qtp:ca (KC B0 w0) 179 [] [] (Hb (str (Wb Go.Proofs.Tryz.f179))):=by refine Xa Tryz.func179 rfl (n:=1) rfl rfl rfl ?_;refine zm ?_;exact Wa rfl (Oa rfl) rfl
theorem qsJ:ca (KC B0 w0) 180 [] [] (Hb (str (Wb Go.Proofs.Tryz.f180))):=by refine Xa Tryz.func180 rfl (n:=1) rfl rfl rfl ?_;refine zm ?_;exact Wa rfl (Oa rfl) rfl
theorem qsv:ca (KC B0 w0) 181 [] [] (Hb (str (Wb Go.Proofs.Tryz.f181))):=by refine Xa Tryz.func181 rfl (n:=1) rfl rfl rfl ?_;refine zm ?_;exact Wa rfl (Oa rfl) rfl
theorem qwn:ca (KC B0 w0) 121 [] [] (Hb (str Nu)):=by have h1:=qtp (B0:=B0) (w0:=w0);have h2:=qsJ (B0:=B0) (w0:=w0);have h3:=qsv (B0:=B0) (w0:=w0);have n1:(Wb Go.Proofs.Tryz.f179).length<=10000:=zt zk;have n2:(Wb Go.Proofs.Tryz.f180).length<=10000:=zt zk;have n3:(Wb Go.Proofs.Tryz.f181).length<=10000:=zt zk;unfold Nu;generalize (Wb Go.Proofs.Tryz.f179)=x1 at h1 n1 ⊢;generalize (Wb Go.Proofs.Tryz.f180)=x2 at h2 n2 ⊢;generalize (Wb Go.Proofs.Tryz.f181)=x3 at h3 n3 ⊢;refine Xa Tryz.func121 rfl (n:=6) rfl rfl rfl ?_;refine CS ?_;refine Qc ?_;exact Wa rfl (Oa rfl) rfl
theorem qrG:ca (KC B0 w0) 122 [] [] (Hb (str Ns)):=by refine Xa Tryz.func122 rfl (n:=1) rfl rfl rfl ?_;refine zm ?_;exact Wa rfl (Oa rfl) rfl
theorem qs5:ca (KC B0 w0) 182 [] [] (Hb (str (Wb Go.Proofs.Tryz.f182))):=by refine Xa Tryz.func182 rfl (n:=1) rfl rfl rfl ?_;refine zm ?_;exact Wa rfl (Oa rfl) rfl
theorem quq:ca (KC B0 w0) 183 [] [] (Hb (str (Wb Go.Proofs.Tryz.f183))):=by refine Xa Tryz.func183 rfl (n:=1) rfl rfl rfl ?_;refine zm ?_;exact Wa rfl (Oa rfl) rfl
theorem qtF:ca (KC B0 w0) 184 [] [] (Hb (str (Wb Go.Proofs.Tryz.f184))):=by refine Xa Tryz.func184 rfl (n:=1) rfl rfl rfl ?_;refine zm ?_;exact Wa rfl (Oa rfl) rfl
theorem qvI:ca (KC B0 w0) 123 [] [] (Hb (str uo)):=by have h1:=qs5 (B0:=B0) (w0:=w0);have h2:=quq (B0:=B0) (w0:=w0);have h3:=qtF (B0:=B0) (w0:=w0);have n1:(Wb Go.Proofs.Tryz.f182).length<=10000:=zt zk;have n2:(Wb Go.Proofs.Tryz.f183).length<=10000:=zt zk;have n3:(Wb Go.Proofs.Tryz.f184).length<=10000:=zt zk;unfold uo;generalize (Wb Go.Proofs.Tryz.f182)=x1 at h1 n1 ⊢;generalize (Wb Go.Proofs.Tryz.f183)=x2 at h2 n2 ⊢;generalize (Wb Go.Proofs.Tryz.f184)=x3 at h3 n3 ⊢;refine Xa Tryz.func123 rfl (n:=6) rfl rfl rfl ?_;refine CS ?_;refine Qc ?_;exact Wa rfl (Oa rfl) rfl
theorem qrK:ca (KC B0 w0) 185 [] [] (Hb (str (Wb Go.Proofs.Tryz.f185))):=by refine Xa Tryz.func185 rfl (n:=1) rfl rfl rfl ?_;refine zm ?_;exact Wa rfl (Oa rfl) rfl
theorem qr9:ca (KC B0 w0) 186 [] [] (Hb (str (Wb Go.Proofs.Tryz.f186))):=by refine Xa Tryz.func186 rfl (n:=1) rfl rfl rfl ?_;refine zm ?_;exact Wa rfl (Oa rfl) rfl
theorem qru:ca (KC B0 w0) 187 [] [] (Hb (str (Wb Go.Proofs.Tryz.f187))):=by refine Xa Tryz.func187 rfl (n:=1) rfl rfl rfl ?_;refine zm ?_;exact Wa rfl (Oa rfl) rfl
theorem qrD:ca (KC B0 w0) 188 [] [] (Hb (str (Wb Go.Proofs.Tryz.f188))):=by refine Xa Tryz.func188 rfl (n:=1) rfl rfl rfl ?_;refine zm ?_;exact Wa rfl (Oa rfl) rfl
theorem qsr:ca (KC B0 w0) 124 [] [] (Hb (str Cq)):=by have h1:=qrK (B0:=B0) (w0:=w0);have h2:=qr9 (B0:=B0) (w0:=w0);have h3:=qru (B0:=B0) (w0:=w0);have h4:=qrD (B0:=B0) (w0:=w0);have n1:(Wb Go.Proofs.Tryz.f185).length<=10000:=zt zk;have n2:(Wb Go.Proofs.Tryz.f186).length<=10000:=zt zk;have n3:(Wb Go.Proofs.Tryz.f187).length<=10000:=zt zk;have n4:(Wb Go.Proofs.Tryz.f188).length<=10000:=zt zk;unfold Cq;generalize (Wb Go.Proofs.Tryz.f185)=x1 at h1 n1 ⊢;generalize (Wb Go.Proofs.Tryz.f186)=x2 at h2 n2 ⊢;generalize (Wb Go.Proofs.Tryz.f187)=x3 at h3 n3 ⊢;generalize (Wb Go.Proofs.Tryz.f188)=x4 at h4 n4 ⊢;refine Xa Tryz.func124 rfl (n:=8) rfl rfl rfl ?_;refine CS ?_;refine oS (sF [] rfl h4 ?_);refine FD ?_;exact Wa rfl (Oa rfl) rfl
theorem qrT:ca (KC B0 w0) 125 [] [] (Hb (str Qk)):=by refine Xa Tryz.func125 rfl (n:=1) rfl rfl rfl ?_;refine zm ?_;exact Wa rfl (Oa rfl) rfl
theorem qk6:ca (KC B0 w0) 126 [] [] (Hb (str Nk)):=by refine Xa Tryz.func126 rfl (n:=1) rfl rfl rfl ?_;refine zm ?_;exact Wa rfl (Oa rfl) rfl
theorem qs4:ca (KC B0 w0) 127 [] [] (Hb (str zw)):=by refine Xa Tryz.func127 rfl (n:=1) rfl rfl rfl ?_;refine zm ?_;exact Wa rfl (Oa rfl) rfl
theorem qn6:ca (KC B0 w0) 128 [] [] (Hb (str so)):=by refine Xa Tryz.func128 rfl (n:=1) rfl rfl rfl ?_;refine zm ?_;exact Wa rfl (Oa rfl) rfl
theorem qk7:ca (KC B0 w0) 129 [] [] (Hb (str Pk)):=by refine Xa Tryz.func129 rfl (n:=1) rfl rfl rfl ?_;refine zm ?_;exact Wa rfl (Oa rfl) rfl
theorem qnf:ca (KC B0 w0) 130 [] [] (Hb (str ri)):=by refine Xa Tryz.func130 rfl (n:=1) rfl rfl rfl ?_;refine zm ?_;exact Wa rfl (Oa rfl) rfl
theorem qrN:ca (KC B0 w0) 189 [] [] (Hb (str (Wb Go.Proofs.Tryz.f189))):=by refine Xa Tryz.func189 rfl (n:=1) rfl rfl rfl ?_;refine zm ?_;exact Wa rfl (Oa rfl) rfl
theorem qr8:ca (KC B0 w0) 190 [] [] (Hb (str (Wb Go.Proofs.Tryz.f190))):=by refine Xa Tryz.func190 rfl (n:=1) rfl rfl rfl ?_;refine zm ?_;exact Wa rfl (Oa rfl) rfl
theorem qq7:ca (KC B0 w0) 191 [] [] (Hb (str (Wb Go.Proofs.Tryz.f191))):=by refine Xa Tryz.func191 rfl (n:=1) rfl rfl rfl ?_;refine zm ?_;exact Wa rfl (Oa rfl) rfl
theorem qrs:ca (KC B0 w0) 192 [] [] (Hb (str (Wb Go.Proofs.Tryz.f192))):=by refine Xa Tryz.func192 rfl (n:=1) rfl rfl rfl ?_;refine zm ?_;exact Wa rfl (Oa rfl) rfl
theorem qsA:ca (KC B0 w0) 131 [] [] (Hb (str Bq)):=by have h1:=qrN (B0:=B0) (w0:=w0);have h2:=qr8 (B0:=B0) (w0:=w0);have h3:=qq7 (B0:=B0) (w0:=w0);have h4:=qrs (B0:=B0) (w0:=w0);have n1:(Wb Go.Proofs.Tryz.f189).length<=10000:=zt zk;have n2:(Wb Go.Proofs.Tryz.f190).length<=10000:=zt zk;have n3:(Wb Go.Proofs.Tryz.f191).length<=10000:=zt zk;have n4:(Wb Go.Proofs.Tryz.f192).length<=10000:=zt zk;unfold Bq;generalize (Wb Go.Proofs.Tryz.f189)=x1 at h1 n1 ⊢;generalize (Wb Go.Proofs.Tryz.f190)=x2 at h2 n2 ⊢;generalize (Wb Go.Proofs.Tryz.f191)=x3 at h3 n3 ⊢;generalize (Wb Go.Proofs.Tryz.f192)=x4 at h4 n4 ⊢;refine Xa Tryz.func131 rfl (n:=8) rfl rfl rfl ?_;refine CS ?_;refine oS (sF [] rfl h4 ?_);refine FD ?_;exact Wa rfl (Oa rfl) rfl
noncomputable def Jo:List (List UInt8×Nat×List UInt8):=[([103,102],117,K7),([99,114,99],118,ND),([118,105,116,101,114,98,105],119,qo),([114,115],120,uW),([102,114,97,109,101],121,Nu),([101,114,97,115,117,114,101],122,Ns),([98,108,97,107,101],123,uo),([114,101,97,100,101,114],124,Cq),([99,114,99,109,97,105,110],125,Qk),([118,105,116,101,114,98,105,109,97,105,110],126,Nk),([114,115,109,97,105,110],127,zw),([102,114,97,109,101,109,97,105,110],128,so),([101,114,97,115,117,114,101,109,97,105,110],129,Pk),([98,108,97,107,101,109,97,105,110],130,ri),([114,101,110,100,101,114],131,Bq)]
def Ew(m:List UInt8×Nat×List UInt8):LV:=.agg [str m.1,.atom (.func (.func m.2.1) #[] #[])]
theorem qnX:ca (KC B0 w0) 69 [] [] (Hb (.list (Jo.map Ew))):=by refine Xa Tryz.func69 rfl (n:=17) rfl rfl rfl ?_;refine ja ?_;refine oS (sL (s:=2) [_,_,_,_,_,_,_,_,_,_,_,_,_,_,_] rfl (Hd rfl rfl (Hd rfl rfl (Hd rfl rfl (Hd rfl rfl (Hd rfl rfl (Hd rfl rfl (Hd rfl rfl (Hd rfl rfl (Hd rfl rfl (Hd rfl rfl (Hd rfl rfl (Hd rfl rfl (Hd rfl rfl (Hd rfl rfl (Hd rfl rfl Ek))))))))))))))) rfl rfl rfl ?_);refine Ga ?_;exact Wa rfl (rC (Gd (v:=.list _) rfl ld) rN) rfl
open pi (u32 Same Ao)
abbrev Md:=List UInt8×Nat×List UInt8
noncomputable def Lj(name:List UInt8):List UInt8×Int:=match Jo.find? λm=>decide (m.1=name) with
 |some m=>(m.2.2,0)
 |none=>([],9)
noncomputable def Gi:List (List UInt8)->List UInt8->List UInt8×Int
 |[],acc=>(acc,0)
 |n::l,acc=>if (Lj n).2≠0 then ([],(Lj n).2) else Gi l (acc++(Lj n).1)
@[reducible] def EJ(b:Nat)(name:List UInt8):Nat×ga:=(b,.cells 9 [str name])
@[reducible] def ZR(b:Nat):LV:=.atom (.func (.func 71) #[] #[.pointer (some ⟨b,0,none⟩)])
theorem qwf:Jo.length=15:=rfl
theorem qxG:∀ m∈Jo,m.2.2.length<=10000:=by
 have h:(Jo.all λm=>decide (m.2.2.length<=10000))=true:=by kernel_rfl
 intro m hm;exact zt (List.all_eq_true.1 h m hm)
theorem qvv(n:List UInt8):(Lj n).1.length<=10000:=by unfold Lj;split;rename_i m h;exact qxG m (List.mem_of_find?_eq_some h);exact zero_le _
theorem P':∀ (l:List Md) (name:List UInt8) (i:Nat) (h:i<l.length),(∀ j (hj:j<i),(l[j]'zo).1≠name)->l[i].1=name->(l.find? λm=>decide (m.1=name))=some l[i]
 |[],name,i,h,_,_=>by cases h
 |m::l,name,0,h,_,hn=>by have hn:m.1=name:=hn;rw[List.find?_cons,Vg hn];rfl
 |m::l,name,i+1,h,hb,hn=>by have h0:m.1≠name:=hb 0 zo;rw[List.find?_cons,decide_eq_false h0];exact P' l name i (by simpa using h) (λj hj=>hb (j+1) zo) hn
theorem qvz(m:Md)(name:List UInt8)(b:Nat):ca (KC B0 w0) 71 [Ew m,ptr b 0] [EJ b name] (Same (bool (decide (m.1=name))) [EJ b name]):=by obtain⟨n,f,t⟩:=m;unfold Ew;refine Xa Tryz.func71 rfl (n:=8) rfl rfl rfl ?_;refine Xd ?_;refine oS (sB rfl λb2=>?_);refine ja ?_;exact Ao rfl (Oa rfl) rfl (Gg Ya)
theorem qz3:∀ m∈Jo,ca (KC B0 w0) m.2.1 [] [] (Hb (str m.2.2)):=by intro m hm;simp only[Jo,lc,not_mem_nil,or_false] at hm;rcases hm with rfl|rfl|rfl|rfl|rfl|rfl|rfl|rfl|rfl|rfl|rfl|rfl|rfl|rfl|rfl;exact fO;exact qzh;exact qrS;exact dO;exact qwn;exact qrG;exact qvI;exact qsr;exact qrT;exact qk6;exact qs4;exact qn6;exact qk7;exact qnf;exact qsA
theorem qz1:∀ m∈Jo,Gb (KC B0 w0).P m.2.1:=by intro m hm;simp only[Jo,lc,not_mem_nil,or_false] at hm;rcases hm with rfl|rfl|rfl|rfl|rfl|rfl|rfl|rfl|rfl|rfl|rfl|rfl|rfl|rfl|rfl <;> (show Gb Tryz.prog _;infer_instance)
theorem rZ(ms:List Md)(Bu:ms.length=15)(name:List UInt8)(b:Nat):ca (KC B0 w0) 70 [.list (ms.map Ew),ZR b] [EJ b name]
  (λr H'=>H'=[EJ b name]/\((r=.ret (int .i64 (-1))/\(ms.find? λm=>decide (m.1=name))=none)∨∃ i,∃ h:i<ms.length,r=.ret (int .i64 (i:Nat))/\(ms.find? λm=>decide (m.1=name))=some ms[i])):=by
 have BB:(ms.map Ew).length=ms.length:=ab _;have Kc:(∀ j (hj:j<ms.length),(ms[j]'hj).1≠name)->(ms.find? λm=>decide (m.1=name))=none:=λh=>List.find?_eq_none.2 λm hm=>by obtain⟨j,hj,rfl⟩:=List.mem_iff_getElem.1 hm;simpa using h j hj
 refine Xa Tryz.func70 rfl (n:=19) rfl rfl rfl ?_;refine ja ?_;refine oL (λk sl H=>∃ i:Nat,i<=ms.length/\k=ms.length-i/\(∀ j (hj:j<i) (hl:j<ms.length),(ms[j]'hl).1≠name)/\sl=[(0,.list (ms.map Ew)),(1,ZR b),(7,int .i64 ms.length),(8,int .i64 i)]/\H=[EJ b name])
  ⟨_,_,_,⟨0,zero_le _,rfl,λj hj=>by omega,rfl,rfl⟩,jb,Tb _⟩ ?_
 rintro k sl H ⟨i,hi,rfl,hb,rfl,rfl⟩ j1 Vf;refine wg ?_;refine Ca (λhc=>?_) λhc=>?_
 ·have za:i<ms.length:=by have:=zt hc;omega
  have hg:(ms.map Ew)[((i:Nat):Int).toNat]? = some (Ew ms[i]):=rn _ _ _ za;have oe:=qvz (B0:=B0) (w0:=w0) ms[i] name b;have kK:=P' ms name i za λj hj=>hb j hj zo;refine oa ?_;refine ia (xR (ve:=Ew ms[i]) (cs:=[_,_]) rfl rfl zo hg rfl rfl)<|Ga ?_;refine oS (S.yl (f:=71) (first:=#[]) (Ua:=#[.pointer (some ⟨b,0,none⟩)]) (H1:=[EJ b name]) (F:=[]) [_] rfl rfl (by simp) oe ?_ ?_);rotate_left;rintro ch H' ⟨h,_⟩;cases h;rintro v H' ⟨h,rfl⟩;cases h;refine Qc ?_;refine Ca (λh=>?_) λh=>?_;refine oa ?_;exact rR Vf (Oa rfl) Ya ⟨rfl,.inr ⟨i,za,rfl,kK (zt h)⟩⟩;have ub:=zf h;refine oa ?_
  exact⟨_,_,_,by omega,⟨i+1,by omega,rfl,λj hj hl=>by
   by_cases hji:j<i;exact hb j hji hl;obtain rfl:j=i:=by omega
   exact ub,rfl,rfl⟩,jb,Tb _,Vf⟩
 have xi:i=ms.length:=by have:=zf hc;omega
 subst xi;refine oa ?_;exact rR Vf (Oa rfl) Ya ⟨rfl,.inl ⟨rfl,Kc λj hj=>hb j hj hj⟩⟩
theorem qpE(ms:List Md)(Bu:ms.length=15)(hmo:ca (KC B0 w0) 69 [] [] (Hb (.list (ms.map Ew))))(D3:∀ m∈ms,ca (KC B0 w0) m.2.1 [] [] (Hb (str m.2.2)))(hmt:∀ m∈ms,Gb (KC B0 w0).P m.2.1)(name:List UInt8) :
  ca (KC B0 w0) 37 [str name] [] (Hb (match ms.find? λm=>decide (m.1=name) with
   |some m=>.tuple [str m.2.2,int .i64 0]
   |none=>.tuple [str [],int .i64 9])):=by
 have FV:=λb=>rZ (B0:=B0) (w0:=w0) ms Bu name b;have BB:(ms.map Ew).length=ms.length:=ab _;generalize (ms.find? λm=>decide (m.1=name))=MP at FV ⊢;refine Xa Tryz.func37 rfl (n:=18) rfl rfl rfl ?_;refine Xd ?_;refine oS (sB rfl λb1=>?_);refine Ln ?_;refine oS (sF [] rfl hmo ?_);refine ja ?_;refine oS (S.Ec (H1:=[EJ b1 name]) (F:=[]) [_,_] rfl Kb (FV b1) (λv H' h=>?_) λch H' h=>?_);rotate_left;obtain⟨_,⟨h,_⟩|⟨_,_,h,_⟩⟩:=h <;> cases h;obtain⟨rfl,⟨h,hm⟩|⟨i,hi,h,hm⟩⟩:=h;cases h;subst hm;refine oa ?_;refine oC rfl (λ_=>?_) (λh=>by cases h);refine Qj ?_;exact Wa rfl (rC (Ic rfl) (Oa rfl)) rfl;cases h;subst hm;have hg:(ms.map Ew)[((i:Nat):Int).toNat]? = some (Ew ms[i]):=rn _ _ _ hi
 haveI:=hmt ms[i] (List.getElem_mem hi)
 have hf:=D3 ms[i] (List.getElem_mem hi);refine oa ?_;refine Ca (λh=>?_) λ_=>?_;have:=zt h;omega;refine oa ?_;refine ia (xR (ve:=Ew ms[i]) (cs:=[_,_]) rfl rfl zo hg rfl rfl)<|Ga ?_;refine oS (S.kD (f:=ms[i].2.1) [] rfl rfl hf ?_);refine Qc ?_;exact Wa rfl (rC (Ic rfl) (Oa rfl)) rfl
theorem qoO(name:List UInt8):ca (KC B0 w0) 37 [str name] [] (Hb (.tuple [str (Lj name).1,int .i64 (Lj name).2])):=by have h:=qpE Jo qwf qnX qz3 qz1 (B0:=B0) (w0:=w0) name;unfold Lj;generalize (Jo.find? λm=>decide (m.1=name))=MP at h ⊢;cases MP <;> exact h
@[reducible] def R7(r:List UInt8×Int):LV:=.tuple [str r.1,int .i64 r.2]
theorem qse{l:List (List UInt8)}{acc:List UInt8}{i:Nat}(h:i<l.length):Gi (l.drop i) acc=if (Lj l[i]).2≠0 then ([],(Lj l[i]).2) else Gi (l.drop (i+1)) (acc++(Lj l[i]).1):=by rw[List.drop_eq_getElem_cons h,Gi]
theorem qoZ(l:List (List UInt8))(hl:l.length<=1000):ca (KC B0 w0) 25 [.list (l.map str)] [] (Hb (R7 (Gi l []))):=by
 have BB:(l.map str).length=l.length:=ab _;generalize hR:Gi l []=R;refine Xa Tryz.func25 rfl (n:=27) rfl rfl rfl ?_;refine Ln ?_;refine oS (Rc λb4=>?_);refine ja ?_;have BK:BH b4 [] [(b4,.cells 92 [.atom (.pointer none),.atom (.slice none 0 0)])]:=⟨_,_,[],.inl rfl,Qg.nil,rfl⟩;refine oL (λk sl H=>∃ (i:Nat) (acc:List UInt8),i<=l.length/\k=l.length-i/\acc.length<=i * 10000/\Gi (l.drop i) acc=R/\BH b4 acc H/\sl=[(4,ptr b4 0),(9,.list (l.map str)),(10,int .i64 l.length),(11,int .i64 i)])
  ⟨_,_,_,⟨0,[],zero_le _,rfl,zero_le _,hR,BK,rfl⟩,jb,Tb _⟩ ?_
 rintro k sl H ⟨i,acc,hi,rfl,kb,hP,hB,rfl⟩ j1 Vf;refine wg ?_;refine Ca (λhc=>?_) λhc=>?_
 ·have za:i<l.length:=by have:=zt hc;omega
  have hg:(l.map str)[((i:Nat):Int).toNat]? = some (str l[i]):=rn _ _ _ za;have hm:=qoO (B0:=B0) (w0:=w0) l[i];have Bu:=qvv l[i];rw[qse za] at hP;generalize l[i]=n at *;generalize Lj n=q at *;obtain⟨t,e⟩:=q;simp only at hP hm Bu;refine Zi ?_;refine ia (xR (ve:=str n) (cs:=[str n]) rfl rfl zo hg rfl rfl)<|ja ?_;refine oS (sF [_] rfl hm ?_);refine ja ?_;by_cases he:e=0;rotate_left;rw[zp he] at hP;subst hP;refine Ca (λ_=>?_) λhc=>?_;refine oa ?_;exact Wa Vf (rC (Ic rfl) (Oa rfl)) rfl;have h2:(!decide (e=0))=false:=hc;simp at h2;exact absurd h2 he;subst he;rw[zn da] at hP;refine oC rfl (λhc=>by cases hc) λ_=>?_;refine oa ?_;refine oS (S.Ec (H1:=H) (F:=[]) [_,_] rfl (by simp) (qfA b4 acc t H hB zo) (λv' H' h=>?_) (λch H' h=>by obtain⟨⟨x,h⟩,_⟩:=h;cases h));obtain⟨⟨x,hx⟩,QV⟩:=h;cases hx;rw[Jd];refine rl ?_;exact⟨_,_,_,by omega,⟨i+1,acc++t,by omega,rfl,by rw[ya];omega,hP,QV,rfl⟩,jb,Tb _,Vf⟩
 have xi:i=l.length:=by have:=zf hc;omega
 subst xi;rw[List.drop_length,Gi] at hP;subst hP;refine oa ?_;refine oS (S.Ec (H1:=H) (F:=[]) [_] rfl (by simp) (MZ b4 acc H hB zo) (λv' H' h=>?_) (λch H' h=>by obtain⟨h,_⟩:=h;cases h));obtain⟨h,rfl⟩:=h;cases h;refine Qc ?_;exact Wa Vf (rC (Ic rfl) (Oa rfl)) rfl
theorem qrX:ca (KC B0 w0) 25 [Ob] [] (Hb (R7 ([],0))):=by
 refine Xa Tryz.func25 rfl (n:=27) rfl rfl rfl ?_;refine Ln ?_;refine oS (Rc λb4=>?_);refine ja ?_;have BK:BH b4 [] [(b4,.cells 92 [.atom (.pointer none),.atom (.slice none 0 0)])]:=⟨_,_,[],.inl rfl,Qg.nil,rfl⟩;refine oL (λk sl H=>k=0/\BH b4 [] H/\sl=[(4,ptr b4 0),(10,int .i64 0),(11,int .i64 0)])
  ⟨_,_,_,⟨rfl,BK,rfl⟩,jb,Tb _⟩ ?_
 rintro k sl H ⟨rfl,hB,rfl⟩ j1 Vf;refine wg ?_;refine oC rfl (λhc=>by cases hc) λhc=>?_;refine oa ?_;refine oS (S.Ec (H1:=H) (F:=[]) [_] rfl (by simp) (MZ b4 [] H hB da) (λv' H' h=>?_) (λch H' h=>by obtain⟨h,_⟩:=h;cases h));obtain⟨h,rfl⟩:=h;cases h;refine Qc ?_;exact Wa Vf (rC (Ic rfl) (Oa rfl)) rfl
end Go.Proofs.YtmnjklgnhpnckaaGreatDoor.Lb
namespace Go.Proofs.YtmnjklgnhpnckaaGreatDoor.Lb
open Go.GL Go.RowKit Go.ea
theorem qzm:Lj [99,114,99]=(ND,0):=zk
theorem qv0:Lj [98,108,97,107,101]=(uo,0):=zk
theorem qro:Lj [99,114,99,109,97,105,110]=(Qk,0):=zk
theorem qnr:Lj [98,108,97,107,101,109,97,105,110]=(ri,0):=zk
end Go.Proofs.YtmnjklgnhpnckaaGreatDoor.Lb
namespace Go.ea.Wi.Wc.Wm
open Go.Lib
def xo:Ex:=(.mk [60] 0 [] [(.mk [118,97,114] 0 [105] []),(.mk [110,117,109] 8 [] [])])
def yo:List Sm:=[(.mk 1 [116] [] [(.mk [47] 0 [] [(.mk [118,97,114] 0 [99] []),(.mk [110,117,109] 2147483648 [] [])])] [] []),(.mk 1 [99] [] [(.mk [42] 0 [] [(.mk [118,97,114] 0 [99] []),(.mk [110,117,109] 2 [] [])])] [] []),(.mk 3 [] [] [(.mk [118,97,114] 0 [116] [])] [(.mk 1 [99] [] [(.mk [94] 0 [] [(.mk [118,97,114] 0 [99] []),(.mk [110,117,109] 79764919 [] [])])] [] [])] []),(.mk 1 [105] [] [(.mk [43] 0 [] [(.mk [118,97,114] 0 [105] []),(.mk [110,117,109] 1 [] [])])] [] [])]
def Ir:Sm:=(.mk 1 [99] [] [(.mk [94] 0 [] [(.mk [118,97,114] 0 [99] []),(.mk [42] 0 [] [(.mk [118,97,114] 0 [98] []),(.mk [110,117,109] 16777216 [] [])])])] [] [])
def xw:Sm:=(.mk 1 [105] [] [(.mk [110,117,109] 0 [] [])] [] [])
def gC:Sm:=(.mk 5 [] [] [(.mk [118,97,114] 0 [99] [])] [] [])
def rh:ob:=⟨[99,114,99,98,121,116,101],[[99],[98]],[[105],[116]],[Ir,xw,.mk 4 [] [] [xo] yo [],gC]⟩
def Ax:Ex:=(.mk [60] 0 [] [(.mk [118,97,114] 0 [98] []),(.mk [110,117,109] 256 [] [])])
def fC:List Sm:=[(.mk 1 [99] [] [(.mk [99,97,108,108] 0 [99,114,99,98,121,116,101] [(.mk [118,97,114] 0 [99] []),(.mk [118,97,114] 0 [98] [])])] [] []),(.mk 1 [98] [] [(.mk [99,97,108,108] 0 [105,110] [])] [] [])]
def LA(n:Nat):Sm:=(.mk 6 [] [] [(.mk [99,97,108,108] 0 [111,117,116] [(.mk [47] 0 [] [(.mk [118,97,114] 0 [99] []),(.mk [110,117,109] n [] [])])])] [] [])
def af:ob:=⟨[109,97,105,110],[],[[98],[99]],[(.mk 1 [99] [] [(.mk [110,117,109] 4294967295 [] [])] [] []),(.mk 1 [98] [] [(.mk [99,97,108,108] 0 [105,110] [])] [] []),.mk 4 [] [] [Ax] fC [],LA 16777216,LA 65536,LA 256,(.mk 6 [] [] [(.mk [99,97,108,108] 0 [111,117,116] [(.mk [118,97,114] 0 [99] [])])] [] [])]⟩
def P:Pr:=⟨[],[],[rh,af]⟩
abbrev cC:=Ub rh [99]
abbrev cB:=Ub rh [98]
abbrev cI:=Ub rh [105]
abbrev cT:=Ub rh [116]
abbrev mB:=Ub af [98]
abbrev mC:=Ub af [99]
def yO(c:Nat):Nat:=if c / 2147483648=0 then c * 2 % 4294967296 else (c * 2 % 4294967296) ^^^ 79764919
def iT:Nat->Nat->Nat
 |0,c=>c
 |n+1,c=>iT n (yO c)
def Tn(c b:Nat):Nat:=iT 8 (c ^^^ (b * 16777216 % 4294967296))
def Fr(ks:List Nm)(s s':IS):Prop:=(∀ k,k ∉ ks->s'.sc k=s.sc k)/\s'.ar=s.ar/\s'.xa=s.xa/\s'.out=s.out
theorem Fr.refl(ks:List Nm)(s:IS):Fr ks s s:=⟨λ_ _=>rfl,rfl,rfl,rfl⟩
theorem Fr.set{ks:List Nm}{s s':IS}(h:Fr ks s s'){k:Nm}(hk:k∈ks)(v:Nat):Fr ks s (yf s' k v):=
 ⟨λx hx=>by
  unfold yf;simp only;rw[zn (λe=>hx (by rw[e];exact hk))]
  exact h.1 x hx,h.2.1,h.2.2.1,h.2.2.2⟩
theorem Fr.trans{ks:List Nm}{s s1 s2:IS}(h:Fr ks s s1)(g:Fr ks s1 s2):Fr ks s s2:=
 ⟨λk hk=>(g.1 k hk).trans (h.1 k hk),g.2.1.trans h.2.1,g.2.2.1.trans h.2.2.1,g.2.2.2.trans h.2.2.2⟩
theorem Fr.sub{ks oH:List Nm}{s s':IS}(h:Fr ks s s')(hs:∀ k∈ks,k∈oH):Fr oH s s':=⟨λk hk=>h.1 k λe=>hk (hs k e),h.2⟩
theorem round(s:IS)(h8:s.sc cI<8):∃ s',Bl P rh yo s 124 none s'/\s'.sc cC=yO (s.sc cC)/\s'.sc cI=s.sc cI+1/\Fr [cC,cI,cT] s s':=by
 have e1:(s.sc cI+1) % 4294967296=s.sc cI+1:=Nat.mod_eq_of_lt (by omega);by_cases h:s.sc cC / 2147483648=0;refine⟨yf (yf (yf s cT (s.sc cC / 2147483648)) cC (s.sc cC * 2 % 4294967296)) cI ((s.sc cI+1) % 4294967296),?_,?_,?_,?_⟩;have ht:vE rh (yf (yf s cT (s.sc cC / 2147483648)) cC (s.sc cC * 2 % 4294967296)) (.mk [118,97,114] 0 [116] [])=0:=by
  refine Eq.trans ?_ h
  kernel_rfl
 exact(Bl.cons (St.Cx (v:=s.sc cC / 2147483648) (Ev.of _ zk zk)) (Bl.cons (St.Cx (v:=s.sc cC * 2 % 4294967296) (Ev.of _ zk zk)) (Bl.cons (St.iff (Ev.of _ zk ht) Bl.nil) (Bl.cons (St.Cx (v:=(s.sc cI+1) % 4294967296) (Ev.of _ zk zk)) Bl.nil)))).mono da;unfold yO;rw[zp h]
 kernel_rfl
 refine Eq.trans ?_ e1
 kernel_rfl
 exact(((Fr.refl _ s).set da _).set da _).set da _;refine⟨yf (yf (yf (yf s cT (s.sc cC / 2147483648)) cC (s.sc cC * 2 % 4294967296)) cC ((s.sc cC * 2 % 4294967296) ^^^ 79764919)) cI ((s.sc cI+1) % 4294967296),?_,?_,?_,?_⟩;exact(Bl.cons (St.Cx (v:=s.sc cC / 2147483648) (Ev.of _ zk zk)) (Bl.cons (St.Cx (v:=s.sc cC * 2 % 4294967296) (Ev.of _ zk zk)) (Bl.cons (St.oQ (v:=s.sc cC / 2147483648) (Ev.of _ zk zk) h (Bl.cons (St.Cx (v:=(s.sc cC * 2 % 4294967296) ^^^ 79764919) (Ev.of _ zk zk)) Bl.nil)) (Bl.cons (St.Cx (v:=(s.sc cI+1) % 4294967296) (Ev.of _ zk zk)) Bl.nil)))).mono da;unfold yO;rw[zn h]
 kernel_rfl
 refine Eq.trans ?_ e1
 kernel_rfl
 exact((((Fr.refl _ s).set da _).set da _).set da _).set da _
theorem qm3(s:IS):Ev P rh xo s 14 (nf (decide (s.sc cI<8))) s:=Ev.of _ zk zk
theorem rounds:∀ (j:Nat) (s:IS),s.sc cI+j=8->∃ s',Wh P rh xo yo (nf (decide (s.sc cI<8))) s (156 * j) none s'/\s'.sc cC=iT j (s.sc cC)/\Fr [cC,cI,cT] s s'
 |0,s,h=>⟨s,by
  rw[show decide (s.sc cI<8)=false from decide_eq_false (by omega)];exact Wh.done,rfl,Fr.refl _ s⟩
 |j+1,s,h=>by obtain⟨s1,h1,h2,h3,h4⟩:=round s (by omega);obtain⟨s2,g1,g2,g3⟩:=rounds j s1 (by omega);refine⟨s2,?_,by rw[g2,h2];try rfl,h4.trans g3⟩;rw[show decide (s.sc cI<8)=true from Vg (by omega)];exact(Wh.next da h1 (qm3 s1) g1).mono (by omega)
theorem qwD(s:IS):St P rh Ir s 44 none (yf s cC (s.sc cC ^^^ (s.sc cB * 16777216 % 4294967296))):=St.Cx (K:=36) (Ev.of _ zk (by simp only[qzl,qz4,qz9,qzx]))
theorem qyp(s:IS):St P rh xw s 10 none (yf s cI 0):=St.Cx (K:=2) (Ev.of _ zk zk)
theorem qxI(s:IS):St P rh gC s 9 (some (s.sc cC)) s:=St.ret (K:=8) (Ev.of _ zk zk)
theorem qv5(s:IS):∃ s',Bl P rh rh.body s 1333 (some (Tn (s.sc cC) (s.sc cB))) s'/\Fr [cC,cB,cI,cT] s s':=by
 obtain⟨s',h1,h2,h3⟩:=rounds 8 (yf (yf s cC (s.sc cC ^^^ (s.sc cB * 16777216 % 4294967296))) cI 0) rfl;have XJ:(yf (yf s cC (s.sc cC ^^^ (s.sc cB * 16777216 % 4294967296))) cI 0).sc cC=s.sc cC ^^^ (s.sc cB * 16777216 % 4294967296):=by kernel_rfl
 rw[XJ] at h2;have e:Tn (s.sc cC) (s.sc cB)=s'.sc cC:=by unfold Tn;exact h2.symm
 refine⟨s',?_,?_⟩;rw[e];have q1:St P rh Ir s 44 none (yf s cC (s.sc cC ^^^ (s.sc cB * 16777216 % 4294967296))):=qwD s;have q2:St P rh xw (yf s cC (s.sc cC ^^^ (s.sc cB * 16777216 % 4294967296))) 10 none (yf (yf s cC (s.sc cC ^^^ (s.sc cB * 16777216 % 4294967296))) cI 0):=qyp _;have q3:St P rh (.mk 4 [] [] [xo] yo []) (yf (yf s cC (s.sc cC ^^^ (s.sc cB * 16777216 % 4294967296))) cI 0) (8+14+156 * 8) none s':=St.ES (qm3 _) h1;have q:Bl P rh rh.body s (44+(10+(8+14+156 * 8+9))) (some (s'.sc cC)) s':=Bl.cons q1 (Bl.cons q2 (Bl.cons q3 (Bl.ret (qxI s'))));exact q.mono da;refine Fr.trans (Fr.set (Fr.set (Fr.refl _ s) da _) da _) (h3.sub λk hk=>?_);simp only[lc,not_mem_nil,or_false] at hk ⊢;rcases hk with h|h|h <;> simp[h]
theorem qzt:aj P [99,114,99,98,121,116,101]=rh:=zk
theorem qvy(s:IS)(c b:Nat):∃ s',Op P af Of 0 [99,114,99,98,121,116,101] [c,b] s 1333 (Tn c b) s'/\Fr [cC,cB,cI,cT] s s':=by obtain⟨s',h1,h2⟩:=qv5 (yf (yf s cC c) cB b);refine⟨s',?_,Fr.trans (Fr.set (Fr.set (Fr.refl _ s) da _) da _) h2⟩;have:=Op.call (P:=P) (f:=af) (num:=0) (name:=[99,114,99,98,121,116,101]) (vs:=[c,b]) (s:=s) (K:=1333) (r:=some (Tn c b)) (s':=s') da da (by rw[qzt];exact h1);exact this
theorem qza(s:IS)(l:List Nat)(k:Nm)(h:s.xa=l):yf { s with xa:=s.xa.tail } k (s.xa.headD 4294967295)=yf { s with xa:=l.tail } k (l.headD 4294967295):=by rw[h]
theorem qqb(s:IS):Ev P af Ax s 16 (nf (decide (s.sc mB<256))) s:=Ev.of _ zk zk
theorem qlf:∀ (l:List Nat) (s:IS),(∀ v∈l,v<256)->s.sc mB=l.headD 4294967295->s.xa=l.tail->∃ s',Wh P af Ax fC (nf (decide (s.sc mB<256))) s (1430 * l.length) none s'/\s'.sc mC=l.foldl Tn (s.sc mC)/\s'.out=s.out
 |[],s,_,hb,_=>⟨s,by
  rw[hb];exact Wh.done,rfl,rfl⟩
 |b::l,s,hl,hb,hi=>by
  obtain⟨s1,h1,h2⟩:=qvy s (s.sc mC) (s.sc mB);have Qm:s.sc mB<256:=by rw[hb];exact hl b (by simp)
  have Lz:(yf s1 mC (Tn (s.sc mC) (s.sc mB))).xa=l:=by show s1.xa=l;rw[h2.2.2.1,hi];try rfl
  obtain⟨s',g1,g2,g3⟩:=qlf l (yf { yf s1 mC (Tn (s.sc mC) (s.sc mB)) with xa:=l.tail } mB (l.headD 4294967295)) (λv hv=>hl v (by simp[hv])) rfl rfl;refine⟨s',?_,?_,?_⟩
  ·rw[show decide (s.sc mB<256)=true from Vg Qm];have Ut:Yo P af [.mk [118,97,114] 0 [99] [],.mk [118,97,114] 0 [98] []] s 16 [s.sc mC,s.sc mB] s:=(Yo.pure _ zk);have st1:St P af _ s (8+(27+16+1333)) none (yf s1 mC (Tn (s.sc mC) (s.sc mB))):=St.Cx (name:=[99]) (ix:=[]) (vr:=[]) (th:=[]) (el:=[]) (Ev.mk Ut h1)
   have st2:St P af (.mk 1 [98] [] [.mk [99,97,108,108] 0 [105,110] []] [] []) (yf s1 mC (Tn (s.sc mC) (s.sc mB))) 9 none (yf { yf s1 mC (Tn (s.sc mC) (s.sc mB)) with xa:=l.tail } mB (l.headD 4294967295)):=by rw[<-qza _ l mB Lz];exact St.Cx (Ev.mk Yo.nil Op.xa)
   exact(Wh.next da (Bl.cons st1 (Bl.cons st2 Bl.nil)) (qqb _) g1).mono (by rw[Ba];omega)
  ·rw[g2];show l.foldl Tn (Tn (s.sc mC) (s.sc mB))=l.foldl Tn (Tn (s.sc mC) b);rw[hb]
   try rfl
  rw[g3];exact h2.2.2.2
def jt(c:Nat):List UInt8:=[UInt8.ofNat (c / 16777216),UInt8.ofNat (c / 65536),UInt8.ofNat (c / 256),UInt8.ofNat c]
theorem WW(s:IS)(n:Nat)(hn:n≠0):St P af (LA n) s 39 none { s with out:=s.out++[UInt8.ofNat (s.sc mC / n)] }:=by
 have xc:cQ af s (.mk [47] 0 [] [.mk [118,97,114] 0 [99] [],.mk [110,117,109] n [] []])=true:=by show(true && (true && (true && true)) && (if n=0 then none else some (s.sc mC / n):Option Nat).isSome)=true;rw[zn hn];try rfl
 have hv:vE af s (.mk [47] 0 [] [.mk [118,97,114] 0 [99] [],.mk [110,117,109] n [] []])=s.sc mC / n:=by show(if n=0 then none else some (s.sc mC / n):Option Nat).getD 0=_;rw[zn hn];try rfl
 have hc:cE (.mk [47] 0 [] [.mk [118,97,114] 0 [99] [],.mk [110,117,109] n [] []])<=24:=by
  show 4+(8+0+(wN n+0+0))<=24;unfold wN;repeat' split
  all_goals omega
 have h:=(Ev.of _ (P:=P) xc hv).mono hc;refine(St.exp (ix:=[]) (vr:=[]) (th:=[]) (el:=[]) (name:=[]) (Ev.mk (Yo.cons h Yo.nil) Op.out)).mono ?_;show 8+(3+(24+0)+0)<=39;decide
theorem qtT(s:IS)(hl:∀ v∈s.xa,v<256):∃ s',Bl P af af.body s (1430 * s.xa.length+250) none s'/\s'.out=s.out++jt (s.xa.foldl Tn 4294967295):=by
 obtain⟨s',h1,h2,h3⟩:=qlf s.xa (yf { yf s mC 4294967295 with xa:=s.xa.tail } mB (s.xa.headD 4294967295)) hl rfl rfl;have e:s.xa.foldl Tn 4294967295=s'.sc mC:=h2.symm;have q1:=WW s' 16777216 da;have q2:=WW { s' with out:=s'.out++[UInt8.ofNat (s'.sc mC / 16777216)] } 65536 da;have q3:=WW { s' with out:=(s'.out++[UInt8.ofNat (s'.sc mC / 16777216)])++[UInt8.ofNat (s'.sc mC / 65536)] } 256 da;have q4:St P af (.mk 6 [] [] [.mk [99,97,108,108] 0 [111,117,116] [.mk [118,97,114] 0 [99] []]] [] []) { s' with out:=((s'.out++[UInt8.ofNat (s'.sc mC / 16777216)])++[UInt8.ofNat (s'.sc mC / 65536)])++[UInt8.ofNat (s'.sc mC / 256)] } 19 none { s' with out:=(((s'.out++[UInt8.ofNat (s'.sc mC / 16777216)])++[UInt8.ofNat (s'.sc mC / 65536)])++[UInt8.ofNat (s'.sc mC / 256)])++[UInt8.ofNat (s'.sc mC)] }:=
  (St.exp (Ev.mk (Yo.cons (Ev.of _ (v:=s'.sc mC) zk zk) Yo.nil) Op.out)).mono da
 refine⟨_,(Bl.cons (St.Cx (name:=[99]) (v:=4294967295) (Ev.of _ zk zk)) (Bl.cons (St.Cx (name:=[98]) (Ev.mk Yo.nil Op.xa)) (Bl.cons (St.ES (qqb _) h1) (Bl.cons q1 (Bl.cons q2 (Bl.cons q3 (Bl.cons q4 Bl.nil))))))).mono ?_,?_⟩;have e1:wE Of 0 [105,110] ([]:List Ex).length=1:=rfl;have e2:cE (.mk [110,117,109] 4294967295 [] [])=12:=rfl;omega;show(((s'.out++[UInt8.ofNat (s'.sc mC / 16777216)])++[UInt8.ofNat (s'.sc mC / 65536)])++[UInt8.ofNat (s'.sc mC / 256)])++[UInt8.ofNat (s'.sc mC)]=_;rw[h3,e,Pc,Pc,Pc];try rfl
theorem G9(l:List Nat)(hl:∀ v∈l,v<256)(ra:Nat)(h:1430 * l.length+250<=ra):∃ ua s2,bg (Ag P ua (Bg P)) (Bg P).body (aq P l ra)=.ok none s2/\s2.out=jt (l.foldl Tn 4294967295):=by obtain⟨s',h1,h2⟩:=qtT (aq P l 0) hl;have hm:Bg P=af:=rfl;rw[hm];obtain⟨ua,s2,g1,g2⟩:=N8 (P:=P) (xa:=l) (ra:=ra) (h1.mono h);exact⟨ua,s2,g1,g2.trans h2⟩
end Go.ea.Wi.Wc.Wm
namespace Go.Proofs.YtmnjklgnhpnckaaGreatDoor.Lb
open Go.GL Go.RowKit Go.ea
open pi (u32 gn Ji tu QT)
open Go.ea.Wi.Wc.Wm (yO iT Tn jt)
theorem Pure.to{C:Ctx}{o:Oper}{e:Env}{H:Heap}{lv HJ:LV}(h:Go.GL.Pure C o e H lv)(he:lv=HJ):Go.GL.Pure C o e H HJ:=he▸h
theorem QN(n:Int):IntKind.u8.wrap n=n % 256:=by simp only[IntKind.wrap,IntKind.bits,IntKind.signed,Di];rfl
theorem qys{n:Int}{m:Nat}(h:n=m):int .u8 (IntKind.u8.wrap n)=int .u8 ((UInt8.ofNat m).toNat:Int):=by rw[QN,h,UInt8.toNat_ofNat'];congr 1
theorem V8{x:Nat}{s:Int}{d:Nat}(hs:(2:Int) ^ min s.toNat IntKind.u32.bits=(d:Int)):int .u32 (Int.fdiv (x:Int) (2 ^ min s.toNat IntKind.u32.bits))=u32 (x / d):=by rw[hs,Int.fdiv_eq_ediv_of_nonneg _ zo];rfl
def Ee(s:List UInt8):List Nat:=s.map (·.toNat)
theorem JW(n:Nat):IntKind.u32.wrap (n:Int)=((n % 4294967296:Nat):Int):=by rw[gn];omega
theorem TT(c:UInt8):c.toNat<256:=c.toNat_lt
theorem iP(s:List UInt8):∀ v∈Ee s,v<256:=λv hv=>by obtain⟨c,_,rfl⟩:=Ei hv;exact TT c
attribute [local irreducible] wa Qa Ra ca Go.GL.Pure Ud xe od LQ Eb Tf Rh LS
variable{B0:Nat}{w0:World}
theorem qi1(s:List UInt8)(hs:s.length<=1000000):ca (KC B0 w0) 7 [str s] [] (Hb (.list ((Ee s).map u32))):=by
 refine Xa Tryz.func7 rfl (n:=20) rfl rfl rfl ?_;refine Ln ?_;refine oS (S.JJ (s:=1) (es:=[]) [] rfl Ek rfl rfl rfl λb=>?_);refine ja ?_
 refine oL (λk sl H=>∃ (i:Nat) (v:LV),i<=s.length/\k=s.length-i/\Acc 1 v ((Ee (s.take i)).map u32) H []/\sl=[(0,str s),(3,v),(4,int .i64 i)])
  ⟨_,_,_,⟨0,_,zero_le _,rfl,Acc.row,rfl⟩,jb,Tb _⟩ ?_
 rintro k sl H ⟨i,v,hi,rfl,kb,rfl⟩ j1 Vf;refine ja ?_;refine Ca (λhc=>?_) λhc=>?_;have za:i<s.length:=by have:=zt hc;omega
 have hb:=TT s[i];have e0:IntKind.u32.wrap ((s[i].toNat:Nat):Int)=((s[i].toNat:Nat):Int):=by rw[gn];omega
 have wm:s[((i:Nat):Int).toNat]? = some s[i]:=by rw[Int.toNat_natCast];exact di za
 have hT:(Ee (s.take (i+1))).map u32=(Ee (s.take i)).map u32++[u32 s[i].toNat]:=by rw[List.take_succ_eq_append_getElem za];simp only[Ee,Lf];rfl
 generalize s[i]=ch at *;refine Kx ?_;refine ia (pI rfl rfl zo wm)<|ia (Pure.to (Pure.xx rfl) (Ji e0))<|oS (sL [_] (es:=[u32 ch.toNat]) rfl (Hd rfl rfl Ek) rfl rfl rfl ?_);refine oS (S.acc (F:=[]) rfl kb rfl (by simp[LV.cells]) rfl (by simp only[Ee,ab,List.length_take,Ba,dc];omega) λv' H' qb=>?_);refine ik ?_;refine oa ?_;exact⟨_,_,_,by omega,⟨i+1,v',by omega,rfl,by rw[hT];exact qb,rfl⟩,jb,Tb _,Vf⟩;have xi:i=s.length:=by have:=zf hc;omega
 subst xi;rw[List.take_length] at kb;refine Qa.sub (d:=3) (v:=v) rfl kb.sub ?_;refine ja ?_;exact Wa Vf (rC (Gd (v:=.list _) rfl ld) rN) rfl
end Go.Proofs.YtmnjklgnhpnckaaGreatDoor.Lb
namespace Go.Proofs.YtmnjklgnhpnckaaGreatDoor.Pp
open Go.GL Go.RowKit Go.ea
open bN (fL)
open Go.Lib (decDigits join)
theorem qwO{p:Pr}{n:Nat}(gd:QF p n){o:fk}{t:Wd}(hn:n<=2000000)(h:Tj p.vars (Ue p) p.funcs o=.ok t):t.length<=60+60 * n:=by obtain⟨hc,de,ht,_⟩:=FO gd.Ey h;have hw:=(DX (P:=p) (o:=o) hc gd.Ey de (Se gd.funcs hn)).1;have hj:=SL (Mg p o);have:=gd.funcs;rw[ht];omega
theorem DE{p:Pr}{n:Nat}(gd:QF p n)(hn:n<=3100){o:fk}{t:Wd}(h:Tj p.vars (Ue p) p.funcs o=.ok t):t.length<=186060/\LC t=(join (Uh (xj t)) [32],0)/\(join (Uh (xj t)) [32]).length<=300000000:=by have h1:=qwO gd zo h;have h2:=qwV t;refine⟨by omega,?_,by omega⟩;unfold LC;rw[zn zo]
end Go.Proofs.YtmnjklgnhpnckaaGreatDoor.Pp
namespace Go.Proofs.YtmnjklgnhpnckaaGreatDoor.Lb
open Go.GL Go.RowKit Go.ea
open pi (u32)
open YM (wO qoj PS us)
open Sp (cu Vi)
open bN (qw fL Mn tA NZ qlS)
variable{code:Wd}
instance:kz Uj 25:=.of zk
structure mz(l:List (List UInt8))(code:Wd):Prop where
 short:l.length<=1000
 ok:∃ src p n x y Za l0,Gi l []=(src,0)/\su src=(p,l0,0)/\QF p n/\n<=2000000/\qp p=0/\Tj p.vars (Ue p) p.funcs Mn=.ok x/\x.length<=1000000/\LC x=(y,0)/\y.length<=300000000/\vh y 10000=.ok (code,Za)
 len:code.length<=40000
attribute [local irreducible] wa Qa Ra ca Go.GL.Pure Ud xe od LQ Eb Tf Rh LS
variable{B0:Nat}{w0:World}
theorem rJ(hG:Pp.GW B0 w0){l:List (List UInt8)}(h:mz l code):ca (KC B0 w0) 16 [.list (l.map str)] [] (Hb (.tuple [str code,int .i64 0])):=by obtain⟨hl,⟨src,p,n,x,y,Za,l0,h1,h2,h3,h4,h5,h6,h7,h8,h9,sx⟩,_⟩:=h;have BM:=qoZ (B0:=B0) (w0:=w0) l hl;rw[h1] at BM;have il:=qnp (B0:=B0) (w0:=w0) hG.base src;rw[h2] at il;have Fs:=pi.xl (B0:=B0) (w0:=w0) h3 h4;rw[h5] at Fs;have MM:=qlS (B0:=B0) (w0:=w0) hG.base hG.mx h3 h4 Mn (by unfold qw;decide) (by unfold qw;decide) (by unfold qw;decide);rw[h6] at MM;have Lc:=Pp.Kp (B0:=B0) (w0:=w0) hG x h7;rw[h8] at Lc;have has:=Sp.ek (B0:=B0) (w0:=w0) hG.base hG.mx y 10000 h9;rw[sx] at has;have hd:=NZ (B0:=B0) (w0:=w0);have eD:tA Mn=.agg [int .i64 10000,int .i64 0,int .i64 100000]:=rfl;have eP:Tu p=.agg [.list (p.vars.map str),.list (p.ba.map CI),.list (p.funcs.map cg)]:=rfl;rw[eD] at hd MM;unfold jY at il;unfold fL at MM;unfold cu at has;simp only at BM il MM Lc has;rw[eP] at il MM Fs;clear h1 h2 h3 h4 h5 h6 h7 h8 h9 sx eP eD;refine Xa Tryz.func16 rfl (n:=69) rfl rfl rfl ?_;refine oa ?_;refine oS (sF [_] rfl BM ?_);refine ja ?_;refine oC rfl (λhc=>by cases hc) λ_=>?_;refine oa ?_;refine oS (sF [_] rfl il ?_);refine Ga ?_;refine oS (Rc λb6=>?_);refine ja ?_;refine oC rfl (λhc=>by cases hc) λ_=>?_;refine ja ?_;refine oS (S.uq [_] rfl Fs (λv H' h=>?_) λch H' h=>?_);rotate_left;obtain⟨_,_,h⟩:=h;cases h;obtain⟨rfl,nm,h⟩:=h;cases h;refine ja ?_;refine oC rfl (λhc=>by cases hc) λ_=>?_;refine Zi ?_;refine oS (sF [] rfl hd<|oS (Rc λN6=>?_));refine ja ?_;refine oS (sF [_,_] rfl MM ?_);refine ja ?_;refine oC rfl (λhc=>by cases hc) λ_=>?_;refine oa ?_;refine oS (sF [_] rfl Lc ?_);refine ja ?_;refine oC rfl (λhc=>by cases hc) λ_=>?_;refine oa ?_;refine oS (sF [_,_] rfl has ?_);refine ja ?_;exact Wa rfl (rC (Ic rfl) (Oa rfl)) rfl
theorem qi2(hG:Pp.GW B0 w0){l:List (List UInt8)}(h:mz l code){xa:List Nat}(fg:∀ v∈xa,v<4294967296){steps:Nat}(h0:0<steps)(h1:steps<=100000000) :
  ca (KC B0 w0) 6 [.list (us xa),int .i64 (steps:Nat),.list (l.map str)] [] (Hb (wO (runM steps (Zu code 10000 xa)))):=by
 have X2:=rJ hG h;have Ge:=qoj (B0:=B0) (w0:=w0) (code:=code) (og:=10000) (xa:=xa) (steps:=steps) (by have:=h.len;omega) da fg h0 h1;have hd:=NZ (B0:=B0) (w0:=w0);have eD:tA Mn=.agg [int .i64 10000,int .i64 0,int .i64 100000]:=rfl;rw[eD] at hd;generalize runM steps (Zu code 10000 xa)=R at Ge ⊢;unfold wO at Ge ⊢;unfold PS at Ge;refine Xa Tryz.func6 rfl (n:=30) rfl rfl rfl ?_;refine Xd ?_;refine oS (Rc λb6=>?_);refine oa ?_;refine oS (sF [_] rfl X2 ?_);refine ja ?_;refine oC rfl (λhc=>by cases hc) λ_=>?_;refine Zi ?_;refine oS (sF [] rfl hd<|oS (Rc λb9=>?_));refine ja ?_;refine Ui ?_;refine qa ?_;refine oS (sF [_,_,_,_] rfl Ge ?_);refine Ga ?_;exact Wa rfl (rC (rA rfl Bb rfl ld) rN) rfl
theorem qzV:su []=(⟨[],[],[]⟩,0,0):=zk
theorem qo1(hG:Pp.GW B0 w0):ca (KC B0 w0) 16 [Ob] [] (Hb (.tuple [str [],int .i64 9])):=by
 have BM:=qrX (B0:=B0) (w0:=w0);have il:=qnp (B0:=B0) (w0:=w0) hG.base [];rw[qzV] at il;have Fs:=pi.xl (B0:=B0) (w0:=w0) (p:=⟨[],[],[]⟩) (n:=0) ⟨Nb _,Nb _,λa ha=>(by cases ha),Nb _,λa ha=>(by cases ha)⟩ da;have h9:qp ⟨[],[],[]⟩=9:=by kernel_rfl
 rw[h9] at Fs;have eP:Tu ⟨[],[],[]⟩=.agg [.list [],.list [],.list []]:=rfl;unfold jY at il;simp only at BM il;rw[eP] at il Fs;refine Xa Tryz.func16 rfl (n:=69) rfl rfl rfl ?_;refine Pj ?_;refine oS (sF [_] rfl BM ?_);refine ja ?_;refine oC rfl (λhc=>by cases hc) λ_=>?_;refine oa ?_;refine oS (sF [_] rfl il ?_);refine Ga ?_;refine oS (Rc λb6=>?_);refine ja ?_;refine oC rfl (λhc=>by cases hc) λ_=>?_;refine ja ?_;refine oS (S.uq [_] rfl Fs (λv H' h=>?_) λch H' h=>?_);rotate_left;obtain⟨_,_,h⟩:=h;cases h;obtain⟨rfl,nm,h⟩:=h;cases h;refine ja ?_;refine oC rfl (λ_=>?_) (λhc=>by cases hc);refine oa ?_;exact Wa rfl (rC (Ic rfl) (Oa rfl)) rfl
theorem qoE(hG:Pp.GW B0 w0):ca (KC B0 w0) 6 [Ob,int .i64 100,Ob] [] (Hb (.agg [str [],int .i64 9,int .i64 0])):=by have X2:=qo1 (B0:=B0) (w0:=w0) hG;refine Xa Tryz.func6 rfl (n:=30) rfl rfl rfl ?_;refine Xd ?_;refine oS (Rc λb6=>?_);refine Xh ?_;refine oS (sF [_] rfl X2 ?_);refine ja ?_;refine oC rfl (λ_=>?_) (λhc=>by cases hc);refine ja ?_;exact Wa rfl (rC (rA rfl Bb rfl ld) rN) rfl
open YM (wO us)
open bN (qw fL Mn)
open Go.ea.Wi.Wc (Zd HK Ag BZ)
open Go.ea.Wi.Wc.Wm (Tn jt G9)
open Go.Lib (join)
theorem F9{P:Pr}{n:Nat}(gd:QF P n)(hn:n<=3100){x:Wd}(hm:Tj P.vars (Ue P) P.funcs Mn=.ok x){i0:List Nat}(y4:∀ v∈i0,v<4294967296){f0 l0:Nat}(h0:(Zd P f0 i0 l0).1=0) :
  ∃ y code Za,x.length<=1000000/\LC x=(y,0)/\y.length<=300000000/\vh y 10000=.ok (code,Za)/\code.length<=40000 /\
   ∀ (xa:List Nat),(∀ v∈xa,v<4294967296)->∀ ua ra,(Zd P ua xa ra).1=0->∃ K,∀ N,ra+101<=N->runM N (Zu code 10000 xa)=(0,(Zd P ua xa ra).2.out,K):=by
 obtain⟨o1,o2,o3⟩:=Pp.DE gd hn hm;obtain⟨x1,l1,y1,XA,K1,K1',a1,a2,a3,a4,a5,a6,a7⟩:=BZ (o:=Mn) gd.Ey hm y4 f0 l0 (.inl h0);refine⟨_,y1,XA,by omega,o2,o3,a2,by omega,λxa hi ua ra he=>?_⟩;obtain⟨x2,l2,y2,l2',K2,K2',b1,b2,b3,b4,b5,b6,b7⟩:=BZ (o:=Mn) gd.Ey hm hi ua ra (.inl he);rw[a2] at b2;injection b2 with b2;injection b2 with b2 _;subst b2;refine⟨K2',λN hN=>?_⟩;have:=(b7 N zo).2;rw[he] at this;exact this
noncomputable def gw:List UInt8:=ND++Qk
abbrev PA:List UInt8:=[99,114,99]
abbrev jP:List UInt8:=[99,114,99,109,97,105,110]
theorem qzf:Gi [PA,jP] []=(gw,0):=by rw[Gi,qzm,zn da,Gi,qro,zn da,Gi];rfl
theorem qum:su gw=(Go.ea.Wi.Wc.Wm.P,0,0):=zk
theorem qxO:qp Go.ea.Wi.Wc.Wm.P=0:=zk
def qzJ:Wd:=match Tj Go.ea.Wi.Wc.Wm.P.vars (Ue Go.ea.Wi.Wc.Wm.P) Go.ea.Wi.Wc.Wm.P.funcs Mn with
 |.ok t=>t
 |.error _=>[]
theorem V':Tj Go.ea.Wi.Wc.Wm.P.vars (Ue Go.ea.Wi.Wc.Wm.P) Go.ea.Wi.Wc.Wm.P.funcs Mn=.ok qzJ:=zk
theorem P8:QF Go.ea.Wi.Wc.Wm.P 300:=by refine⟨by decide,by decide,λa ha=>(by cases ha),by decide,λf hf=>?_⟩;have hf:f∈[Go.ea.Wi.Wc.Wm.rh,Go.ea.Wi.Wc.Wm.af]:=hf;rcases lc.1 hf with rfl|hf;simp[Go.ea.Wi.Wc.Wm.rh,Go.ea.Wi.Wc.Wm.Ir,Go.ea.Wi.Wc.Wm.xw,Go.ea.Wi.Wc.Wm.gC,Go.ea.Wi.Wc.Wm.xo,Go.ea.Wi.Wc.Wm.yo,Hi,Io,lk,vi,Lt];obtain rfl:=cj hf;simp[Go.ea.Wi.Wc.Wm.af,Go.ea.Wi.Wc.Wm.Ax,Go.ea.Wi.Wc.Wm.fC,Go.ea.Wi.Wc.Wm.LA,Hi,Io,lk,vi,Lt]
theorem qwC:∃ code,mz [PA,jP] code/\∀ l:List Nat,(∀ v∈l,v<256)->∀ N,1430 * l.length+351<=N->∃ K,runM N (Zu code 10000 l)=(0,jt (l.foldl Tn 4294967295),K):=by
 have run:∀ (l:List Nat),(∀ v∈l,v<256)->∃ ua,(Zd Go.ea.Wi.Wc.Wm.P ua l (1430 * l.length+250)).1=0/\(Zd Go.ea.Wi.Wc.Wm.P ua l (1430 * l.length+250)).2.out=jt (l.foldl Tn 4294967295):=λl hl=>by obtain⟨ua,s2,h1,h2⟩:=G9 l hl (1430 * l.length+250) (Nb _);refine⟨ua,?_⟩;unfold Zd;rw[h1];exact⟨rfl,h2⟩
 obtain⟨f0,h0,_⟩:=run [] λv hv=>(not_mem_nil hv).elim;obtain⟨y,code,Za,a1,a2,a3,a4,a5,a6⟩:=F9 P8 da V' (i0:=[]) (λv hv=>(not_mem_nil hv).elim) h0;refine⟨code,⟨by decide,⟨gw,_,_,_,y,Za,0,qzf,qum,P8,by decide,qxO,V',a1,a2,a3,a4⟩,a5⟩,λl hl N hN=>?_⟩;obtain⟨ua,g1,g2⟩:=run l hl;obtain⟨K,hK⟩:=a6 l (λv hv=>by have:=hl v hv;omega) ua _ g1;exact⟨K,by rw[hK N zo,g2]⟩
theorem quD:jt ((Ee [49,50,51,52,53,54,55,56,57]).foldl Tn 4294967295)=[3,118,230,231]:=zk
theorem qvR(hG:Pp.GW B0 w0)(s:List UInt8){N:Nat}(hN:1430 * s.length+351<=N)(F5:N<=100000000):∃ K:Nat,ca (KC B0 w0) 6 [.list ((Ee s).map u32),int .i64 (N:Nat),.list [str PA,str jP]] [] (Hb (.agg [str (jt ((Ee s).foldl Tn 4294967295)),int .i64 0,int .i64 (K:Nat)])):=by obtain⟨code,h1,h2⟩:=qwC;obtain⟨K,hK⟩:=h2 (Ee s) (iP s) N (by unfold Ee;rw[ab];exact hN);have:=qi2 (B0:=B0) (w0:=w0) hG h1 (xa:=Ee s) (λv hv=>by have:=iP s v hv;omega) (steps:=N) zo F5;rw[hK] at this;exact⟨K,this⟩
theorem qrk(hG:Pp.GW B0 w0):ca (KC B0 w0) 5 [] [] (Hb (bool true)):=by obtain⟨K,hx⟩:=qvR (B0:=B0) (w0:=w0) hG [49,50,51,52,53,54,55,56,57] (N:=100000) da da;rw[quD] at hx;have hb:=qi1 (B0:=B0) (w0:=w0) [49,50,51,52,53,54,55,56,57] da;have hy:=qoE (B0:=B0) (w0:=w0) hG;generalize (Ee [49,50,51,52,53,54,55,56,57]).map u32=ins at hx hb;refine Xa Tryz.func5 rfl (n:=20) rfl rfl rfl ?_;refine Ln ?_;refine oS (sF [_] rfl hb<|oS (sL (s:=1) (es:=[str PA,str jP]) [_,_] rfl (bt [PA,jP]) rfl rfl rfl ?_));refine oS (sF [_,_,_] rfl hx<|oS (Rc λb1=>?_));refine ja ?_;refine oS (sF [_,_,_] rfl hy<|oS (Rc λb2=>?_));refine ja ?_;refine oB 10 rfl (λ_=>?_) λh=>absurd rfl (zf h);refine oB 15 rfl (λ_=>?_) λh=>absurd rfl (zf h);refine ia (Pure.GK (a:=[]) (b:=[]) (i:=9) (k:=9) (j:=0) (l:=0) rfl rfl rfl rfl rfl)<|qa ?_;exact Wa rfl (Oa rfl) rfl
open YM (us)
open Go.ea.Wi.Wc (Zd HK Ag)
theorem qAk{P:Pr}{n:Nat}(hf:Go.ea.Wi.Wc.Q.BF P n=true){names:List (List UInt8)}{src:List UInt8}(hn:names.length<=1000)(B2:Gi names []=(src,0))(hp:su src=(P,0,0))
  {i0:List Nat} (y4:∀ v∈i0,v<4294967296) {l0:Nat} (h0:∃ ua,(Zd P ua i0 l0).1=0) :
  ∃ code,mz names code/\∀ (xa:List Nat),(∀ v∈xa,v<4294967296)->∀ ra o,(∃ ua,(Zd P ua xa ra).1=0/\(Zd P ua xa ra).2.out=o)->∃ K,∀ N,ra+101<=N->runM N (Zu code 10000 xa)=(0,o,K):=by
 obtain⟨gd,cx,Wy,x,hm⟩:=Go.ea.Wi.Wc.Q.AF hf;obtain⟨f0,h0⟩:=h0;obtain⟨y,code,Za,a1,a2,a3,a4,a5,a6⟩:=F9 gd cx hm y4 h0;refine⟨code,⟨hn,⟨src,P,n,x,y,Za,0,B2,hp,gd,by omega,Wy,hm,a1,a2,a3,a4⟩,a5⟩,?_⟩;rintro xa hi ra o ⟨ua,e1,e2⟩;obtain⟨K,hK⟩:=a6 xa hi ua ra e1;exact⟨K,λN hN=>by rw[hK N hN,e2]⟩
theorem qzn{B0:Nat}{w0:World}(hG:Pp.GW B0 w0){names:List (List UInt8)}(h1:mz names code){xa:List Nat}(hi:∀ v∈xa,v<4294967296){N K:Nat}{o:List UInt8}(hN:0<N)(F5:N<=100000000)(hK:runM N (Zu code 10000 xa)=(0,o,K)) :
  ca (KC B0 w0) 6 [.list (xa.map u32),int .i64 (N:Nat),.list (names.map str)] [] (Hb (.agg [str o,int .i64 0,int .i64 (K:Nat)])):=by
 have:=qi2 (B0:=B0) (w0:=w0) hG h1 (xa:=xa) hi (steps:=N) hN F5;rw[hK] at this;exact this
end Go.Proofs.YtmnjklgnhpnckaaGreatDoor.Lb
