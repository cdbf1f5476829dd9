import Derived.Test.YtjolancjacdeaaaGreatDoorBRowRM9
set_option linter.unusedVariables false
set_option linter.unusedSimpArgs false
set_option maxRecDepth 100000
set_option maxHeartbeats 4000000
open Go.GL (zk)
open List (length_reverse reverse_cons mem_append_right not_mem_nil)
open Nat (sub_self ble_eq zero_le)
namespace Go.Proofs.YtjolancjacdeaaaGreatDoor.qK
open Go.GL Go.RowKit Go.Ba
open Nh (u32 Same Zk Aq My CO xO)
variable{F H HD:Heap}{a:Operand}{xe:Array TypeId}{c st:Nat}{data:List Nat}{s:MS}
structure MK where
 mb:Nat
 mm:Nat
 bm:Nat
@[reducible] def Pv(k:MK):Value:=.slice (some ⟨k.mm,0,none⟩) 262144 262144
@[reducible] def MK.mf(k:MK)(s:MS)(st:Nat)(stop:Bool)(vc:Value)(vo:LV):MF:=⟨k.mb,Pv k,s.pc,vc,s.we,vo,s.digit,st,stop,k.bm⟩
@[reducible] def MK.cf(k:MK)(f:Nat->Nat):Nat×da:=(k.mm,.cells 33 (Ii f))
@[reducible] def MK.kf(k:MK):Nat×da:=(k.bm,.obj (.map rH 7))
def Ws(k:MK)(s:MS)(st:Nat)(stop:Bool)(H:Heap):Prop:=∃ vc HC vo HO HD,jb 33 1 vc (us s.calls.reverse) HC/\Acc 1 vo (jf s.out) HO []/\DH (k.mf s st stop vc vo) s.data HD/\H=HD++(k.cf s.mem::k.kf::(HC++HO))
def ax(k:MK)(st:Nat)(R:MR)(r:Lc)(H:Heap):Prop:=match R with
 |.run s=>r=.ret (.tuple [])/\Ws k s st false H
 |.stop e o=>∃ s,s.out=o/\if e=0 then r=.ret (.tuple [])/\Ws k s st true H else e=12/\r=.panic Mr/\Ws k s st false H
theorem OU{k:MK}{o:Wd}(hs:s.out=o)(h:Ws k s st false H):ax k st (.stop 12 o) (.panic Mr) H:=⟨s,hs,by rw[zn ra];exact⟨rfl,rfl,h⟩⟩
theorem jK{k:Int}(h:(c:Int)=k)(hk:48<=k/\k<=57):true=Po c:=by unfold Po;rw[Eg (by omega:48<=c),Eg (by omega:c<=57)];rfl
theorem VU{x m b:Nat×da}{A B C:Heap}:(x::(A++(m::b::(B++C)))).Perm (B++(x::(A++(m::b::C)))):=by have:=List.perm_append_comm_assoc (x::(A++[m,b])) B C;simpa using this
theorem OE{x m b:Nat×da}{A B C:Heap}:(x::(A++(m::b::(B++C)))).Perm (C++(x::(A++(m::b::B)))):=by have:=dd (l₁:=x::(A++(m::b::B))) (l₂:=C);simpa using this
section
variable{B0:Nat}{w0:World}{e:Env}{H:Heap}{dst:Option Nat}{ty:TypeId}{la:String}{ma:Array Edge}{g:Option (Nat×Bool)}{K:LV->Heap->Prop}{X:List PanicEntry->Heap->Prop}
theorem S.push{f:MF}{v:Nat}{b:Operand}(hx:[e.ev a,e.ev b]=[ptr f.mb 0,u32 v])(hp:H.Perm (HD++F))(hD:DH f data HD)(hf:data.length<=256)
  (hk:data.length<256->∀ Ie,DH f (v::data) Ie->K (.tuple []) (Ie++F)) (hn:¬ data.length<256->∀ Ie,DH f data Ie->X Mr (Ie++F)) :
  Ja (KC B0 w0) ⟨dst,.call { callee:=.value (.func 103),args:=#[a,b],argTypes:=xe },ty,la,ma,g⟩ e H K X:=by
 refine S.Bb (H1:=HD) (F:=F) [a,b] hx hp (g' hD hf v) ?_ ?_;intro r H' h;unfold vL at h;split at h;rename_i hl;obtain⟨h1,h2⟩:=h;cases h1;exact hk hl H' h2;obtain⟨h1,_⟩:=h;cases h1;intro ch H' h;unfold vL at h;split at h;obtain⟨h1,_⟩:=h;cases h1;rename_i hl;obtain⟨h1,h2⟩:=h;cases h1;exact hn hl H' h2
theorem S.pop{f:MF}(hx:[e.ev a]=[ptr f.mb 0])(hp:H.Perm (HD++F))(hD:DH f data HD)(hf:data.length<=256)
  (hk:∀ x r,data=x::r->∀ Ie,DH f r Ie->K (u32 x) (Ie++F)) (hn:data=[]->∀ Ie,DH f [] Ie->X Mr (Ie++F)) :
  Ja (KC B0 w0) ⟨dst,.call { callee:=.value (.func 105),args:=#[a],argTypes:=xe },ty,la,ma,g⟩ e H K X:=by
 refine S.Bb (H1:=HD) (F:=F) [a] hx hp (BW hD hf) ?_ ?_;intro r H' h;cases data with
 |nil=>obtain⟨h1,_⟩:=h;cases h1
 |cons x d=>obtain⟨h1,h2⟩:=h;cases h1;exact hk x d rfl H' h2
 intro ch H' h;cases data with
 |nil=>obtain⟨h1,h2⟩:=h;cases h1;exact hn rfl H' h2
 |cons x d=>obtain⟨h1,_⟩:=h;cases h1
theorem S.address{f:MF}(hx:[e.ev a]=[ptr f.mb 0])(hp:H.Perm (HD++F))(hD:DH f data HD)(hf:data.length<=256)
  (hk:∀ x r,data=x::r->x<262144->∀ Ie,DH f r Ie->K (u32 x) (Ie++F)) (hn:(∀ x r,data=x::r->¬ x<262144)->∀ d Ie,DH f d Ie->X Mr (Ie++F)) :
  Ja (KC B0 w0) ⟨dst,.call { callee:=.value (.func 104),args:=#[a],argTypes:=xe },ty,la,ma,g⟩ e H K X:=by
 refine S.Bb (H1:=HD) (F:=F) [a] hx hp (dR hD hf) ?_ ?_;intro r H' h;cases data with
 |nil=>obtain⟨h1,_⟩:=h;cases h1
 |cons x d=>unfold IL at h;simp only at h;split at h;rename_i hl;obtain⟨h1,h2⟩:=h;cases h1;exact hk x d rfl hl H' h2;obtain⟨h1,_⟩:=h;cases h1
 intro ch H' h;cases data with
 |nil=>obtain⟨h1,h2⟩:=h;cases h1;exact hn (λx r ED=>by cases ED) _ H' h2
 |cons x d=>
  unfold IL at h;simp only at h;split at h;obtain⟨h1,_⟩:=h;cases h1;rename_i hl;obtain⟨h1,h2⟩:=h;cases h1;exact hn (λy r ED=>by
   injection ED with e1 e2;rw[<-e1];exact hl) _ H' h2
end
attribute [local irreducible] ea Ga Ja aa Go.GL.Pure Bc Tc oc LQ Pa Td Lf LS
variable{B0:Nat}{w0:World}
theorem qqX(k:MK)(He:ni s)(Qf:c<4294967296)(YD:s.digit=true->s.data≠[])(Dn:s.out.length<=100000000000)(h:Ws k s st false H) :
  aa (KC B0 w0) 49 [ptr k.mb 0,u32 c] H (ax k st (Qi c s)):=by
 generalize hR:Qi c s=R;obtain⟨vc,HC,vo,HO,HD,hC,hO,hD,rfl⟩:=h;have Lh:=He.eu;have y2:=He.deep;have hl:(us s.data.reverse).length=s.data.length:=by rw[tv,length_reverse]
 have hlc:(us s.calls.reverse).length=s.calls.length:=by rw[tv,length_reverse]
 have mk:∀ (d:List Nat) (Ie:Heap),DH (k.mf s st false vc vo) d Ie->Ws k { s with data:=d } st false (Ie++(k.cf s.mem::k.kf::(HC++HO))):=λd Ie h=>⟨vc,HC,vo,HO,Ie,hC,hO,h,rfl⟩;have Am:∀ (d:List Nat) (Ie:Heap),DH (k.mf s st false vc vo) d Ie->ax k st (MR.Pd s) (.panic Mr) (Ie++(k.cf s.mem::k.kf::(HC++HO))):=λd Ie h=>OU (s:={ s with data:=d }) rfl (mk d Ie h);have Xg:=hD;obtain⟨vd,Xs,hm,rfl⟩:=hD;rw[List.cons_append];refine cJ Tryz.func49 (n:=219) ?_;refine ia ?_;refine cC [(0,ptr k.mb 0),(1,u32 c),(14,u32 c),(36,bool (Po c))] ?_ λj hj=>?_;refine Yg ?_;refine sa (λhc=>?_) λc0=>?_;exact Mx;refine Yg ?_;refine sa (λhc=>?_) λc1=>?_;exact Mx;refine Yg ?_;refine sa (λhc=>?_) λc2=>?_;exact Mx;refine Yg ?_;refine sa (λhc=>?_) λc3=>?_;exact Mx;refine Yg ?_;refine sa (λhc=>?_) λc4=>?_;exact Mx;refine Yg ?_;refine sa (λhc=>?_) λc5=>?_;exact Mx;refine Yg ?_;refine sa (λhc=>?_) λc6=>?_;exact Mx;refine Yg ?_;refine sa (λhc=>?_) λc7=>?_;exact Mx;refine Yg ?_;refine sa (λhc=>?_) λc8=>?_;exact Mx;refine Yg ?_
 exact⟨⟨rfl,rfl,rfl,Ed (by
  have d0:=zf c0;have d1:=zf c1;have d2:=zf c2;have d3:=zf c3;have d4:=zf c4;have d5:=zf c5;have d6:=zf c6;have d7:=zf c7;have d8:=zf c8;unfold Po;rw[<-Bool.decide_and,decide_eq_decide];omega),trivial⟩,rfl,rfl⟩
 refine sa (λhc=>?_) λVg=>?_
 ·have Fp:48<=c/\c<=57:=by
   unfold Po at hc;rw[Le,sf,sf] at hc;exact hc
  have ef:jC c s=R:=by rw[<-hR];unfold Qi;rw[zp hc]
  refine ia ?_;refine ca (Pure.qn rfl hm)<|ja ?_;refine sa (λBx=>?_) λBx=>?_
  ·obtain⟨d,r,Ad⟩:∃ d r,s.data=d::r:=by
    cases hd:s.data with
    |nil=>exact absurd hd (YD Bx)
    |cons d r=>exact⟨d,r,rfl⟩
   have eg:R=.run { s with data:=((d * 10+c-48) % 4294967296)::r }:=by rw[<-ef];unfold jC;rw[zp Bx,Ad]
   subst eg;have DS:s.data.length=r.length+1:=by rw[Ad];rfl
   have Rh:(us r.reverse).length=r.length:=by rw[tv,length_reverse]
   have GD:us s.data.reverse=us r.reverse++us [d]:=by rw[Ad,reverse_cons,Hy]
   rw[GD] at hm;obtain⟨b,cap,spare,h1,h2,Ez,Th⟩:=jb.addr hm (by simp[us]);have nr:(us r.reverse++us [d]).length=r.length+1:=by rw[ua,Rh];rfl
   have zh:(us r.reverse++us [d]).flatMap LV.cells=us r.reverse++us [d]:=by rw[<-Hy];exact JH _
   rw[zh,Xc] at h2;rw[nr] at h1 Ez Th;subst h1 h2;have vp:IntKind.u32.wrap (IntKind.u32.wrap (IntKind.u32.wrap ((d:Int) * 10)+(c:Int))-48)=(((d * 10+c-48) % 4294967296:Nat):Int):=by rw[Aq,Aq,Aq];omega
   refine cD (m:=18) rfl [(k.mb,da.cells 62 ((k.mf s st false vc vo).cells (.slice (some ⟨b,0,none⟩) (r.length+1) cap)))]<|ft ?_;refine aT 3 rfl rfl (pL (c:=.atom _) rfl yb rfl)<|aT 4 rfl rfl (pM (lv:=.atom _) rfl)<|aT 5 rfl rfl (pM (lv:=.atom _) rfl)<|aT 6 rfl rfl (pN rfl)<|aT 7 rfl rfl (pF rfl)<|aT 8 rfl rfl (pL (c:=.atom _) rfl yb rfl)<|aT 9 rfl rfl (pM (lv:=.atom _) rfl)<|aT 10 rfl rfl (Pure.vb (o:=r.length) rfl rfl zo zo zo)<|aT 13 rfl rfl (pM (lv:=.atom _) rfl)<|aL ?_ dc;refine lO 11 (lH rfl rfl (pL (c:=u32 d) rfl Ff (by rw[List.getElem?_append_right zo,Rh,sub_self];rfl)) ?_);refine lO 12 (lH rfl rfl (Pure.pD rfl rfl) ?_);refine lO 14 (lH rfl rfl (Pure.Tw rfl rfl) ?_);refine lO 15 (lH rfl rfl (Pure.Zu rfl rfl) ?_);refine lO 16 (lH rfl rfl (Pure.vb (o:=r.length) rfl rfl zo zo zo) ?_);refine Dh (i:=17) zk ?_;refine lS (H1:=[_]) (F:=_::(k.cf s.mem::k.kf::(HC++HO))) rfl (.inl rfl) rfl uc dc ?_;refine(sS (vs:=[u32 ((d * 10+c-48) % 4294967296)]) (Ya:=us r.reverse++(u32 ((d * 10+c-48) % 4294967296)::spare)) rfl pH (by show some [int .u32 _]=some [int .u32 _];rw[<-vp]) rfl (by rw[ble_eq,ua,Rh,ua];show r.length+1<=r.length+(1+spare.length);omega) rfl (by
    have:=jP (us r.reverse) (us [d]++spare) 0 [u32 ((d * 10+c-48) % 4294967296)];rw[Rh,Nat.add_zero] at this;rw[this];show us r.reverse++(u32 _::Zc spare 0 [])=_;rw[DX]) ?_)
   refine lD zk ?_;refine oa ?_;have Ug:Ws k { s with data:=((d * 10+c-48) % 4294967296)::r } st false (((k.mb,.cells 62 ((k.mf s st false vc vo).cells (.slice (some ⟨b,0,none⟩) (r.length+1) cap)))::[(b,.cells 33 (us r.reverse++(u32 ((d * 10+c-48) % 4294967296)::spare)))])++(k.cf s.mem::k.kf::(HC++HO))):=
    mk _ _ ⟨_,_,by
     have:=FO (el:=33) (b:=b) (m:=r.length+1) (cap:=cap) (l:=(((d * 10+c-48) % 4294967296)::r).reverse) (spare:=spare) (by simp) zo zo;rw[reverse_cons,Hy,Xc] at this;rw[reverse_cons,Hy];exact this,rfl⟩
   exact rO hj rN ⟨[],by rw[Qb];exact Km _ _ _⟩ ⟨rfl,Ug⟩
  have xp:IntKind.u32.wrap ((c:Int)-48)=((c-48:Nat):Int):=by rw[Aq];omega
  have eg:um (c-48) s=R:=by rw[<-ef];unfold jC;have ZS:s.digit=false:=Bx;rw[zn (by rw[ZS];decide)]
  unfold um at eg;refine Dc ?_;refine ca (Pure.Zu rfl rfl)<|oS (S.push (v:=c-48) (by show [_,int .u32 _]=[_,int .u32 _];rw[<-xp];rfl) qb Xg Lh (λwa Ie yf=>?_) λwa Ie yf e' ya=>?_);rw[zp wa] at eg;subst eg;refine oa ?_;exact rO hj rN Ma ⟨rfl,mk _ _ yf⟩;rw[zn wa] at eg;subst eg;refine Rc ?_;exact oc.panic (ya.trans hj) Ma (Am _ _ yf)
 have mJ:¬ Po c=true:=by rw[Vg];decide
 refine Ga.seq ?_;refine cC [(0,ptr k.mb 0),(1,u32 c),(14,u32 c),(78,bool (decide (c=32∨c=10)))] ?_ λj2 Ub=>?_;refine Yg ?_;refine sa (λhc=>?_) λc0=>?_;refine oa ?_;exact⟨⟨rfl,rfl,rfl,Ed (hc.trans (Eg (by have:=zt hc;omega)).symm),trivial⟩,rfl,rfl⟩;refine Yg ?_;exact⟨⟨rfl,rfl,rfl,Ed (by have:=zf c0;rw[decide_eq_decide];omega),trivial⟩,rfl,rfl⟩;have Gg:=Ub.trans hj;refine sa (λhc=>?_) λc0=>?_;have dT:=zt hc
 have eg:R=.run s:=by rw[<-hR];unfold Qi;rw[zn mJ,zp dT]
 subst eg;refine oa ?_;exact rO Gg rN Ma ⟨rfl,mk _ _ Xg⟩;have hw0:=zf c0;refine Yg ?_;refine sa (λhc=>?_) λc1=>?_
 ·obtain rfl:c=64:=by have:=zt hc;omega
  have ef:tD s=R:=hR;refine cD (m:=10) rfl []<|Sz ?_;refine aT 5 rfl rfl (pM (lv:=.atom _) rfl)<|aL ?_ Fc;refine cm (i:=4) (j:=6) zk ?_ ?_
  ·refine lH rfl rfl (pL (c:=.atom (Pv k)) rfl yb rfl) ?_;refine Dh (i:=6) zk ?_;refine lW rfl (.inl rfl) rfl (S.address rfl qb Xg Lh (λa r Ad ha Ie yf=>?_) λhb d Ie yf e' ya=>?_);rotate_left;exact nG
   have eg:um (s.mem a) { s with data:=r }=R:=by rw[<-ef];unfold tD;rw[Ad];simp only;rw[zp ha]
   unfold um at eg;simp only at eg;have Rh:r.length<=256:=by rw[Ad,Oa] at Lh;omega
   have nE:=yf;obtain⟨oU,y3,Wg,rfl⟩:=nE;refine Xx ?_;refine lO 8 (lH rfl rfl (pL (c:=u32 (s.mem a)) rfl (mem_append_right _ yb) (NH _ ha)) ?_);refine lO 9 (lW rfl (.inl rfl) rfl (S.push (v:=s.mem a) rfl qb yf Rh (λwa oq ri=>?_) λwa oq ri e' ya=>?_));rw[zp wa] at eg;subst eg;refine lD zk ?_;refine oa ?_;exact rO Gg rN Ma ⟨rfl,mk _ _ ri⟩;rw[zn wa] at eg;subst eg;refine Rc ?_;exact oc.panic (ya.trans Gg) Ma (Am _ _ ri)
  refine lW rfl (.inl rfl) rfl (S.address rfl qb Xg Lh (λa r Ad ha Ie yf=>?_) λhb d Ie yf e' ya=>?_);rotate_left;exact nG
  have eg:um (s.mem a) { s with data:=r }=R:=by rw[<-ef];unfold tD;rw[Ad];simp only;rw[zp ha]
  unfold um at eg;simp only at eg;have Rh:r.length<=256:=by rw[Ad,Oa] at Lh;omega
  have nE:=yf;obtain⟨oU,y3,Wg,rfl⟩:=nE;refine lO 4 (lH rfl rfl (pL (c:=.atom (Pv k)) rfl yb rfl) ?_);refine Xx ?_;refine lO 8 (lH rfl rfl (pL (c:=u32 (s.mem a)) rfl (mem_append_right _ yb) (NH _ ha)) ?_);refine lO 9 (lW rfl (.inl rfl) rfl (S.push (v:=s.mem a) rfl qb yf Rh (λwa oq ri=>?_) λwa oq ri e' ya=>?_));rw[zp wa] at eg;subst eg;refine lD zk ?_;refine oa ?_;exact rO Gg rN Ma ⟨rfl,mk _ _ ri⟩;rw[zn wa] at eg;subst eg;refine Rc ?_;exact oc.panic (ya.trans Gg) Ma (Am _ _ ri)
 have n64:=zf c1;refine Yg ?_;refine sa (λhc=>?_) λc2=>?_
 ·obtain rfl:c=33:=by have:=zt hc;omega
  have ef:Um s=R:=hR;refine Dc ?_;refine oS (S.address rfl qb Xg Lh (λa r Ad ha Ie yf=>?_) λhb d Ie yf e' ya=>?_);rotate_left
  have Ej:R=.Pd s:=by
   rw[<-ef];unfold Um;cases hd:s.data with
   |nil=>rfl
   |cons x r=>
    cases r with
    |nil=>rfl
    |cons y r=>simp only;rw[zn (hb x _ hd)]
  subst Ej;refine Rc ?_;exact oc.panic (ya.trans Gg) Ma (Am _ _ yf);have Rh:r.length<=256:=by rw[Ad,Oa] at Lh;omega
  have mE:=yf;obtain⟨oU,y3,Wg,rfl⟩:=mE;refine fj ?_;refine cD (m:=9) rfl []<|ft ?_;refine aT 4 rfl rfl (pM (lv:=.atom _) rfl)<|aT 5 rfl rfl (pM (lv:=.atom _) rfl)<|aL ?_ Fc;refine cm (i:=3) (j:=6) zk ?_ ?_
  ·refine lH rfl rfl (pL (c:=.atom (Pv k)) rfl yb rfl) ?_;refine Dh (i:=6) zk ?_;refine lW rfl (.inl rfl) rfl (S.pop rfl qb yf Rh (λv r2 Nn oq ri=>?_) λhb oq ri e' ya=>?_);rotate_left
   have Ej:R=.Pd s:=by rw[<-ef];unfold Um;rw[Ad,hb]
   subst Ej;refine Rc ?_;exact oc.panic (ya.trans Gg) Ma (Am _ _ ri);have eg:R=.run { s with data:=r2,mem:=λi=>if i=a then v else s.mem i }:=by rw[<-ef];unfold Um;rw[Ad,Nn];simp only;rw[zp ha]
   subst eg;have WJ:=ri;obtain⟨yo,gj,Dm,rfl⟩:=WJ;refine Xx ?_;refine lO 8 (lW rfl (.inl rfl) rfl (sS (n:=1) (vs:=[u32 v]) (Ya:=Ii λi=>if i=a then v else s.mem i) rfl (show Ec _ _ _ from List.perm_middle) rfl rfl (by rw[ble_eq,VH];omega) rfl (yP _ _ _) ?_));refine lD zk ?_;refine oa ?_;exact rO Gg rN ⟨[],by rw[Qb];exact List.perm_middle.symm⟩ ⟨rfl,vc,HC,vo,HO,_,hC,hO,ri,rfl⟩
  refine lW rfl (.inl rfl) rfl (S.pop rfl qb yf Rh (λv r2 Nn oq ri=>?_) λhb oq ri e' ya=>?_);rotate_left
  have Ej:R=.Pd s:=by rw[<-ef];unfold Um;rw[Ad,hb]
  subst Ej;refine Rc ?_;exact oc.panic (ya.trans Gg) Ma (Am _ _ ri);have eg:R=.run { s with data:=r2,mem:=λi=>if i=a then v else s.mem i }:=by rw[<-ef];unfold Um;rw[Ad,Nn];simp only;rw[zp ha]
  subst eg;have WJ:=ri;obtain⟨yo,gj,Dm,rfl⟩:=WJ;refine lO 3 (lH rfl rfl (pL (c:=.atom (Pv k)) rfl yb rfl) ?_);refine Xx ?_;refine lO 8 (lW rfl (.inl rfl) rfl (sS (n:=1) (vs:=[u32 v]) (Ya:=Ii λi=>if i=a then v else s.mem i) rfl (show Ec _ _ _ from List.perm_middle) rfl rfl (by rw[ble_eq,VH];omega) rfl (yP _ _ _) ?_));refine lD zk ?_;refine oa ?_;exact rO Gg rN ⟨[],by rw[Qb];exact List.perm_middle.symm⟩ ⟨rfl,vc,HC,vo,HO,_,hC,hO,ri,rfl⟩
 have n33:=zf c2;refine Yg ?_;refine sa (λhc=>?_) λc3=>?_
 ·obtain rfl:c=63:=by have:=zt hc;omega
  have ef:Tq s=R:=hR;refine Dc ?_;refine oS (S.pop rfl qb Xg Lh (λt r Ad Ie yf=>?_) λhb Ie yf e' ya=>?_);rotate_left
  have Ej:R=.Pd s:=by rw[<-ef];unfold Tq;rw[hb]
  subst Ej;refine Rc ?_;exact oc.panic (ya.trans Gg) Ma (Am _ _ yf);have Rh:r.length<=256:=by rw[Ad,Oa] at Lh;omega
  refine fg ?_;refine oS (S.pop rfl qb yf Rh (λv r2 Nn oq ri=>?_) λhb oq ri e' ya=>?_);rotate_left
  have Ej:R=.Pd s:=by rw[<-ef];unfold Tq;rw[Ad,hb]
  subst Ej;refine Rc ?_;exact oc.panic (ya.trans Gg) Ma (Am _ _ ri);have eg:R=.run { s with data:=r2,pc:=if v=0 then t else s.pc }:=by rw[<-ef];unfold Tq;rw[Ad,Nn]
  obtain⟨yo,gj,Dm,rfl⟩:=ri;refine oa ?_;refine sa (λhv=>?_) λhv=>?_;have PI:v=0:=by have:=zt hv;omega
  rw[zp PI] at eg;subst eg;refine ja ?_;exact rO Gg rN Ma ⟨rfl,vc,HC,vo,HO,_::gj,hC,hO,⟨yo,gj,Dm,rfl⟩,rfl⟩;have PI:¬ v=0:=by have:=zf hv;omega
  rw[zn PI] at eg;subst eg;refine oa ?_;exact rO Gg rN Ma ⟨rfl,mk _ _ ⟨yo,gj,Dm,rfl⟩⟩
 have n63:=zf c3;refine Yg ?_;refine sa (λhc=>?_) λc4=>?_
 ·obtain rfl:c=58:=by have:=zt hc;omega
  have ef:iC s=R:=hR;refine Dc ?_;refine oS (S.pop rfl qb Xg Lh (λt r Ad Ie yf=>?_) λhb Ie yf e' ya=>?_);rotate_left
  have Ej:R=.Pd s:=by rw[<-ef];unfold iC;rw[hb]
  subst Ej;refine Rc ?_;exact oc.panic (ya.trans Gg) Ma (Am _ _ yf);have mE:=yf;obtain⟨yo,gj,Dm,rfl⟩:=mE;refine ia ?_;refine ca (Pure.qn rfl hC)<|oa ?_;refine oS (S.check rfl (λhb=>?_) λhb e' ya=>?_);rotate_left;have wa:¬ s.calls.length<64:=by have:=zf hb;omega
  have Ej:R=.Pd s:=by rw[<-ef];unfold iC;rw[Ad];simp only;rw[zn wa]
  subst Ej;refine Rc ?_;exact oc.panic (ya.trans Gg) Ma (Am _ _ yf);have wa:s.calls.length<64:=by have:=zt hb;omega
  have eg:R=.run { s with data:=r,calls:=s.pc::s.calls,pc:=t }:=by rw[<-ef];unfold iC;rw[Ad];simp only;rw[zp wa]
  subst eg;refine oa ?_;refine cD (m:=14) rfl []<|Sz ?_;refine aT 5 rfl rfl (pM (lv:=.atom _) rfl)<|aT 6 rfl rfl (pN rfl)<|aT 7 rfl rfl (pF rfl)<|aL ?_ Fc;refine cm (i:=4) (j:=8) zk ?_ ?_;refine lH rfl rfl (pL (c:=.atom vc) rfl yb rfl)<|Dh (i:=8) zk ?_;refine lH rfl rfl (pL (c:=u32 s.pc) rfl yb rfl)<|Dh (i:=9) zk ?_;refine Vu ?_;exact mN;refine lH rfl rfl (pL (c:=u32 s.pc) rfl yb rfl)<|cm (i:=4) (j:=9) zk ?_ ?_;refine lH rfl rfl (pL (c:=.atom vc) rfl yb rfl)<|Dh (i:=9) zk ?_;refine Vu ?_;exact mN;refine Vu ?_;refine Dh (i:=4) zk ?_;refine lH rfl rfl (pL (c:=.atom vc) rfl yb rfl) ?_;exact mN
 have n58:=zf c4;refine Yg ?_;refine sa (λhc=>?_) λc5=>?_
 ·obtain rfl:c=59:=by have:=zt hc;omega
  have ef:ju s=R:=hR;refine ia ?_;refine ca (Pure.qn rfl hC)<|ja ?_;refine oS (S.check rfl (λhb=>?_) λhb e' ya=>?_);rotate_left
  have Vl:s.calls=[]:=by have:=zf hb;exact List.length_eq_zero_iff.1 zo
  have Ej:R=.Pd s:=by rw[<-ef];unfold ju;rw[Vl]
  subst Ej;refine Rc ?_;exact oc.panic (ya.trans Gg) Ma (Am _ _ Xg);obtain⟨t,r,Ad⟩:∃ t r,s.calls=t::r:=by
   cases hd:s.calls with
   |nil=>have:=zt hb;rw[hlc,hd] at this;simp at this
   |cons t r=>exact⟨t,r,rfl⟩
  have eg:R=.run { s with calls:=r,pc:=t }:=by rw[<-ef];unfold ju;rw[Ad]
  subst eg;have DS:s.calls.length=r.length+1:=by rw[Ad];rfl
  have Rh:(us r.reverse).length=r.length:=by rw[tv,length_reverse]
  have GD:us s.calls.reverse=us r.reverse++us [t]:=by rw[Ad,reverse_cons,Hy]
  have U2:=hC;rw[GD] at U2;obtain⟨b,cap,spare,h1,h2,Ez,Th⟩:=jb.addr U2 (by simp[us]);have nr:(us r.reverse++us [t]).length=r.length+1:=by rw[ua,Rh];rfl
  have zh:(us r.reverse++us [t]).flatMap LV.cells=us r.reverse++us [t]:=by rw[<-Hy];exact JH _
  rw[zh,Xc] at h2;rw[nr] at h1 Ez Th;subst h1 h2;refine ja ?_;refine ca (Pure.vb (o:=r.length) rfl rfl zo zo zo)<|ca (pL (c:=u32 t) rfl (ic (mem_append_right _ Hr)) (by rw[List.getElem?_append_right zo,Rh,sub_self];rfl)) ?_;refine ja ?_;refine ca (Pure.mh (n:=r.length) rfl (by exact bf zo) zo)<|za ?_;exact rO Gg rN Ma ⟨rfl,_,_,vo,HO,_::Xs,FO (l:=r.reverse) (spare:=us [t]++spare) (by rw[length_reverse]) zo (by rw[ua,tv];simp only[List.length_singleton];omega),hO,⟨vd,Xs,hm,rfl⟩,rfl⟩
 have n59:=zf c5;refine Yg ?_;refine sa (λhc=>?_) λc6=>?_
 ·obtain rfl:c=44:=by have:=zt hc;omega
  have ef:jH s=R:=hR;unfold jH at ef;refine ja ?_;cases hi:s.we with
  |nil=>
   rw[hi] at ef;unfold um at ef;have e0:(us (k.mf s st false vc vo).we).length=0:=by show(us s.we).length=0;rw[hi];rfl
   refine sa (λhc=>?_) λ_=>?_;have:=zt hc;omega;refine ia ?_;refine oS (S.push (v:=4294967295) rfl qb Xg Lh (λwa Ie yf=>?_) λwa Ie yf e' ya=>?_);rw[zp wa] at ef;subst ef;refine oa ?_;exact rO Gg rN Ma ⟨rfl,mk _ _ yf⟩;rw[zn wa] at ef;subst ef;refine Rc ?_
   exact oc.panic (ya.trans Gg) Ma (Am _ _ yf)
  |cons v r=>
   rw[hi] at ef;unfold um at ef;simp only at ef;have aak:(us (k.mf s st false vc vo).we).length=r.length+1:=by show(us s.we).length=_;rw[hi];simp[us]
   refine sa (λ_=>?_) λhc=>?_;rotate_left;have:=zf hc;omega;refine ja ?_;refine ca (xR (ad:=u32 v) (cs:=[u32 v]) rfl rfl ra (by show(us s.we)[0]? = _;rw[hi];rfl) rfl rfl) ?_;refine ja ?_;refine ca (Pure.rn (ms:=us r) rfl ⟨_,rfl⟩ rfl zo zo zo (fW _) (by show List.drop _ (List.take ((us s.we).length:Int).toNat (us s.we))=us r;rw[hi];simp[us,List.take_of_length_le])) ?_;refine ja ?_;have hD5:DH (k.mf { s with we:=r } st false vc vo) s.data ((k.mb,.cells 62 ((k.mf { s with we:=r } st false vc vo).cells vd))::Xs):=⟨vd,Xs,hm,rfl⟩;have D0:∀ (d:List Nat) (Ie:Heap),DH (k.mf { s with we:=r } st false vc vo) d Ie->Ws k { s with we:=r,data:=d } st false (Ie++(k.cf s.mem::k.kf::(HC++HO))):=λd Ie h=>⟨vc,HC,vo,HO,Ie,hC,hO,h,rfl⟩;refine oS (S.push (v:=v) rfl qb hD5 Lh (λwa Ie yf=>?_) λwa Ie yf e' ya=>?_);rw[zp wa] at ef;subst ef;refine oa ?_;exact rO Gg rN Ma ⟨rfl,D0 _ _ yf⟩;rw[zn wa] at ef;subst ef;refine Rc ?_;exact oc.panic (ya.trans Gg) Ma (OU (s:={ s with we:=r,data:=s.data }) rfl (D0 _ _ yf))
 have n44:=zf c6;refine Yg ?_;refine sa (λhc=>?_) λc7=>?_
 ·obtain rfl:c=46:=by have:=zt hc;omega
  have ef:Tz s=R:=hR;refine cD (m:=13) rfl []<|Sz ?_;refine aT 5 rfl rfl (pM (lv:=.atom _) rfl)<|aL ?_ Fc;refine cm (i:=4) (j:=6) zk ?_ ?_
  ·refine lH rfl rfl (pL (c:=vo) rfl yb rfl) ?_;refine Dh (i:=6) zk ?_;refine lW rfl (.inl rfl) rfl (S.pop rfl qb Xg Lh (λv r Ad Ie yf=>?_) λhb Ie yf e' ya=>?_);rotate_left
   have Ej:R=.Pd s:=by rw[<-ef];unfold Tz;rw[hb]
   subst Ej;refine Rc ?_;exact oc.panic (ya.trans Gg) Ma (Am _ _ yf);have eg:R=.run { s with data:=r,out:=s.out++[UInt8.ofNat v] }:=by rw[<-ef];unfold Tz;rw[Ad]
   subst eg;obtain⟨yo,gj,Dm,rfl⟩:=yf;have e1:jf s.out++[int .u8 (IntKind.u8.wrap (v:Int))]=jf (s.out++[UInt8.ofNat v]):=by rw[NW,CO];rfl
   have Cn:((jf s.out).length+[int .u8 (IntKind.u8.wrap (v:Int))].length) * 1<=140737488355328:=by simp only[EL,Oa,Eb];omega
   exact AG
  refine lW rfl (.inl rfl) rfl (S.pop rfl qb Xg Lh (λv r Ad Ie yf=>?_) λhb Ie yf e' ya=>?_);rotate_left
  have Ej:R=.Pd s:=by rw[<-ef];unfold Tz;rw[hb]
  subst Ej;refine Rc ?_;exact oc.panic (ya.trans Gg) Ma (Am _ _ yf);have eg:R=.run { s with data:=r,out:=s.out++[UInt8.ofNat v] }:=by rw[<-ef];unfold Tz;rw[Ad]
  subst eg;obtain⟨yo,gj,Dm,rfl⟩:=yf;have e1:jf s.out++[int .u8 (IntKind.u8.wrap (v:Int))]=jf (s.out++[UInt8.ofNat v]):=by rw[NW,CO];rfl
  have Cn:((jf s.out).length+[int .u8 (IntKind.u8.wrap (v:Int))].length) * 1<=140737488355328:=by simp only[EL,Oa,Eb];omega
  refine cm (i:=4) (j:=7) zk ?_ ?_;refine lH rfl rfl (pL (c:=vo) rfl yb rfl) ?_;exact AG;refine lH rfl rfl (Pure.yE rfl)<|cm (i:=4) (j:=8) zk ?_ ?_;refine lH rfl rfl (pL (c:=vo) rfl yb rfl)<|NG ?_;refine lW rfl (.inl rfl) rfl (sG (A:=_::(gj++(k.cf s.mem::k.kf::HC))) OE rfl hO rfl (λv hv=>by rw[wh hv];rfl) rfl Cn λv' H' Ra=>?_);rw[e1] at Ra;refine nN ?_;exact rO Gg rN ⟨[],by rw[Qb];exact dd.trans OE.symm⟩ ⟨rfl,vc,HC,v',H',_::gj,hC,Ra,⟨yo,gj,Dm,rfl⟩,rfl⟩;refine lW rfl (.inl rfl) rfl (sL (es:=[int .u8 (IntKind.u8.wrap (v:Int))]) [_] rfl (rc rfl rfl Tf) rfl rfl rfl ?_);refine Dh (i:=4) zk ?_;refine lH rfl rfl (pL (c:=vo) rfl yb rfl)<|Dh (i:=9) zk ?_;refine lW rfl (.inl rfl) rfl (sG (A:=_::(gj++(k.cf s.mem::k.kf::HC))) OE rfl hO rfl (λv hv=>by rw[wh hv];rfl) rfl Cn λv' H' Ra=>?_);rw[e1] at Ra;refine nN ?_;exact rO Gg rN ⟨[],by rw[Qb];exact dd.trans OE.symm⟩ ⟨rfl,vc,HC,v',H',_::gj,hC,Ra,⟨yo,gj,Dm,rfl⟩,rfl⟩
 have n46:=zf c7;refine Yg ?_;refine sa (λhc=>?_) λc8=>?_
 ·obtain rfl:c=36:=by have:=zt hc;omega
  have eg:R=.stop 0 s.out:=hR.symm;subst eg;refine ja ?_;exact rO Gg rN Ma ⟨s,rfl,by rw[zp rfl];exact⟨rfl,vc,HC,vo,HO,_::Xs,hC,hO,⟨vd,Xs,hm,rfl⟩,rfl⟩⟩
 have n36:=zf c8;have jB:∀ r,(if c=43∨c=45∨c=42∨c=47∨c=37∨c=94∨c=60 then iD c s else MR.Pd s)=r->R=r:=λr hr=>by rw[<-hR,<-hr];unfold Qi;rw[zn mJ,zn hw0,zn zo,zn zo,zn zo,zn zo,zn zo,zn zo,zn zo,zn zo]
 by_cases Zf:c=43∨c=45∨c=42∨c=47∨c=37∨c=94∨c=60;rotate_left;have Ej:=jB _ (zn Zf);subst Ej;refine ia ?_;refine ca (Pure.Zo (zv:=.nilFunc) (kt:=33) (el:=113) (kd:=.u32) zk zk (λw=>(Go.zero_of_info (P:=Tryz.prog) (n:=1) zk).1 w) rfl rfl (ic (mem_append_right _ Ff)) (W8 Zf))<|ia ?_;refine oS (S.check rfl (λhb=>?_) λhb e' ya=>?_);cases hb;refine Rc ?_;exact oc.panic (ya.trans Gg) Ma (Am _ _ Xg);have ef:=jB _ (zp Zf)
 have vp:∀ (a b:Nat) (r:List Nat),s.data=b::a::r->a<4294967296/\b<4294967296:=λa b r hd=>by have h1:=He.data;rw[hd] at h1;exact⟨h1 a (Sc _ rf),h1 b rf⟩
 obtain⟨jj,f,X1,ZF,_⟩:=fY (B0:=B0) (w0:=w0) Zf (a:=0) (b:=0) ra ra;refine ia ?_;refine ca (Pure.Oq (kt:=33) (el:=113) (kd:=.u32) zk zk rfl rfl (ic (mem_append_right _ Ff)) X1)<|ia ?_;refine oS (S.check rfl (λhb=>?_) λhb e' ya=>?_);rotate_left;cases hb;refine qg ?_;refine oS (S.pop rfl qb Xg Lh (λb r Ad Ie yf=>?_) λhb Ie yf e' ya=>?_);rotate_left
 have Ej:R=.Pd s:=by rw[ef];unfold iD;rw[hb]
 subst Ej;refine Rc ?_;exact oc.panic (ya.trans Gg) Ma (Am _ _ yf);have Rh:r.length<=256:=by rw[Ad,Oa] at Lh;omega
 refine fg ?_;refine oS (S.pop rfl qb yf Rh (λa r2 Nn oq ri=>?_) λhb oq ri e' ya=>?_);rotate_left
 have Ej:R=.Pd s:=by rw[ef];unfold iD;rw[Ad,hb]
 subst Ej;refine Rc ?_;exact oc.panic (ya.trans Gg) Ma (Am _ _ ri);have sz:r2.length<=256:=by rw[Nn,Oa] at Rh;omega
 obtain⟨ha,hb4⟩:=vp a b r2 (by rw[Ad,Nn]);obtain⟨jj2,f2,U1,hf4,VI⟩:=fY (B0:=B0) (w0:=w0) Zf ha hb4;obtain rfl:f=f2:=by rw[X1] at U1;injection U1 with h1;injection h1 with h1;injection h1 with h1 h2;injection h2 with h2;injection h2
 have Bw:(match zr c a b with
   |some v=>um v { s with data:=r2 }
   |none=>MR.Pd s)=R:=by
  rw[ef];unfold iD;rw[Ad,Nn];rfl
 refine fg ?_;refine oS (S.Rf (f:=f) (first:=#[]) (La:=#[]) (H1:=oq++(k.cf s.mem::k.kf::(HC++HO))) (F:=[]) [_,_] rfl rfl (by rw[Qb]) (VI _) ?_ ?_);rintro v H' ⟨rfl,h⟩;cases dE:zr c a b with
 |none=>rw[dE] at h;cases h
 |some w=>rw[dE] at h Bw;cases h;simp only at Bw;unfold um at Bw;simp only at Bw;rw[Qb];refine oS (S.push (v:=w) rfl qb ri sz (λwa gj mE=>?_) λwa gj mE e' ya=>?_);rw[zp wa] at Bw;subst Bw;refine oa ?_;exact rO Gg rN Ma ⟨rfl,mk _ _ mE⟩;rw[zn wa] at Bw;subst Bw;refine Rc ?_;exact oc.panic (ya.trans Gg) Ma (Am _ _ mE)
 rintro ch H' ⟨rfl,h⟩ e' ya;cases dE:zr c a b with
 |some w=>rw[dE] at h;cases h
 |none=>rw[dE] at h Bw;cases h;simp only at Bw;subst Bw;rw[Qb];refine Rc ?_;exact oc.panic (ya.trans Gg) Ma (Am _ _ ri)
open Nh (u32 Same Zk Aq My)
variable{og:Nat}
theorem M'(w:World):(zeroValue 116).run Tryz.prog w=.ok (.agg ([]:List Value).toArray) w:=
 (Go.zero_of_info (P:=Tryz.prog) (n:=0) zk).1 w
theorem o7{s':MS}(h:Qi c s=.run s'):s'.out.length<=s.out.length+1:=by
 have push:∀ (v:Nat) (t:MS),um v t=.run s'->t.out=s.out->s'.out.length<=s.out.length+1:=λv t h ht=>by unfold um at h;split at h;injection h with h;subst h;show t.out.length<=_;rw[ht];omega;cases h
 unfold Qi at h;split at h;unfold jC at h;split at h;split at h;exact uo;cases h;exact push _ _ h rfl;split at h;injection h with h;subst h;omega;split at h;unfold tD at h;split at h;split at h;exact push _ _ h rfl;cases h;cases h;split at h;unfold Um at h;split at h;split at h;exact uo;cases h;cases h;split at h;unfold Tq at h;split at h;exact uo;cases h;split at h;unfold iC at h;split at h;split at h;exact uo;cases h;cases h;split at h;unfold ju at h;split at h;exact uo;cases h;split at h;unfold jH at h;split at h;exact push _ _ h rfl;exact push _ _ h rfl;split at h;unfold Tz at h;split at h;exact uo;cases h;split at h;cases h;split at h;unfold iD at h;split at h;split at h;exact push _ _ h rfl;cases h;cases h;cases h
theorem nq.exit{Q:Ob}{e:Env}{H:Heap}{id:Nat}(h:Q (.exit id) e H):nq Q (.exit id) e H:=h
attribute [local irreducible] Lg Re Dq lk
theorem YK(b:Nat)(d:LV):lk (KC B0 w0) 48 [ptr b 0] .returning [(b,.cells 24 [d])]
  (λu H=>u=.returning/\H=[(b,.cells 24 [d])]):=by
 refine lk.intro Tryz.func48 rfl (n:=14) rfl rfl rfl ?_;refine dt ?_;refine Dc ?_;refine ca (Zg.Pure.Im M' rfl)<|za ?_;refine oS (yc λb5=>?_);refine ja ?_;refine sa (λhc=>?_) λhc=>?_;cases hc;refine ja ?_;refine sa (λhc=>?_) λhc=>?_;cases hc;refine oa ?_;exact⟨rfl,_,fe Ma,rfl,rfl⟩
theorem iL(b:Nat)(d:LV):lk (KC B0 w0) 48 [ptr b 0] (.panicking Mr) [(b,.cells 24 [d])]
  (λu H=>settle u=.returning/\H=[(b,.cells 24 [int .i64 12])]):=by
 refine lk.intro Tryz.func48 rfl (n:=14) rfl rfl rfl ?_;refine dt ?_;refine Dc ?_;refine ca (Pure.xl (vs:=[]) rfl)<|za ?_;refine oS (yc λb5=>?_);refine ja ?_;refine sa (λhc=>?_) λhc=>?_;refine ja ?_;exact⟨rfl,_,Ab pH Fc,rfl,rfl⟩;cases hc
def vK(k:MK)(st:Nat)(o:Wd)(H:Heap):Prop:=∃ s stop,s.out=o/\Ws k s st stop H
theorem qF(k:MK){me:Nat}(He:ni s)(YD:s.digit=true->s.data≠[])(Ug:st<=me)(Bp:me<=100000000)(Dn:s.out.length<=st)(h:Ws k s st false H) :
  aa (KC B0 w0) 18 [ptr k.mb 0,int .i64 (me:Nat)] H (λr H'=>vK k (st+(runM (me-st) s).2.2) (runM (me-st) s).2.1 H'/\r=.ret (int .i64 ((runM (me-st) s).1:Nat))):=by
 generalize hR:runM (me-st) s=R;refine aa.Uq Tryz.func18 rfl (n:=59) rfl rfl rfl ?_;refine ak ?_;refine Pc ?_;refine oS (yc λb4=>?_);refine ig ?_;refine rq ?_;refine Lg.defer rfl rfl ?_;refine Om ?_;refine Re.seq ?_;refine Re.block ?_;refine Re.HI (λkk ls H'=>∃ (i:Nat) (s1:MS) (H1:Heap),i<=me/\st<=i/\kk=me-i/\ls=[(0,ptr k.mb 0),(1,int .i64 (me:Nat)),(4,ptr b4 0)]/\H'=(b4,.cells 24 [int .i64 0])::H1/\Ws k s1 i false H1/\ni s1/\(s1.digit=true->s1.data≠[])/\s1.out.length<=i/\(runM (me-i) s1).1=R.1/\(runM (me-i) s1).2.1=R.2.1/\i+(runM (me-i) s1).2.2=st+R.2.2)
  ⟨_,_,_,⟨st,s,H,Ug,mc _,rfl,rfl,rfl,h,He,YD,Dn,by rw[hR],by rw[hR],by rw[hR]⟩,Qa,kb _⟩ ?_
 rintro kk ls H' ⟨i,s1,H1,hi,lB,rfl,rfl,rfl,hS,dr,KJ,z1,e1,e2,e3⟩ j hj;obtain⟨vc,HC,vo,HO,HD,hC,hO,hD,rfl⟩:=hS;have Xg:=hD;obtain⟨vd,Xs,hm,rfl⟩:=hD;rw[List.cons_append];have aag:(k.mf s1 i false vc vo).st=i:=rfl;have aah:(k.mf s1 i false vc vo).pc=s1.pc:=rfl;refine ak ?_;refine ja ?_;refine sa (λhc=>?_) λhc=>?_;rotate_left
 ·have zJ:i=me:=by have:=zf hc;omega
  subst zJ;rw[sub_self,runM] at e1 e2 e3;simp only at e1 e2 e3;refine Ga.exit ?_;refine nq.exit ?_;refine oa ?_;refine Re.of ?_;refine ja ?_;first|refine nq.ret ?_|skip
  exact Kq.Ag (vs:=[int .i64 13]) (H2:=[(b4,.cells 24 [int .i64 13])]) hj qb (YK b4 _)
   (rC (qj.Rb rfl yb rfl fc) rN) (fe Ma) ⟨⟨s1,false,e2,by rw[<-e3,Nat.add_zero];exact⟨vc,HC,vo,HO,_,hC,hO,Xg,rfl⟩⟩,by rw[<-e1];rfl⟩
 have zJ:i<me:=by have:=zt hc;omega
 have hn:me-i=(me-(i+1))+1:=by omega
 rw[hn,runM] at e1 e2 e3;refine Ga.skip ?_;first|refine nq.normal ?_|skip
 refine Re.block ?_;refine ak ?_;refine ja ?_;first|refine nq.normal ?_|skip
 refine Re.db (H':=(b4,.cells 24 [int .i64 0])::(k.mb,.cells 62 ((k.mf s1 (i+1) false vc vo).cells vd))::(Xs++(k.cf s1.mem::k.kf::(HC++HO)))) ⟨[],by rw[Qb];exact Km _ _ _⟩ ?_;have aS:Ws k s1 (i+1) false (((k.mb,.cells 62 ((k.mf s1 (i+1) false vc vo).cells vd))::Xs)++(k.cf s1.mem::k.kf::(HC++HO))):=⟨vc,HC,vo,HO,_,hC,hO,⟨vd,Xs,hm,rfl⟩,rfl⟩;have E1:(k.mf s1 (i+1) false vc vo).pc=s1.pc:=rfl;refine rq ?_;refine Lg.step (S.check rfl (λhb=>?_) λhb=>?_) rfl;rotate_left
 ·have uz:¬ s1.pc<262144:=by have:=zf hb;omega
  have hs:yy s1=.stop 12 s1.out:=by unfold yy;rw[zn uz];rfl
  rw[hs] at e1 e2 e3;simp only at e1 e2 e3;refine Rc ?_;exact Kq.nn (H1:=[(b4,.cells 24 [int .i64 0])]) (vs:=[int .i64 12]) (H2:=[(b4,.cells 24 [int .i64 12])]) hj qb (iL b4 _)
   (rC (qj.Rb rfl yb rfl fc) rN) (fe Ma) ⟨⟨s1,false,e2,by rw[<-e3];exact aS⟩,by rw[<-e1];rfl⟩
 have uz:s1.pc<262144:=by have:=zt hb;omega
 refine Om ?_;refine ak ?_;refine Pm ?_;refine qP (Pure.vb (o:=s1.pc) rfl rfl zo zo zo) rfl ?_;refine qP (pL (c:=u32 (s1.mem s1.pc)) rfl (ic (ic (mem_append_right _ yb))) (NH _ uz)) rfl ?_;refine za ?_;first|refine nq.normal ?_|skip
 refine ak ?_;refine ja ?_;refine ca (Pure.Tw rfl rfl)<|oa ?_;have hw:IntKind.u32.wrap ((s1.pc:Int)+1)=((s1.pc+1:Nat):Int):=by rw[Aq];omega
 refine oS (sS (n:=1) (vs:=[u32 (s1.pc+1)]) (Ya:=[_,_,_,_,_,_,_,_,_,_]) rfl uc (by show some [int .u32 _]=some [int .u32 _];rw[<-hw]) rfl rfl rfl rfl ?_);refine ig ?_;first|refine nq.normal ?_|skip
 generalize Fp:s1.mem s1.pc=c at *;have Qf:c<4294967296:=by rw[<-Fp];exact dr.mem _
 have jJ:ni { s1 with pc:=s1.pc+1 }:=⟨dr.mem,by show s1.pc+1<_;omega,dr.data,dr.calls,dr.we,dr.eu,dr.deep⟩;have hex:=qqX (B0:=B0) (w0:=w0) k (s:={ s1 with pc:=s1.pc+1 }) (st:=i+1) (c:=c) jJ Qf KJ (by show s1.out.length<=_;omega) (H:=((k.mb,.cells 62 ((k.mf { s1 with pc:=s1.pc+1 } (i+1) false vc vo).cells vd))::Xs)++(k.cf s1.mem::k.kf::(HC++HO))) ⟨vc,HC,vo,HO,_,hC,hO,⟨vd,Xs,hm,rfl⟩,rfl⟩;refine rq ?_;refine Lg.step (S.Bb (F:=[(b4,.cells 24 [int .i64 0])]) [_,_] rfl (dm _ (List.perm_append_singleton _ _).symm) hex ?_ ?_) rfl
 ·intro v H2 hP
  cases hx:Qi c { s1 with pc:=s1.pc+1 } with
  |run s2=>
   rw[hx] at hP;obtain⟨hv,dG⟩:=hP;cases hv;have hs:yy s1=.run { s2 with digit:=Po c }:=by unfold yy;rw[zp uz,Fp,hx]
   rw[hs] at e1 e2 e3;simp only at e1 e2 e3;have cr:=A6 jJ Qf hx;have fa:=o7 hx;have JJ:Po c=true->s2.data≠[]:=l5 hx;have Mi:s2.out.length<=i+1:=by have:s2.out.length<=s1.out.length+1:=fa;omega
   obtain⟨XG,tK,WG,rK,oq,T2,N2,ri,rfl⟩:=dG;obtain⟨yo,gj,Dm,rfl⟩:=ri;refine Om ?_;refine Re.db (H':=(b4,.cells 24 [int .i64 0])::(k.mb,.cells 62 ((k.mf s2 (i+1) false XG WG).cells yo))::(gj++(k.cf s2.mem::k.kf::(tK++rK)))) ⟨[],by rw[Qb];exact dd⟩ ?_;refine Re.of ?_;refine ja ?_;refine oC rfl (λhc=>by cases hc) λ_=>?_;refine ja ?_;have fin:∀ (dg:Bool),Po c=dg->Ws k { s2 with digit:=dg } (i+1) false (((k.mb,.cells 62 ((k.mf { s2 with digit:=dg } (i+1) false XG WG).cells yo))::gj)++(k.cf s2.mem::k.kf::(tK++rK)))/\ni { s2 with digit:=dg }/\(dg=true->s2.data≠[]):=λdg hd=>⟨⟨XG,tK,WG,rK,_,T2,N2,⟨yo,gj,Dm,rfl⟩,rfl⟩,⟨cr.mem,cr.pc,cr.data,cr.calls,cr.we,cr.eu,cr.deep⟩,λh=>JJ (hd.trans h)⟩;refine oB 53 rfl (λh=>?_) λh=>?_
   ·have Bx:Po c=decide ((c:Int)<=57):=by
     have:=zt h;unfold Po;rw[Eg (by omega:48<=c),Bool.true_and,decide_eq_decide];omega
    obtain⟨f1,f2,f3⟩:=fin _ Bx;rw[Bx] at e1 e2 e3;refine Oi ?_;first|refine nq.norm ?_|skip
    first|refine Tc.normal ?_|skip
    first|refine qN ?_|skip
    exact⟨me-(i+1),_,_,by omega,⟨i+1,_,_,by omega,by omega,rfl,rfl,rfl,f1,f2,f3,Mi,e1,e2,by omega⟩,Qa,⟨[],by rw[Qb];exact Km _ _ _⟩,hj⟩
   have Bx:Po c=false:=by have:=zf h;unfold Po;rw[decide_eq_false (by omega:¬ 48<=c)];rfl
   obtain⟨f1,f2,f3⟩:=fin _ Bx;rw[Bx] at e1 e2 e3;refine Oi ?_;first|refine nq.norm ?_|skip
   first|refine Tc.normal ?_|skip
   first|refine qN ?_|skip
   exact⟨me-(i+1),_,_,by omega,⟨i+1,_,_,by omega,by omega,rfl,rfl,rfl,f1,f2,f3,Mi,e1,e2,by omega⟩,Qa,⟨[],by rw[Qb];exact Km _ _ _⟩,hj⟩
  |stop er o=>
   rw[hx] at hP;obtain⟨s2,ho,hP⟩:=hP;by_cases he:er=0;rotate_left;rw[zn he] at hP;obtain⟨_,hv,_⟩:=hP;cases hv;rw[zp he] at hP;obtain⟨hv,dG⟩:=hP;cases hv;subst he;have hs:yy s1=.stop 0 o:=by unfold yy;rw[zp uz,Fp,hx]
   rw[hs] at e1 e2 e3;simp only at e1 e2 e3;have au:vK k (st+R.2.2) R.2.1 H2:=⟨s2,true,ho.trans e2,by rw[<-e3];exact dG⟩;obtain⟨XG,tK,WG,rK,oq,T2,N2,ri,rfl⟩:=dG;obtain⟨yo,gj,Dm,rfl⟩:=ri;refine Om ?_;refine Re.db (H':=(b4,.cells 24 [int .i64 0])::(k.mb,.cells 62 ((k.mf s2 (i+1) true XG WG).cells yo))::(gj++(k.cf s2.mem::k.kf::(tK++rK)))) ⟨[],by rw[Qb];exact dd⟩ ?_;refine Re.of ?_;refine ja ?_;refine oC rfl (λ_=>?_) (λhc=>by cases hc);refine ja ?_;first|refine nq.ret ?_|skip
   first|refine Bc.ret ?_|skip
   first|refine Tc.ret ?_|skip
   first|refine Bc.ret ?_|skip
   first|refine Tc.ret ?_|skip
   first|refine Bc.ret ?_|skip
   exact Kq.Ag (vs:=[int .i64 0]) (H2:=[(b4,.cells 24 [int .i64 0])]) hj qb (YK b4 _)
    (rC (qj.Rb rfl yb rfl fc) rN) (fe Ma) ⟨au,by rw[<-e1];rfl⟩
 intro ch H2 hP;cases hx:Qi c { s1 with pc:=s1.pc+1 } with
 |run s2=>rw[hx] at hP;obtain⟨hv,_⟩:=hP;cases hv
 |stop er o=>
  rw[hx] at hP;obtain⟨s2,ho,hP⟩:=hP;by_cases he:er=0;rw[zp he] at hP;obtain⟨hv,_⟩:=hP;cases hv;rw[zn he] at hP;obtain⟨h12,hv,dG⟩:=hP;cases hv;subst h12;have hs:yy s1=.stop 12 o:=by unfold yy;rw[zp uz,Fp,hx]
  rw[hs] at e1 e2 e3;simp only at e1 e2 e3;refine Rc ?_;exact Kq.nn (H1:=[(b4,.cells 24 [int .i64 0])]) (vs:=[int .i64 12]) (H2:=[(b4,.cells 24 [int .i64 12])]) hj dd (iL b4 _)
   (rC (qj.Rb rfl yb rfl fc) rN) (fe Ma) ⟨⟨s2,false,ho.trans e2,by rw[<-e3];exact dG⟩,by rw[<-e1];rfl⟩
def RE(og:Nat)(code:Wd):LV:=.agg [int .i64 (og:Nat),str code]
def mH(r:Nat×Wd×Nat):LV:=.agg [str r.2.1,int .i64 (r.1:Nat),int .i64 (r.2.2:Nat)]
theorem X9{code:Wd}{n:Nat}(h:n<code.length):(λi=>if i=og+n then (code[n]).toNat else Tr (code.take n) og i)=Tr (code.take (n+1)) og:=by funext i;unfold Tr;rw[List.getElem?_take,List.getElem?_take];by_cases h1:i=og+n;subst h1;rw[zp rfl,zp zo,show og+n-og=n by omega,zp zo,dh h];rw[zn h1];by_cases h2:og<=i;rw[zp h2,zp h2];by_cases h3:i-og<n;rw[zp h3,zp zo];rw[zn h3,zn zo];rw[zn h2,zn h2]
theorem D'(og:Nat):Tr [] og=λ_=>0:=by funext i;unfold Tr;split;rw[List.getElem?_nil];rfl
theorem J7(code:Wd){we:List Nat}(h:og<262144)(hi:∀ v∈we,v<4294967296):ni (qA code og we):=
 ⟨λi=>l6 code og i,by show og<_;omega,λv hv=>(not_mem_nil hv).elim,λv hv=>(not_mem_nil hv).elim,hi,by show 0<=_;omega,by show 0<=_;omega⟩
@[reducible] def Uz(k:MK)(og:Nat)(we:List Nat):Nat×da:=(k.mb,.cells 62 ((k.mf (qA [] og we) 0 false (.slice none 0 0) Ea).cells (.slice none 0 0)))
@[reducible] def gD(b:Nat):Nat×da:=(b,.cells 28 [str [],int .i64 0,int .i64 0])
theorem SL{code:Wd}{we:List Nat}{steps:Nat}(hog:og+code.length<=262144)(uS:og<262144)(Je:∀ v∈we,v<4294967296)(qz:0<steps)(dS:steps<=100000000) :
  aa (KC B0 w0) 7 [.list [RE og code],int .i64 (og:Nat),.list (us we),int .i64 (steps:Nat)] [] (gb (mH (runM steps (qA code og we)))):=by
 have eX:RE og code=.agg [int .i64 (og:Nat),str code]:=rfl;rw[eX];refine cJ Tryz.func7 (n:=106) ?_;refine Pc ?_;refine oS (yc λb8=>?_);refine ja ?_;refine oL (λkk ls H'=>∃ i:Nat,i<=1/\kk=1-i/\ls=[(0,.list [.agg [int .i64 (og:Nat),str code]]),(1,int .i64 (og:Nat)),(2,.list (us we)),(3,int .i64 (steps:Nat)),(8,ptr b8 0),(9,bool true),(23,.list [.agg [int .i64 (og:Nat),str code]]),(24,int .i64 1),(25,int .i64 (i:Nat))]/\H'=[gD b8])
  ⟨_,_,_,⟨0,by omega,rfl,rfl,rfl⟩,⟨rfl,rfl,rfl,rfl,rfl,Ed (Eg zo),rfl,rfl,rfl,trivial⟩,kb _⟩ ?_
 rintro kk ls H' ⟨i,hi,rfl,rfl,rfl⟩ j hj;refine Nd ?_;refine sa (λhc=>?_) λhc=>?_;obtain rfl:i=0:=by have:=zt hc;omega
 refine Af ?_;refine ca (xR (ad:=.agg [int .i64 (og:Nat),str code]) (cs:=[_,_]) rfl rfl ra rfl rfl rfl)<|za ?_;refine oS (yc λVs=>?_);refine ja ?_;exact⟨_,_,_,by omega,⟨1,by omega,rfl,rfl,rfl⟩,⟨rfl,rfl,rfl,rfl,rfl,Ed (Eg zo),rfl,rfl,rfl,trivial⟩,fe Ma,hj⟩;obtain rfl:i=1:=by have:=zf hc;omega
 clear hc hi;refine ja ?_;refine oC rfl (λhc=>by cases hc) λ_=>?_;refine ja ?_;refine sa (λhc=>?_) λ_=>?_;have:=zt hc;omega;refine ja ?_;refine sa (λhc=>?_) λ_=>?_;have:=zt hc;omega
 have MI:IntKind.u32.wrap (og:Int)=(og:Int):=by rw[Aq];omega
 refine oa ?_;refine cM (A:=MK) (λk=>[(0,.list [.agg [int .i64 (og:Nat),str code]]),(3,int .i64 (steps:Nat)),(8,ptr b8 0),(12,ptr k.mb 0)]) (λk=>[Uz k og we,k.cf λ_=>0,k.kf,gD b8]) (λ_=>True) ?_ λk _ j2 Ub=>?_;refine cD (m:=8) rfl []<|aT 1 rfl rfl (pM (lv:=.atom _) rfl)<|aT 2 rfl rfl (Pure.yE rfl)<|aT 3 rfl rfl (pM (lv:=.list _) rfl) ?_;rw[MI];refine aL ?_ Fc;refine cm (i:=0) (j:=4) zk ?_ ?_;refine lW rfl (.inl rfl) rfl (S.Ds (n:=262144) rfl rfl ra ra λmm=>?_);rw[lY];refine Dh (i:=4) zk ?_;refine lW rfl (.inl rfl) rfl (S.Bb (H1:=[]) [] rfl qb PZ ?_ (by rintro ch H' ⟨_,h,_⟩;cases h));rintro lv H' ⟨bm,h,rfl⟩;cases h;exact vG;refine lW rfl (.inl rfl) rfl (S.Bb (H1:=[]) [] rfl qb PZ ?_ (by rintro ch H' ⟨_,h,_⟩;cases h));rintro lv H' ⟨bm,h,rfl⟩;cases h;refine Dh (i:=0) zk ?_;refine lW rfl (.inl rfl) rfl (S.Ds (n:=262144) rfl rfl ra ra λmm=>?_);rw[lY];exact vG;have Gg:j2.ds=[]:=Ub.trans hj;refine ia ?_
 refine oL (λkk ls H'=>∃ i:Nat,i<=1/\kk=1-i/\ls=[(3,int .i64 (steps:Nat)),(8,ptr b8 0),(12,ptr k.mb 0),(64,.list [.agg [int .i64 (og:Nat),str code]]),(65,int .i64 1),(66,int .i64 (i:Nat))]/\H'=[Uz k og we,k.cf (Tr (code.take (i * code.length)) og),k.kf,gD b8])
  ⟨_,_,_,⟨0,by omega,rfl,rfl,rfl⟩,Qa,by rw[Nat.zero_mul,List.take_zero,D'];exact kb _⟩ ?_
 rintro kk ls H' ⟨i,hi,rfl,rfl,rfl⟩ j3 qi;refine Nd ?_;refine sa (λhc=>?_) λhc=>?_;obtain rfl:i=0:=by have:=zt hc;omega
 refine Af ?_;refine ca (xR (ad:=.agg [int .i64 (og:Nat),str code]) (cs:=[_,_]) rfl rfl ra rfl rfl rfl)<|za ?_;refine oS (yc λgG=>?_);refine ja ?_;refine oL (λkk ls H'=>∃ n:Nat,n<=code.length/\kk=code.length-n/\ls=[(3,int .i64 (steps:Nat)),(8,ptr b8 0),(12,ptr k.mb 0),(14,ptr gG 0),(64,.list [.agg [int .i64 (og:Nat),str code]]),(65,int .i64 1),(66,int .i64 0),(72,int .i64 code.length),(73,int .i64 (n:Nat))]/\H'=[Uz k og we,(gG,.cells 31 [int .i64 (og:Nat),str code]),k.cf (Tr (code.take n) og),k.kf,gD b8])
  ⟨_,_,_,⟨0,zero_le _,rfl,rfl,rfl⟩,Qa,by rw[Nat.zero_mul];exact Ab uc Ma⟩ ?_
 rintro kk ls H' ⟨n,hn,rfl,rfl,rfl⟩ j4 Js;refine Nd ?_;refine sa (λhd=>?_) λhd=>?_;have wa:n<code.length:=by have:=zt hd;omega
 have rl:code[((n:Nat):Int).toNat]? = some code[n]:=by rw[Int.toNat_natCast,dh wa]
 have KM:=X9 (og:=og) wa;generalize code[n]=ch at rl KM;have hw8:IntKind.u32.wrap ((ch.toNat:Nat):Int)=((ch.toNat:Nat):Int):=by rw[Aq];have:=ch.toNat_lt;omega
 refine ia ?_;refine cD (m:=15) rfl [Uz k og we,(gG,da.cells 31 [int .i64 (og:Nat),str code])]<|ft ?_;refine aT 3 rfl rfl (pL (c:=.atom _) rfl yb rfl)<|aT 4 rfl rfl (pF rfl)<|aT 5 rfl rfl (pL (c:=.atom _) rfl Ff rfl)<|aT 6 rfl rfl (pM (lv:=.atom _) rfl)<|aT 7 rfl rfl (Pure.add rfl rfl zo)<|aT 8 rfl rfl (pF rfl)<|aT 9 rfl rfl (pL (c:=.atom _) rfl Ff rfl)<|aT 10 rfl rfl (pM (lv:=.atom _) rfl)<|aT 11 rfl rfl (pI (c:=ch) rfl rfl zo rl)<|aT 12 rfl rfl (Pure.yE rfl)<|aT 13 rfl rfl (Pure.vb (o:=og+n) rfl rfl zo zo zo)<|aL ?_ ⟨_,List.Perm.refl _⟩;refine Dh (i:=14) zk ?_;refine lS (H1:=[k.cf (Tr (code.take n) og)]) (F:=[Uz k og we,(gG,da.cells 31 [int .i64 (og:Nat),str code]),k.kf,gD b8]) rfl (.inl rfl) rfl Ig ⟨_,List.Perm.refl _⟩ ?_;refine sS (n:=1) (vs:=[u32 ch.toNat]) (Ya:=Ii (Tr (code.take (n+1)) og)) rfl pH (congrArg (λz=>some [int .u32 z]) hw8) rfl (by rw[ble_eq,VH];omega) rfl (by rw[<-KM];exact yP _ _ _) ?_;refine lD zk ?_;refine Mh ?_;exact⟨code.length-(n+1),_,_,by omega,⟨n+1,by omega,rfl,rfl,rfl⟩,Qa,Ab uc (Ab uc Ma),Js⟩;obtain rfl:n=code.length:=by have:=zf hd;omega
 refine ia ?_;exact⟨0,_,_,by omega,⟨1,by omega,rfl,rfl,rfl⟩,Qa,by rw[Nat.one_mul];exact Ab pH (fe Ma),Js.trans qi⟩;obtain rfl:i=1:=by have:=zf hc;omega
 rw[Nat.one_mul,List.take_length];have hS:Ws k (qA code og we) 0 false [Uz k og we,k.cf (Tr code og),k.kf]:=⟨.slice none 0 0,[],Ea,[],[Uz k og we],jb.nil,Acc.nil,⟨.slice none 0 0,[],jb.nil,rfl⟩,rfl⟩;have Oc:=qF (B0:=B0) (w0:=w0) k (J7 code uS Je) (λh=>by cases h) (zero_le steps) dS (mc 0) hS;rw[Nat.sub_zero] at Oc;generalize runM steps (qA code og we)=R at Oc ⊢;rw[Nat.zero_add] at Oc;refine ia ?_;refine oS (S.Bb (H1:=[Uz k og we,k.cf (Tr code og),k.kf]) (F:=[gD b8]) [_,_] rfl qb Oc ?_ (by rintro ch H' ⟨_,h⟩;cases h));rintro v H' ⟨hE,hv⟩;cases hv;obtain⟨s2,stop,ho,vc,HC,vo,HO,HD,hC,hO,hD,rfl⟩:=hE;obtain⟨vd,Xs,hm,rfl⟩:=hD;refine ea.db (H':=gD b8::(k.mb,.cells 62 ((k.mf s2 R.2.2 stop vc vo).cells vd))::(Xs++(k.cf s2.mem::k.kf::(HC++HO)))) ⟨[],by rw[Qb];exact dd⟩ ?_;refine oa ?_;refine Ga.tail 11 zk ?_;refine Oi ?_;refine lP (pL (c:=vo) rfl Ff rfl) rfl ?_;refine lP (Pure.iu (l:=s2.out) (by exact hO.elems)) rfl ?_;refine za ?_;exact Na (qi.trans Gg) (rC (rA (k:=3) rfl yb rfl fc) rN) (by rw[ho];rfl)
end Go.Proofs.YtjolancjacdeaaaGreatDoor.qK
namespace Go.Proofs.YtjolancjacdeaaaGreatDoor.DE
open Go.GL Go.RowKit Go.Ba
open Go.Lib (decDigits itoa join)
attribute [local irreducible] ea Ga Ja aa Go.GL.Pure Bc Tc oc LQ Pa Td Lf LS
variable{B0:Nat}{w0:World}
theorem wY(hG:GW B0 w0)(hM:Rk.GM w0){p:Pr}{n:Nat}(h:cU p n)(hn:n<=2000000)(o:Zl)(o1:Gr o.code)(o2:Gr o.scalars)(o3:Gr o.ba):aa (KC B0 w0) 13 [Bt p,qv o] [] (gb (nH (Sp p.vars (Ci p) p.funcs o))):=by
 rw[Nh.Kw];exact ql2 hG hM _ _ _ o (Uf h.vars hn) (by rw[Ua];exact Uf h.ba hn) (λa ha=>by
  obtain⟨x,hx,rfl⟩:=vi ha;have:=h.size x hx;constructor;show(-9223372036854775808:Int)<=(x.size:Int);omega;show(x.size:Int)<9223372036854775808;omega) (Uf h.funcs hn) h.kR o1 o2 o3
def Np:Zl:=⟨10000,0,100000⟩
theorem bR:aa (KC B0 w0) 12 [] [] (gb (qv Np)):=by refine cJ Tryz.func12 (n:=2) ?_;refine Pc ?_;refine oS (yc λb=>?_);refine ja ?_;exact Na rfl (rC (rA rfl yb rfl fc) rN) rfl
end Go.Proofs.YtjolancjacdeaaaGreatDoor.DE
namespace Go.Proofs.YtjolancjacdeaaaGreatDoor.Lb
open Go.GL Go.RowKit Go.Ba
noncomputable def Fb(f:Go.Func):List UInt8:=match f.body with
 |some (.seq _ (.seq (.region _ xa _) _))=>(match xa.toList with
  |o::_=>(match o.op with
   |.assign (.const (.string s))=>s.data.toList
   |_=>[])
  |[]=>[])
 |_=>[]
noncomputable def sU:List UInt8:=(Fb Go.Proofs.Tryz.f117)
noncomputable def aH:List UInt8:=(Fb Go.Proofs.Tryz.f118)
noncomputable def Uk:List UInt8:=(Fb Go.Proofs.Tryz.f186)++(Fb Go.Proofs.Tryz.f187)
noncomputable def DN:List UInt8:=(Fb Go.Proofs.Tryz.f188)++(Fb Go.Proofs.Tryz.f189)
noncomputable def tq:List UInt8:=(Fb Go.Proofs.Tryz.f190)++(Fb Go.Proofs.Tryz.f191)++(Fb Go.Proofs.Tryz.f192)
noncomputable def Bo:List UInt8:=(Fb Go.Proofs.Tryz.f122)
noncomputable def uq:List UInt8:=(Fb Go.Proofs.Tryz.f193)++(Fb Go.Proofs.Tryz.f194)++(Fb Go.Proofs.Tryz.f195)
noncomputable def Rm:List UInt8:=(Fb Go.Proofs.Tryz.f196)++(Fb Go.Proofs.Tryz.f197)++(Fb Go.Proofs.Tryz.f198)++(Fb Go.Proofs.Tryz.f199)
noncomputable def Co:List UInt8:=(Fb Go.Proofs.Tryz.f125)
noncomputable def xi:List UInt8:=(Fb Go.Proofs.Tryz.f126)
noncomputable def Ir:List UInt8:=(Fb Go.Proofs.Tryz.f127)
noncomputable def Vk:List UInt8:=(Fb Go.Proofs.Tryz.f128)
noncomputable def yi:List UInt8:=(Fb Go.Proofs.Tryz.f129)
noncomputable def Wk:List UInt8:=(Fb Go.Proofs.Tryz.f130)
noncomputable def Fe:List UInt8:=(Fb Go.Proofs.Tryz.f200)++(Fb Go.Proofs.Tryz.f201)++(Fb Go.Proofs.Tryz.f202)++(Fb Go.Proofs.Tryz.f203)
attribute [local irreducible] ea Ga Ja aa Go.GL.Pure Bc Tc oc LQ Pa Td Lf LS
variable{B0:Nat}{w0:World}
theorem eH:aa (KC B0 w0) 117 [] [] (gb (str sU)):=by refine cJ Tryz.func117 (n:=1) ?_;refine Fj ?_;exact Na rfl (va rfl) rfl
theorem X3:aa (KC B0 w0) 118 [] [] (gb (str aH)):=by refine cJ Tryz.func118 (n:=1) ?_;refine Fj ?_;exact Na rfl (va rfl) rfl
theorem qnU:aa (KC B0 w0) 186 [] [] (gb (str (Fb Go.Proofs.Tryz.f186))):=by refine cJ Tryz.func186 (n:=1) ?_;refine Fj ?_;exact Na rfl (va rfl) rfl
theorem qm0:aa (KC B0 w0) 187 [] [] (gb (str (Fb Go.Proofs.Tryz.f187))):=by refine cJ Tryz.func187 (n:=1) ?_;refine Fj ?_;exact Na rfl (va rfl) rfl
theorem qp1:aa (KC B0 w0) 119 [] [] (gb (str Uk)):=by have h1:=qnU (B0:=B0) (w0:=w0);have h2:=qm0 (B0:=B0) (w0:=w0);have n1:(Fb Go.Proofs.Tryz.f186).length<=10000:=zt zk;have n2:(Fb Go.Proofs.Tryz.f187).length<=10000:=zt zk;unfold Uk;generalize (Fb Go.Proofs.Tryz.f186)=x1 at h1 n1 ⊢;generalize (Fb Go.Proofs.Tryz.f187)=x2 at h2 n2 ⊢;refine cJ Tryz.func119 (n:=4) ?_;refine Xj ?_;refine oS (sF [] rfl h1<|oS (sF [] rfl h2 ?_));refine fy ?_;exact Na rfl (va rfl) rfl
theorem I4:aa (KC B0 w0) 188 [] [] (gb (str (Fb Go.Proofs.Tryz.f188))):=by refine cJ Tryz.func188 (n:=1) ?_;refine Fj ?_;exact Na rfl (va rfl) rfl
theorem F4:aa (KC B0 w0) 189 [] [] (gb (str (Fb Go.Proofs.Tryz.f189))):=by refine cJ Tryz.func189 (n:=1) ?_;refine Fj ?_;exact Na rfl (va rfl) rfl
theorem cH:aa (KC B0 w0) 120 [] [] (gb (str DN)):=by have h1:=I4 (B0:=B0) (w0:=w0);have h2:=F4 (B0:=B0) (w0:=w0);have n1:(Fb Go.Proofs.Tryz.f188).length<=10000:=zt zk;have n2:(Fb Go.Proofs.Tryz.f189).length<=10000:=zt zk;unfold DN;generalize (Fb Go.Proofs.Tryz.f188)=x1 at h1 n1 ⊢;generalize (Fb Go.Proofs.Tryz.f189)=x2 at h2 n2 ⊢;refine cJ Tryz.func120 (n:=4) ?_;refine Xj ?_;refine oS (sF [] rfl h1<|oS (sF [] rfl h2 ?_));refine fy ?_;exact Na rfl (va rfl) rfl
theorem E':aa (KC B0 w0) 190 [] [] (gb (str (Fb Go.Proofs.Tryz.f190))):=by refine cJ Tryz.func190 (n:=1) ?_;refine Fj ?_;exact Na rfl (va rfl) rfl
theorem qqP:aa (KC B0 w0) 191 [] [] (gb (str (Fb Go.Proofs.Tryz.f191))):=by refine cJ Tryz.func191 (n:=1) ?_;refine Fj ?_;exact Na rfl (va rfl) rfl
theorem qqJ:aa (KC B0 w0) 192 [] [] (gb (str (Fb Go.Proofs.Tryz.f192))):=by refine cJ Tryz.func192 (n:=1) ?_;refine Fj ?_;exact Na rfl (va rfl) rfl
theorem y8:aa (KC B0 w0) 121 [] [] (gb (str tq)):=by have h1:=E' (B0:=B0) (w0:=w0);have h2:=qqP (B0:=B0) (w0:=w0);have h3:=qqJ (B0:=B0) (w0:=w0);have n1:(Fb Go.Proofs.Tryz.f190).length<=10000:=zt zk;have n2:(Fb Go.Proofs.Tryz.f191).length<=10000:=zt zk;have n3:(Fb Go.Proofs.Tryz.f192).length<=10000:=zt zk;unfold tq;generalize (Fb Go.Proofs.Tryz.f190)=x1 at h1 n1 ⊢;generalize (Fb Go.Proofs.Tryz.f191)=x2 at h2 n2 ⊢;generalize (Fb Go.Proofs.Tryz.f192)=x3 at h3 n3 ⊢;refine cJ Tryz.func121 (n:=6) ?_;refine xK ?_;refine qh ?_;exact Na rfl (va rfl) rfl
theorem qpL:aa (KC B0 w0) 122 [] [] (gb (str Bo)):=by refine cJ Tryz.func122 (n:=1) ?_;refine Fj ?_;exact Na rfl (va rfl) rfl
theorem qq2:aa (KC B0 w0) 193 [] [] (gb (str (Fb Go.Proofs.Tryz.f193))):=by refine cJ Tryz.func193 (n:=1) ?_;refine Fj ?_;exact Na rfl (va rfl) rfl
theorem o9:aa (KC B0 w0) 194 [] [] (gb (str (Fb Go.Proofs.Tryz.f194))):=by refine cJ Tryz.func194 (n:=1) ?_;refine Fj ?_;exact Na rfl (va rfl) rfl
theorem qrA:aa (KC B0 w0) 195 [] [] (gb (str (Fb Go.Proofs.Tryz.f195))):=by refine cJ Tryz.func195 (n:=1) ?_;refine Fj ?_;exact Na rfl (va rfl) rfl
theorem O7:aa (KC B0 w0) 123 [] [] (gb (str uq)):=by have h1:=qq2 (B0:=B0) (w0:=w0);have h2:=o9 (B0:=B0) (w0:=w0);have h3:=qrA (B0:=B0) (w0:=w0);have n1:(Fb Go.Proofs.Tryz.f193).length<=10000:=zt zk;have n2:(Fb Go.Proofs.Tryz.f194).length<=10000:=zt zk;have n3:(Fb Go.Proofs.Tryz.f195).length<=10000:=zt zk;unfold uq;generalize (Fb Go.Proofs.Tryz.f193)=x1 at h1 n1 ⊢;generalize (Fb Go.Proofs.Tryz.f194)=x2 at h2 n2 ⊢;generalize (Fb Go.Proofs.Tryz.f195)=x3 at h3 n3 ⊢;refine cJ Tryz.func123 (n:=6) ?_;refine xK ?_;refine qh ?_;exact Na rfl (va rfl) rfl
theorem qpQ:aa (KC B0 w0) 196 [] [] (gb (str (Fb Go.Proofs.Tryz.f196))):=by refine cJ Tryz.func196 (n:=1) ?_;refine Fj ?_;exact Na rfl (va rfl) rfl
theorem qqm:aa (KC B0 w0) 197 [] [] (gb (str (Fb Go.Proofs.Tryz.f197))):=by refine cJ Tryz.func197 (n:=1) ?_;refine Fj ?_;exact Na rfl (va rfl) rfl
theorem qpx:aa (KC B0 w0) 198 [] [] (gb (str (Fb Go.Proofs.Tryz.f198))):=by refine cJ Tryz.func198 (n:=1) ?_;refine Fj ?_;exact Na rfl (va rfl) rfl
theorem qpI:aa (KC B0 w0) 199 [] [] (gb (str (Fb Go.Proofs.Tryz.f199))):=by refine cJ Tryz.func199 (n:=1) ?_;refine Fj ?_;exact Na rfl (va rfl) rfl
theorem qqD:aa (KC B0 w0) 124 [] [] (gb (str Rm)):=by have h1:=qpQ (B0:=B0) (w0:=w0);have h2:=qqm (B0:=B0) (w0:=w0);have h3:=qpx (B0:=B0) (w0:=w0);have h4:=qpI (B0:=B0) (w0:=w0);have n1:(Fb Go.Proofs.Tryz.f196).length<=10000:=zt zk;have n2:(Fb Go.Proofs.Tryz.f197).length<=10000:=zt zk;have n3:(Fb Go.Proofs.Tryz.f198).length<=10000:=zt zk;have n4:(Fb Go.Proofs.Tryz.f199).length<=10000:=zt zk;unfold Rm;generalize (Fb Go.Proofs.Tryz.f196)=x1 at h1 n1 ⊢;generalize (Fb Go.Proofs.Tryz.f197)=x2 at h2 n2 ⊢;generalize (Fb Go.Proofs.Tryz.f198)=x3 at h3 n3 ⊢;generalize (Fb Go.Proofs.Tryz.f199)=x4 at h4 n4 ⊢;refine cJ Tryz.func124 (n:=8) ?_;refine xK ?_;refine oS (sF [] rfl h4 ?_);refine fy ?_;exact Na rfl (va rfl) rfl
theorem qp3:aa (KC B0 w0) 125 [] [] (gb (str Co)):=by refine cJ Tryz.func125 (n:=1) ?_;refine Fj ?_;exact Na rfl (va rfl) rfl
theorem qjE:aa (KC B0 w0) 126 [] [] (gb (str xi)):=by refine cJ Tryz.func126 (n:=1) ?_;refine Fj ?_;exact Na rfl (va rfl) rfl
theorem qq1:aa (KC B0 w0) 127 [] [] (gb (str Ir)):=by refine cJ Tryz.func127 (n:=1) ?_;refine Fj ?_;exact Na rfl (va rfl) rfl
theorem qmr:aa (KC B0 w0) 128 [] [] (gb (str Vk)):=by refine cJ Tryz.func128 (n:=1) ?_;refine Fj ?_;exact Na rfl (va rfl) rfl
theorem qjF:aa (KC B0 w0) 129 [] [] (gb (str yi)):=by refine cJ Tryz.func129 (n:=1) ?_;refine Fj ?_;exact Na rfl (va rfl) rfl
theorem qlC:aa (KC B0 w0) 130 [] [] (gb (str Wk)):=by refine cJ Tryz.func130 (n:=1) ?_;refine Fj ?_;exact Na rfl (va rfl) rfl
theorem qpT:aa (KC B0 w0) 200 [] [] (gb (str (Fb Go.Proofs.Tryz.f200))):=by refine cJ Tryz.func200 (n:=1) ?_;refine Fj ?_;exact Na rfl (va rfl) rfl
theorem qql:aa (KC B0 w0) 201 [] [] (gb (str (Fb Go.Proofs.Tryz.f201))):=by refine cJ Tryz.func201 (n:=1) ?_;refine Fj ?_;exact Na rfl (va rfl) rfl
theorem qpc:aa (KC B0 w0) 202 [] [] (gb (str (Fb Go.Proofs.Tryz.f202))):=by refine cJ Tryz.func202 (n:=1) ?_;refine Fj ?_;exact Na rfl (va rfl) rfl
theorem qpv:aa (KC B0 w0) 203 [] [] (gb (str (Fb Go.Proofs.Tryz.f203))):=by refine cJ Tryz.func203 (n:=1) ?_;refine Fj ?_;exact Na rfl (va rfl) rfl
theorem qqM:aa (KC B0 w0) 131 [] [] (gb (str Fe)):=by have h1:=qpT (B0:=B0) (w0:=w0);have h2:=qql (B0:=B0) (w0:=w0);have h3:=qpc (B0:=B0) (w0:=w0);have h4:=qpv (B0:=B0) (w0:=w0);have n1:(Fb Go.Proofs.Tryz.f200).length<=10000:=zt zk;have n2:(Fb Go.Proofs.Tryz.f201).length<=10000:=zt zk;have n3:(Fb Go.Proofs.Tryz.f202).length<=10000:=zt zk;have n4:(Fb Go.Proofs.Tryz.f203).length<=10000:=zt zk;unfold Fe;generalize (Fb Go.Proofs.Tryz.f200)=x1 at h1 n1 ⊢;generalize (Fb Go.Proofs.Tryz.f201)=x2 at h2 n2 ⊢;generalize (Fb Go.Proofs.Tryz.f202)=x3 at h3 n3 ⊢;generalize (Fb Go.Proofs.Tryz.f203)=x4 at h4 n4 ⊢;refine cJ Tryz.func131 (n:=8) ?_;refine xK ?_;refine oS (sF [] rfl h4 ?_);refine fy ?_;exact Na rfl (va rfl) rfl
noncomputable def il:List (List UInt8×Nat×List UInt8):=[([103,102],117,sU),([99,114,99],118,aH),([118,105,116,101,114,98,105],119,Uk),([114,115],120,DN),([102,114,97,109,101],121,tq),([101,114,97,115,117,114,101],122,Bo),([98,108,97,107,101],123,uq),([114,101,97,100,101,114],124,Rm),([99,114,99,109,97,105,110],125,Co),([118,105,116,101,114,98,105,109,97,105,110],126,xi),([114,115,109,97,105,110],127,Ir),([102,114,97,109,101,109,97,105,110],128,Vk),([101,114,97,115,117,114,101,109,97,105,110],129,yi),([98,108,97,107,101,109,97,105,110],130,Wk),([114,101,110,100,101,114],131,Fe)]
def Nr(m:List UInt8×Nat×List UInt8):LV:=.agg [str m.1,.atom (.func (.func m.2.1) #[] #[])]
theorem qmg:aa (KC B0 w0) 62 [] [] (gb (.list (il.map Nr))):=by refine cJ Tryz.func62 (n:=17) ?_;refine ja ?_;refine oS (sL (s:=2) [_,_,_,_,_,_,_,_,_,_,_,_,_,_,_] rfl (rc rfl rfl (rc rfl rfl (rc rfl rfl (rc rfl rfl (rc rfl rfl (rc rfl rfl (rc rfl rfl (rc rfl rfl (rc rfl rfl (rc rfl rfl (rc rfl rfl (rc rfl rfl (rc rfl rfl (rc rfl rfl (rc rfl rfl Tf))))))))))))))) rfl rfl rfl ?_);refine oa ?_;exact Na rfl (rC (rT (v:=.list _) rfl fc) rN) rfl
open Nh (u32 Same Zk)
abbrev Md:=List UInt8×Nat×List UInt8
noncomputable def zj(name:List UInt8):List UInt8×Int:=match il.find? λm=>decide (m.1=name) with
 |some m=>(m.2.2,0)
 |none=>([],9)
noncomputable def Yk:List (List UInt8)->List UInt8->List UInt8×Int
 |[],acc=>(acc,0)
 |n::l,acc=>if (zj n).2≠0 then ([],(zj n).2) else Yk l (acc++(zj n).1)
@[reducible] def kD(b:Nat)(name:List UInt8):Nat×da:=(b,.cells 9 [str name])
@[reducible] def kK(b:Nat):LV:=.atom (.func (.func 64) #[] #[.pointer (some ⟨b,0,none⟩)])
theorem C8:il.length=15:=rfl
theorem W6:∀ m∈il,m.2.2.length<=10000:=by
 have h:(il.all λm=>decide (m.2.2.length<=10000))=true:=by kernel_rfl
 intro m hm;exact zt (List.all_eq_true.1 h m hm)
theorem V7(n:List UInt8):(zj n).1.length<=10000:=by unfold zj;split;rename_i m h;exact W6 m (List.mem_of_find?_eq_some h);exact zero_le _
theorem TV:∀ (l:List Md) (name:List UInt8) (i:Nat) (h:i<l.length),(∀ j (hj:j<i),(l[j]'zo).1≠name)->l[i].1=name->(l.find? λm=>decide (m.1=name))=some l[i]
 |[],name,i,h,_,_=>by cases h
 |m::l,name,0,h,_,hn=>by have hn:m.1=name:=hn;rw[List.find?_cons,Eg hn];rfl
 |m::l,name,i+1,h,hb,hn=>by have h0:m.1≠name:=hb 0 zo;rw[List.find?_cons,decide_eq_false h0];exact TV l name i (by simpa using h) (λj hj=>hb (j+1) zo) hn
theorem T7(m:Md)(name:List UInt8)(b:Nat):aa (KC B0 w0) 64 [Nr m,ptr b 0] [kD b name] (Same (bool (decide (m.1=name))) [kD b name]):=by obtain⟨n,f,t⟩:=m;unfold Nr;refine cJ Tryz.func64 (n:=8) ?_;refine Pc ?_;refine oS (sB rfl λb2=>?_);refine ja ?_;exact Zk rfl (va rfl) rfl (fe Ma)
theorem N4:∀ m∈il,aa (KC B0 w0) m.2.1 [] [] (gb (str m.2.2)):=by intro m hm;simp only[il,Mc,not_mem_nil,or_false] at hm;rcases hm with rfl|rfl|rfl|rfl|rfl|rfl|rfl|rfl|rfl|rfl|rfl|rfl|rfl|rfl|rfl;exact eH;exact X3;exact qp1;exact cH;exact y8;exact qpL;exact O7;exact qqD;exact qp3;exact qjE;exact qq1;exact qmr;exact qjF;exact qlC;exact qqM
theorem P4:∀ m∈il,fb (KC B0 w0).P m.2.1:=by intro m hm;simp only[il,Mc,not_mem_nil,or_false] at hm;rcases hm with rfl|rfl|rfl|rfl|rfl|rfl|rfl|rfl|rfl|rfl|rfl|rfl|rfl|rfl|rfl <;> (show fb Tryz.prog _;infer_instance)
theorem uQ(ms:List Md)(Hn:ms.length=15)(name:List UInt8)(b:Nat):aa (KC B0 w0) 63 [.list (ms.map Nr),kK b] [kD b name]
  (λr H'=>H'=[kD b name]/\((r=.ret (int .i64 (-1))/\(ms.find? λm=>decide (m.1=name))=none)∨∃ i,∃ h:i<ms.length,r=.ret (int .i64 (i:Nat))/\(ms.find? λm=>decide (m.1=name))=some ms[i])):=by
 have Kn:(ms.map Nr).length=ms.length:=Ua _;have Ni:(∀ j (hj:j<ms.length),(ms[j]'hj).1≠name)->(ms.find? λm=>decide (m.1=name))=none:=λh=>List.find?_eq_none.2 λm hm=>by obtain⟨j,hj,rfl⟩:=List.mem_iff_getElem.1 hm;simpa using h j hj
 refine cJ Tryz.func63 (n:=19) ?_;refine ia ?_;refine oL (λk sl H=>∃ i:Nat,i<=ms.length/\k=ms.length-i/\(∀ j (hj:j<i) (hl:j<ms.length),(ms[j]'hl).1≠name)/\sl=[(0,.list (ms.map Nr)),(1,kK b),(7,int .i64 ms.length),(8,int .i64 i)]/\H=[kD b name])
  ⟨_,_,_,⟨0,zero_le _,rfl,λj hj=>by omega,rfl,rfl⟩,Qa,kb _⟩ ?_
 rintro k sl H ⟨i,hi,rfl,hb,rfl,rfl⟩ j1 Pb;refine Nd ?_;refine sa (λhc=>?_) λhc=>?_
 ·have wa:i<ms.length:=by have:=zt hc;omega
  have hg:(ms.map Nr)[((i:Nat):Int).toNat]? = some (Nr ms[i]):=Hh _ _ _ wa;have Qf:=T7 (B0:=B0) (w0:=w0) ms[i] name b;have Zt:=TV ms name i wa λj hj=>hb j hj zo;refine ia ?_;refine ca (xR (ad:=Nr ms[i]) (cs:=[_,_]) rfl rfl zo hg rfl rfl)<|za ?_;refine oS (S.Rf (f:=64) (first:=#[]) (La:=#[.pointer (some ⟨b,0,none⟩)]) (H1:=[kD b name]) (F:=[]) [_] rfl rfl (by simp) Qf ?_ ?_);rotate_left;rintro ch H' ⟨h,_⟩;cases h;rintro v H' ⟨h,rfl⟩;cases h;refine ig ?_;refine sa (λh=>?_) λh=>?_;refine ia ?_;exact rR Pb (va rfl) Ma ⟨rfl,.inr ⟨i,wa,rfl,Zt (zt h)⟩⟩;have eb:=zf h;refine ia ?_
  exact⟨_,_,_,by omega,⟨i+1,by omega,rfl,λj hj hl=>by
   by_cases hji:j<i;exact hb j hji hl;obtain rfl:j=i:=by omega
   exact eb,rfl,rfl⟩,Qa,kb _,Pb⟩
 have ae:i=ms.length:=by have:=zf hc;omega
 subst ae;refine ia ?_;exact rR Pb (va rfl) Ma ⟨rfl,.inl ⟨rfl,Ni λj hj=>hb j hj hj⟩⟩
theorem qnX(ms:List Md)(Hn:ms.length=15)(hmo:aa (KC B0 w0) 62 [] [] (gb (.list (ms.map Nr))))(NM:∀ m∈ms,aa (KC B0 w0) m.2.1 [] [] (gb (str m.2.2)))(hmt:∀ m∈ms,fb (KC B0 w0).P m.2.1)(name:List UInt8) :
  aa (KC B0 w0) 24 [str name] [] (gb (match ms.find? λm=>decide (m.1=name) with
   |some m=>.tuple [str m.2.2,int .i64 0]
   |none=>.tuple [str [],int .i64 9])):=by
 have PM:=λb=>uQ (B0:=B0) (w0:=w0) ms Hn name b;have Kn:(ms.map Nr).length=ms.length:=Ua _;generalize (ms.find? λm=>decide (m.1=name))=MP at PM ⊢;refine cJ Tryz.func24 (n:=18) ?_;refine Pc ?_;refine oS (sB rfl λb1=>?_);refine Xj ?_;refine oS (sF [] rfl hmo ?_);refine ja ?_;refine oS (S.Bb (H1:=[kD b1 name]) (F:=[]) [_,_] rfl qb (PM b1) (λv H' h=>?_) λch H' h=>?_);rotate_left;obtain⟨_,⟨h,_⟩|⟨_,_,h,_⟩⟩:=h <;> cases h;obtain⟨rfl,⟨h,hm⟩|⟨i,hi,h,hm⟩⟩:=h;cases h;subst hm;refine ia ?_;refine oC rfl (λ_=>?_) (λh=>by cases h);refine Oe ?_;exact Na rfl (rC (ib rfl) (va rfl)) rfl;cases h;subst hm;have hg:(ms.map Nr)[((i:Nat):Int).toNat]? = some (Nr ms[i]):=Hh _ _ _ hi
 haveI:=hmt ms[i] (List.getElem_mem hi)
 have hf:=NM ms[i] (List.getElem_mem hi);refine ia ?_;refine sa (λh=>?_) λ_=>?_;have:=zt h;omega;refine ia ?_;refine ca (xR (ad:=Nr ms[i]) (cs:=[_,_]) rfl rfl zo hg rfl rfl)<|za ?_;refine oS (S.Qs (f:=ms[i].2.1) [] rfl rfl hf ?_);refine qh ?_;exact Na rfl (rC (ib rfl) (va rfl)) rfl
theorem qm5(name:List UInt8):aa (KC B0 w0) 24 [str name] [] (gb (.tuple [str (zj name).1,int .i64 (zj name).2])):=by have h:=qnX il C8 qmg N4 P4 (B0:=B0) (w0:=w0) name;unfold zj;generalize (il.find? λm=>decide (m.1=name))=MP at h ⊢;cases MP <;> exact h
@[reducible] def dH(r:List UInt8×Int):LV:=.tuple [str r.1,int .i64 r.2]
theorem qqs{l:List (List UInt8)}{acc:List UInt8}{i:Nat}(h:i<l.length):Yk (l.drop i) acc=if (zj l[i]).2≠0 then ([],(zj l[i]).2) else Yk (l.drop (i+1)) (acc++(zj l[i]).1):=by rw[List.drop_eq_getElem_cons h,Yk]
theorem qnh(l:List (List UInt8))(hl:l.length<=1000):aa (KC B0 w0) 10 [.list (l.map str)] [] (gb (dH (Yk l []))):=by
 have Kn:(l.map str).length=l.length:=Ua _;generalize hR:Yk l []=R;refine cJ Tryz.func10 (n:=27) ?_;refine Xj ?_;refine oS (yc λb4=>?_);refine ia ?_;have hB0:BH b4 [] [(b4,.cells 71 [.atom (.pointer none),.atom (.slice none 0 0)])]:=⟨_,_,[],.inl rfl,Ee.nil,rfl⟩;refine oL (λk sl H=>∃ (i:Nat) (acc:List UInt8),i<=l.length/\k=l.length-i/\acc.length<=i * 10000/\Yk (l.drop i) acc=R/\BH b4 acc H/\sl=[(4,ptr b4 0),(9,.list (l.map str)),(10,int .i64 l.length),(11,int .i64 i)])
  ⟨_,_,_,⟨0,[],zero_le _,rfl,zero_le _,hR,hB0,rfl⟩,Qa,kb _⟩ ?_
 rintro k sl H ⟨i,acc,hi,rfl,Ta,hP,hB,rfl⟩ j1 Pb;refine Nd ?_;refine sa (λhc=>?_) λhc=>?_
 ·have wa:i<l.length:=by have:=zt hc;omega
  have hg:(l.map str)[((i:Nat):Int).toNat]? = some (str l[i]):=Hh _ _ _ wa;have hm:=qm5 (B0:=B0) (w0:=w0) l[i];have Hn:=V7 l[i];rw[qqs wa] at hP;generalize l[i]=n at *;generalize zj n=q at *;obtain⟨t,e⟩:=q;simp only at hP hm Hn;refine Af ?_;refine ca (xR (ad:=str n) (cs:=[str n]) rfl rfl zo hg rfl rfl)<|ja ?_;refine oS (sF [_] rfl hm ?_);refine ja ?_;by_cases he:e=0;rotate_left;rw[zp he] at hP;subst hP;refine sa (λ_=>?_) λhc=>?_;refine ia ?_;exact Na Pb (rC (ib rfl) (va rfl)) rfl;have h2:(!decide (e=0))=false:=hc;simp at h2;exact absurd h2 he;subst he;rw[zn ra] at hP;refine oC rfl (λhc=>by cases hc) λ_=>?_;refine ia ?_;refine oS (S.Bb (H1:=H) (F:=[]) [_,_] rfl (by simp) (ZC b4 acc t H hB zo) (λv' H' h=>?_) (λch H' h=>by obtain⟨⟨x,h⟩,_⟩:=h;cases h));obtain⟨⟨x,hx⟩,aN⟩:=h;cases hx;rw[Qb];refine Mh ?_;exact⟨_,_,_,by omega,⟨i+1,acc++t,by omega,rfl,by rw[ua];omega,hP,aN,rfl⟩,Qa,kb _,Pb⟩
 have ae:i=l.length:=by have:=zf hc;omega
 subst ae;rw[List.drop_length,Yk] at hP;subst hP;refine ia ?_;refine oS (S.Bb (H1:=H) (F:=[]) [_] rfl (by simp) (FF b4 acc H hB zo) (λv' H' h=>?_) (λch H' h=>by obtain⟨h,_⟩:=h;cases h));obtain⟨h,rfl⟩:=h;cases h;refine qh ?_;exact Na Pb (rC (ib rfl) (va rfl)) rfl
end Go.Proofs.YtjolancjacdeaaaGreatDoor.Lb
namespace Go.Proofs.YtjolancjacdeaaaGreatDoor.Lb
open Go.GL Go.RowKit Go.Ba
theorem V8:zj [114,101,110,100,101,114]=(Fe,0):=zk
end Go.Proofs.YtjolancjacdeaaaGreatDoor.Lb
namespace Go.Ba.Wi
open Go.Lib
theorem fL{all:List Wd}:∀ (l:List (Wd×Nat)) (met:List Wd),(met++cd (l.map (·.1))).Nodup->(∀ w∈l.map (·.1),Qz all w)->(Kd all met l).2=0
 |[],met,_,_=>rfl
 |(w,ln)::r,met,hn,hk=>by
  rw[Tb,VL] at hn;have h0:=hk w (by simp);have hr:=λx hx=>hk x (by rw[Tb];exact Sc _ hx);unfold Qz at h0;rw[Kd]
  cases hd:Ib w with
  |some x=>
   rw[hd] at hn;simp only at hn ⊢;have hx:x ∉ met:=λhm=>(ct hn).2.2 x hm x (by simp) rfl;rw[zn hx]
   exact fL r (met++[x]) (by rw[Xc];exact hn) hr
  |none=>
   rw[hd] at hn h0;simp only[List.nil_append] at hn h0 ⊢;cases hf:td w with
   |some x=>rw[hf] at h0;simp only at h0 ⊢;rw[zp h0];exact fL r met hn hr
   |none=>rw[hf] at h0;simp only at h0 ⊢;rw[zp h0];exact fL r met hn hr
theorem AE{W:List Wd}(hA:wU W)(hc:∀ w∈W,Fq w){og:Int}(h0:0<=og)(h1:og<262144)(hl:fi false W<=40000) :
  Ti (join W [32]) og=.ok (Xw (Wm (Io (λ_=>0) og.toNat W)) W,Io (λ_=>0) og.toNat W)/\(Xw (Wm (Io (λ_=>0) og.toNat W)) W).length=fi false W:=by
 have hw:=YL hc;have ht:=FX (Wm (Io (λ_=>0) og.toNat W)) W λw hw=>(hc w hw).1;refine⟨?_,ht⟩
 have he:(Kd (cd W) [] (bq (join W [32]))).2=0:=by refine fL _ _ ?_ ?_;rw[MC,hw];exact hA.1;rw[MC,hw];exact hA.2
 unfold Ti;rw[zn (by omega),hw,zn (by rw[he];decide),zn (by rw[ht];omega)]
section
variable{P:Pr}{o:Zl}{t:Wd}
end
end Go.Ba.Wi
