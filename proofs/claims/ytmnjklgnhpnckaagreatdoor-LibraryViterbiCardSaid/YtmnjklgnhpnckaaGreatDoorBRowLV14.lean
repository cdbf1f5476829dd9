import Derived.Test.YtmnjklgnhpnckaaGreatDoorBRowLV13
set_option linter.unusedVariables false
set_option linter.unusedSimpArgs false
set_option maxRecDepth 100000
set_option maxHeartbeats 4000000
open Go.GL (zk)
open List (length_reverse reverse_cons mem_append_right not_mem_nil)
open Nat (sub_self ble_eq zero_le)
namespace Go.Proofs.YtmnjklgnhpnckaaGreatDoor.TN
open Go.GL Go.RowKit Go.ia
open xi (u32 Same Wo Ir Zy lU iY)
variable{F H HD:Heap}{a:Operand}{Rd:Array TypeId}{c st:Nat}{data:List Nat}{s:MS}
structure MK where
 mb:Nat
 mm:Nat
 bm:Nat
@[reducible] def OB(k:MK):Value:=.slice (some ⟨k.mm,0,none⟩) 262144 262144
@[reducible] def MK.mf(k:MK)(s:MS)(st:Nat)(stop:Bool)(vc:Value)(vo:LV):MF:=⟨k.mb,OB k,s.pc,vc,s.Ia,vo,s.digit,st,stop,k.bm⟩
@[reducible] def MK.Xg(k:MK)(f:Nat->Nat):Nat×ma:=(k.mm,.cells 54 (yl f))
@[reducible] def MK.ah(k:MK):Nat×ma:=(k.bm,.obj (.map dP 7))
def py(k:MK)(s:MS)(st:Nat)(stop:Bool)(H:Heap):Prop:=∃ vc HC vo HO HD,Ae 54 1 vc (us s.calls.reverse) HC/\Acc 1 vo (Vb s.out) HO []/\DH (k.mf s st stop vc vo) s.data HD/\H=HD++(k.Xg s.mem::k.ah::(HC++HO))
def FD(k:MK)(st:Nat)(R:MR)(r:Ie)(H:Heap):Prop:=match R with
 |.run s=>r=.ret (.tuple [])/\py k s st false H
 |.stop e o=>∃ s,s.out=o/\if e=0 then r=.ret (.tuple [])/\py k s st true H else e=12/\r=.panic Zw/\py k s st false H
theorem qAk{k:MK}{o:Wd}(hs:s.out=o)(h:py k s st false H):FD k st (.stop 12 o) (.panic Zw) H:=⟨s,hs,by rw[zn fa];exact⟨rfl,rfl,h⟩⟩
theorem KS{k:Int}(h:(c:Int)=k)(hk:48<=k/\k<=57):true=Hn c:=by unfold Hn;rw[Nf (by omega:48<=c),Nf (by omega:c<=57)];rfl
theorem D7{x m b:Nat×ma}{A B C:Heap}:(x::(A++(m::b::(B++C)))).Perm (B++(x::(A++(m::b::C)))):=by have:=List.perm_append_comm_assoc (x::(A++[m,b])) B C;simpa using this
theorem XL{x m b:Nat×ma}{A B C:Heap}:(x::(A++(m::b::(B++C)))).Perm (C++(x::(A++(m::b::B)))):=by have:=gi (l₁:=x::(A++(m::b::B))) (l₂:=C);simpa using this
section
variable{B0:Nat}{w0:World}{e:Env}{H:Heap}{dst:Option Nat}{ty:TypeId}{ra:String}{ua:Array Edge}{g:Option (Nat×Bool)}{K:LV->Heap->Prop}{X:List PanicEntry->Heap->Prop}
theorem S.push{f:MF}{v:Nat}{b:Operand}(hx:[e.ev a,e.ev b]=[ptr f.mb 0,u32 v])(hp:H.Perm (HD++F))(hD:DH f data HD)(hf:data.length<=256)
  (hk:data.length<256->∀ bg,DH f (v::data) bg->K (.tuple []) (bg++F)) (hn:¬ data.length<256->∀ bg,DH f data bg->X Zw (bg++F)) :
  Ya (KC B0 w0) ⟨dst,.call { callee:=.value (.func 113),args:=#[a,b],argTypes:=Rd },ty,ra,ua,g⟩ e H K X:=by
 refine S.Tc (H1:=HD) (F:=F) [a,b] hx hp (qtD hD hf v) ?_ ?_;intro r H' h;unfold FU at h;split at h;rename_i hl;obtain⟨h1,h2⟩:=h;cases h1;exact hk hl H' h2;obtain⟨h1,_⟩:=h;cases h1;intro ch H' h;unfold FU at h;split at h;obtain⟨h1,_⟩:=h;cases h1;rename_i hl;obtain⟨h1,h2⟩:=h;cases h1;exact hn hl H' h2
theorem S.pop{f:MF}(hx:[e.ev a]=[ptr f.mb 0])(hp:H.Perm (HD++F))(hD:DH f data HD)(hf:data.length<=256)
  (hk:∀ x r,data=x::r->∀ bg,DH f r bg->K (u32 x) (bg++F)) (hn:data=[]->∀ bg,DH f [] bg->X Zw (bg++F)) :
  Ya (KC B0 w0) ⟨dst,.call { callee:=.value (.func 115),args:=#[a],argTypes:=Rd },ty,ra,ua,g⟩ e H K X:=by
 refine S.Tc (H1:=HD) (F:=F) [a] hx hp (qp4 hD hf) ?_ ?_;intro r H' h;cases data with
 |nil=>obtain⟨h1,_⟩:=h;cases h1
 |cons x d=>obtain⟨h1,h2⟩:=h;cases h1;exact hk x d rfl H' h2
 intro ch H' h;cases data with
 |nil=>obtain⟨h1,h2⟩:=h;cases h1;exact hn rfl H' h2
 |cons x d=>obtain⟨h1,_⟩:=h;cases h1
theorem S.address{f:MF}(hx:[e.ev a]=[ptr f.mb 0])(hp:H.Perm (HD++F))(hD:DH f data HD)(hf:data.length<=256)
  (hk:∀ x r,data=x::r->x<262144->∀ bg,DH f r bg->K (u32 x) (bg++F)) (hn:(∀ x r,data=x::r->¬ x<262144)->∀ d bg,DH f d bg->X Zw (bg++F)) :
  Ya (KC B0 w0) ⟨dst,.call { callee:=.value (.func 114),args:=#[a],argTypes:=Rd },ty,ra,ua,g⟩ e H K X:=by
 refine S.Tc (H1:=HD) (F:=F) [a] hx hp (Z0 hD hf) ?_ ?_;intro r H' h;cases data with
 |nil=>obtain⟨h1,_⟩:=h;cases h1
 |cons x d=>unfold BU at h;simp only at h;split at h;rename_i hl;obtain⟨h1,h2⟩:=h;cases h1;exact hk x d rfl hl H' h2;obtain⟨h1,_⟩:=h;cases h1
 intro ch H' h;cases data with
 |nil=>obtain⟨h1,h2⟩:=h;cases h1;exact hn (λx r O2=>by cases O2) _ H' h2
 |cons x d=>
  unfold BU at h;simp only at h;split at h;obtain⟨h1,_⟩:=h;cases h1;rename_i hl;obtain⟨h1,h2⟩:=h;cases h1;exact hn (λy r O2=>by
   injection O2 with e1 e2;rw[<-e1];exact hl) _ H' h2
end
attribute [local irreducible] Ea fb Ya ca Go.GL.Pure ve Oe Kd LQ yb nh db LS
variable{B0:Nat}{w0:World}
theorem qsZ(k:MK)(Dc:Sk s)(Ge:c<4294967296)(YK:s.digit=true->s.data≠[])(kg:s.out.length<=100000000000)(h:py k s st false H) :
  ca (KC B0 w0) 64 [ptr k.mb 0,u32 c] H (FD k st (Ud c s)):=by
 generalize hR:Ud c s=R;obtain⟨vc,HC,vo,HO,HD,hC,hO,hD,rfl⟩:=h;have gk:=Dc.Dz;have aae:=Dc.deep;have hl:(us s.data.reverse).length=s.data.length:=by rw[iB,length_reverse]
 have hlc:(us s.calls.reverse).length=s.calls.length:=by rw[iB,length_reverse]
 have mk:∀ (d:List Nat) (bg:Heap),DH (k.mf s st false vc vo) d bg->py k { s with data:=d } st false (bg++(k.Xg s.mem::k.ah::(HC++HO))):=λd bg h=>⟨vc,HC,vo,HO,bg,hC,hO,h,rfl⟩;have Kq:∀ (d:List Nat) (bg:Heap),DH (k.mf s st false vc vo) d bg->FD k st (MR.re s) (.panic Zw) (bg++(k.Xg s.mem::k.ah::(HC++HO))):=λd bg h=>qAk (s:={ s with data:=d }) rfl (mk d bg h);have wj:=hD;obtain⟨vd,ry,hm,rfl⟩:=hD;rw[List.cons_append];refine kb Tryz.func64 rfl (n:=219) rfl rfl rfl ?_;refine xa ?_;refine Sz [(0,ptr k.mb 0),(1,u32 c),(14,u32 c),(36,bool (Hn c))] ?_ λj hj=>?_;refine Si ?_;refine Ma (λhc=>?_) λc0=>?_;exact AE;refine Si ?_;refine Ma (λhc=>?_) λc1=>?_;exact AE;refine Si ?_;refine Ma (λhc=>?_) λc2=>?_;exact AE;refine Si ?_;refine Ma (λhc=>?_) λc3=>?_;exact AE;refine Si ?_;refine Ma (λhc=>?_) λc4=>?_;exact AE;refine Si ?_;refine Ma (λhc=>?_) λc5=>?_;exact AE;refine Si ?_;refine Ma (λhc=>?_) λc6=>?_;exact AE;refine Si ?_;refine Ma (λhc=>?_) λc7=>?_;exact AE;refine Si ?_;refine Ma (λhc=>?_) λc8=>?_;exact AE;refine Si ?_
 exact⟨⟨rfl,rfl,rfl,xe (by
  have d0:=zf c0;have d1:=zf c1;have d2:=zf c2;have d3:=zf c3;have d4:=zf c4;have d5:=zf c5;have d6:=zf c6;have d7:=zf c7;have d8:=zf c8;unfold Hn;rw[<-Bool.decide_and,decide_eq_decide];omega),trivial⟩,rfl,rfl⟩
 refine Ma (λhc=>?_) λrh=>?_
 ·have Fs:48<=c/\c<=57:=by
   unfold Hn at hc;rw[sd,Gg,Gg] at hc;exact hc
  have Yg:XE c s=R:=by rw[<-hR];unfold Ud;rw[zp hc]
  refine xa ?_;refine la (Pure.NB rfl hm)<|wa ?_;refine Ma (λbq=>?_) λbq=>?_
  ·obtain⟨d,r,ai⟩:∃ d r,s.data=d::r:=by
    cases hd:s.data with
    |nil=>exact absurd hd (YK bq)
    |cons d r=>exact⟨d,r,rfl⟩
   have bi:R=.run { s with data:=((d * 10+c-48) % 4294967296)::r }:=by rw[<-Yg];unfold XE;rw[zp bq,ai]
   subst bi;have GN:s.data.length=r.length+1:=by rw[ai];rfl
   have Cl:(us r.reverse).length=r.length:=by rw[iB,length_reverse]
   have XQ:us s.data.reverse=us r.reverse++us [d]:=by rw[ai,reverse_cons,dF]
   rw[XQ] at hm;obtain⟨b,cap,spare,h1,h2,rn,ef⟩:=Ae.addr hm (by simp[us]);have Mm:(us r.reverse++us [d]).length=r.length+1:=by rw[Ga,Cl];rfl
   have Mk:(us r.reverse++us [d]).flatMap LV.cells=us r.reverse++us [d]:=by rw[<-dF];exact KP _
   rw[Mk,Sc] at h2;rw[Mm] at h1 rn ef;subst h1 h2;have fk:IntKind.u32.wrap (IntKind.u32.wrap (IntKind.u32.wrap ((d:Int) * 10)+(c:Int))-48)=(((d * 10+c-48) % 4294967296:Nat):Int):=by rw[Ir,Ir,Ir];omega
   refine cD (m:=18) rfl [(k.mb,ma.cells 80 ((k.mf s st false vc vo).cells (.slice (some ⟨b,0,none⟩) (r.length+1) cap)))]<|NL ?_;refine aT 3 rfl rfl (pL (c:=.atom _) rfl nc rfl)<|aT 4 rfl rfl (pM (lv:=.atom _) rfl)<|aT 5 rfl rfl (pM (lv:=.atom _) rfl)<|aT 6 rfl rfl (pN rfl)<|aT 7 rfl rfl (pF rfl)<|aT 8 rfl rfl (pL (c:=.atom _) rfl nc rfl)<|aT 9 rfl rfl (pM (lv:=.atom _) rfl)<|aT 10 rfl rfl (Pure.Vf (o:=r.length) rfl rfl zo zo zo)<|aT 13 rfl rfl (pM (lv:=.atom _) rfl)<|aL ?_ qd;refine lO 11 (lH rfl rfl (pL (c:=u32 d) rfl Oh (by rw[List.getElem?_append_right zo,Cl,sub_self];rfl)) ?_);refine lO 12 (lH rfl rfl (Pure.Tv rfl rfl) ?_);refine lO 14 (lH rfl rfl (Pure.Fp rfl rfl) ?_);refine lO 15 (lH rfl rfl (Pure.rr rfl rfl) ?_);refine lO 16 (lH rfl rfl (Pure.Vf (o:=r.length) rfl rfl zo zo zo) ?_);refine Rj (i:=17) zk ?_;refine lS (H1:=[_]) (F:=_::(k.Xg s.mem::k.ah::(HC++HO))) rfl (.inl rfl) rfl Od qd ?_;refine(sS (vs:=[u32 ((d * 10+c-48) % 4294967296)]) (Ob:=us r.reverse++(u32 ((d * 10+c-48) % 4294967296)::spare)) rfl pH (by show some [int .u32 _]=some [int .u32 _];rw[<-fk]) rfl (by rw[ble_eq,Ga,Cl,Ga];show r.length+1<=r.length+(1+spare.length);omega) rfl (by
    have:=qpU (us r.reverse) (us [d]++spare) 0 [u32 ((d * 10+c-48) % 4294967296)];rw[Cl,Nat.add_zero] at this;rw[this];show us r.reverse++(u32 _::ed spare 0 [])=_;rw[qnQ]) ?_)
   refine lD zk ?_;refine Da ?_;have Kk:py k { s with data:=((d * 10+c-48) % 4294967296)::r } st false (((k.mb,.cells 80 ((k.mf s st false vc vo).cells (.slice (some ⟨b,0,none⟩) (r.length+1) cap)))::[(b,.cells 54 (us r.reverse++(u32 ((d * 10+c-48) % 4294967296)::spare)))])++(k.Xg s.mem::k.ah::(HC++HO))):=
    mk _ _ ⟨_,_,by
     have:=SX (el:=54) (b:=b) (m:=r.length+1) (cap:=cap) (l:=(((d * 10+c-48) % 4294967296)::r).reverse) (spare:=spare) (by simp) zo zo;rw[reverse_cons,dF,Sc] at this;rw[reverse_cons,dF];exact this,rfl⟩
   exact rO hj rN ⟨[],by rw[de];exact cr _ _ _⟩ ⟨rfl,Kk⟩
  have iC:IntKind.u32.wrap ((c:Int)-48)=((c-48:Nat):Int):=by rw[Ir];omega
  have bi:xo (c-48) s=R:=by rw[<-Yg];unfold XE;have X4:s.digit=false:=bq;rw[zn (by rw[X4];decide)]
  unfold xo at bi;refine Bd ?_;refine la (Pure.rr rfl rfl)<|oS (S.push (v:=c-48) (by show [_,int .u32 _]=[_,int .u32 _];rw[<-iC];rfl) mc wj gk (λJa bg uh=>?_) λJa bg uh e' Ka=>?_);rw[zp Ja] at bi;subst bi;refine Da ?_;exact rO hj rN ob ⟨rfl,mk _ _ uh⟩;rw[zn Ja] at bi;subst bi;refine Qd ?_;exact Kd.panic (Ka.trans hj) ob (Kq _ _ uh)
 have wR:¬ Hn c=true:=by rw[rh];decide
 refine fb.seq ?_;refine Sz [(0,ptr k.mb 0),(1,u32 c),(14,u32 c),(78,bool (decide (c=32∨c=10)))] ?_ λj2 wc=>?_;refine Si ?_;refine Ma (λhc=>?_) λc0=>?_;refine Da ?_;exact⟨⟨rfl,rfl,rfl,xe (hc.trans (Nf (by have:=zt hc;omega)).symm),trivial⟩,rfl,rfl⟩;refine Si ?_;exact⟨⟨rfl,rfl,rfl,xe (by have:=zf c0;rw[decide_eq_decide];omega),trivial⟩,rfl,rfl⟩;have Ri:=wc.trans hj;refine Ma (λhc=>?_) λc0=>?_;have hcw:=zt hc
 have bi:R=.run s:=by rw[<-hR];unfold Ud;rw[zn wR,zp hcw]
 subst bi;refine Da ?_;exact rO Ri rN ob ⟨rfl,mk _ _ wj⟩;have yN:=zf c0;refine Si ?_;refine Ma (λhc=>?_) λc1=>?_
 ·obtain rfl:c=64:=by have:=zt hc;omega
  have Yg:UH s=R:=hR;refine cD (m:=10) rfl []<|kT ?_;refine aT 5 rfl rfl (pM (lv:=.atom _) rfl)<|aL ?_ yd;refine Zq (i:=4) (j:=6) zk ?_ ?_
  ·refine lH rfl rfl (pL (c:=.atom (OB k)) rfl nc rfl) ?_;refine Rj (i:=6) zk ?_;refine lW rfl (.inl rfl) rfl (S.address rfl mc wj gk (λa r ai ha bg uh=>?_) λhb d bg uh e' Ka=>?_);rotate_left;exact bO
   have bi:xo (s.mem a) { s with data:=r }=R:=by rw[<-Yg];unfold UH;rw[ai];simp only;rw[zp ha]
   unfold xo at bi;simp only at bi;have Cl:r.length<=256:=by rw[ai,La] at gk;omega
   have rL:=uh;obtain⟨l7,HD1,ZD,rfl⟩:=rL;refine IE ?_;refine lO 8 (lH rfl rfl (pL (c:=u32 (s.mem a)) rfl (mem_append_right _ nc) (LP _ ha)) ?_);refine lO 9 (lW rfl (.inl rfl) rfl (S.push (v:=s.mem a) rfl mc uh Cl (λJa qy Yk=>?_) λJa qy Yk e' Ka=>?_));rw[zp Ja] at bi;subst bi;refine lD zk ?_;refine Da ?_;exact rO Ri rN ob ⟨rfl,mk _ _ Yk⟩;rw[zn Ja] at bi;subst bi;refine Qd ?_;exact Kd.panic (Ka.trans Ri) ob (Kq _ _ Yk)
  refine lW rfl (.inl rfl) rfl (S.address rfl mc wj gk (λa r ai ha bg uh=>?_) λhb d bg uh e' Ka=>?_);rotate_left;exact bO
  have bi:xo (s.mem a) { s with data:=r }=R:=by rw[<-Yg];unfold UH;rw[ai];simp only;rw[zp ha]
  unfold xo at bi;simp only at bi;have Cl:r.length<=256:=by rw[ai,La] at gk;omega
  have rL:=uh;obtain⟨l7,HD1,ZD,rfl⟩:=rL;refine lO 4 (lH rfl rfl (pL (c:=.atom (OB k)) rfl nc rfl) ?_);refine IE ?_;refine lO 8 (lH rfl rfl (pL (c:=u32 (s.mem a)) rfl (mem_append_right _ nc) (LP _ ha)) ?_);refine lO 9 (lW rfl (.inl rfl) rfl (S.push (v:=s.mem a) rfl mc uh Cl (λJa qy Yk=>?_) λJa qy Yk e' Ka=>?_));rw[zp Ja] at bi;subst bi;refine lD zk ?_;refine Da ?_;exact rO Ri rN ob ⟨rfl,mk _ _ Yk⟩;rw[zn Ja] at bi;subst bi;refine Qd ?_;exact Kd.panic (Ka.trans Ri) ob (Kq _ _ Yk)
 have n64:=zf c1;refine Si ?_;refine Ma (λhc=>?_) λc2=>?_
 ·obtain rfl:c=33:=by have:=zt hc;omega
  have Yg:gq s=R:=hR;refine Bd ?_;refine oS (S.address rfl mc wj gk (λa r ai ha bg uh=>?_) λhb d bg uh e' Ka=>?_);rotate_left
  have Pm:R=.re s:=by
   rw[<-Yg];unfold gq;cases hd:s.data with
   |nil=>rfl
   |cons x r=>
    cases r with
    |nil=>rfl
    |cons y r=>simp only;rw[zn (hb x _ hd)]
  subst Pm;refine Qd ?_;exact Kd.panic (Ka.trans Ri) ob (Kq _ _ uh);have Cl:r.length<=256:=by rw[ai,La] at gk;omega
  have qL:=uh;obtain⟨l7,HD1,ZD,rfl⟩:=qL;refine dd ?_;refine cD (m:=9) rfl []<|NL ?_;refine aT 4 rfl rfl (pM (lv:=.atom _) rfl)<|aT 5 rfl rfl (pM (lv:=.atom _) rfl)<|aL ?_ yd;refine Zq (i:=3) (j:=6) zk ?_ ?_
  ·refine lH rfl rfl (pL (c:=.atom (OB k)) rfl nc rfl) ?_;refine Rj (i:=6) zk ?_;refine lW rfl (.inl rfl) rfl (S.pop rfl mc uh Cl (λv r2 Ds qy Yk=>?_) λhb qy Yk e' Ka=>?_);rotate_left
   have Pm:R=.re s:=by rw[<-Yg];unfold gq;rw[ai,hb]
   subst Pm;refine Qd ?_;exact Kd.panic (Ka.trans Ri) ob (Kq _ _ Yk);have bi:R=.run { s with data:=r2,mem:=λi=>if i=a then v else s.mem i }:=by rw[<-Yg];unfold gq;rw[ai,Ds];simp only;rw[zp ha]
   subst bi;have qS:=Yk;obtain⟨yt,im,Yu,rfl⟩:=qS;refine IE ?_;refine lO 8 (lW rfl (.inl rfl) rfl (sS (n:=1) (vs:=[u32 v]) (Ob:=yl λi=>if i=a then v else s.mem i) rfl (show xd _ _ _ from List.perm_middle) rfl rfl (by rw[ble_eq,XP];omega) rfl (AY _ _ _) ?_));refine lD zk ?_;refine Da ?_;exact rO Ri rN ⟨[],by rw[de];exact List.perm_middle.symm⟩ ⟨rfl,vc,HC,vo,HO,_,hC,hO,Yk,rfl⟩
  refine lW rfl (.inl rfl) rfl (S.pop rfl mc uh Cl (λv r2 Ds qy Yk=>?_) λhb qy Yk e' Ka=>?_);rotate_left
  have Pm:R=.re s:=by rw[<-Yg];unfold gq;rw[ai,hb]
  subst Pm;refine Qd ?_;exact Kd.panic (Ka.trans Ri) ob (Kq _ _ Yk);have bi:R=.run { s with data:=r2,mem:=λi=>if i=a then v else s.mem i }:=by rw[<-Yg];unfold gq;rw[ai,Ds];simp only;rw[zp ha]
  subst bi;have qS:=Yk;obtain⟨yt,im,Yu,rfl⟩:=qS;refine lO 3 (lH rfl rfl (pL (c:=.atom (OB k)) rfl nc rfl) ?_);refine IE ?_;refine lO 8 (lW rfl (.inl rfl) rfl (sS (n:=1) (vs:=[u32 v]) (Ob:=yl λi=>if i=a then v else s.mem i) rfl (show xd _ _ _ from List.perm_middle) rfl rfl (by rw[ble_eq,XP];omega) rfl (AY _ _ _) ?_));refine lD zk ?_;refine Da ?_;exact rO Ri rN ⟨[],by rw[de];exact List.perm_middle.symm⟩ ⟨rfl,vc,HC,vo,HO,_,hC,hO,Yk,rfl⟩
 have n33:=zf c2;refine Si ?_;refine Ma (λhc=>?_) λc3=>?_
 ·obtain rfl:c=63:=by have:=zt hc;omega
  have Yg:ku s=R:=hR;refine Bd ?_;refine oS (S.pop rfl mc wj gk (λt r ai bg uh=>?_) λhb bg uh e' Ka=>?_);rotate_left
  have Pm:R=.re s:=by rw[<-Yg];unfold ku;rw[hb]
  subst Pm;refine Qd ?_;exact Kd.panic (Ka.trans Ri) ob (Kq _ _ uh);have Cl:r.length<=256:=by rw[ai,La] at gk;omega
  refine di ?_;refine oS (S.pop rfl mc uh Cl (λv r2 Ds qy Yk=>?_) λhb qy Yk e' Ka=>?_);rotate_left
  have Pm:R=.re s:=by rw[<-Yg];unfold ku;rw[ai,hb]
  subst Pm;refine Qd ?_;exact Kd.panic (Ka.trans Ri) ob (Kq _ _ Yk);have bi:R=.run { s with data:=r2,pc:=if v=0 then t else s.pc }:=by rw[<-Yg];unfold ku;rw[ai,Ds]
  obtain⟨yt,im,Yu,rfl⟩:=Yk;refine Da ?_;refine Ma (λhv=>?_) λhv=>?_;have dG:v=0:=by have:=zt hv;omega
  rw[zp dG] at bi;subst bi;refine wa ?_;exact rO Ri rN ob ⟨rfl,vc,HC,vo,HO,_::im,hC,hO,⟨yt,im,Yu,rfl⟩,rfl⟩;have dG:¬ v=0:=by have:=zf hv;omega
  rw[zn dG] at bi;subst bi;refine Da ?_;exact rO Ri rN ob ⟨rfl,mk _ _ ⟨yt,im,Yu,rfl⟩⟩
 have n63:=zf c3;refine Si ?_;refine Ma (λhc=>?_) λc4=>?_
 ·obtain rfl:c=58:=by have:=zt hc;omega
  have Yg:ZG s=R:=hR;refine Bd ?_;refine oS (S.pop rfl mc wj gk (λt r ai bg uh=>?_) λhb bg uh e' Ka=>?_);rotate_left
  have Pm:R=.re s:=by rw[<-Yg];unfold ZG;rw[hb]
  subst Pm;refine Qd ?_;exact Kd.panic (Ka.trans Ri) ob (Kq _ _ uh);have qL:=uh;obtain⟨yt,im,Yu,rfl⟩:=qL;refine xa ?_;refine la (Pure.NB rfl hC)<|Da ?_;refine oS (S.check rfl (λhb=>?_) λhb e' Ka=>?_);rotate_left;have Ja:¬ s.calls.length<64:=by have:=zf hb;omega
  have Pm:R=.re s:=by rw[<-Yg];unfold ZG;rw[ai];simp only;rw[zn Ja]
  subst Pm;refine Qd ?_;exact Kd.panic (Ka.trans Ri) ob (Kq _ _ uh);have Ja:s.calls.length<64:=by have:=zt hb;omega
  have bi:R=.run { s with data:=r,calls:=s.pc::s.calls,pc:=t }:=by rw[<-Yg];unfold ZG;rw[ai];simp only;rw[zp Ja]
  subst bi;refine Da ?_;refine cD (m:=14) rfl []<|kT ?_;refine aT 5 rfl rfl (pM (lv:=.atom _) rfl)<|aT 6 rfl rfl (pN rfl)<|aT 7 rfl rfl (pF rfl)<|aL ?_ yd;refine Zq (i:=4) (j:=8) zk ?_ ?_;refine lH rfl rfl (pL (c:=.atom vc) rfl nc rfl)<|Rj (i:=8) zk ?_;refine lH rfl rfl (pL (c:=u32 s.pc) rfl nc rfl)<|Rj (i:=9) zk ?_;refine MA ?_;exact EW;refine lH rfl rfl (pL (c:=u32 s.pc) rfl nc rfl)<|Zq (i:=4) (j:=9) zk ?_ ?_;refine lH rfl rfl (pL (c:=.atom vc) rfl nc rfl)<|Rj (i:=9) zk ?_;refine MA ?_;exact EW;refine MA ?_;refine Rj (i:=4) zk ?_;refine lH rfl rfl (pL (c:=.atom vc) rfl nc rfl) ?_;exact EW
 have n58:=zf c4;refine Si ?_;refine Ma (λhc=>?_) λc5=>?_
 ·obtain rfl:c=59:=by have:=zt hc;omega
  have Yg:Hw s=R:=hR;refine xa ?_;refine la (Pure.NB rfl hC)<|wa ?_;refine oS (S.check rfl (λhb=>?_) λhb e' Ka=>?_);rotate_left
  have qw:s.calls=[]:=by have:=zf hb;exact List.length_eq_zero_iff.1 zo
  have Pm:R=.re s:=by rw[<-Yg];unfold Hw;rw[qw]
  subst Pm;refine Qd ?_;exact Kd.panic (Ka.trans Ri) ob (Kq _ _ wj);obtain⟨t,r,ai⟩:∃ t r,s.calls=t::r:=by
   cases hd:s.calls with
   |nil=>have:=zt hb;rw[hlc,hd] at this;simp at this
   |cons t r=>exact⟨t,r,rfl⟩
  have bi:R=.run { s with calls:=r,pc:=t }:=by rw[<-Yg];unfold Hw;rw[ai]
  subst bi;have GN:s.calls.length=r.length+1:=by rw[ai];rfl
  have Cl:(us r.reverse).length=r.length:=by rw[iB,length_reverse]
  have XQ:us s.calls.reverse=us r.reverse++us [t]:=by rw[ai,reverse_cons,dF]
  have hC0:=hC;rw[XQ] at hC0;obtain⟨b,cap,spare,h1,h2,rn,ef⟩:=Ae.addr hC0 (by simp[us]);have Mm:(us r.reverse++us [t]).length=r.length+1:=by rw[Ga,Cl];rfl
  have Mk:(us r.reverse++us [t]).flatMap LV.cells=us r.reverse++us [t]:=by rw[<-dF];exact KP _
  rw[Mk,Sc] at h2;rw[Mm] at h1 rn ef;subst h1 h2;refine wa ?_;refine la (Pure.Vf (o:=r.length) rfl rfl zo zo zo)<|la (pL (c:=u32 t) rfl (Yc (mem_append_right _ sy)) (by rw[List.getElem?_append_right zo,Cl,sub_self];rfl)) ?_;refine wa ?_;refine la (Pure.il (n:=r.length) rfl (by exact Kg zo) zo)<|Na ?_;exact rO Ri rN ob ⟨rfl,_,_,vo,HO,_::ry,SX (l:=r.reverse) (spare:=us [t]++spare) (by rw[length_reverse]) zo (by rw[Ga,iB];simp only[List.length_singleton];omega),hO,⟨vd,ry,hm,rfl⟩,rfl⟩
 have n59:=zf c5;refine Si ?_;refine Ma (λhc=>?_) λc6=>?_
 ·obtain rfl:c=44:=by have:=zt hc;omega
  have Yg:RL s=R:=hR;unfold RL at Yg;refine wa ?_;cases hi:s.Ia with
  |nil=>
   rw[hi] at Yg;unfold xo at Yg;have e0:(us (k.mf s st false vc vo).Ia).length=0:=by show(us s.Ia).length=0;rw[hi];rfl
   refine Ma (λhc=>?_) λ_=>?_;have:=zt hc;omega;refine xa ?_;refine oS (S.push (v:=4294967295) rfl mc wj gk (λJa bg uh=>?_) λJa bg uh e' Ka=>?_);rw[zp Ja] at Yg;subst Yg;refine Da ?_;exact rO Ri rN ob ⟨rfl,mk _ _ uh⟩;rw[zn Ja] at Yg;subst Yg;refine Qd ?_
   exact Kd.panic (Ka.trans Ri) ob (Kq _ _ uh)
  |cons v r=>
   rw[hi] at Yg;unfold xo at Yg;simp only at Yg;have aat:(us (k.mf s st false vc vo).Ia).length=r.length+1:=by show(us s.Ia).length=_;rw[hi];simp[us]
   refine Ma (λ_=>?_) λhc=>?_;rotate_left;have:=zf hc;omega;refine wa ?_;refine la (xR (ke:=u32 v) (cs:=[u32 v]) rfl rfl fa (by show(us s.Ia)[0]? = _;rw[hi];rfl) rfl rfl) ?_;refine wa ?_;refine la (Pure.Fx (ms:=us r) rfl ⟨_,rfl⟩ rfl zo zo zo (qs8 _) (by show List.drop _ (List.take ((us s.Ia).length:Int).toNat (us s.Ia))=us r;rw[hi];simp[us,List.take_of_length_le])) ?_;refine wa ?_;have hD5:DH (k.mf { s with Ia:=r } st false vc vo) s.data ((k.mb,.cells 80 ((k.mf { s with Ia:=r } st false vc vo).cells vd))::ry):=⟨vd,ry,hm,rfl⟩;have mk5:∀ (d:List Nat) (bg:Heap),DH (k.mf { s with Ia:=r } st false vc vo) d bg->py k { s with Ia:=r,data:=d } st false (bg++(k.Xg s.mem::k.ah::(HC++HO))):=λd bg h=>⟨vc,HC,vo,HO,bg,hC,hO,h,rfl⟩;refine oS (S.push (v:=v) rfl mc hD5 gk (λJa bg uh=>?_) λJa bg uh e' Ka=>?_);rw[zp Ja] at Yg;subst Yg;refine Da ?_;exact rO Ri rN ob ⟨rfl,mk5 _ _ uh⟩;rw[zn Ja] at Yg;subst Yg;refine Qd ?_;exact Kd.panic (Ka.trans Ri) ob (qAk (s:={ s with Ia:=r,data:=s.data }) rfl (mk5 _ _ uh))
 have n44:=zf c6;refine Si ?_;refine Ma (λhc=>?_) λc7=>?_
 ·obtain rfl:c=46:=by have:=zt hc;omega
  have Yg:PE s=R:=hR;refine cD (m:=13) rfl []<|kT ?_;refine aT 5 rfl rfl (pM (lv:=.atom _) rfl)<|aL ?_ yd;refine Zq (i:=4) (j:=6) zk ?_ ?_
  ·refine lH rfl rfl (pL (c:=vo) rfl nc rfl) ?_;refine Rj (i:=6) zk ?_;refine lW rfl (.inl rfl) rfl (S.pop rfl mc wj gk (λv r ai bg uh=>?_) λhb bg uh e' Ka=>?_);rotate_left
   have Pm:R=.re s:=by rw[<-Yg];unfold PE;rw[hb]
   subst Pm;refine Qd ?_;exact Kd.panic (Ka.trans Ri) ob (Kq _ _ uh);have bi:R=.run { s with data:=r,out:=s.out++[UInt8.ofNat v] }:=by rw[<-Yg];unfold PE;rw[ai]
   subst bi;obtain⟨yt,im,Yu,rfl⟩:=uh;have e1:Vb s.out++[int .u8 (IntKind.u8.wrap (v:Int))]=Vb (s.out++[UInt8.ofNat v]):=by rw[EM,lU];rfl
   have Zr:((Vb s.out).length+[int .u8 (IntKind.u8.wrap (v:Int))].length) * 1<=140737488355328:=by simp only[iA,La,oc];omega
   exact mO
  refine lW rfl (.inl rfl) rfl (S.pop rfl mc wj gk (λv r ai bg uh=>?_) λhb bg uh e' Ka=>?_);rotate_left
  have Pm:R=.re s:=by rw[<-Yg];unfold PE;rw[hb]
  subst Pm;refine Qd ?_;exact Kd.panic (Ka.trans Ri) ob (Kq _ _ uh);have bi:R=.run { s with data:=r,out:=s.out++[UInt8.ofNat v] }:=by rw[<-Yg];unfold PE;rw[ai]
  subst bi;obtain⟨yt,im,Yu,rfl⟩:=uh;have e1:Vb s.out++[int .u8 (IntKind.u8.wrap (v:Int))]=Vb (s.out++[UInt8.ofNat v]):=by rw[EM,lU];rfl
  have Zr:((Vb s.out).length+[int .u8 (IntKind.u8.wrap (v:Int))].length) * 1<=140737488355328:=by simp only[iA,La,oc];omega
  refine Zq (i:=4) (j:=7) zk ?_ ?_;refine lH rfl rfl (pL (c:=vo) rfl nc rfl) ?_;exact mO;refine lH rfl rfl (Pure.Hz rfl)<|Zq (i:=4) (j:=8) zk ?_ ?_;refine lH rfl rfl (pL (c:=vo) rfl nc rfl)<|AO ?_;refine lW rfl (.inl rfl) rfl (sG (A:=_::(im++(k.Xg s.mem::k.ah::HC))) XL rfl hO rfl (λv hv=>by rw[Vi hv];rfl) rfl Zr λv' H' ab=>?_);rw[e1] at ab;refine IW ?_;exact rO Ri rN ⟨[],by rw[de];exact gi.trans XL.symm⟩ ⟨rfl,vc,HC,v',H',_::im,hC,ab,⟨yt,im,Yu,rfl⟩,rfl⟩;refine lW rfl (.inl rfl) rfl (sL (es:=[int .u8 (IntKind.u8.wrap (v:Int))]) [_] rfl (gd rfl rfl Ch) rfl rfl rfl ?_);refine Rj (i:=4) zk ?_;refine lH rfl rfl (pL (c:=vo) rfl nc rfl)<|Rj (i:=9) zk ?_;refine lW rfl (.inl rfl) rfl (sG (A:=_::(im++(k.Xg s.mem::k.ah::HC))) XL rfl hO rfl (λv hv=>by rw[Vi hv];rfl) rfl Zr λv' H' ab=>?_);rw[e1] at ab;refine IW ?_;exact rO Ri rN ⟨[],by rw[de];exact gi.trans XL.symm⟩ ⟨rfl,vc,HC,v',H',_::im,hC,ab,⟨yt,im,Yu,rfl⟩,rfl⟩
 have n46:=zf c7;refine Si ?_;refine Ma (λhc=>?_) λc8=>?_
 ·obtain rfl:c=36:=by have:=zt hc;omega
  have bi:R=.stop 0 s.out:=hR.symm;subst bi;refine wa ?_;exact rO Ri rN ob ⟨s,rfl,by rw[zp rfl];exact⟨rfl,vc,HC,vo,HO,_::ry,hC,hO,⟨vd,ry,hm,rfl⟩,rfl⟩⟩
 have n36:=zf c8;have fI:∀ r,(if c=43∨c=45∨c=42∨c=47∨c=37∨c=94∨c=60 then SD c s else MR.re s)=r->R=r:=λr hr=>by rw[<-hR,<-hr];unfold Ud;rw[zn wR,zn yN,zn zo,zn zo,zn zo,zn zo,zn zo,zn zo,zn zo,zn zo]
 by_cases Xc:c=43∨c=45∨c=42∨c=47∨c=37∨c=94∨c=60;rotate_left;have Pm:=fI _ (zn Xc);subst Pm;refine xa ?_;refine la (Pure.Vt (zv:=.nilFunc) (kt:=54) (el:=136) (kd:=.u32) zk zk (λw=>(Go.zero_of_info (P:=Tryz.prog) (n:=1) zk).1 w) rfl rfl (Yc (mem_append_right _ Oh)) (quB Xc))<|xa ?_;refine oS (S.check rfl (λhb=>?_) λhb e' Ka=>?_);cases hb;refine Qd ?_;exact Kd.panic (Ka.trans Ri) ob (Kq _ _ wj);have Yg:=fI _ (zp Xc)
 have fk:∀ (a b:Nat) (r:List Nat),s.data=b::a::r->a<4294967296/\b<4294967296:=λa b r hd=>by have h1:=Dc.data;rw[hd] at h1;exact⟨h1 a (Pc _ We),h1 b We⟩
 obtain⟨jj,f,hf1,iW,_⟩:=qnm (B0:=B0) (w0:=w0) Xc (a:=0) (b:=0) fa fa;refine xa ?_;refine la (Pure.Vv (kt:=54) (el:=136) (kd:=.u32) zk zk rfl rfl (Yc (mem_append_right _ Oh)) hf1)<|xa ?_;refine oS (S.check rfl (λhb=>?_) λhb e' Ka=>?_);rotate_left;cases hb;refine Di ?_;refine oS (S.pop rfl mc wj gk (λb r ai bg uh=>?_) λhb bg uh e' Ka=>?_);rotate_left
 have Pm:R=.re s:=by rw[Yg];unfold SD;rw[hb]
 subst Pm;refine Qd ?_;exact Kd.panic (Ka.trans Ri) ob (Kq _ _ uh);have Cl:r.length<=256:=by rw[ai,La] at gk;omega
 refine di ?_;refine oS (S.pop rfl mc uh Cl (λa r2 Ds qy Yk=>?_) λhb qy Yk e' Ka=>?_);rotate_left
 have Pm:R=.re s:=by rw[Yg];unfold SD;rw[ai,hb]
 subst Pm;refine Qd ?_;exact Kd.panic (Ka.trans Ri) ob (Kq _ _ Yk);have N3:r2.length<=256:=by rw[Ds,La] at Cl;omega
 obtain⟨ha,hb4⟩:=fk a b r2 (by rw[ai,Ds]);obtain⟨jj2,f2,hf3,hf4,cR⟩:=qnm (B0:=B0) (w0:=w0) Xc ha hb4;obtain rfl:f=f2:=by rw[hf1] at hf3;injection hf3 with h1;injection h1 with h1;injection h1 with h1 h2;injection h2 with h2;injection h2
 have WC:(match ud c a b with
   |some v=>xo v { s with data:=r2 }
   |none=>MR.re s)=R:=by
  rw[Yg];unfold SD;rw[ai,Ds];rfl
 refine di ?_;refine oS (S.Ml (f:=f) (first:=#[]) (ib:=#[]) (H1:=qy++(k.Xg s.mem::k.ah::(HC++HO))) (F:=[]) [_,_] rfl rfl (by rw[de]) (cR _) ?_ ?_);rintro v H' ⟨rfl,h⟩;cases dS:ud c a b with
 |none=>rw[dS] at h;cases h
 |some w=>rw[dS] at h WC;cases h;simp only at WC;unfold xo at WC;simp only at WC;rw[de];refine oS (S.push (v:=w) rfl mc Yk N3 (λJa im qL=>?_) λJa im qL e' Ka=>?_);rw[zp Ja] at WC;subst WC;refine Da ?_;exact rO Ri rN ob ⟨rfl,mk _ _ qL⟩;rw[zn Ja] at WC;subst WC;refine Qd ?_;exact Kd.panic (Ka.trans Ri) ob (Kq _ _ qL)
 rintro ch H' ⟨rfl,h⟩ e' Ka;cases dS:ud c a b with
 |some w=>rw[dS] at h;cases h
 |none=>rw[dS] at h WC;cases h;simp only at WC;subst WC;rw[de];refine Qd ?_;exact Kd.panic (Ka.trans Ri) ob (Kq _ _ Yk)
open xi (u32 Same Wo Ir Zy)
variable{og:Nat}
theorem qtn(w:World):(zeroValue 139).run Tryz.prog w=.ok (.agg ([]:List Value).toArray) w:=
 (Go.zero_of_info (P:=Tryz.prog) (n:=0) zk).1 w
theorem qyb{s':MS}(h:Ud c s=.run s'):s'.out.length<=s.out.length+1:=by
 have push:∀ (v:Nat) (t:MS),xo v t=.run s'->t.out=s.out->s'.out.length<=s.out.length+1:=λv t h ht=>by unfold xo at h;split at h;injection h with h;subst h;show t.out.length<=_;rw[ht];omega;cases h
 unfold Ud at h;split at h;unfold XE at h;split at h;split at h;exact qt;cases h;exact push _ _ h rfl;split at h;injection h with h;subst h;omega;split at h;unfold UH at h;split at h;split at h;exact push _ _ h rfl;cases h;cases h;split at h;unfold gq at h;split at h;split at h;exact qt;cases h;cases h;split at h;unfold ku at h;split at h;exact qt;cases h;split at h;unfold ZG at h;split at h;split at h;exact qt;cases h;cases h;split at h;unfold Hw at h;split at h;exact qt;cases h;split at h;unfold RL at h;split at h;exact push _ _ h rfl;exact push _ _ h rfl;split at h;unfold PE at h;split at h;exact qt;cases h;split at h;cases h;split at h;unfold SD at h;split at h;split at h;exact push _ _ h rfl;cases h;cases h;cases h
theorem fv.exit{Q:Jc}{e:Env}{H:Heap}{id:Nat}(h:Q (.exit id) e H):fv Q (.exit id) e H:=h
attribute [local irreducible] dj xg Gv Kn
theorem eU(b:Nat)(d:LV):Kn (KC B0 w0) 63 [ptr b 0] .returning [(b,.cells 23 [d])]
  (λu H=>u=.returning/\H=[(b,.cells 23 [d])]):=by
 refine Kn.intro Tryz.func63 rfl (n:=14) rfl rfl rfl ?_;refine xy ?_;refine Bd ?_;refine la (sj.Pure.Vq qtn rfl)<|Na ?_;refine oS (Jd λb5=>?_);refine wa ?_;refine Ma (λhc=>?_) λhc=>?_;cases hc;refine wa ?_;refine Ma (λhc=>?_) λhc=>?_;cases hc;refine Da ?_;exact⟨rfl,_,Pg ob,rfl,rfl⟩
theorem ZT(b:Nat)(d:LV):Kn (KC B0 w0) 63 [ptr b 0] (.panicking Zw) [(b,.cells 23 [d])]
  (λu H=>settle u=.returning/\H=[(b,.cells 23 [int .i64 12])]):=by
 refine Kn.intro Tryz.func63 rfl (n:=14) rfl rfl rfl ?_;refine xy ?_;refine Bd ?_;refine la (Pure.Ep (vs:=[]) rfl)<|Na ?_;refine oS (Jd λb5=>?_);refine wa ?_;refine Ma (λhc=>?_) λhc=>?_;refine wa ?_;exact⟨rfl,_,tc pH yd,rfl,rfl⟩;cases hc
def gT(k:MK)(st:Nat)(o:Wd)(H:Heap):Prop:=∃ s stop,s.out=o/\py k s st stop H
theorem KM(k:MK){Ca:Nat}(Dc:Sk s)(YK:s.digit=true->s.data≠[])(Kk:st<=Ca)(tG:Ca<=100000000)(kg:s.out.length<=st)(h:py k s st false H) :
  ca (KC B0 w0) 32 [ptr k.mb 0,int .i64 (Ca:Nat)] H (λr H'=>gT k (st+(runM (Ca-st) s).2.2) (runM (Ca-st) s).2.1 H'/\r=.ret (int .i64 ((runM (Ca-st) s).1:Nat))):=by
 generalize hR:runM (Ca-st) s=R;refine ca.aw Tryz.func32 rfl (n:=59) rfl rfl rfl ?_;refine An ?_;refine qe ?_;refine oS (Jd λb4=>?_);refine dd ?_;refine ov ?_;refine dj.defer rfl rfl ?_;refine jr ?_;refine xg.seq ?_;refine xg.block ?_;refine xg.IQ (λkk ls H'=>∃ (i:Nat) (s1:MS) (H1:Heap),i<=Ca/\st<=i/\kk=Ca-i/\ls=[(0,ptr k.mb 0),(1,int .i64 (Ca:Nat)),(4,ptr b4 0)]/\H'=(b4,.cells 23 [int .i64 0])::H1/\py k s1 i false H1/\Sk s1/\(s1.digit=true->s1.data≠[])/\s1.out.length<=i/\(runM (Ca-i) s1).1=R.1/\(runM (Ca-i) s1).2.1=R.2.1/\i+(runM (Ca-i) s1).2.2=st+R.2.2)
  ⟨_,_,_,⟨st,s,H,Kk,Jb _,rfl,rfl,rfl,h,Dc,YK,kg,by rw[hR],by rw[hR],by rw[hR]⟩,lb,Kb _⟩ ?_
 rintro kk ls H' ⟨i,s1,H1,hi,iI,rfl,rfl,rfl,hS,ow,UR,aaa,e1,e2,e3⟩ j hj;obtain⟨vc,HC,vo,HO,HD,hC,hO,hD,rfl⟩:=hS;have wj:=hD;obtain⟨vd,ry,hm,rfl⟩:=hD;rw[List.cons_append];have aap:(k.mf s1 i false vc vo).st=i:=rfl;have aaq:(k.mf s1 i false vc vo).pc=s1.pc:=rfl;refine An ?_;refine wa ?_;refine Ma (λhc=>?_) λhc=>?_;rotate_left
 ·have hil:i=Ca:=by have:=zf hc;omega
  subst hil;rw[sub_self,runM] at e1 e2 e3;simp only at e1 e2 e3;refine fb.exit ?_;refine fv.exit ?_;refine Da ?_;refine xg.of ?_;refine wa ?_;first|refine fv.ret ?_|skip
  exact Lv.Wj (vs:=[int .i64 13]) (H2:=[(b4,.cells 23 [int .i64 13])]) hj mc (eU b4 _)
   (rC (Am.Bc rfl nc rfl Nd) rN) (Pg ob) ⟨⟨s1,false,e2,by rw[<-e3,Nat.add_zero];exact⟨vc,HC,vo,HO,_,hC,hO,wj,rfl⟩⟩,by rw[<-e1];rfl⟩
 have hil:i<Ca:=by have:=zt hc;omega
 have hn:Ca-i=(Ca-(i+1))+1:=by omega
 rw[hn,runM] at e1 e2 e3;refine fb.skip ?_;first|refine fv.normal ?_|skip
 refine xg.block ?_;refine An ?_;refine wa ?_;first|refine fv.normal ?_|skip
 refine xg.qc (H':=(b4,.cells 23 [int .i64 0])::(k.mb,.cells 80 ((k.mf s1 (i+1) false vc vo).cells vd))::(ry++(k.Xg s1.mem::k.ah::(HC++HO)))) ⟨[],by rw[de];exact cr _ _ _⟩ ?_;have E3:py k s1 (i+1) false (((k.mb,.cells 80 ((k.mf s1 (i+1) false vc vo).cells vd))::ry)++(k.Xg s1.mem::k.ah::(HC++HO))):=⟨vc,HC,vo,HO,_,hC,hO,⟨vd,ry,hm,rfl⟩,rfl⟩;have aac:(k.mf s1 (i+1) false vc vo).pc=s1.pc:=rfl;refine ov ?_;refine dj.step (S.check rfl (λhb=>?_) λhb=>?_) rfl;rotate_left
 ·have oq:¬ s1.pc<262144:=by have:=zf hb;omega
  have hs:gb s1=.stop 12 s1.out:=by unfold gb;rw[zn oq];rfl
  rw[hs] at e1 e2 e3;simp only at e1 e2 e3;refine Qd ?_;exact Lv.Rr (H1:=[(b4,.cells 23 [int .i64 0])]) (vs:=[int .i64 12]) (H2:=[(b4,.cells 23 [int .i64 12])]) hj mc (ZT b4 _)
   (rC (Am.Bc rfl nc rfl Nd) rN) (Pg ob) ⟨⟨s1,false,e2,by rw[<-e3];exact E3⟩,by rw[<-e1];rfl⟩
 have oq:s1.pc<262144:=by have:=zt hb;omega
 refine jr ?_;refine An ?_;refine qm ?_;refine qP (Pure.Vf (o:=s1.pc) rfl rfl zo zo zo) rfl ?_;refine qP (pL (c:=u32 (s1.mem s1.pc)) rfl (Yc (Yc (mem_append_right _ nc))) (LP _ oq)) rfl ?_;refine Na ?_;first|refine fv.normal ?_|skip
 refine An ?_;refine wa ?_;refine la (Pure.Fp rfl rfl)<|Da ?_;have hw:IntKind.u32.wrap ((s1.pc:Int)+1)=((s1.pc+1:Nat):Int):=by rw[Ir];omega
 refine oS (sS (n:=1) (vs:=[u32 (s1.pc+1)]) (Ob:=[_,_,_,_,_,_,_,_,_,_]) rfl Od (by show some [int .u32 _]=some [int .u32 _];rw[<-hw]) rfl rfl rfl rfl ?_);refine dd ?_;first|refine fv.normal ?_|skip
 generalize Fs:s1.mem s1.pc=c at *;have Ge:c<4294967296:=by rw[<-Fs];exact ow.mem _
 have oR:Sk { s1 with pc:=s1.pc+1 }:=⟨ow.mem,by show s1.pc+1<_;omega,ow.data,ow.calls,ow.Ia,ow.Dz,ow.deep⟩;have hex:=qsZ (B0:=B0) (w0:=w0) k (s:={ s1 with pc:=s1.pc+1 }) (st:=i+1) (c:=c) oR Ge UR (by show s1.out.length<=_;omega) (H:=((k.mb,.cells 80 ((k.mf { s1 with pc:=s1.pc+1 } (i+1) false vc vo).cells vd))::ry)++(k.Xg s1.mem::k.ah::(HC++HO))) ⟨vc,HC,vo,HO,_,hC,hO,⟨vd,ry,hm,rfl⟩,rfl⟩;refine ov ?_;refine dj.step (S.Tc (F:=[(b4,.cells 23 [int .i64 0])]) [_,_] rfl (Vs _ (List.perm_append_singleton _ _).symm) hex ?_ ?_) rfl
 ·intro v H2 hP
  cases hx:Ud c { s1 with pc:=s1.pc+1 } with
  |run s2=>
   rw[hx] at hP;obtain⟨hv,QN⟩:=hP;cases hv;have hs:gb s1=.run { s2 with digit:=Hn c }:=by unfold gb;rw[zp oq,Fs,hx]
   rw[hs] at e1 e2 e3;simp only at e1 e2 e3;have nw:=qzr oR Ge hx;have na:=qyb hx;have TR:Hn c=true->s2.data≠[]:=qyI hx;have El:s2.out.length<=i+1:=by have:s2.out.length<=s1.out.length+1:=na;omega
   obtain⟨LO,fT,JO,eT,qy,hC2,hO2,Yk,rfl⟩:=QN;obtain⟨yt,im,Yu,rfl⟩:=Yk;refine jr ?_;refine xg.qc (H':=(b4,.cells 23 [int .i64 0])::(k.mb,.cells 80 ((k.mf s2 (i+1) false LO JO).cells yt))::(im++(k.Xg s2.mem::k.ah::(fT++eT)))) ⟨[],by rw[de];exact gi⟩ ?_;refine xg.of ?_;refine wa ?_;refine oC rfl (λhc=>by cases hc) λ_=>?_;refine wa ?_;have fin:∀ (dg:Bool),Hn c=dg->py k { s2 with digit:=dg } (i+1) false (((k.mb,.cells 80 ((k.mf { s2 with digit:=dg } (i+1) false LO JO).cells yt))::im)++(k.Xg s2.mem::k.ah::(fT++eT)))/\Sk { s2 with digit:=dg }/\(dg=true->s2.data≠[]):=λdg hd=>⟨⟨LO,fT,JO,eT,_,hC2,hO2,⟨yt,im,Yu,rfl⟩,rfl⟩,⟨nw.mem,nw.pc,nw.data,nw.calls,nw.Ia,nw.Dz,nw.deep⟩,λh=>TR (hd.trans h)⟩;refine oB 53 rfl (λh=>?_) λh=>?_
   ·have bq:Hn c=decide ((c:Int)<=57):=by
     have:=zt h;unfold Hn;rw[Nf (by omega:48<=c),Bool.true_and,decide_eq_decide];omega
    obtain⟨f1,f2,f3⟩:=fin _ bq;rw[bq] at e1 e2 e3;refine Na ?_;first|refine fv.norm ?_|skip
    first|refine Oe.normal ?_|skip
    first|refine qN ?_|skip
    exact⟨Ca-(i+1),_,_,by omega,⟨i+1,_,_,by omega,by omega,rfl,rfl,rfl,f1,f2,f3,El,e1,e2,by omega⟩,lb,⟨[],by rw[de];exact cr _ _ _⟩,hj⟩
   have bq:Hn c=false:=by have:=zf h;unfold Hn;rw[decide_eq_false (by omega:¬ 48<=c)];rfl
   obtain⟨f1,f2,f3⟩:=fin _ bq;rw[bq] at e1 e2 e3;refine Na ?_;first|refine fv.norm ?_|skip
   first|refine Oe.normal ?_|skip
   first|refine qN ?_|skip
   exact⟨Ca-(i+1),_,_,by omega,⟨i+1,_,_,by omega,by omega,rfl,rfl,rfl,f1,f2,f3,El,e1,e2,by omega⟩,lb,⟨[],by rw[de];exact cr _ _ _⟩,hj⟩
  |stop er o=>
   rw[hx] at hP;obtain⟨s2,ho,hP⟩:=hP;by_cases he:er=0;rotate_left;rw[zn he] at hP;obtain⟨_,hv,_⟩:=hP;cases hv;rw[zp he] at hP;obtain⟨hv,QN⟩:=hP;cases hv;subst he;have hs:gb s1=.stop 0 o:=by unfold gb;rw[zp oq,Fs,hx]
   rw[hs] at e1 e2 e3;simp only at e1 e2 e3;have xp:gT k (st+R.2.2) R.2.1 H2:=⟨s2,true,ho.trans e2,by rw[<-e3];exact QN⟩;obtain⟨LO,fT,JO,eT,qy,hC2,hO2,Yk,rfl⟩:=QN;obtain⟨yt,im,Yu,rfl⟩:=Yk;refine jr ?_;refine xg.qc (H':=(b4,.cells 23 [int .i64 0])::(k.mb,.cells 80 ((k.mf s2 (i+1) true LO JO).cells yt))::(im++(k.Xg s2.mem::k.ah::(fT++eT)))) ⟨[],by rw[de];exact gi⟩ ?_;refine xg.of ?_;refine wa ?_;refine oC rfl (λ_=>?_) (λhc=>by cases hc);refine wa ?_;first|refine fv.ret ?_|skip
   first|refine ve.ret ?_|skip
   first|refine Oe.ret ?_|skip
   first|refine ve.ret ?_|skip
   first|refine Oe.ret ?_|skip
   first|refine ve.ret ?_|skip
   exact Lv.Wj (vs:=[int .i64 0]) (H2:=[(b4,.cells 23 [int .i64 0])]) hj mc (eU b4 _)
    (rC (Am.Bc rfl nc rfl Nd) rN) (Pg ob) ⟨xp,by rw[<-e1];rfl⟩
 intro ch H2 hP;cases hx:Ud c { s1 with pc:=s1.pc+1 } with
 |run s2=>rw[hx] at hP;obtain⟨hv,_⟩:=hP;cases hv
 |stop er o=>
  rw[hx] at hP;obtain⟨s2,ho,hP⟩:=hP;by_cases he:er=0;rw[zp he] at hP;obtain⟨hv,_⟩:=hP;cases hv;rw[zn he] at hP;obtain⟨h12,hv,QN⟩:=hP;cases hv;subst h12;have hs:gb s1=.stop 12 o:=by unfold gb;rw[zp oq,Fs,hx]
  rw[hs] at e1 e2 e3;simp only at e1 e2 e3;refine Qd ?_;exact Lv.Rr (H1:=[(b4,.cells 23 [int .i64 0])]) (vs:=[int .i64 12]) (H2:=[(b4,.cells 23 [int .i64 12])]) hj gi (ZT b4 _)
   (rC (Am.Bc rfl nc rfl Nd) rN) (Pg ob) ⟨⟨s2,false,ho.trans e2,by rw[<-e3];exact QN⟩,by rw[<-e1];rfl⟩
def KT(og:Nat)(code:Wd):LV:=.agg [int .i64 (og:Nat),str code]
def XO(r:Nat×Wd×Nat):LV:=.agg [str r.2.1,int .i64 (r.1:Nat),int .i64 (r.2.2:Nat)]
theorem qtI{code:Wd}{n:Nat}(h:n<code.length):(λi=>if i=og+n then (code[n]).toNat else Xs (code.take n) og i)=Xs (code.take (n+1)) og:=by funext i;unfold Xs;rw[List.getElem?_take,List.getElem?_take];by_cases h1:i=og+n;subst h1;rw[zp rfl,zp zo,show og+n-og=n by omega,zp zo,jh h];rw[zn h1];by_cases h2:og<=i;rw[zp h2,zp h2];by_cases h3:i-og<n;rw[zp h3,zp zo];rw[zn h3,zn zo];rw[zn h2,zn h2]
theorem qtv(og:Nat):Xs [] og=λ_=>0:=by funext i;unfold Xs;split;rw[List.getElem?_nil];rfl
theorem qvM(code:Wd){Ia:List Nat}(h:og<262144)(hi:∀ v∈Ia,v<4294967296):Sk (Dv code og Ia):=
 ⟨λi=>qyT code og i,by show og<_;omega,λv hv=>(not_mem_nil hv).elim,λv hv=>(not_mem_nil hv).elim,hi,by show 0<=_;omega,by show 0<=_;omega⟩
@[reducible] def UG(k:MK)(og:Nat)(Ia:List Nat):Nat×ma:=(k.mb,.cells 80 ((k.mf (Dv [] og Ia) 0 false (.slice none 0 0) Yb).cells (.slice none 0 0)))
@[reducible] def pK(b:Nat):Nat×ma:=(b,.cells 25 [str [],int .i64 0,int .i64 0])
theorem qoa{code:Wd}{Ia:List Nat}{steps:Nat}(qR:og+code.length<=262144)(Y3:og<262144)(Wf:∀ v∈Ia,v<4294967296)(lG:0<steps)(J3:steps<=100000000) :
  ca (KC B0 w0) 18 [.list [KT og code],int .i64 (og:Nat),.list (us Ia),int .i64 (steps:Nat)] [] (Qb (XO (runM steps (Dv code og Ia)))):=by
 have eX:KT og code=.agg [int .i64 (og:Nat),str code]:=rfl;rw[eX];refine kb Tryz.func18 rfl (n:=106) rfl rfl rfl ?_;refine qe ?_;refine oS (Jd λb8=>?_);refine wa ?_;refine oL (λkk ls H'=>∃ i:Nat,i<=1/\kk=1-i/\ls=[(0,.list [.agg [int .i64 (og:Nat),str code]]),(1,int .i64 (og:Nat)),(2,.list (us Ia)),(3,int .i64 (steps:Nat)),(8,ptr b8 0),(9,bool true),(23,.list [.agg [int .i64 (og:Nat),str code]]),(24,int .i64 1),(25,int .i64 (i:Nat))]/\H'=[pK b8])
  ⟨_,_,_,⟨0,by omega,rfl,rfl,rfl⟩,⟨rfl,rfl,rfl,rfl,rfl,xe (Nf zo),rfl,rfl,rfl,trivial⟩,Kb _⟩ ?_
 rintro kk ls H' ⟨i,hi,rfl,rfl,rfl⟩ j hj;refine Zg ?_;refine Ma (λhc=>?_) λhc=>?_;obtain rfl:i=0:=by have:=zt hc;omega
 refine Ti ?_;refine la (xR (ke:=.agg [int .i64 (og:Nat),str code]) (cs:=[_,_]) rfl rfl fa rfl rfl rfl)<|Na ?_;refine oS (Jd λb11=>?_);refine wa ?_;exact⟨_,_,_,by omega,⟨1,by omega,rfl,rfl,rfl⟩,⟨rfl,rfl,rfl,rfl,rfl,xe (Nf zo),rfl,rfl,rfl,trivial⟩,Pg ob,hj⟩;obtain rfl:i=1:=by have:=zf hc;omega
 clear hc hi;refine wa ?_;refine oC rfl (λhc=>by cases hc) λ_=>?_;refine wa ?_;refine Ma (λhc=>?_) λ_=>?_;have:=zt hc;omega;refine wa ?_;refine Ma (λhc=>?_) λ_=>?_;have:=zt hc;omega
 have hwo:IntKind.u32.wrap (og:Int)=(og:Int):=by rw[Ir];omega
 refine Da ?_;refine cM (A:=MK) (λk=>[(0,.list [.agg [int .i64 (og:Nat),str code]]),(3,int .i64 (steps:Nat)),(8,ptr b8 0),(12,ptr k.mb 0)]) (λk=>[UG k og Ia,k.Xg λ_=>0,k.ah,pK b8]) (λ_=>True) ?_ λk _ j2 wc=>?_;refine cD (m:=8) rfl []<|aT 1 rfl rfl (pM (lv:=.atom _) rfl)<|aT 2 rfl rfl (Pure.Hz rfl)<|aT 3 rfl rfl (pM (lv:=.list _) rfl) ?_;rw[hwo];refine aL ?_ yd;refine Zq (i:=0) (j:=4) zk ?_ ?_;refine lW rfl (.inl rfl) rfl (S.Dx (n:=262144) rfl rfl fa fa λmm=>?_);rw[qnb];refine Rj (i:=4) zk ?_;refine lW rfl (.inl rfl) rfl (S.Tc (H1:=[]) [] rfl mc qhC ?_ (by rintro ch H' ⟨_,h,_⟩;cases h));rintro lv H' ⟨bm,h,rfl⟩;cases h;exact fO;refine lW rfl (.inl rfl) rfl (S.Tc (H1:=[]) [] rfl mc qhC ?_ (by rintro ch H' ⟨_,h,_⟩;cases h));rintro lv H' ⟨bm,h,rfl⟩;cases h;refine Rj (i:=0) zk ?_;refine lW rfl (.inl rfl) rfl (S.Dx (n:=262144) rfl rfl fa fa λmm=>?_);rw[qnb];exact fO;have Ri:j2.ds=[]:=wc.trans hj;refine xa ?_
 refine oL (λkk ls H'=>∃ i:Nat,i<=1/\kk=1-i/\ls=[(3,int .i64 (steps:Nat)),(8,ptr b8 0),(12,ptr k.mb 0),(64,.list [.agg [int .i64 (og:Nat),str code]]),(65,int .i64 1),(66,int .i64 (i:Nat))]/\H'=[UG k og Ia,k.Xg (Xs (code.take (i * code.length)) og),k.ah,pK b8])
  ⟨_,_,_,⟨0,by omega,rfl,rfl,rfl⟩,lb,by rw[Nat.zero_mul,List.take_zero,qtv];exact Kb _⟩ ?_
 rintro kk ls H' ⟨i,hi,rfl,rfl,rfl⟩ j3 qn;refine Zg ?_;refine Ma (λhc=>?_) λhc=>?_;obtain rfl:i=0:=by have:=zt hc;omega
 refine Ti ?_;refine la (xR (ke:=.agg [int .i64 (og:Nat),str code]) (cs:=[_,_]) rfl rfl fa rfl rfl rfl)<|Na ?_;refine oS (Jd λSN=>?_);refine wa ?_;refine oL (λkk ls H'=>∃ n:Nat,n<=code.length/\kk=code.length-n/\ls=[(3,int .i64 (steps:Nat)),(8,ptr b8 0),(12,ptr k.mb 0),(14,ptr SN 0),(64,.list [.agg [int .i64 (og:Nat),str code]]),(65,int .i64 1),(66,int .i64 0),(72,int .i64 code.length),(73,int .i64 (n:Nat))]/\H'=[UG k og Ia,(SN,.cells 52 [int .i64 (og:Nat),str code]),k.Xg (Xs (code.take n) og),k.ah,pK b8])
  ⟨_,_,_,⟨0,zero_le _,rfl,rfl,rfl⟩,lb,by rw[Nat.zero_mul];exact tc Od ob⟩ ?_
 rintro kk ls H' ⟨n,hn,rfl,rfl,rfl⟩ j4 FC;refine Zg ?_;refine Ma (λhd=>?_) λhd=>?_;have Ja:n<code.length:=by have:=zt hd;omega
 have Vh:code[((n:Nat):Int).toNat]? = some code[n]:=by rw[Int.toNat_natCast,jh Ja]
 have As:=qtI (og:=og) Ja;generalize code[n]=ch at Vh As;have hw8:IntKind.u32.wrap ((ch.toNat:Nat):Int)=((ch.toNat:Nat):Int):=by rw[Ir];have:=ch.toNat_lt;omega
 refine xa ?_;refine cD (m:=15) rfl [UG k og Ia,(SN,ma.cells 52 [int .i64 (og:Nat),str code])]<|NL ?_;refine aT 3 rfl rfl (pL (c:=.atom _) rfl nc rfl)<|aT 4 rfl rfl (pF rfl)<|aT 5 rfl rfl (pL (c:=.atom _) rfl Oh rfl)<|aT 6 rfl rfl (pM (lv:=.atom _) rfl)<|aT 7 rfl rfl (Pure.add rfl rfl zo)<|aT 8 rfl rfl (pF rfl)<|aT 9 rfl rfl (pL (c:=.atom _) rfl Oh rfl)<|aT 10 rfl rfl (pM (lv:=.atom _) rfl)<|aT 11 rfl rfl (pI (c:=ch) rfl rfl zo Vh)<|aT 12 rfl rfl (Pure.Hz rfl)<|aT 13 rfl rfl (Pure.Vf (o:=og+n) rfl rfl zo zo zo)<|aL ?_ ⟨_,List.Perm.refl _⟩;refine Rj (i:=14) zk ?_;refine lS (H1:=[k.Xg (Xs (code.take n) og)]) (F:=[UG k og Ia,(SN,ma.cells 52 [int .i64 (og:Nat),str code]),k.ah,pK b8]) rfl (.inl rfl) rfl Fi ⟨_,List.Perm.refl _⟩ ?_;refine sS (n:=1) (vs:=[u32 ch.toNat]) (Ob:=yl (Xs (code.take (n+1)) og)) rfl pH (congrArg (λz=>some [int .u32 z]) hw8) rfl (by rw[ble_eq,XP];omega) rfl (by rw[<-As];exact AY _ _ _) ?_;refine lD zk ?_;refine Zk ?_;exact⟨code.length-(n+1),_,_,by omega,⟨n+1,by omega,rfl,rfl,rfl⟩,lb,tc Od (tc Od ob),FC⟩;obtain rfl:n=code.length:=by have:=zf hd;omega
 refine xa ?_;exact⟨0,_,_,by omega,⟨1,by omega,rfl,rfl,rfl⟩,lb,by rw[Nat.one_mul];exact tc pH (Pg ob),FC.trans qn⟩;obtain rfl:i=1:=by have:=zf hc;omega
 rw[Nat.one_mul,List.take_length];have hS:py k (Dv code og Ia) 0 false [UG k og Ia,k.Xg (Xs code og),k.ah]:=⟨.slice none 0 0,[],Yb,[],[UG k og Ia],Ae.nil,Acc.nil,⟨.slice none 0 0,[],Ae.nil,rfl⟩,rfl⟩;have Hd:=KM (B0:=B0) (w0:=w0) k (qvM code Y3 Wf) (λh=>by cases h) (zero_le steps) J3 (Jb 0) hS;rw[Nat.sub_zero] at Hd;generalize runM steps (Dv code og Ia)=R at Hd ⊢;rw[Nat.zero_add] at Hd;refine xa ?_;refine oS (S.Tc (H1:=[UG k og Ia,k.Xg (Xs code og),k.ah]) (F:=[pK b8]) [_,_] rfl mc Hd ?_ (by rintro ch H' ⟨_,h⟩;cases h));rintro v H' ⟨hE,hv⟩;cases hv;obtain⟨s2,stop,ho,vc,HC,vo,HO,HD,hC,hO,hD,rfl⟩:=hE;obtain⟨vd,ry,hm,rfl⟩:=hD;refine Ea.qc (H':=pK b8::(k.mb,.cells 80 ((k.mf s2 R.2.2 stop vc vo).cells vd))::(ry++(k.Xg s2.mem::k.ah::(HC++HO)))) ⟨[],by rw[de];exact gi⟩ ?_;refine Da ?_;refine fb.tail 11 zk ?_;refine Na ?_;refine Wm (pL (c:=vo) rfl Oh rfl) rfl ?_;refine Wm (Pure.Xe (l:=s2.out) (by exact hO.elems)) rfl ?_;refine Na ?_;exact qb (qn.trans Ri) (rC (rA (k:=3) rfl nc rfl Nd) rN) (by rw[ho];rfl)
end Go.Proofs.YtmnjklgnhpnckaaGreatDoor.TN
namespace Go.Proofs.YtmnjklgnhpnckaaGreatDoor.VI
open Go.GL Go.RowKit Go.ia
open Go.Lib (decDigits itoa join)
attribute [local irreducible] Ea fb Ya ca Go.GL.Pure ve Oe Kd LQ yb nh db LS
variable{B0:Nat}{w0:World}
theorem qlJ(hG:GW B0 w0)(hM:sq.GM w0){p:Pr}{n:Nat}(h:NG p n)(hn:n<=2000000)(o:xk)(o1:Nw o.code)(o2:Nw o.scalars)(o3:Nw o.ba):ca (KC B0 w0) 28 [Av p,dB o] [] (Qb (aM (pk p.vars (sf p) p.funcs o))):=by
 rw[xi.Bu];exact qnD hG hM _ _ _ o (Qf h.vars hn) (by rw[Db];exact Qf h.ba hn) (λa ha=>by
  obtain⟨x,hx,rfl⟩:=Qh ha;have:=h.size x hx;constructor;show(-9223372036854775808:Int)<=(x.size:Int);omega;show(x.size:Int)<9223372036854775808;omega) (Qf h.funcs hn) h.dz o1 o2 o3
def Zn:xk:=⟨10000,0,100000⟩
theorem W0:ca (KC B0 w0) 17 [] [] (Qb (dB Zn)):=by refine kb Tryz.func17 rfl (n:=2) rfl rfl rfl ?_;refine qe ?_;refine oS (Jd λb=>?_);refine wa ?_;exact qb rfl (rC (rA rfl nc rfl Nd) rN) rfl
end Go.Proofs.YtmnjklgnhpnckaaGreatDoor.VI
namespace Go.Proofs.YtmnjklgnhpnckaaGreatDoor.Lb
open Go.GL Go.RowKit Go.ia
noncomputable def ic(f:Go.Func):List UInt8:=match f.body with
 |some (.seq _ (.seq (.region _ Sa _) _))=>(match Sa.toList with
  |o::_=>(match o.op with
   |.assign (.const (.string s))=>s.data.toList
   |_=>[])
  |[]=>[])
 |_=>[]
noncomputable def y7:List UInt8:=(ic Go.Proofs.Tryz.f117)
noncomputable def SE:List UInt8:=(ic Go.Proofs.Tryz.f118)
noncomputable def yj:List UInt8:=(ic Go.Proofs.Tryz.f175)++(ic Go.Proofs.Tryz.f176)
noncomputable def VW:List UInt8:=(ic Go.Proofs.Tryz.f177)++(ic Go.Proofs.Tryz.f178)
noncomputable def sv:List UInt8:=(ic Go.Proofs.Tryz.f179)++(ic Go.Proofs.Tryz.f180)++(ic Go.Proofs.Tryz.f181)
noncomputable def Bt:List UInt8:=(ic Go.Proofs.Tryz.f122)
noncomputable def tv:List UInt8:=(ic Go.Proofs.Tryz.f182)++(ic Go.Proofs.Tryz.f183)++(ic Go.Proofs.Tryz.f184)
noncomputable def nr:List UInt8:=(ic Go.Proofs.Tryz.f185)++(ic Go.Proofs.Tryz.f186)++(ic Go.Proofs.Tryz.f187)++(ic Go.Proofs.Tryz.f188)
noncomputable def fl:List UInt8:=(ic Go.Proofs.Tryz.f125)
noncomputable def Rg:List UInt8:=(ic Go.Proofs.Tryz.f126)
noncomputable def Uw:List UInt8:=(ic Go.Proofs.Tryz.f127)
noncomputable def Qo:List UInt8:=(ic Go.Proofs.Tryz.f128)
noncomputable def cl:List UInt8:=(ic Go.Proofs.Tryz.f129)
noncomputable def Ro:List UInt8:=(ic Go.Proofs.Tryz.f130)
noncomputable def mr:List UInt8:=(ic Go.Proofs.Tryz.f189)++(ic Go.Proofs.Tryz.f190)++(ic Go.Proofs.Tryz.f191)++(ic Go.Proofs.Tryz.f192)
attribute [local irreducible] Ea fb Ya ca Go.GL.Pure ve Oe Kd LQ yb nh db LS
variable{B0:Nat}{w0:World}
theorem TO:ca (KC B0 w0) 117 [] [] (Qb (str y7)):=by refine kb Tryz.func117 rfl (n:=1) rfl rfl rfl ?_;refine Qm ?_;exact qb rfl (eb rfl) rfl
theorem qzG:ca (KC B0 w0) 118 [] [] (Qb (str SE)):=by refine kb Tryz.func118 rfl (n:=1) rfl rfl rfl ?_;refine Qm ?_;exact qb rfl (eb rfl) rfl
theorem qpB:ca (KC B0 w0) 175 [] [] (Qb (str (ic Go.Proofs.Tryz.f175))):=by refine kb Tryz.func175 rfl (n:=1) rfl rfl rfl ?_;refine Qm ?_;exact qb rfl (eb rfl) rfl
theorem qoA:ca (KC B0 w0) 176 [] [] (Qb (str (ic Go.Proofs.Tryz.f176))):=by refine kb Tryz.func176 rfl (n:=1) rfl rfl rfl ?_;refine Qm ?_;exact qb rfl (eb rfl) rfl
theorem qrT:ca (KC B0 w0) 119 [] [] (Qb (str yj)):=by have h1:=qpB (B0:=B0) (w0:=w0);have h2:=qoA (B0:=B0) (w0:=w0);have n1:(ic Go.Proofs.Tryz.f175).length<=10000:=zt zk;have n2:(ic Go.Proofs.Tryz.f176).length<=10000:=zt zk;unfold yj;generalize (ic Go.Proofs.Tryz.f175)=x1 at h1 n1 ⊢;generalize (ic Go.Proofs.Tryz.f176)=x2 at h2 n2 ⊢;refine kb Tryz.func119 rfl (n:=4) rfl rfl rfl ?_;refine Yn ?_;refine oS (sF [] rfl h1<|oS (sF [] rfl h2 ?_));refine KE ?_;exact qb rfl (eb rfl) rfl
theorem qz8:ca (KC B0 w0) 177 [] [] (Qb (str (ic Go.Proofs.Tryz.f177))):=by refine kb Tryz.func177 rfl (n:=1) rfl rfl rfl ?_;refine Qm ?_;exact qb rfl (eb rfl) rfl
theorem qAb:ca (KC B0 w0) 178 [] [] (Qb (str (ic Go.Proofs.Tryz.f178))):=by refine kb Tryz.func178 rfl (n:=1) rfl rfl rfl ?_;refine Qm ?_;exact qb rfl (eb rfl) rfl
theorem SO:ca (KC B0 w0) 120 [] [] (Qb (str VW)):=by have h1:=qz8 (B0:=B0) (w0:=w0);have h2:=qAb (B0:=B0) (w0:=w0);have n1:(ic Go.Proofs.Tryz.f177).length<=10000:=zt zk;have n2:(ic Go.Proofs.Tryz.f178).length<=10000:=zt zk;unfold VW;generalize (ic Go.Proofs.Tryz.f177)=x1 at h1 n1 ⊢;generalize (ic Go.Proofs.Tryz.f178)=x2 at h2 n2 ⊢;refine kb Tryz.func120 rfl (n:=4) rfl rfl rfl ?_;refine Yn ?_;refine oS (sF [] rfl h1<|oS (sF [] rfl h2 ?_));refine KE ?_;exact qb rfl (eb rfl) rfl
theorem qts:ca (KC B0 w0) 179 [] [] (Qb (str (ic Go.Proofs.Tryz.f179))):=by refine kb Tryz.func179 rfl (n:=1) rfl rfl rfl ?_;refine Qm ?_;exact qb rfl (eb rfl) rfl
theorem qsI:ca (KC B0 w0) 180 [] [] (Qb (str (ic Go.Proofs.Tryz.f180))):=by refine kb Tryz.func180 rfl (n:=1) rfl rfl rfl ?_;refine Qm ?_;exact qb rfl (eb rfl) rfl
theorem qsw:ca (KC B0 w0) 181 [] [] (Qb (str (ic Go.Proofs.Tryz.f181))):=by refine kb Tryz.func181 rfl (n:=1) rfl rfl rfl ?_;refine Qm ?_;exact qb rfl (eb rfl) rfl
theorem qwe:ca (KC B0 w0) 121 [] [] (Qb (str sv)):=by have h1:=qts (B0:=B0) (w0:=w0);have h2:=qsI (B0:=B0) (w0:=w0);have h3:=qsw (B0:=B0) (w0:=w0);have n1:(ic Go.Proofs.Tryz.f179).length<=10000:=zt zk;have n2:(ic Go.Proofs.Tryz.f180).length<=10000:=zt zk;have n3:(ic Go.Proofs.Tryz.f181).length<=10000:=zt zk;unfold sv;generalize (ic Go.Proofs.Tryz.f179)=x1 at h1 n1 ⊢;generalize (ic Go.Proofs.Tryz.f180)=x2 at h2 n2 ⊢;generalize (ic Go.Proofs.Tryz.f181)=x3 at h3 n3 ⊢;refine kb Tryz.func121 rfl (n:=6) rfl rfl rfl ?_;refine lT ?_;refine dd ?_;exact qb rfl (eb rfl) rfl
theorem qrH:ca (KC B0 w0) 122 [] [] (Qb (str Bt)):=by refine kb Tryz.func122 rfl (n:=1) rfl rfl rfl ?_;refine Qm ?_;exact qb rfl (eb rfl) rfl
theorem qs5:ca (KC B0 w0) 182 [] [] (Qb (str (ic Go.Proofs.Tryz.f182))):=by refine kb Tryz.func182 rfl (n:=1) rfl rfl rfl ?_;refine Qm ?_;exact qb rfl (eb rfl) rfl
theorem qur:ca (KC B0 w0) 183 [] [] (Qb (str (ic Go.Proofs.Tryz.f183))):=by refine kb Tryz.func183 rfl (n:=1) rfl rfl rfl ?_;refine Qm ?_;exact qb rfl (eb rfl) rfl
theorem qtJ:ca (KC B0 w0) 184 [] [] (Qb (str (ic Go.Proofs.Tryz.f184))):=by refine kb Tryz.func184 rfl (n:=1) rfl rfl rfl ?_;refine Qm ?_;exact qb rfl (eb rfl) rfl
theorem qvG:ca (KC B0 w0) 123 [] [] (Qb (str tv)):=by have h1:=qs5 (B0:=B0) (w0:=w0);have h2:=qur (B0:=B0) (w0:=w0);have h3:=qtJ (B0:=B0) (w0:=w0);have n1:(ic Go.Proofs.Tryz.f182).length<=10000:=zt zk;have n2:(ic Go.Proofs.Tryz.f183).length<=10000:=zt zk;have n3:(ic Go.Proofs.Tryz.f184).length<=10000:=zt zk;unfold tv;generalize (ic Go.Proofs.Tryz.f182)=x1 at h1 n1 ⊢;generalize (ic Go.Proofs.Tryz.f183)=x2 at h2 n2 ⊢;generalize (ic Go.Proofs.Tryz.f184)=x3 at h3 n3 ⊢;refine kb Tryz.func123 rfl (n:=6) rfl rfl rfl ?_;refine lT ?_;refine dd ?_;exact qb rfl (eb rfl) rfl
theorem qrL:ca (KC B0 w0) 185 [] [] (Qb (str (ic Go.Proofs.Tryz.f185))):=by refine kb Tryz.func185 rfl (n:=1) rfl rfl rfl ?_;refine Qm ?_;exact qb rfl (eb rfl) rfl
theorem qr9:ca (KC B0 w0) 186 [] [] (Qb (str (ic Go.Proofs.Tryz.f186))):=by refine kb Tryz.func186 rfl (n:=1) rfl rfl rfl ?_;refine Qm ?_;exact qb rfl (eb rfl) rfl
theorem qrw:ca (KC B0 w0) 187 [] [] (Qb (str (ic Go.Proofs.Tryz.f187))):=by refine kb Tryz.func187 rfl (n:=1) rfl rfl rfl ?_;refine Qm ?_;exact qb rfl (eb rfl) rfl
theorem qrE:ca (KC B0 w0) 188 [] [] (Qb (str (ic Go.Proofs.Tryz.f188))):=by refine kb Tryz.func188 rfl (n:=1) rfl rfl rfl ?_;refine Qm ?_;exact qb rfl (eb rfl) rfl
theorem qss:ca (KC B0 w0) 124 [] [] (Qb (str nr)):=by have h1:=qrL (B0:=B0) (w0:=w0);have h2:=qr9 (B0:=B0) (w0:=w0);have h3:=qrw (B0:=B0) (w0:=w0);have h4:=qrE (B0:=B0) (w0:=w0);have n1:(ic Go.Proofs.Tryz.f185).length<=10000:=zt zk;have n2:(ic Go.Proofs.Tryz.f186).length<=10000:=zt zk;have n3:(ic Go.Proofs.Tryz.f187).length<=10000:=zt zk;have n4:(ic Go.Proofs.Tryz.f188).length<=10000:=zt zk;unfold nr;generalize (ic Go.Proofs.Tryz.f185)=x1 at h1 n1 ⊢;generalize (ic Go.Proofs.Tryz.f186)=x2 at h2 n2 ⊢;generalize (ic Go.Proofs.Tryz.f187)=x3 at h3 n3 ⊢;generalize (ic Go.Proofs.Tryz.f188)=x4 at h4 n4 ⊢;refine kb Tryz.func124 rfl (n:=8) rfl rfl rfl ?_;refine lT ?_;refine oS (sF [] rfl h4 ?_);refine KE ?_;exact qb rfl (eb rfl) rfl
theorem qrU:ca (KC B0 w0) 125 [] [] (Qb (str fl)):=by refine kb Tryz.func125 rfl (n:=1) rfl rfl rfl ?_;refine Qm ?_;exact qb rfl (eb rfl) rfl
theorem qkY:ca (KC B0 w0) 126 [] [] (Qb (str Rg)):=by refine kb Tryz.func126 rfl (n:=1) rfl rfl rfl ?_;refine Qm ?_;exact qb rfl (eb rfl) rfl
theorem qs4:ca (KC B0 w0) 127 [] [] (Qb (str Uw)):=by refine kb Tryz.func127 rfl (n:=1) rfl rfl rfl ?_;refine Qm ?_;exact qb rfl (eb rfl) rfl
theorem qnW:ca (KC B0 w0) 128 [] [] (Qb (str Qo)):=by refine kb Tryz.func128 rfl (n:=1) rfl rfl rfl ?_;refine Qm ?_;exact qb rfl (eb rfl) rfl
theorem qkZ:ca (KC B0 w0) 129 [] [] (Qb (str cl)):=by refine kb Tryz.func129 rfl (n:=1) rfl rfl rfl ?_;refine Qm ?_;exact qb rfl (eb rfl) rfl
theorem qm4:ca (KC B0 w0) 130 [] [] (Qb (str Ro)):=by refine kb Tryz.func130 rfl (n:=1) rfl rfl rfl ?_;refine Qm ?_;exact qb rfl (eb rfl) rfl
theorem qrO:ca (KC B0 w0) 189 [] [] (Qb (str (ic Go.Proofs.Tryz.f189))):=by refine kb Tryz.func189 rfl (n:=1) rfl rfl rfl ?_;refine Qm ?_;exact qb rfl (eb rfl) rfl
theorem qr8:ca (KC B0 w0) 190 [] [] (Qb (str (ic Go.Proofs.Tryz.f190))):=by refine kb Tryz.func190 rfl (n:=1) rfl rfl rfl ?_;refine Qm ?_;exact qb rfl (eb rfl) rfl
theorem qq7:ca (KC B0 w0) 191 [] [] (Qb (str (ic Go.Proofs.Tryz.f191))):=by refine kb Tryz.func191 rfl (n:=1) rfl rfl rfl ?_;refine Qm ?_;exact qb rfl (eb rfl) rfl
theorem qru:ca (KC B0 w0) 192 [] [] (Qb (str (ic Go.Proofs.Tryz.f192))):=by refine kb Tryz.func192 rfl (n:=1) rfl rfl rfl ?_;refine Qm ?_;exact qb rfl (eb rfl) rfl
theorem qsB:ca (KC B0 w0) 131 [] [] (Qb (str mr)):=by have h1:=qrO (B0:=B0) (w0:=w0);have h2:=qr8 (B0:=B0) (w0:=w0);have h3:=qq7 (B0:=B0) (w0:=w0);have h4:=qru (B0:=B0) (w0:=w0);have n1:(ic Go.Proofs.Tryz.f189).length<=10000:=zt zk;have n2:(ic Go.Proofs.Tryz.f190).length<=10000:=zt zk;have n3:(ic Go.Proofs.Tryz.f191).length<=10000:=zt zk;have n4:(ic Go.Proofs.Tryz.f192).length<=10000:=zt zk;unfold mr;generalize (ic Go.Proofs.Tryz.f189)=x1 at h1 n1 ⊢;generalize (ic Go.Proofs.Tryz.f190)=x2 at h2 n2 ⊢;generalize (ic Go.Proofs.Tryz.f191)=x3 at h3 n3 ⊢;generalize (ic Go.Proofs.Tryz.f192)=x4 at h4 n4 ⊢;refine kb Tryz.func131 rfl (n:=8) rfl rfl rfl ?_;refine lT ?_;refine oS (sF [] rfl h4 ?_);refine KE ?_;exact qb rfl (eb rfl) rfl
noncomputable def fp:List (List UInt8×Nat×List UInt8):=[([103,102],117,y7),([99,114,99],118,SE),([118,105,116,101,114,98,105],119,yj),([114,115],120,VW),([102,114,97,109,101],121,sv),([101,114,97,115,117,114,101],122,Bt),([98,108,97,107,101],123,tv),([114,101,97,100,101,114],124,nr),([99,114,99,109,97,105,110],125,fl),([118,105,116,101,114,98,105,109,97,105,110],126,Rg),([114,115,109,97,105,110],127,Uw),([102,114,97,109,101,109,97,105,110],128,Qo),([101,114,97,115,117,114,101,109,97,105,110],129,cl),([98,108,97,107,101,109,97,105,110],130,Ro),([114,101,110,100,101,114],131,mr)]
def ax(m:List UInt8×Nat×List UInt8):LV:=.agg [str m.1,.atom (.func (.func m.2.1) #[] #[])]
theorem qnP:ca (KC B0 w0) 69 [] [] (Qb (.list (fp.map ax))):=by refine kb Tryz.func69 rfl (n:=17) rfl rfl rfl ?_;refine wa ?_;refine oS (sL (s:=2) [_,_,_,_,_,_,_,_,_,_,_,_,_,_,_] rfl (gd rfl rfl (gd rfl rfl (gd rfl rfl (gd rfl rfl (gd rfl rfl (gd rfl rfl (gd rfl rfl (gd rfl rfl (gd rfl rfl (gd rfl rfl (gd rfl rfl (gd rfl rfl (gd rfl rfl (gd rfl rfl (gd rfl rfl Ch))))))))))))))) rfl rfl rfl ?_);refine Na ?_;exact qb rfl (rC (rT (v:=.list _) rfl Nd) rN) rfl
open xi (u32 Same Wo)
abbrev Md:=List UInt8×Nat×List UInt8
noncomputable def ck(name:List UInt8):List UInt8×Int:=match fp.find? λm=>decide (m.1=name) with
 |some m=>(m.2.2,0)
 |none=>([],9)
noncomputable def aj:List (List UInt8)->List UInt8->List UInt8×Int
 |[],acc=>(acc,0)
 |n::l,acc=>if (ck n).2≠0 then ([],(ck n).2) else aj l (acc++(ck n).1)
@[reducible] def tK(b:Nat)(name:List UInt8):Nat×ma:=(b,.cells 9 [str name])
@[reducible] def OS(b:Nat):LV:=.atom (.func (.func 71) #[] #[.pointer (some ⟨b,0,none⟩)])
theorem qv9:fp.length=15:=rfl
theorem qxA:∀ m∈fp,m.2.2.length<=10000:=by
 have h:(fp.all λm=>decide (m.2.2.length<=10000))=true:=by kernel_rfl
 intro m hm;exact zt (List.all_eq_true.1 h m hm)
theorem qvt(n:List UInt8):(ck n).1.length<=10000:=by unfold ck;split;rename_i m h;exact qxA m (List.mem_of_find?_eq_some h);exact zero_le _
theorem D9:∀ (l:List Md) (name:List UInt8) (i:Nat) (h:i<l.length),(∀ j (hj:j<i),(l[j]'zo).1≠name)->l[i].1=name->(l.find? λm=>decide (m.1=name))=some l[i]
 |[],name,i,h,_,_=>by cases h
 |m::l,name,0,h,_,hn=>by have hn:m.1=name:=hn;rw[List.find?_cons,Nf hn];rfl
 |m::l,name,i+1,h,hb,hn=>by have h0:m.1≠name:=hb 0 zo;rw[List.find?_cons,decide_eq_false h0];exact D9 l name i (by simpa using h) (λj hj=>hb (j+1) zo) hn
theorem qvy(m:Md)(name:List UInt8)(b:Nat):ca (KC B0 w0) 71 [ax m,ptr b 0] [tK b name] (Same (bool (decide (m.1=name))) [tK b name]):=by obtain⟨n,f,t⟩:=m;unfold ax;refine kb Tryz.func71 rfl (n:=8) rfl rfl rfl ?_;refine qe ?_;refine oS (sB rfl λb2=>?_);refine wa ?_;exact Wo rfl (eb rfl) rfl (Pg ob)
theorem qzZ:∀ m∈fp,ca (KC B0 w0) m.2.1 [] [] (Qb (str m.2.2)):=by intro m hm;simp only[fp,zc,not_mem_nil,or_false] at hm;rcases hm with rfl|rfl|rfl|rfl|rfl|rfl|rfl|rfl|rfl|rfl|rfl|rfl|rfl|rfl|rfl;exact TO;exact qzG;exact qrT;exact SO;exact qwe;exact qrH;exact qvG;exact qss;exact qrU;exact qkY;exact qs4;exact qnW;exact qkZ;exact qm4;exact qsB
theorem qzX:∀ m∈fp,Tb (KC B0 w0).P m.2.1:=by intro m hm;simp only[fp,zc,not_mem_nil,or_false] at hm;rcases hm with rfl|rfl|rfl|rfl|rfl|rfl|rfl|rfl|rfl|rfl|rfl|rfl|rfl|rfl|rfl <;> (show Tb Tryz.prog _;infer_instance)
theorem RZ(ms:List Md)(Mx:ms.length=15)(name:List UInt8)(b:Nat):ca (KC B0 w0) 70 [.list (ms.map ax),OS b] [tK b name]
  (λr H'=>H'=[tK b name]/\((r=.ret (int .i64 (-1))/\(ms.find? λm=>decide (m.1=name))=none)∨∃ i,∃ h:i<ms.length,r=.ret (int .i64 (i:Nat))/\(ms.find? λm=>decide (m.1=name))=some ms[i])):=by
 have zC:(ms.map ax).length=ms.length:=Db _;have Vc:(∀ j (hj:j<ms.length),(ms[j]'hj).1≠name)->(ms.find? λm=>decide (m.1=name))=none:=λh=>List.find?_eq_none.2 λm hm=>by obtain⟨j,hj,rfl⟩:=List.mem_iff_getElem.1 hm;simpa using h j hj
 refine kb Tryz.func70 rfl (n:=19) rfl rfl rfl ?_;refine xa ?_;refine oL (λk sl H=>∃ i:Nat,i<=ms.length/\k=ms.length-i/\(∀ j (hj:j<i) (hl:j<ms.length),(ms[j]'hl).1≠name)/\sl=[(0,.list (ms.map ax)),(1,OS b),(7,int .i64 ms.length),(8,int .i64 i)]/\H=[tK b name])
  ⟨_,_,_,⟨0,zero_le _,rfl,λj hj=>by omega,rfl,rfl⟩,lb,Kb _⟩ ?_
 rintro k sl H ⟨i,hi,rfl,hb,rfl,rfl⟩ j1 pd;refine Zg ?_;refine Ma (λhc=>?_) λhc=>?_
 ·have Ja:i<ms.length:=by have:=zt hc;omega
  have hg:(ms.map ax)[((i:Nat):Int).toNat]? = some (ax ms[i]):=Ln _ _ _ Ja;have Ge:=qvy (B0:=B0) (w0:=w0) ms[i] name b;have WK:=D9 ms name i Ja λj hj=>hb j hj zo;refine xa ?_;refine la (xR (ke:=ax ms[i]) (cs:=[_,_]) rfl rfl zo hg rfl rfl)<|Na ?_;refine oS (S.Ml (f:=71) (first:=#[]) (ib:=#[.pointer (some ⟨b,0,none⟩)]) (H1:=[tK b name]) (F:=[]) [_] rfl rfl (by simp) Ge ?_ ?_);rotate_left;rintro ch H' ⟨h,_⟩;cases h;rintro v H' ⟨h,rfl⟩;cases h;refine dd ?_;refine Ma (λh=>?_) λh=>?_;refine xa ?_;exact rR pd (eb rfl) ob ⟨rfl,.inr ⟨i,Ja,rfl,WK (zt h)⟩⟩;have Fb:=zf h;refine xa ?_
  exact⟨_,_,_,by omega,⟨i+1,by omega,rfl,λj hj hl=>by
   by_cases hji:j<i;exact hb j hji hl;obtain rfl:j=i:=by omega
   exact Fb,rfl,rfl⟩,lb,Kb _,pd⟩
 have Ff:i=ms.length:=by have:=zf hc;omega
 subst Ff;refine xa ?_;exact rR pd (eb rfl) ob ⟨rfl,.inl ⟨rfl,Vc λj hj=>hb j hj hj⟩⟩
theorem qpE(ms:List Md)(Mx:ms.length=15)(hmo:ca (KC B0 w0) 69 [] [] (Qb (.list (ms.map ax))))(D4:∀ m∈ms,ca (KC B0 w0) m.2.1 [] [] (Qb (str m.2.2)))(hmt:∀ m∈ms,Tb (KC B0 w0).P m.2.1)(name:List UInt8) :
  ca (KC B0 w0) 37 [str name] [] (Qb (match ms.find? λm=>decide (m.1=name) with
   |some m=>.tuple [str m.2.2,int .i64 0]
   |none=>.tuple [str [],int .i64 9])):=by
 have vI:=λb=>RZ (B0:=B0) (w0:=w0) ms Mx name b;have zC:(ms.map ax).length=ms.length:=Db _;generalize (ms.find? λm=>decide (m.1=name))=MP at vI ⊢;refine kb Tryz.func37 rfl (n:=18) rfl rfl rfl ?_;refine qe ?_;refine oS (sB rfl λb1=>?_);refine Yn ?_;refine oS (sF [] rfl hmo ?_);refine wa ?_;refine oS (S.Tc (H1:=[tK b1 name]) (F:=[]) [_,_] rfl mc (vI b1) (λv H' h=>?_) λch H' h=>?_);rotate_left;obtain⟨_,⟨h,_⟩|⟨_,_,h,_⟩⟩:=h <;> cases h;obtain⟨rfl,⟨h,hm⟩|⟨i,hi,h,hm⟩⟩:=h;cases h;subst hm;refine xa ?_;refine oC rfl (λ_=>?_) (λh=>by cases h);refine Gj ?_;exact qb rfl (rC (Fc rfl) (eb rfl)) rfl;cases h;subst hm;have hg:(ms.map ax)[((i:Nat):Int).toNat]? = some (ax ms[i]):=Ln _ _ _ hi
 haveI:=hmt ms[i] (List.getElem_mem hi)
 have hf:=D4 ms[i] (List.getElem_mem hi);refine xa ?_;refine Ma (λh=>?_) λ_=>?_;have:=zt h;omega;refine xa ?_;refine la (xR (ke:=ax ms[i]) (cs:=[_,_]) rfl rfl zo hg rfl rfl)<|Na ?_;refine oS (S.kE (f:=ms[i].2.1) [] rfl rfl hf ?_);refine dd ?_;exact qb rfl (rC (Fc rfl) (eb rfl)) rfl
theorem qoF(name:List UInt8):ca (KC B0 w0) 37 [str name] [] (Qb (.tuple [str (ck name).1,int .i64 (ck name).2])):=by have h:=qpE fp qv9 qnP qzZ qzX (B0:=B0) (w0:=w0) name;unfold ck;generalize (fp.find? λm=>decide (m.1=name))=MP at h ⊢;cases MP <;> exact h
@[reducible] def F7(r:List UInt8×Int):LV:=.tuple [str r.1,int .i64 r.2]
theorem qse{l:List (List UInt8)}{acc:List UInt8}{i:Nat}(h:i<l.length):aj (l.drop i) acc=if (ck l[i]).2≠0 then ([],(ck l[i]).2) else aj (l.drop (i+1)) (acc++(ck l[i]).1):=by rw[List.drop_eq_getElem_cons h,aj]
theorem qoP(l:List (List UInt8))(hl:l.length<=1000):ca (KC B0 w0) 25 [.list (l.map str)] [] (Qb (F7 (aj l []))):=by
 have zC:(l.map str).length=l.length:=Db _;generalize hR:aj l []=R;refine kb Tryz.func25 rfl (n:=27) rfl rfl rfl ?_;refine Yn ?_;refine oS (Jd λb4=>?_);refine xa ?_;have R5:BH b4 [] [(b4,.cells 92 [.atom (.pointer none),.atom (.slice none 0 0)])]:=⟨_,_,[],.inl rfl,bh.nil,rfl⟩;refine oL (λk sl H=>∃ (i:Nat) (acc:List UInt8),i<=l.length/\k=l.length-i/\acc.length<=i * 10000/\aj (l.drop i) acc=R/\BH b4 acc H/\sl=[(4,ptr b4 0),(9,.list (l.map str)),(10,int .i64 l.length),(11,int .i64 i)])
  ⟨_,_,_,⟨0,[],zero_le _,rfl,zero_le _,hR,R5,rfl⟩,lb,Kb _⟩ ?_
 rintro k sl H ⟨i,acc,hi,rfl,Ra,hP,hB,rfl⟩ j1 pd;refine Zg ?_;refine Ma (λhc=>?_) λhc=>?_
 ·have Ja:i<l.length:=by have:=zt hc;omega
  have hg:(l.map str)[((i:Nat):Int).toNat]? = some (str l[i]):=Ln _ _ _ Ja;have hm:=qoF (B0:=B0) (w0:=w0) l[i];have Mx:=qvt l[i];rw[qse Ja] at hP;generalize l[i]=n at *;generalize ck n=q at *;obtain⟨t,e⟩:=q;simp only at hP hm Mx;refine Ti ?_;refine la (xR (ke:=str n) (cs:=[str n]) rfl rfl zo hg rfl rfl)<|wa ?_;refine oS (sF [_] rfl hm ?_);refine wa ?_;by_cases he:e=0;rotate_left;rw[zp he] at hP;subst hP;refine Ma (λ_=>?_) λhc=>?_;refine xa ?_;exact qb pd (rC (Fc rfl) (eb rfl)) rfl;have h2:(!decide (e=0))=false:=hc;simp at h2;exact absurd h2 he;subst he;rw[zn fa] at hP;refine oC rfl (λhc=>by cases hc) λ_=>?_;refine xa ?_;refine oS (S.Tc (H1:=H) (F:=[]) [_,_] rfl (by simp) (qfm b4 acc t H hB zo) (λv' H' h=>?_) (λch H' h=>by obtain⟨⟨x,h⟩,_⟩:=h;cases h));obtain⟨⟨x,hx⟩,qW⟩:=h;cases hx;rw[de];refine Zk ?_;exact⟨_,_,_,by omega,⟨i+1,acc++t,by omega,rfl,by rw[Ga];omega,hP,qW,rfl⟩,lb,Kb _,pd⟩
 have Ff:i=l.length:=by have:=zf hc;omega
 subst Ff;rw[List.drop_length,aj] at hP;subst hP;refine xa ?_;refine oS (S.Tc (H1:=H) (F:=[]) [_] rfl (by simp) (G0 b4 acc H hB zo) (λv' H' h=>?_) (λch H' h=>by obtain⟨h,_⟩:=h;cases h));obtain⟨h,rfl⟩:=h;cases h;refine dd ?_;exact qb pd (rC (Fc rfl) (eb rfl)) rfl
theorem qrY:ca (KC B0 w0) 25 [Yb] [] (Qb (F7 ([],0))):=by
 refine kb Tryz.func25 rfl (n:=27) rfl rfl rfl ?_;refine Yn ?_;refine oS (Jd λb4=>?_);refine xa ?_;have R5:BH b4 [] [(b4,.cells 92 [.atom (.pointer none),.atom (.slice none 0 0)])]:=⟨_,_,[],.inl rfl,bh.nil,rfl⟩;refine oL (λk sl H=>k=0/\BH b4 [] H/\sl=[(4,ptr b4 0),(10,int .i64 0),(11,int .i64 0)])
  ⟨_,_,_,⟨rfl,R5,rfl⟩,lb,Kb _⟩ ?_
 rintro k sl H ⟨rfl,hB,rfl⟩ j1 pd;refine Zg ?_;refine oC rfl (λhc=>by cases hc) λhc=>?_;refine xa ?_;refine oS (S.Tc (H1:=H) (F:=[]) [_] rfl (by simp) (G0 b4 [] H hB fa) (λv' H' h=>?_) (λch H' h=>by obtain⟨h,_⟩:=h;cases h));obtain⟨h,rfl⟩:=h;cases h;refine dd ?_;exact qb pd (rC (Fc rfl) (eb rfl)) rfl
end Go.Proofs.YtmnjklgnhpnckaaGreatDoor.Lb
namespace Go.Proofs.YtmnjklgnhpnckaaGreatDoor.Lb
open Go.GL Go.RowKit Go.ia
theorem qze:ck [99,114,99]=(SE,0):=zk
theorem qrr:ck [118,105,116,101,114,98,105]=(yj,0):=zk
theorem qrp:ck [99,114,99,109,97,105,110]=(fl,0):=zk
theorem qk2:ck [118,105,116,101,114,98,105,109,97,105,110]=(Rg,0):=zk
end Go.Proofs.YtmnjklgnhpnckaaGreatDoor.Lb
namespace Go.ia.Wi.Wc.xn
open Go.Lib
def Uo:Ex:=(.mk [60] 0 [] [(.mk [118,97,114] 0 [105] []),(.mk [110,117,109] 8 [] [])])
def Vo:List Sm:=[(.mk 1 [116] [] [(.mk [47] 0 [] [(.mk [118,97,114] 0 [99] []),(.mk [110,117,109] 2147483648 [] [])])] [] []),(.mk 1 [99] [] [(.mk [42] 0 [] [(.mk [118,97,114] 0 [99] []),(.mk [110,117,109] 2 [] [])])] [] []),(.mk 3 [] [] [(.mk [118,97,114] 0 [116] [])] [(.mk 1 [99] [] [(.mk [94] 0 [] [(.mk [118,97,114] 0 [99] []),(.mk [110,117,109] 79764919 [] [])])] [] [])] []),(.mk 1 [105] [] [(.mk [43] 0 [] [(.mk [118,97,114] 0 [105] []),(.mk [110,117,109] 1 [] [])])] [] [])]
def Js:Sm:=(.mk 1 [99] [] [(.mk [94] 0 [] [(.mk [118,97,114] 0 [99] []),(.mk [42] 0 [] [(.mk [118,97,114] 0 [98] []),(.mk [110,117,109] 16777216 [] [])])])] [] [])
def Sw:Sm:=(.mk 1 [105] [] [(.mk [110,117,109] 0 [] [])] [] [])
def rD:Sm:=(.mk 5 [] [] [(.mk [118,97,114] 0 [99] [])] [] [])
def Eh:Pb:=⟨[99,114,99,98,121,116,101],[[99],[98]],[[105],[116]],[Js,Sw,.mk 4 [] [] [Uo] Vo [],rD]⟩
def jy:Ex:=(.mk [60] 0 [] [(.mk [118,97,114] 0 [98] []),(.mk [110,117,109] 256 [] [])])
def pD:List Sm:=[(.mk 1 [99] [] [(.mk [99,97,108,108] 0 [99,114,99,98,121,116,101] [(.mk [118,97,114] 0 [99] []),(.mk [118,97,114] 0 [98] [])])] [] []),(.mk 1 [98] [] [(.mk [99,97,108,108] 0 [105,110] [])] [] [])]
def GB(n:Nat):Sm:=(.mk 6 [] [] [(.mk [99,97,108,108] 0 [111,117,116] [(.mk [47] 0 [] [(.mk [118,97,114] 0 [99] []),(.mk [110,117,109] n [] [])])])] [] [])
def xf:Pb:=⟨[109,97,105,110],[],[[98],[99]],[(.mk 1 [99] [] [(.mk [110,117,109] 4294967295 [] [])] [] []),(.mk 1 [98] [] [(.mk [99,97,108,108] 0 [105,110] [])] [] []),.mk 4 [] [] [jy] pD [],GB 16777216,GB 65536,GB 256,(.mk 6 [] [] [(.mk [99,97,108,108] 0 [111,117,116] [(.mk [118,97,114] 0 [99] [])])] [] [])]⟩
def P:Pr:=⟨[],[],[Eh,xf]⟩
abbrev cC:=dc Eh [99]
abbrev cB:=dc Eh [98]
abbrev cI:=dc Eh [105]
abbrev cT:=dc Eh [116]
abbrev mB:=dc xf [98]
abbrev mC:=dc xf [99]
def bP(c:Nat):Nat:=if c / 2147483648=0 then c * 2 % 4294967296 else (c * 2 % 4294967296) ^^^ 79764919
def QT:Nat->Nat->Nat
 |0,c=>c
 |n+1,c=>QT n (bP c)
def uo(c b:Nat):Nat:=QT 8 (c ^^^ (b * 16777216 % 4294967296))
def Fr(ks:List Nm)(s s':IS):Prop:=(∀ k,k ∉ ks->s'.sc k=s.sc k)/\s'.ar=s.ar/\s'.Ia=s.Ia/\s'.out=s.out
theorem Fr.refl(ks:List Nm)(s:IS):Fr ks s s:=⟨λ_ _=>rfl,rfl,rfl,rfl⟩
theorem Fr.set{ks:List Nm}{s s':IS}(h:Fr ks s s'){k:Nm}(hk:k∈ks)(v:Nat):Fr ks s (Sf s' k v):=
 ⟨λx hx=>by
  unfold Sf;simp only;rw[zn (λe=>hx (by rw[e];exact hk))]
  exact h.1 x hx,h.2.1,h.2.2.1,h.2.2.2⟩
theorem Fr.trans{ks:List Nm}{s s1 s2:IS}(h:Fr ks s s1)(g:Fr ks s1 s2):Fr ks s s2:=
 ⟨λk hk=>(g.1 k hk).trans (h.1 k hk),g.2.1.trans h.2.1,g.2.2.1.trans h.2.2.1,g.2.2.2.trans h.2.2.2⟩
theorem Fr.sub{ks XH:List Nm}{s s':IS}(h:Fr ks s s')(hs:∀ k∈ks,k∈XH):Fr XH s s':=⟨λk hk=>h.1 k λe=>hk (hs k e),h.2⟩
theorem round(s:IS)(h8:s.sc cI<8):∃ s',Bl P Eh Vo s 124 none s'/\s'.sc cC=bP (s.sc cC)/\s'.sc cI=s.sc cI+1/\Fr [cC,cI,cT] s s':=by
 have e1:(s.sc cI+1) % 4294967296=s.sc cI+1:=Nat.mod_eq_of_lt ga;by_cases h:s.sc cC / 2147483648=0;refine⟨Sf (Sf (Sf s cT (s.sc cC / 2147483648)) cC (s.sc cC * 2 % 4294967296)) cI ((s.sc cI+1) % 4294967296),?_,?_,?_,?_⟩;have ht:vE Eh (Sf (Sf s cT (s.sc cC / 2147483648)) cC (s.sc cC * 2 % 4294967296)) (.mk [118,97,114] 0 [116] [])=0:=by
  refine Eq.trans ?_ h
  kernel_rfl
 exact(Bl.cons (St.ly (v:=s.sc cC / 2147483648) (Ev.of _ zk zk)) (Bl.cons (St.ly (v:=s.sc cC * 2 % 4294967296) (Ev.of _ zk zk)) (Bl.cons (St.iff (Ev.of _ zk ht) Bl.nil) (Bl.cons (St.ly (v:=(s.sc cI+1) % 4294967296) (Ev.of _ zk zk)) Bl.nil)))).mono fa;unfold bP;rw[zp h]
 kernel_rfl
 refine Eq.trans ?_ e1
 kernel_rfl
 exact(((Fr.refl _ s).set fa _).set fa _).set fa _;refine⟨Sf (Sf (Sf (Sf s cT (s.sc cC / 2147483648)) cC (s.sc cC * 2 % 4294967296)) cC ((s.sc cC * 2 % 4294967296) ^^^ 79764919)) cI ((s.sc cI+1) % 4294967296),?_,?_,?_,?_⟩;exact(Bl.cons (St.ly (v:=s.sc cC / 2147483648) (Ev.of _ zk zk)) (Bl.cons (St.ly (v:=s.sc cC * 2 % 4294967296) (Ev.of _ zk zk)) (Bl.cons (St.tN (v:=s.sc cC / 2147483648) (Ev.of _ zk zk) h (Bl.cons (St.ly (v:=(s.sc cC * 2 % 4294967296) ^^^ 79764919) (Ev.of _ zk zk)) Bl.nil)) (Bl.cons (St.ly (v:=(s.sc cI+1) % 4294967296) (Ev.of _ zk zk)) Bl.nil)))).mono fa;unfold bP;rw[zn h]
 kernel_rfl
 refine Eq.trans ?_ e1
 kernel_rfl
 exact((((Fr.refl _ s).set fa _).set fa _).set fa _).set fa _
theorem qmQ(s:IS):Ev P Eh Uo s 14 (kf (decide (s.sc cI<8))) s:=Ev.of _ zk zk
theorem rounds:∀ (j:Nat) (s:IS),s.sc cI+j=8->∃ s',Wh P Eh Uo Vo (kf (decide (s.sc cI<8))) s (156 * j) none s'/\s'.sc cC=QT j (s.sc cC)/\Fr [cC,cI,cT] s s'
 |0,s,h=>⟨s,by
  rw[show decide (s.sc cI<8)=false from decide_eq_false (by omega)];exact Wh.done,rfl,Fr.refl _ s⟩
 |j+1,s,h=>by obtain⟨s1,h1,h2,h3,h4⟩:=round s ga;obtain⟨s2,g1,g2,g3⟩:=rounds j s1 ga;refine⟨s2,?_,by rw[g2,h2];try rfl,h4.trans g3⟩;rw[show decide (s.sc cI<8)=true from Nf (by omega)];exact(Wh.next fa h1 (qmQ s1) g1).mono ga
theorem qws(s:IS):St P Eh Js s 44 none (Sf s cC (s.sc cC ^^^ (s.sc cB * 16777216 % 4294967296))):=St.ly (K:=36) (Ev.of _ zk (by simp only[qzd,qz0,qz4,qzn]))
theorem qyl(s:IS):St P Eh Sw s 10 none (Sf s cI 0):=St.ly (K:=2) (Ev.of _ zk zk)
theorem qxC(s:IS):St P Eh rD s 9 (some (s.sc cC)) s:=St.ret (K:=8) (Ev.of _ zk zk)
theorem qvZ(s:IS):∃ s',Bl P Eh Eh.body s 1333 (some (uo (s.sc cC) (s.sc cB))) s'/\Fr [cC,cB,cI,cT] s s':=by
 obtain⟨s',h1,h2,h3⟩:=rounds 8 (Sf (Sf s cC (s.sc cC ^^^ (s.sc cB * 16777216 % 4294967296))) cI 0) rfl;have JK:(Sf (Sf s cC (s.sc cC ^^^ (s.sc cB * 16777216 % 4294967296))) cI 0).sc cC=s.sc cC ^^^ (s.sc cB * 16777216 % 4294967296):=by kernel_rfl
 rw[JK] at h2;have e:uo (s.sc cC) (s.sc cB)=s'.sc cC:=by unfold uo;exact h2.symm
 refine⟨s',?_,?_⟩;rw[e];have q1:St P Eh Js s 44 none (Sf s cC (s.sc cC ^^^ (s.sc cB * 16777216 % 4294967296))):=qws s;have q2:St P Eh Sw (Sf s cC (s.sc cC ^^^ (s.sc cB * 16777216 % 4294967296))) 10 none (Sf (Sf s cC (s.sc cC ^^^ (s.sc cB * 16777216 % 4294967296))) cI 0):=qyl _;have q3:St P Eh (.mk 4 [] [] [Uo] Vo []) (Sf (Sf s cC (s.sc cC ^^^ (s.sc cB * 16777216 % 4294967296))) cI 0) (8+14+156 * 8) none s':=St.EO (qmQ _) h1;have q:Bl P Eh Eh.body s (44+(10+(8+14+156 * 8+9))) (some (s'.sc cC)) s':=Bl.cons q1 (Bl.cons q2 (Bl.cons q3 (Bl.ret (qxC s'))));exact q.mono fa;refine Fr.trans (Fr.set (Fr.set (Fr.refl _ s) fa _) fa _) (h3.sub λk hk=>?_);simp only[zc,not_mem_nil,or_false] at hk ⊢;rcases hk with h|h|h <;> simp[h]
theorem qzj:Lh P [99,114,99,98,121,116,101]=Eh:=zk
theorem qvx(s:IS)(c b:Nat):∃ s',Op P xf eg 0 [99,114,99,98,121,116,101] [c,b] s 1333 (uo c b) s'/\Fr [cC,cB,cI,cT] s s':=by obtain⟨s',h1,h2⟩:=qvZ (Sf (Sf s cC c) cB b);refine⟨s',?_,Fr.trans (Fr.set (Fr.set (Fr.refl _ s) fa _) fa _) h2⟩;have:=Op.call (P:=P) (f:=xf) (num:=0) (name:=[99,114,99,98,121,116,101]) (vs:=[c,b]) (s:=s) (K:=1333) (r:=some (uo c b)) (s':=s') fa fa (by rw[qzj];exact h1);exact this
theorem qy5(s:IS)(l:List Nat)(k:Nm)(h:s.Ia=l):Sf { s with Ia:=s.Ia.tail } k (s.Ia.headD 4294967295)=Sf { s with Ia:=l.tail } k (l.headD 4294967295):=by rw[h]
theorem qqe(s:IS):Ev P xf jy s 16 (kf (decide (s.sc mB<256))) s:=Ev.of _ zk zk
theorem qk7:∀ (l:List Nat) (s:IS),(∀ v∈l,v<256)->s.sc mB=l.headD 4294967295->s.Ia=l.tail->∃ s',Wh P xf jy pD (kf (decide (s.sc mB<256))) s (1430 * l.length) none s'/\s'.sc mC=l.foldl uo (s.sc mC)/\s'.out=s.out
 |[],s,_,hb,_=>⟨s,by
  rw[hb];exact Wh.done,rfl,rfl⟩
 |b::l,s,hl,hb,hi=>by
  obtain⟨s1,h1,h2⟩:=qvx s (s.sc mC) (s.sc mB);have Kl:s.sc mB<256:=by rw[hb];exact hl b (by simp)
  have zA:(Sf s1 mC (uo (s.sc mC) (s.sc mB))).Ia=l:=by show s1.Ia=l;rw[h2.2.2.1,hi];try rfl
  obtain⟨s',g1,g2,g3⟩:=qk7 l (Sf { Sf s1 mC (uo (s.sc mC) (s.sc mB)) with Ia:=l.tail } mB (l.headD 4294967295)) (λv hv=>hl v (by simp[hv])) rfl rfl;refine⟨s',?_,?_,?_⟩
  ·rw[show decide (s.sc mB<256)=true from Nf Kl];have tu:Hp P xf [.mk [118,97,114] 0 [99] [],.mk [118,97,114] 0 [98] []] s 16 [s.sc mC,s.sc mB] s:=(Hp.pure _ zk);have st1:St P xf _ s (8+(27+16+1333)) none (Sf s1 mC (uo (s.sc mC) (s.sc mB))):=St.ly (name:=[99]) (ix:=[]) (vr:=[]) (th:=[]) (el:=[]) (Ev.mk tu h1)
   have st2:St P xf (.mk 1 [98] [] [.mk [99,97,108,108] 0 [105,110] []] [] []) (Sf s1 mC (uo (s.sc mC) (s.sc mB))) 9 none (Sf { Sf s1 mC (uo (s.sc mC) (s.sc mB)) with Ia:=l.tail } mB (l.headD 4294967295)):=by rw[<-qy5 _ l mB zA];exact St.ly (Ev.mk Hp.nil Op.Ia)
   exact(Wh.next fa (Bl.cons st1 (Bl.cons st2 Bl.nil)) (qqe _) g1).mono (by rw[La];omega)
  ·rw[g2];show l.foldl uo (uo (s.sc mC) (s.sc mB))=l.foldl uo (uo (s.sc mC) b);rw[hb]
   try rfl
  rw[g3];exact h2.2.2.2
def Ut(c:Nat):List UInt8:=[UInt8.ofNat (c / 16777216),UInt8.ofNat (c / 65536),UInt8.ofNat (c / 256),UInt8.ofNat c]
theorem wX(s:IS)(n:Nat)(hn:n≠0):St P xf (GB n) s 39 none { s with out:=s.out++[UInt8.ofNat (s.sc mC / n)] }:=by
 have Dc:DQ xf s (.mk [47] 0 [] [.mk [118,97,114] 0 [99] [],.mk [110,117,109] n [] []])=true:=by show(true && (true && (true && true)) && (if n=0 then none else some (s.sc mC / n):Option Nat).isSome)=true;rw[zn hn];try rfl
 have hv:vE xf s (.mk [47] 0 [] [.mk [118,97,114] 0 [99] [],.mk [110,117,109] n [] []])=s.sc mC / n:=by show(if n=0 then none else some (s.sc mC / n):Option Nat).getD 0=_;rw[zn hn];try rfl
 have hc:cE (.mk [47] 0 [] [.mk [118,97,114] 0 [99] [],.mk [110,117,109] n [] []])<=24:=by
  show 4+(8+0+(wN n+0+0))<=24;unfold wN;repeat' split
  all_goals omega
 have h:=(Ev.of _ (P:=P) Dc hv).mono hc;refine(St.exp (ix:=[]) (vr:=[]) (th:=[]) (el:=[]) (name:=[]) (Ev.mk (Hp.cons h Hp.nil) Op.out)).mono ?_;show 8+(3+(24+0)+0)<=39;decide
theorem qtW(s:IS)(hl:∀ v∈s.Ia,v<256):∃ s',Bl P xf xf.body s (1430 * s.Ia.length+250) none s'/\s'.out=s.out++Ut (s.Ia.foldl uo 4294967295):=by
 obtain⟨s',h1,h2,h3⟩:=qk7 s.Ia (Sf { Sf s mC 4294967295 with Ia:=s.Ia.tail } mB (s.Ia.headD 4294967295)) hl rfl rfl;have e:s.Ia.foldl uo 4294967295=s'.sc mC:=h2.symm;have q1:=wX s' 16777216 fa;have q2:=wX { s' with out:=s'.out++[UInt8.ofNat (s'.sc mC / 16777216)] } 65536 fa;have q3:=wX { s' with out:=(s'.out++[UInt8.ofNat (s'.sc mC / 16777216)])++[UInt8.ofNat (s'.sc mC / 65536)] } 256 fa;have q4:St P xf (.mk 6 [] [] [.mk [99,97,108,108] 0 [111,117,116] [.mk [118,97,114] 0 [99] []]] [] []) { s' with out:=((s'.out++[UInt8.ofNat (s'.sc mC / 16777216)])++[UInt8.ofNat (s'.sc mC / 65536)])++[UInt8.ofNat (s'.sc mC / 256)] } 19 none { s' with out:=(((s'.out++[UInt8.ofNat (s'.sc mC / 16777216)])++[UInt8.ofNat (s'.sc mC / 65536)])++[UInt8.ofNat (s'.sc mC / 256)])++[UInt8.ofNat (s'.sc mC)] }:=
  (St.exp (Ev.mk (Hp.cons (Ev.of _ (v:=s'.sc mC) zk zk) Hp.nil) Op.out)).mono fa
 refine⟨_,(Bl.cons (St.ly (name:=[99]) (v:=4294967295) (Ev.of _ zk zk)) (Bl.cons (St.ly (name:=[98]) (Ev.mk Hp.nil Op.Ia)) (Bl.cons (St.EO (qqe _) h1) (Bl.cons q1 (Bl.cons q2 (Bl.cons q3 (Bl.cons q4 Bl.nil))))))).mono ?_,?_⟩;have e1:wE eg 0 [105,110] ([]:List Ex).length=1:=rfl;have e2:cE (.mk [110,117,109] 4294967295 [] [])=12:=rfl;omega;show(((s'.out++[UInt8.ofNat (s'.sc mC / 16777216)])++[UInt8.ofNat (s'.sc mC / 65536)])++[UInt8.ofNat (s'.sc mC / 256)])++[UInt8.ofNat (s'.sc mC)]=_;rw[h3,e,Sc,Sc,Sc];try rfl
theorem q9(l:List Nat)(hl:∀ v∈l,v<256)(Ca:Nat)(h:1430 * l.length+250<=Ca):∃ Aa s2,mg (Hg P Aa (Ig P)) (Ig P).body (xq P l Ca)=.ok none s2/\s2.out=Ut (l.foldl uo 4294967295):=by obtain⟨s',h1,h2⟩:=qtW (xq P l 0) hl;have hm:Ig P=xf:=rfl;rw[hm];obtain⟨Aa,s2,g1,g2⟩:=z8 (P:=P) (Ia:=l) (Ca:=Ca) (h1.mono h);exact⟨Aa,s2,g1,g2.trans h2⟩
end Go.ia.Wi.Wc.xn
namespace Go.Proofs.YtmnjklgnhpnckaaGreatDoor.Lb
open Go.GL Go.RowKit Go.ia
open xi (u32 Ir Zy cY lU)
open Go.ia.Wi.Wc.xn (bP QT uo Ut)
theorem Pure.to{C:Ctx}{o:Oper}{e:Env}{H:Heap}{lv xK:LV}(h:Go.GL.Pure C o e H lv)(he:lv=xK):Go.GL.Pure C o e H xK:=he▸h
theorem iP(n:Int):IntKind.u8.wrap n=n % 256:=by simp only[IntKind.wrap,IntKind.bits,IntKind.signed,Ui];rfl
theorem qyo{n:Int}{m:Nat}(h:n=m):int .u8 (IntKind.u8.wrap n)=int .u8 ((UInt8.ofNat m).toNat:Int):=by rw[iP,h,UInt8.toNat_ofNat'];congr 1
def gx(s:List UInt8):List Nat:=s.map (·.toNat)
theorem QX(c:UInt8):c.toNat<256:=c.toNat_lt
theorem qpR(s:List UInt8):∀ v∈gx s,v<256:=λv hv=>by obtain⟨c,_,rfl⟩:=Qh hv;exact QX c
attribute [local irreducible] Ea fb Ya ca Go.GL.Pure ve Oe Kd LQ yb nh db LS
variable{B0:Nat}{w0:World}
theorem qnB(s:List UInt8)(hs:s.length<=1000000):ca (KC B0 w0) 7 [str s] [] (Qb (.list ((gx s).map u32))):=by
 refine kb Tryz.func7 rfl (n:=20) rfl rfl rfl ?_;refine Yn ?_;refine oS (S.Wt (s:=1) (es:=[]) [] rfl Ch rfl rfl rfl λb=>?_);refine wa ?_
 refine oL (λk sl H=>∃ (i:Nat) (v:LV),i<=s.length/\k=s.length-i/\Acc 1 v ((gx (s.take i)).map u32) H []/\sl=[(0,str s),(3,v),(4,int .i64 i)])
  ⟨_,_,_,⟨0,_,zero_le _,rfl,Acc.row,rfl⟩,lb,Kb _⟩ ?_
 rintro k sl H ⟨i,v,hi,rfl,Ra,rfl⟩ j1 pd;refine wa ?_;refine Ma (λhc=>?_) λhc=>?_;have Ja:i<s.length:=by have:=zt hc;omega
 have hb:=QX s[i];have e0:IntKind.u32.wrap ((s[i].toNat:Nat):Int)=((s[i].toNat:Nat):Int):=by rw[Ir];omega
 have Vh:s[((i:Nat):Int).toNat]? = some s[i]:=by rw[Int.toNat_natCast];exact jh Ja
 have hT:(gx (s.take (i+1))).map u32=(gx (s.take i)).map u32++[u32 s[i].toNat]:=by rw[List.take_succ_eq_append_getElem Ja];simp only[gx,Je];rfl
 generalize s[i]=ch at *;refine vy ?_;refine vt ?_;refine la (Pure.to (Pure.Hz rfl) (Zy e0))<|oS (sL [_] (es:=[u32 ch.toNat]) rfl (gd rfl rfl Ch) rfl rfl rfl ?_);refine oS (S.acc (F:=[]) rfl Ra rfl (by simp[LV.cells]) rfl (by simp only[gx,Db,List.length_take,La,oc];omega) λv' H' ab=>?_);refine gr ?_;exact⟨_,_,_,by omega,⟨i+1,v',by omega,rfl,by rw[hT];exact ab,rfl⟩,lb,Kb _,pd⟩;have Ff:i=s.length:=by have:=zf hc;omega
 subst Ff;rw[List.take_length] at Ra;refine fb.sub (d:=3) (v:=v) rfl Ra.sub ?_;refine wa ?_;exact qb pd (rC (rT (v:=.list _) rfl Nd) rN) rfl
end Go.Proofs.YtmnjklgnhpnckaaGreatDoor.Lb
namespace Go.Proofs.YtmnjklgnhpnckaaGreatDoor.Pp
open Go.GL Go.RowKit Go.ia
open VI (aM)
open Go.Lib (decDigits join)
theorem qwD{p:Pr}{n:Nat}(ld:NG p n){o:xk}{t:Wd}(hn:n<=2000000)(h:pk p.vars (sf p) p.funcs o=.ok t):t.length<=60+60 * n:=by obtain⟨hc,Be,ht,_⟩:=yP ld.dz h;have hw:=(lY (P:=p) (o:=o) hc ld.dz Be (Qf ld.funcs hn)).1;have hj:=IM (Ug p o);have:=ld.funcs;rw[ht];omega
theorem EF{p:Pr}{n:Nat}(ld:NG p n)(hn:n<=3100){o:xk}{t:Wd}(h:pk p.vars (sf p) p.funcs o=.ok t):t.length<=186060/\PD t=(join (qi (Nj t)) [32],0)/\(join (qi (Nj t)) [32]).length<=300000000:=by have h1:=qwD ld zo h;have h2:=qwL t;refine⟨by omega,?_,by omega⟩;unfold PD;rw[zn zo]
end Go.Proofs.YtmnjklgnhpnckaaGreatDoor.Pp
