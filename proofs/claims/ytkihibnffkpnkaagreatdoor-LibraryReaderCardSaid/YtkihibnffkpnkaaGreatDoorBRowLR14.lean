import Derived.Test.YtkihibnffkpnkaaGreatDoorBRowLR13
set_option linter.unusedVariables false
set_option linter.unusedSimpArgs false
set_option maxRecDepth 100000
set_option maxHeartbeats 4000000
open Go.GL (zk)
open List (length_reverse reverse_cons mem_append_right not_mem_nil take_length)
open Nat (sub_self ble_eq zero_le)
namespace Go.Proofs.YtkihibnffkpnkaaGreatDoor.Mch
open Go.GL Go.RowKit Go.Stele
open Inp (u32 Same retS qfp qfn qlW qnL)
structure MK where
 mb:Nat
 mm:Nat
 bm:Nat
@[reducible] def memV(k:MK):Value:=.slice (some ⟨k.mm,0,none⟩) 262144 262144
@[reducible] def MK.mf(k:MK)(s:MS)(st:Nat)(stop:Bool)(vc:Value)(vo:LV):MF:=⟨k.mb,memV k,s.pc,vc,s.inp,vo,s.digit,st,stop,k.bm⟩
@[reducible] def MK.memH(k:MK)(f:Nat->Nat):Nat×LObj:=(k.mm,.cells 30 (memL f))
@[reducible] def MK.binH(k:MK):Nat×LObj:=(k.bm,.obj (.map qr1 7))
def StH(k:MK)(s:MS)(st:Nat)(stop:Bool)(H:Heap):Prop:=∃ vc HC vo HO HD,MRow 30 1 vc (us s.calls.reverse) HC/\Acc 1 vo (byts s.out) HO []/\DH (k.mf s st stop vc vo) s.data HD/\H=HD++(k.memH s.mem::k.binH::(HC++HO))
def qkr(k:MK)(st:Nat)(R:MR)(r:LRes)(H:Heap):Prop:=match R with
 |.run s=>r=.ret (.tuple [])/\StH k s st false H
 |.stop e o=>∃ s,s.out=o/\if e=0 then r=.ret (.tuple [])/\StH k s st true H else e=12/\r=.panic qg5/\StH k s st false H
theorem qyg{k:MK}{st:Nat}{o:Wd}{s:MS}{H:Heap}(hs:s.out=o)(h:StH k s st false H):qkr k st (.stop 12 o) (.panic qg5) H:=⟨s,hs,by rw[zn zDd];exact⟨rfl,rfl,h⟩⟩
theorem dig_t{c:Nat}{k:Int}(h:(c:Int)=k)(hk:48<=k/\k<=57):true=qcd c:=by
 unfold qcd;rw[decide_eq_true (by omega:48<=c),decide_eq_true (by omega:c<=57)];rfl
theorem qxg{x m b:Nat×LObj}{A B C:Heap}:(x::(A++(m::b::(B++C)))).Perm (B++(x::(A++(m::b::C)))):=by
 have:=List.perm_append_comm_assoc (x::(A++[m,b])) B C;simpa using this
theorem qpY{x m b:Nat×LObj}{A B C:Heap}:(x::(A++(m::b::(B++C)))).Perm (C++(x::(A++(m::b::B)))):=by
 have:=zPc (l₁:=x::(A++(m::b::B))) (l₂:=C);simpa using this
section
variable{B0:Nat}{w0:World}{e:Env}{H:Heap}{dst:Option Nat}{ty:TypeId}{pos:String}{aft:Array Edge}{g:Option (Nat×Bool)}{K:LV->Heap->Prop}{X:List PanicEntry->Heap->Prop}
theorem S.push{f:MF}{data:List Nat}{v:Nat}{a b:Operand}{ats:Array TypeId}{HD F:Heap}(hx:[e.ev a,e.ev b]=[ptr f.mb 0,u32 v])(hp:H.Perm (HD++F))(hD:DH f data HD)(hf:data.length<=256)
  (hk:data.length<256->∀ HD',DH f (v::data) HD'->K (.tuple []) (HD'++F)) (hn:¬ data.length<256->∀ HD',DH f data HD'->X qg5 (HD'++F)) :
  qae (KC B0 w0) ⟨dst,.call { callee:=.value (.func 129),args:=#[a,b],argTypes:=ats },ty,pos,aft,g⟩ e H K X:=by
 refine S.callH (H1:=HD) (F:=F) [a,b] hx hp (qsg hD hf v) ?_ ?_;intro r H' h;unfold qiM at h;split at h
 rename_i hl
 obtain⟨h1,h2⟩:=h;cases h1;exact hk hl H' h2;obtain⟨h1,_⟩:=h;cases h1;intro ch H' h;unfold qiM at h;split at h;obtain⟨h1,_⟩:=h;cases h1
 rename_i hl
 obtain⟨h1,h2⟩:=h;cases h1;exact hn hl H' h2
theorem S.pop{f:MF}{data:List Nat}{a:Operand}{ats:Array TypeId}{HD F:Heap}(hx:[e.ev a]=[ptr f.mb 0])(hp:H.Perm (HD++F))(hD:DH f data HD)(hf:data.length<=256)
  (hk:∀ x r,data=x::r->∀ HD',DH f r HD'->K (u32 x) (HD'++F)) (hn:data=[]->∀ HD',DH f [] HD'->X qg5 (HD'++F)) :
  qae (KC B0 w0) ⟨dst,.call { callee:=.value (.func 131),args:=#[a],argTypes:=ats },ty,pos,aft,g⟩ e H K X:=by
 refine S.callH (H1:=HD) (F:=F) [a] hx hp (qoR hD hf) ?_ ?_;intro r H' h
 cases data with
 |nil=>
  obtain⟨h1,_⟩:=h
  cases h1
 |cons x d=>
  obtain⟨h1,h2⟩:=h;cases h1;exact hk x d rfl H' h2
 intro ch H' h
 cases data with
 |nil=>
  obtain⟨h1,h2⟩:=h;cases h1
  exact hn rfl H' h2
 |cons x d=>
  obtain⟨h1,_⟩:=h;cases h1
theorem S.address{f:MF}{data:List Nat}{a:Operand}{ats:Array TypeId}{HD F:Heap}(hx:[e.ev a]=[ptr f.mb 0])(hp:H.Perm (HD++F))(hD:DH f data HD)(hf:data.length<=256)
  (hk:∀ x r,data=x::r->x<262144->∀ HD',DH f r HD'->K (u32 x) (HD'++F)) (hn:(∀ x r,data=x::r->¬ x<262144)->∀ d HD',DH f d HD'->X qg5 (HD'++F)) :
  qae (KC B0 w0) ⟨dst,.call { callee:=.value (.func 130),args:=#[a],argTypes:=ats },ty,pos,aft,g⟩ e H K X:=by
 refine S.callH (H1:=HD) (F:=F) [a] hx hp (qfI hD hf) ?_ ?_;intro r H' h
 cases data with
 |nil=>
  obtain⟨h1,_⟩:=h
  cases h1
 |cons x d=>
  unfold qiQ at h;simp only at h;split at h
  rename_i hl
  obtain⟨h1,h2⟩:=h;cases h1;exact hk x d rfl hl H' h2;obtain⟨h1,_⟩:=h;cases h1
 intro ch H' h
 cases data with
 |nil=>
  obtain⟨h1,h2⟩:=h;cases h1
  exact hn (λx r hxr=>by cases hxr) _ H' h2
 |cons x d=>
  unfold qiQ at h;simp only at h;split at h;obtain⟨h1,_⟩:=h;cases h1
  rename_i hl
  obtain⟨h1,h2⟩:=h;cases h1
  exact hn (λy r hxr=>by
   injection hxr with e1 e2;rw[<-e1]
   exact hl) _ H' h2
end
attribute [local irreducible] LOps qag qae LCalls Go.GL.Pure qaz qam qad LQ LAny qaI qan LS
section
variable{B0:Nat}{w0:World}
theorem qrI(k:MK){s:MS}{st c:Nat}(hok:MsOk s)(hcl:c<4294967296)(hdig:s.digit=true->s.data≠[])(hout:s.out.length<=100000000000){H:Heap}(h:StH k s st false H) :
  LCalls (KC B0 w0) 76 [ptr k.mb 0,u32 c] H (qkr k st (exeM c s)):=by
 generalize hR:exeM c s=R;obtain⟨vc,HC,vo,HO,HD,hC,hO,hD,rfl⟩:=h;have hfew:=hok.few;have hdeep:=hok.deep;have hl:(us s.data.reverse).length=s.data.length:=by rw[qfv,length_reverse]
 have hlc:(us s.calls.reverse).length=s.calls.length:=by rw[qfv,length_reverse]
 have mk:∀ (d:List Nat) (HD':Heap),DH (k.mf s st false vc vo) d HD'->StH k { s with data:=d } st false (HD'++(k.memH s.mem::k.binH::(HC++HO))):=λd HD' h=>⟨vc,HC,vo,HO,HD',hC,hO,h,rfl⟩;have mkT:∀ (d:List Nat) (HD':Heap),DH (k.mf s st false vc vo) d HD'->qkr k st (MR.trap s) (.panic qg5) (HD'++(k.memH s.mem::k.binH::(HC++HO))):=λd HD' h=>qyg (s:={ s with data:=d }) rfl (mk d HD' h);have hDD:=hD;obtain⟨vd,HD0,hm,rfl⟩:=hD;rw[List.cons_append];refine zcI Tryz.func76 rfl (n:=219) rfl rfl rfl ?_;refine gac ?_;refine zcC [(0,ptr k.mb 0),(1,u32 c),(14,u32 c),(36,bool (qcd c))] ?_ (λj hj=>?_);refine gan ?_;refine zoC rfl (λhc=>?_) (λc0=>?_);exact zT2;refine gan ?_;refine zoC rfl (λhc=>?_) (λc1=>?_);exact zT2;refine gan ?_;refine zoC rfl (λhc=>?_) (λc2=>?_);exact zT2;refine gan ?_;refine zoC rfl (λhc=>?_) (λc3=>?_);exact zT2;refine gan ?_;refine zoC rfl (λhc=>?_) (λc4=>?_);exact zT2;refine gan ?_;refine zoC rfl (λhc=>?_) (λc5=>?_);exact zT2;refine gan ?_;refine zoC rfl (λhc=>?_) (λc6=>?_);exact zT2;refine gan ?_;refine zoC rfl (λhc=>?_) (λc7=>?_);exact zT2;refine gan ?_;refine zoC rfl (λhc=>?_) (λc8=>?_);exact zT2;refine gan ?_
 exact⟨⟨rfl,rfl,rfl,qau (by
  have d0:=zf c0;have d1:=zf c1;have d2:=zf c2;have d3:=zf c3;have d4:=zf c4;have d5:=zf c5;have d6:=zf c6;have d7:=zf c7;have d8:=zf c8;unfold qcd;rw[<-Bool.decide_and,decide_eq_decide]
  omega),trivial⟩,rfl,rfl⟩
 refine zoC rfl (λhc=>?_) (λhnd=>?_)
 ·have hcd:48<=c/\c<=57:=by
   unfold qcd at hc;rw[zBa,zDe,zDe] at hc;exact hc
  have hR2:qlK c s=R:=by
   rw[<-hR];unfold exeM;rw[zp hc]
  refine gac ?_;refine oP (Pure.mlen rfl hm) rfl<|gaa ?_;refine zoC rfl (λhdg=>?_) (λhdg=>?_)
  ·obtain⟨d,r,hdr⟩:∃ d r,s.data=d::r:=by
    cases hd:s.data with
    |nil=>exact absurd hd (hdig hdg)
    |cons d r=>exact⟨d,r,rfl⟩
   have hRr:R=.run { s with data:=((d * 10+c-48) % 4294967296)::r }:=by
    rw[<-hR2];unfold qlK;rw[zp hdg,hdr]
   subst hRr;have hln:s.data.length=r.length+1:=by rw[hdr];rfl
   have hrl:(us r.reverse).length=r.length:=by rw[qfv,length_reverse]
   have hus:us s.data.reverse=us r.reverse++us [d]:=by rw[hdr,reverse_cons,qg7]
   rw[hus] at hm;obtain⟨b,cap,spare,h1,h2,hc1,hc2⟩:=MRow.addr hm (by simp[us]);have hel:(us r.reverse++us [d]).length=r.length+1:=by rw[zLa,hrl];rfl
   have hfl:(us r.reverse++us [d]).flatMap LV.cells=us r.reverse++us [d]:=by rw[<-qg7];exact qjr _
   rw[hfl,zAs] at h2;rw[hel] at h1 hc1 hc2;subst h1 h2
   have hval:IntKind.u32.wrap (IntKind.u32.wrap (IntKind.u32.wrap ((d:Int) * 10)+(c:Int))-48)=(((d * 10+c-48) % 4294967296:Nat):Int):=by
    rw[qfp,qfp,qfp];omega
   refine cD (m:=18) rfl [(k.mb,LObj.cells 89 ((k.mf s st false vc vo).cells (.slice (some ⟨b,0,none⟩) (r.length+1) cap)))]<|zQ9 ?_;refine aT 3 rfl rfl (pL (c:=.atom _) rfl zm0 rfl)<|aT 4 rfl rfl (pM (lv:=.atom _) rfl)<|aT 5 rfl rfl (pM (lv:=.atom _) rfl)<|aT 6 rfl rfl (pN rfl)<|aT 7 rfl rfl (pF rfl)<|aT 8 rfl rfl (pL (c:=.atom _) rfl zm0 rfl)<|aT 9 rfl rfl (pM (lv:=.atom _) rfl)<|aT 10 rfl rfl (Pure.indexRowE (o:=r.length) rfl rfl zo zo zo)<|aT 13 rfl rfl (pM (lv:=.atom _) rfl)<|aL ?_ zhp;refine lO 11 (lH rfl rfl (pL (c:=u32 d) rfl zm1 (by rw[List.getElem?_append_right zo,hrl,sub_self];rfl)) ?_);refine lO 12 (lH rfl rfl (Pure.mulW rfl rfl) ?_);refine lO 14 (lH rfl rfl (Pure.addW rfl rfl) ?_);refine lO 15 (lH rfl rfl (Pure.subW rfl rfl) ?_);refine lO 16 (lH rfl rfl (Pure.indexRowE (o:=r.length) rfl rfl zo zo zo) ?_);refine zl1 (i:=17) zk ?_;refine lS (H1:=[_]) (F:=_::(k.memH s.mem::k.binH::(HC++HO))) rfl (.inl rfl) rfl zp1 zhp ?_
   refine(sS (vs:=[u32 ((d * 10+c-48) % 4294967296)]) (cs':=us r.reverse++(u32 ((d * 10+c-48) % 4294967296)::spare)) rfl pH (by show some [int .u32 _]=some [int .u32 _];rw[<-hval]) rfl (by rw[ble_eq,zLa,hrl,zLa];show r.length+1<=r.length+(1+spare.length);omega) rfl (by
    have:=qtF (us r.reverse) (us [d]++spare) 0 [u32 ((d * 10+c-48) % 4294967296)];rw[hrl,Nat.add_zero] at this;rw[this];show us r.reverse++(u32 _::setL spare 0 [])=_
    rw[qmY]) ?_)
   refine lD zk ?_;refine gab ?_
   have hst:StH k { s with data:=((d * 10+c-48) % 4294967296)::r } st false (((k.mb,.cells 89 ((k.mf s st false vc vo).cells (.slice (some ⟨b,0,none⟩) (r.length+1) cap)))::[(b,.cells 30 (us r.reverse++(u32 ((d * 10+c-48) % 4294967296)::spare)))])++(k.memH s.mem::k.binH::(HC++HO))):=
    mk _ _ ⟨_,_,by
     have:=qoc (el:=30) (b:=b) (m:=r.length+1) (cap:=cap) (l:=(((d * 10+c-48) % 4294967296)::r).reverse) (spare:=spare) (by simp) zo zo;rw[reverse_cons,qg7,zAs] at this;rw[reverse_cons,qg7]
     exact this,rfl⟩
   exact rO hj rN ⟨[],by rw[zLz];exact List.Perm.swap _ _ _⟩ ⟨rfl,hst⟩
  have hsub:IntKind.u32.wrap ((c:Int)-48)=((c-48:Nat):Int):=by
   rw[qfp];omega
  have hRr:qdI (c-48) s=R:=by
   rw[<-hR2];unfold qlK;have hdg':s.digit=false:=hdg;rw[zn (by rw[hdg'];decide)]
  unfold qdI at hRr;refine gag ?_;refine oP (Pure.subW rfl rfl) rfl<|oS (S.push (v:=c-48) (by show [_,int .u32 _]=[_,int .u32 _];rw[<-hsub];rfl) zpr hDD hfew (λhlt HD' hD'=>?_) (λhlt HD' hD' e' he'=>?_)) rfl;rw[zp hlt] at hRr;subst hRr;refine gab ?_;exact rO hj rN zhr ⟨rfl,mk _ _ hD'⟩;rw[zn hlt] at hRr;subst hRr;refine gae ?_;exact qad.panic (he'.trans hj) zhr (mkT _ _ hD')
 have hnd':¬ qcd c=true:=by rw[hnd];decide
 refine qag.seq ?_;refine zcC [(0,ptr k.mb 0),(1,u32 c),(14,u32 c),(78,bool (decide (c=32∨c=10)))] ?_ (λj2 hj2=>?_);refine gan ?_;refine zoC rfl (λhc=>?_) (λc0=>?_);refine gab ?_;exact⟨⟨rfl,rfl,rfl,qau (hc.trans (decide_eq_true (by have:=zt hc;omega)).symm),trivial⟩,rfl,rfl⟩;refine gan ?_;exact⟨⟨rfl,rfl,rfl,qau (by have:=zf c0;rw[decide_eq_decide];omega),trivial⟩,rfl,rfl⟩;have hjj:=hj2.trans hj;refine zoC rfl (λhc=>?_) (λc0=>?_);have hcw:=zt hc
 have hRr:R=.run s:=by
  rw[<-hR];unfold exeM;rw[zn hnd',zp hcw]
 subst hRr;refine gab ?_;exact rO hjj rN zhr ⟨rfl,mk _ _ hDD⟩;have hw0:=zf c0;refine gan ?_;refine zoC rfl (λhc=>?_) (λc1=>?_)
 ·obtain rfl:c=64:=by have:=zt hc;omega
  have hR2:ldM s=R:=hR;refine cD (m:=10) rfl []<|zQ7 ?_;refine aT 5 rfl rfl (pM (lv:=.atom _) rfl)<|aL ?_ zhn;refine zl2 (i:=4) (j:=6) zk ?_ ?_
  ·refine lH rfl rfl (pL (c:=.atom (memV k)) rfl zm0 rfl) ?_;refine zl1 (i:=6) zk ?_;refine lW rfl (.inl rfl) rfl (S.address rfl zpr hDD hfew (λa r hdr ha HD' hD'=>?_) (λhb d HD' hD' e' he'=>?_));rotate_left;exact zT25
   have hRr:qdI (s.mem a) { s with data:=r }=R:=by
    rw[<-hR2];unfold ldM;rw[hdr];simp only;rw[zp ha]
   unfold qdI at hRr;simp only at hRr;have hrl:r.length<=256:=by rw[hdr,zLc] at hfew;omega
   have hD2':=hD';obtain⟨vd',HD1,hm',rfl⟩:=hD2';refine zQ45 ?_;refine lO 8 (lH rfl rfl (pL (c:=u32 (s.mem a)) rfl (mem_append_right _ zm0) (qhe _ ha)) ?_);refine lO 9 (lW rfl (.inl rfl) rfl (S.push (v:=s.mem a) rfl zpr hD' hrl (λhlt HD2 hD2=>?_) (λhlt HD2 hD2 e' he'=>?_)));rw[zp hlt] at hRr;subst hRr;refine lD zk ?_;refine gab ?_;exact rO hjj rN zhr ⟨rfl,mk _ _ hD2⟩;rw[zn hlt] at hRr;subst hRr;refine gae ?_;exact qad.panic (he'.trans hjj) zhr (mkT _ _ hD2)
  refine lW rfl (.inl rfl) rfl (S.address rfl zpr hDD hfew (λa r hdr ha HD' hD'=>?_) (λhb d HD' hD' e' he'=>?_));rotate_left;exact zT25
  have hRr:qdI (s.mem a) { s with data:=r }=R:=by
   rw[<-hR2];unfold ldM;rw[hdr];simp only;rw[zp ha]
  unfold qdI at hRr;simp only at hRr;have hrl:r.length<=256:=by rw[hdr,zLc] at hfew;omega
  have hD2':=hD';obtain⟨vd',HD1,hm',rfl⟩:=hD2';refine lO 4 (lH rfl rfl (pL (c:=.atom (memV k)) rfl zm0 rfl) ?_);refine zQ45 ?_;refine lO 8 (lH rfl rfl (pL (c:=u32 (s.mem a)) rfl (mem_append_right _ zm0) (qhe _ ha)) ?_);refine lO 9 (lW rfl (.inl rfl) rfl (S.push (v:=s.mem a) rfl zpr hD' hrl (λhlt HD2 hD2=>?_) (λhlt HD2 hD2 e' he'=>?_)));rw[zp hlt] at hRr;subst hRr;refine lD zk ?_;refine gab ?_;exact rO hjj rN zhr ⟨rfl,mk _ _ hD2⟩;rw[zn hlt] at hRr;subst hRr;refine gae ?_;exact qad.panic (he'.trans hjj) zhr (mkT _ _ hD2)
 have n64:=zf c1;refine gan ?_;refine zoC rfl (λhc=>?_) (λc2=>?_)
 ·obtain rfl:c=33:=by have:=zt hc;omega
  have hR2:stoM s=R:=hR;refine gag ?_;refine oS (S.address rfl zpr hDD hfew (λa r hdr ha HD' hD'=>?_) (λhb d HD' hD' e' he'=>?_)) rfl;rotate_left
  have hRt:R=.trap s:=by
   rw[<-hR2];unfold stoM
   cases hd:s.data with
   |nil=>rfl
   |cons x r=>
    cases r with
    |nil=>rfl
    |cons y r=>simp only;rw[zn (hb x _ hd)]
  subst hRt;refine gae ?_;exact qad.panic (he'.trans hjj) zhr (mkT _ _ hD');have hrl:r.length<=256:=by rw[hdr,zLc] at hfew;omega
  have hD3:=hD';obtain⟨vd',HD1,hm',rfl⟩:=hD3;refine gaf ?_;refine cD (m:=9) rfl []<|zQ9 ?_;refine aT 4 rfl rfl (pM (lv:=.atom _) rfl)<|aT 5 rfl rfl (pM (lv:=.atom _) rfl)<|aL ?_ zhn;refine zl2 (i:=3) (j:=6) zk ?_ ?_
  ·refine lH rfl rfl (pL (c:=.atom (memV k)) rfl zm0 rfl) ?_;refine zl1 (i:=6) zk ?_;refine lW rfl (.inl rfl) rfl (S.pop rfl zpr hD' hrl (λv r2 hdr2 HD2 hD2=>?_) (λhb HD2 hD2 e' he'=>?_));rotate_left
   have hRt:R=.trap s:=by
    rw[<-hR2];unfold stoM;rw[hdr,hb]
   subst hRt;refine gae ?_;exact qad.panic (he'.trans hjj) zhr (mkT _ _ hD2)
   have hRr:R=.run { s with data:=r2,mem:=λi=>if i=a then v else s.mem i }:=by
    rw[<-hR2];unfold stoM;rw[hdr,hdr2];simp only;rw[zp ha]
   subst hRr;have hD4:=hD2;obtain⟨vd2,HD3,hm2,rfl⟩:=hD4;refine zQ45 ?_;refine lO 8 (lW rfl (.inl rfl) rfl (sS (n:=1) (vs:=[u32 v]) (cs':=memL (λi=>if i=a then v else s.mem i)) rfl (show Pick _ _ _ from List.perm_middle) rfl rfl (by rw[ble_eq,qhk];omega) rfl (qlx _ _ _) ?_));refine lD zk ?_;refine gab ?_;exact rO hjj rN ⟨[],by rw[zLz];exact List.perm_middle.symm⟩ ⟨rfl,vc,HC,vo,HO,_,hC,hO,hD2,rfl⟩
  refine lW rfl (.inl rfl) rfl (S.pop rfl zpr hD' hrl (λv r2 hdr2 HD2 hD2=>?_) (λhb HD2 hD2 e' he'=>?_));rotate_left
  have hRt:R=.trap s:=by
   rw[<-hR2];unfold stoM;rw[hdr,hb]
  subst hRt;refine gae ?_;exact qad.panic (he'.trans hjj) zhr (mkT _ _ hD2)
  have hRr:R=.run { s with data:=r2,mem:=λi=>if i=a then v else s.mem i }:=by
   rw[<-hR2];unfold stoM;rw[hdr,hdr2];simp only;rw[zp ha]
  subst hRr;have hD4:=hD2;obtain⟨vd2,HD3,hm2,rfl⟩:=hD4;refine lO 3 (lH rfl rfl (pL (c:=.atom (memV k)) rfl zm0 rfl) ?_);refine zQ45 ?_;refine lO 8 (lW rfl (.inl rfl) rfl (sS (n:=1) (vs:=[u32 v]) (cs':=memL (λi=>if i=a then v else s.mem i)) rfl (show Pick _ _ _ from List.perm_middle) rfl rfl (by rw[ble_eq,qhk];omega) rfl (qlx _ _ _) ?_));refine lD zk ?_;refine gab ?_;exact rO hjj rN ⟨[],by rw[zLz];exact List.perm_middle.symm⟩ ⟨rfl,vc,HC,vo,HO,_,hC,hO,hD2,rfl⟩
 have n33:=zf c2;refine gan ?_;refine zoC rfl (λhc=>?_) (λc3=>?_)
 ·obtain rfl:c=63:=by have:=zt hc;omega
  have hR2:jmpM s=R:=hR;refine gag ?_;refine oS (S.pop rfl zpr hDD hfew (λt r hdr HD' hD'=>?_) (λhb HD' hD' e' he'=>?_)) rfl;rotate_left
  have hRt:R=.trap s:=by
   rw[<-hR2];unfold jmpM;rw[hb]
  subst hRt;refine gae ?_;exact qad.panic (he'.trans hjj) zhr (mkT _ _ hD');have hrl:r.length<=256:=by rw[hdr,zLc] at hfew;omega
  refine gao ?_;refine oS (S.pop rfl zpr hD' hrl (λv r2 hdr2 HD2 hD2=>?_) (λhb HD2 hD2 e' he'=>?_)) rfl;rotate_left
  have hRt:R=.trap s:=by
   rw[<-hR2];unfold jmpM;rw[hdr,hb]
  subst hRt;refine gae ?_;exact qad.panic (he'.trans hjj) zhr (mkT _ _ hD2)
  have hRr:R=.run { s with data:=r2,pc:=if v=0 then t else s.pc }:=by
   rw[<-hR2];unfold jmpM;rw[hdr,hdr2]
  obtain⟨vd2,HD3,hm2,rfl⟩:=hD2;refine gab ?_;refine zoC rfl (λhv=>?_) (λhv=>?_);have hv0:v=0:=by have:=zt hv;omega
  rw[zp hv0] at hRr;subst hRr;refine gaa ?_;exact rO hjj rN zhr ⟨rfl,vc,HC,vo,HO,_::HD3,hC,hO,⟨vd2,HD3,hm2,rfl⟩,rfl⟩;have hv0:¬ v=0:=by have:=zf hv;omega
  rw[zn hv0] at hRr;subst hRr;refine gab ?_;exact rO hjj rN zhr ⟨rfl,mk _ _ ⟨vd2,HD3,hm2,rfl⟩⟩
 have n63:=zf c3;refine gan ?_;refine zoC rfl (λhc=>?_) (λc4=>?_)
 ·obtain rfl:c=58:=by have:=zt hc;omega
  have hR2:qmR s=R:=hR;refine gag ?_;refine oS (S.pop rfl zpr hDD hfew (λt r hdr HD' hD'=>?_) (λhb HD' hD' e' he'=>?_)) rfl;rotate_left
  have hRt:R=.trap s:=by
   rw[<-hR2];unfold qmR;rw[hb]
  subst hRt;refine gae ?_;exact qad.panic (he'.trans hjj) zhr (mkT _ _ hD');have hD3:=hD';obtain⟨vd2,HD3,hm2,rfl⟩:=hD3;refine gac ?_;refine oP (Pure.mlen rfl hC) rfl<|gab ?_;refine oS (S.check rfl (λhb=>?_) (λhb e' he'=>?_)) rfl;rotate_left;have hlt:¬ s.calls.length<64:=by have:=zf hb;omega
  have hRt:R=.trap s:=by
   rw[<-hR2];unfold qmR;rw[hdr];simp only;rw[zn hlt]
  subst hRt;refine gae ?_;exact qad.panic (he'.trans hjj) zhr (mkT _ _ hD');have hlt:s.calls.length<64:=by have:=zt hb;omega
  have hRr:R=.run { s with data:=r,calls:=s.pc::s.calls,pc:=t }:=by
   rw[<-hR2];unfold qmR;rw[hdr];simp only;rw[zp hlt]
  subst hRr;refine gab ?_;refine cD (m:=14) rfl []<|zQ7 ?_;refine aT 5 rfl rfl (pM (lv:=.atom _) rfl)<|aT 6 rfl rfl (pN rfl)<|aT 7 rfl rfl (pF rfl)<|aL ?_ zhn;refine zl2 (i:=4) (j:=8) zk ?_ ?_;refine lH rfl rfl (pL (c:=.atom vc) rfl zm0 rfl)<|zl1 (i:=8) zk ?_;refine lH rfl rfl (pL (c:=u32 s.pc) rfl zm0 rfl)<|zl1 (i:=9) zk ?_;refine zQ27 ?_;exact zT1;refine lH rfl rfl (pL (c:=u32 s.pc) rfl zm0 rfl)<|zl2 (i:=4) (j:=9) zk ?_ ?_;refine lH rfl rfl (pL (c:=.atom vc) rfl zm0 rfl)<|zl1 (i:=9) zk ?_;refine zQ27 ?_;exact zT1;refine zQ27 ?_;refine zl1 (i:=4) zk ?_;refine lH rfl rfl (pL (c:=.atom vc) rfl zm0 rfl) ?_;exact zT1
 have n58:=zf c4;refine gan ?_;refine zoC rfl (λhc=>?_) (λc5=>?_)
 ·obtain rfl:c=59:=by have:=zt hc;omega
  have hR2:bakM s=R:=hR;refine gac ?_;refine oP (Pure.mlen rfl hC) rfl<|gaa ?_;refine oS (S.check rfl (λhb=>?_) (λhb e' he'=>?_)) rfl;rotate_left
  have hnil:s.calls=[]:=by
   have:=zf hb;exact List.length_eq_zero_iff.1 zo
  have hRt:R=.trap s:=by
   rw[<-hR2];unfold bakM;rw[hnil]
  subst hRt;refine gae ?_;exact qad.panic (he'.trans hjj) zhr (mkT _ _ hDD)
  obtain⟨t,r,hdr⟩:∃ t r,s.calls=t::r:=by
   cases hd:s.calls with
   |nil=>
    have:=zt hb;rw[hlc,hd] at this
    simp at this
   |cons t r=>exact⟨t,r,rfl⟩
  have hRr:R=.run { s with calls:=r,pc:=t }:=by
   rw[<-hR2];unfold bakM;rw[hdr]
  subst hRr;have hln:s.calls.length=r.length+1:=by rw[hdr];rfl
  have hrl:(us r.reverse).length=r.length:=by rw[qfv,length_reverse]
  have hus:us s.calls.reverse=us r.reverse++us [t]:=by rw[hdr,reverse_cons,qg7]
  have hC0:=hC;rw[hus] at hC0;obtain⟨b,cap,spare,h1,h2,hc1,hc2⟩:=MRow.addr hC0 (by simp[us]);have hel:(us r.reverse++us [t]).length=r.length+1:=by rw[zLa,hrl];rfl
  have hfl:(us r.reverse++us [t]).flatMap LV.cells=us r.reverse++us [t]:=by rw[<-qg7];exact qjr _
  rw[hfl,zAs] at h2;rw[hel] at h1 hc1 hc2;subst h1 h2;refine gaa ?_;refine oP (Pure.indexRowE (o:=r.length) rfl rfl zo zo zo) rfl<|oP (pL (c:=u32 t) rfl (zMt (mem_append_right _ zm2)) (by rw[List.getElem?_append_right zo,hrl,sub_self];rfl)) rfl<|gaa ?_;refine oP (Pure.rowSlice (n:=r.length) rfl (by exact qap zo) zo) rfl<|gad ?_;exact rO hjj rN zhr ⟨rfl,_,_,vo,HO,_::HD0,qoc (l:=r.reverse) (spare:=us [t]++spare) (by rw[length_reverse]) zo (by rw[zLa,qfv];simp only[List.length_singleton];omega),hO,⟨vd,HD0,hm,rfl⟩,rfl⟩
 have n59:=zf c5;refine gan ?_;refine zoC rfl (λhc=>?_) (λc6=>?_)
 ·obtain rfl:c=44:=by have:=zt hc;omega
  have hR2:rdM s=R:=hR;unfold rdM at hR2;refine gaa ?_
  cases hi:s.inp with
  |nil=>
   rw[hi] at hR2;unfold qdI at hR2
   have e0:(us (k.mf s st false vc vo).inp).length=0:=by
    show(us s.inp).length=0;rw[hi];rfl
   refine zoC rfl (λhc=>?_) (λ_=>?_);have:=zt hc;omega;refine gac ?_;refine oS (S.push (v:=4294967295) rfl zpr hDD hfew (λhlt HD' hD'=>?_) (λhlt HD' hD' e' he'=>?_)) rfl;rw[zp hlt] at hR2;subst hR2;refine gab ?_;exact rO hjj rN zhr ⟨rfl,mk _ _ hD'⟩;rw[zn hlt] at hR2;subst hR2;refine gae ?_
   exact qad.panic (he'.trans hjj) zhr (mkT _ _ hD')
  |cons v r=>
   rw[hi] at hR2;unfold qdI at hR2;simp only at hR2
   have hli2:(us (k.mf s st false vc vo).inp).length=r.length+1:=by
    show(us s.inp).length=_;rw[hi];simp[us]
   refine zoC rfl (λ_=>?_) (λhc=>?_);rotate_left;have:=zf hc;omega;refine gaa ?_;refine oP (xR (el':=u32 v) (cs:=[u32 v]) rfl rfl zDd (by show(us s.inp)[0]? = _;rw[hi];rfl) rfl rfl) rfl ?_;refine gaa ?_;refine oP (Pure.lsliceE (ms:=us r) rfl ⟨_,rfl⟩ rfl zo zo zo (qrS _) (by show List.drop _ (List.take ((us s.inp).length:Int).toNat (us s.inp))=us r;rw[hi];simp[us,List.take_of_length_le])) rfl ?_;refine gaa ?_;have hD5:DH (k.mf { s with inp:=r } st false vc vo) s.data ((k.mb,.cells 89 ((k.mf { s with inp:=r } st false vc vo).cells vd))::HD0):=⟨vd,HD0,hm,rfl⟩;have mk5:∀ (d:List Nat) (HD':Heap),DH (k.mf { s with inp:=r } st false vc vo) d HD'->StH k { s with inp:=r,data:=d } st false (HD'++(k.memH s.mem::k.binH::(HC++HO))):=λd HD' h=>⟨vc,HC,vo,HO,HD',hC,hO,h,rfl⟩;refine oS (S.push (v:=v) rfl zpr hD5 hfew (λhlt HD' hD'=>?_) (λhlt HD' hD' e' he'=>?_)) rfl;rw[zp hlt] at hR2;subst hR2;refine gab ?_;exact rO hjj rN zhr ⟨rfl,mk5 _ _ hD'⟩;rw[zn hlt] at hR2;subst hR2;refine gae ?_;exact qad.panic (he'.trans hjj) zhr (qyg (s:={ s with inp:=r,data:=s.data }) rfl (mk5 _ _ hD'))
 have n44:=zf c6;refine gan ?_;refine zoC rfl (λhc=>?_) (λc7=>?_)
 ·obtain rfl:c=46:=by have:=zt hc;omega
  have hR2:wrM s=R:=hR;refine cD (m:=13) rfl []<|zQ7 ?_;refine aT 5 rfl rfl (pM (lv:=.atom _) rfl)<|aL ?_ zhn;refine zl2 (i:=4) (j:=6) zk ?_ ?_
  ·refine lH rfl rfl (pL (c:=vo) rfl zm0 rfl) ?_;refine zl1 (i:=6) zk ?_;refine lW rfl (.inl rfl) rfl (S.pop rfl zpr hDD hfew (λv r hdr HD' hD'=>?_) (λhb HD' hD' e' he'=>?_));rotate_left
   have hRt:R=.trap s:=by
    rw[<-hR2];unfold wrM;rw[hb]
   subst hRt;refine gae ?_;exact qad.panic (he'.trans hjj) zhr (mkT _ _ hD')
   have hRr:R=.run { s with data:=r,out:=s.out++[UInt8.ofNat v] }:=by
    rw[<-hR2];unfold wrM;rw[hdr]
   subst hRr;obtain⟨vd2,HD3,hm2,rfl⟩:=hD'
   have e1:byts s.out++[int .u8 (IntKind.u8.wrap (v:Int))]=byts (s.out++[UInt8.ofNat v]):=by
    rw[qpx,qlW];rfl
   have hroom2:((byts s.out).length+[int .u8 (IntKind.u8.wrap (v:Int))].length) * 1<=140737488355328:=by
    simp only[qiR,zLc,zLn];omega
   exact zT10
  refine lW rfl (.inl rfl) rfl (S.pop rfl zpr hDD hfew (λv r hdr HD' hD'=>?_) (λhb HD' hD' e' he'=>?_));rotate_left
  have hRt:R=.trap s:=by
   rw[<-hR2];unfold wrM;rw[hb]
  subst hRt;refine gae ?_;exact qad.panic (he'.trans hjj) zhr (mkT _ _ hD')
  have hRr:R=.run { s with data:=r,out:=s.out++[UInt8.ofNat v] }:=by
   rw[<-hR2];unfold wrM;rw[hdr]
  subst hRr;obtain⟨vd2,HD3,hm2,rfl⟩:=hD'
  have e1:byts s.out++[int .u8 (IntKind.u8.wrap (v:Int))]=byts (s.out++[UInt8.ofNat v]):=by
   rw[qpx,qlW];rfl
  have hroom2:((byts s.out).length+[int .u8 (IntKind.u8.wrap (v:Int))].length) * 1<=140737488355328:=by
   simp only[qiR,zLc,zLn];omega
  refine zl2 (i:=4) (j:=7) zk ?_ ?_;refine lH rfl rfl (pL (c:=vo) rfl zm0 rfl) ?_;exact zT10;refine lH rfl rfl (Pure.cvt rfl)<|zl2 (i:=4) (j:=8) zk ?_ ?_;refine lH rfl rfl (pL (c:=vo) rfl zm0 rfl)<|zQ20 ?_;refine lW rfl (.inl rfl) rfl (sG (A:=_::(HD3++(k.memH s.mem::k.binH::HC))) qpY rfl hO rfl (λv hv=>by rw[List.mem_singleton.1 hv];rfl) rfl hroom2 λv' H' hacc'=>?_);rw[e1] at hacc';refine zQ4 ?_;exact rO hjj rN ⟨[],by rw[zLz];exact zPc.trans qpY.symm⟩ ⟨rfl,vc,HC,v',H',_::HD3,hC,hacc',⟨vd2,HD3,hm2,rfl⟩,rfl⟩;refine lW rfl (.inl rfl) rfl (sL (es:=[int .u8 (IntKind.u8.wrap (v:Int))]) [_] rfl (eC rfl rfl eN) rfl rfl rfl ?_);refine zl1 (i:=4) zk ?_;refine lH rfl rfl (pL (c:=vo) rfl zm0 rfl)<|zl1 (i:=9) zk ?_;refine lW rfl (.inl rfl) rfl (sG (A:=_::(HD3++(k.memH s.mem::k.binH::HC))) qpY rfl hO rfl (λv hv=>by rw[List.mem_singleton.1 hv];rfl) rfl hroom2 λv' H' hacc'=>?_);rw[e1] at hacc';refine zQ4 ?_;exact rO hjj rN ⟨[],by rw[zLz];exact zPc.trans qpY.symm⟩ ⟨rfl,vc,HC,v',H',_::HD3,hC,hacc',⟨vd2,HD3,hm2,rfl⟩,rfl⟩
 have n46:=zf c7;refine gan ?_;refine zoC rfl (λhc=>?_) (λc8=>?_)
 ·obtain rfl:c=36:=by have:=zt hc;omega
  have hRr:R=.stop 0 s.out:=hR.symm;subst hRr;refine gaa ?_;exact rO hjj rN zhr ⟨s,rfl,by rw[zp rfl];exact⟨rfl,vc,HC,vo,HO,_::HD0,hC,hO,⟨vd,HD0,hm,rfl⟩,rfl⟩⟩
 have n36:=zf c8
 have hsign:∀ r,(if c=43∨c=45∨c=42∨c=47∨c=37∨c=94∨c=60 then opM c s else MR.trap s)=r->R=r:=λr hr=>by
  rw[<-hR,<-hr];unfold exeM;rw[zn hnd',zn hw0,zn zo,zn zo,zn zo,zn zo,zn zo,zn zo,zn zo,zn zo]
 by_cases hop:c=43∨c=45∨c=42∨c=47∨c=37∨c=94∨c=60
 rotate_left;have hRt:=hsign _ (zn hop);subst hRt;refine gac ?_;refine oP (Pure.lookupMiss2 (zv:=.nilFunc) (kt:=30) (el:=113) (kd:=.u32) zk zk (λw=>(Go.zero_of_info (P:=Tryz.prog) (n:=1) zk).1 w) rfl rfl (zMt (mem_append_right _ zm1)) (qs8 hop)) rfl<|gac ?_;refine oS (S.check rfl (λhb=>?_) (λhb e' he'=>?_)) rfl;cases hb;refine gae ?_;exact qad.panic (he'.trans hjj) zhr (mkT _ _ hDD);have hR2:=hsign _ (zp hop)
 have hval:∀ (a b:Nat) (r:List Nat),s.data=b::a::r->a<4294967296/\b<4294967296:=λa b r hd=>by
  have h1:=hok.data;rw[hd] at h1;exact⟨h1 a (zMo _ zMs),h1 b zMs⟩
 obtain⟨jj,f,hf1,hf2,_⟩:=qmw (B0:=B0) (w0:=w0) hop (a:=0) (b:=0) zDd zDd;refine gac ?_;refine oP (Pure.lookupHit2 (kt:=30) (el:=113) (kd:=.u32) zk zk rfl rfl (zMt (mem_append_right _ zm1)) hf1) rfl<|gac ?_;refine oS (S.check rfl (λhb=>?_) (λhb e' he'=>?_)) rfl;rotate_left;cases hb;refine gam ?_;refine oS (S.pop rfl zpr hDD hfew (λb r hdr HD' hD'=>?_) (λhb HD' hD' e' he'=>?_)) rfl;rotate_left
 have hRt:R=.trap s:=by
  rw[hR2];unfold opM;rw[hb]
 subst hRt;refine gae ?_;exact qad.panic (he'.trans hjj) zhr (mkT _ _ hD');have hrl:r.length<=256:=by rw[hdr,zLc] at hfew;omega
 refine gao ?_;refine oS (S.pop rfl zpr hD' hrl (λa r2 hdr2 HD2 hD2=>?_) (λhb HD2 hD2 e' he'=>?_)) rfl;rotate_left
 have hRt:R=.trap s:=by
  rw[hR2];unfold opM;rw[hdr,hb]
 subst hRt;refine gae ?_;exact qad.panic (he'.trans hjj) zhr (mkT _ _ hD2);have hrl2:r2.length<=256:=by rw[hdr2,zLc] at hrl;omega
 obtain⟨ha,hb4⟩:=hval a b r2 (by rw[hdr,hdr2]);obtain⟨jj2,f2,hf3,hf4,hspec⟩:=qmw (B0:=B0) (w0:=w0) hop ha hb4
 obtain rfl:f=f2:=by
  rw[hf1] at hf3;injection hf3 with h1;injection h1 with h1;injection h1 with h1 h2;injection h2 with h2;injection h2
 have hR3:(match binM c a b with
   |some v=>qdI v { s with data:=r2 }
   |none=>MR.trap s)=R:=by
  rw[hR2];unfold opM;rw[hdr,hdr2];rfl
 refine gao ?_;refine oS (S.callV (f:=f) (first:=#[]) (caps:=#[]) (H1:=HD2++(k.memH s.mem::k.binH::(HC++HO))) (F:=[]) [_,_] rfl rfl (by rw[zLz]) (hspec _) ?_ ?_) rfl;rintro v H' ⟨rfl,h⟩
 cases hbm:binM c a b with
 |none=>
  rw[hbm] at h
  cases h
 |some w=>
  rw[hbm] at h hR3;cases h;simp only at hR3;unfold qdI at hR3;simp only at hR3;rw[zLz];refine oS (S.push (v:=w) rfl zpr hD2 hrl2 (λhlt HD3 hD3=>?_) (λhlt HD3 hD3 e' he'=>?_)) rfl;rw[zp hlt] at hR3;subst hR3;refine gab ?_;exact rO hjj rN zhr ⟨rfl,mk _ _ hD3⟩;rw[zn hlt] at hR3;subst hR3;refine gae ?_;exact qad.panic (he'.trans hjj) zhr (mkT _ _ hD3)
 rintro ch H' ⟨rfl,h⟩ e' he'
 cases hbm:binM c a b with
 |some w=>
  rw[hbm] at h
  cases h
 |none=>
  rw[hbm] at h hR3;cases h;simp only at hR3;subst hR3;rw[zLz];refine gae ?_;exact qad.panic (he'.trans hjj) zhr (mkT _ _ hD2)
end
open Inp (u32 Same retS qfp qfn)
theorem qr2(w:World):(zeroValue 116).run Tryz.prog w=.ok (.agg ([]:List Value).toArray) w:=
 (Go.zero_of_info (P:=Tryz.prog) (n:=0) zk).1 w
theorem qwb{c:Nat}{s s':MS}(h:exeM c s=.run s'):s'.out.length<=s.out.length+1:=by
 have push:∀ (v:Nat) (t:MS),qdI v t=.run s'->t.out=s.out->s'.out.length<=s.out.length+1:=λv t h ht=>by
  unfold qdI at h;split at h;injection h with h;subst h;show t.out.length<=_;rw[ht];omega;cases h
 unfold exeM at h;split at h;unfold qlK at h;split at h;split at h;exact zT31;cases h;exact push _ _ h rfl;split at h;injection h with h;subst h;omega;split at h;unfold ldM at h;split at h;split at h;exact push _ _ h rfl;cases h;cases h;split at h;unfold stoM at h;split at h;split at h;exact zT31;cases h;cases h;split at h;unfold jmpM at h;split at h;exact zT31;cases h;split at h;unfold qmR at h;split at h;split at h;exact zT31;cases h;cases h;split at h;unfold bakM at h;split at h;exact zT31;cases h;split at h;unfold rdM at h;split at h;exact push _ _ h rfl;exact push _ _ h rfl;split at h;unfold wrM at h;split at h;exact zT31;cases h;split at h;cases h;split at h;unfold opM at h;split at h;split at h;exact push _ _ h rfl;cases h;cases h;cases h
theorem QNo.exit{Q:Post}{e:Env}{H:Heap}{id:Nat}(h:Q (.exit id) e H):QNo Q (.exit id) e H:=h
attribute [local irreducible] qcf qaU qea qbq
section
variable{B0:Nat}{w0:World}
theorem qlB(b:Nat)(d:LV):qbq (KC B0 w0) 75 [ptr b 0] .returning [(b,.cells 23 [d])]
  (λu H=>u=.returning/\H=[(b,.cells 23 [d])]):=by
 refine qbq.intro Tryz.func75 rfl (n:=14) rfl rfl rfl ?_;refine zQ23 ?_;refine gag ?_;refine oP (Chk.Pure.assertNil qr2 rfl) rfl<|gad ?_;refine oS (zsA λb5=>?_) rfl;refine gaa ?_;refine zoC rfl (λhc=>?_) (λhc=>?_);cases hc;refine gaa ?_;refine zoC rfl (λhc=>?_) (λhc=>?_);cases hc;refine gab ?_;exact⟨rfl,_,zhD zhr,rfl,rfl⟩
theorem qlP(b:Nat)(d:LV):qbq (KC B0 w0) 75 [ptr b 0] (.panicking qg5) [(b,.cells 23 [d])]
  (λu H=>settle u=.returning/\H=[(b,.cells 23 [int .i64 12])]):=by
 refine qbq.intro Tryz.func75 rfl (n:=14) rfl rfl rfl ?_;refine zQ23 ?_;refine gag ?_;refine oP (Pure.assertOk (vs:=[]) rfl) rfl<|gad ?_;refine oS (zsA λb5=>?_) rfl;refine gaa ?_;refine zoC rfl (λhc=>?_) (λhc=>?_);refine gaa ?_;exact⟨rfl,_,zhP pH zhn,rfl,rfl⟩;cases hc
def EndH(k:MK)(st:Nat)(o:Wd)(H:Heap):Prop:=∃ s stop,s.out=o/\StH k s st stop H
theorem qgd(k:MK){s:MS}{st limit:Nat}(hok:MsOk s)(hdig:s.digit=true->s.data≠[])(hst:st<=limit)(hlim:limit<=100000000)(hout:s.out.length<=st){H:Heap}(h:StH k s st false H) :
  LCalls (KC B0 w0) 35 [ptr k.mb 0,int .i64 (limit:Nat)] H (λr H'=>EndH k (st+(runM (limit-st) s).2.2) (runM (limit-st) s).2.1 H'/\r=.ret (int .i64 ((runM (limit-st) s).1:Nat))):=by
 generalize hR:runM (limit-st) s=R;refine LCalls.introD Tryz.func35 rfl (n:=59) rfl rfl rfl ?_;refine zQ32 ?_;refine gah ?_;refine oS (zsA λb4=>?_) rfl;refine gaf ?_;refine zQ25 ?_;refine qcf.defer rfl rfl ?_;refine zQ41 ?_;refine qaU.seq ?_;refine qaU.block ?_
 refine qaU.loopI (λkk ls H'=>∃ (i:Nat) (s1:MS) (H1:Heap),i<=limit/\st<=i/\kk=limit-i/\ls=[(0,ptr k.mb 0),(1,int .i64 (limit:Nat)),(4,ptr b4 0)]/\H'=(b4,.cells 23 [int .i64 0])::H1/\StH k s1 i false H1/\MsOk s1/\(s1.digit=true->s1.data≠[])/\s1.out.length<=i/\(runM (limit-i) s1).1=R.1/\(runM (limit-i) s1).2.1=R.2.1/\i+(runM (limit-i) s1).2.2=st+R.2.2)
  ⟨_,_,_,⟨st,s,H,hst,zNr _,rfl,rfl,rfl,h,hok,hdig,hout,by rw[hR],by rw[hR],by rw[hR]⟩,⟨rfl,rfl,rfl,trivial⟩,zhR _⟩ ?_
 rintro kk ls H' ⟨i,s1,H1,hi,hsi,rfl,rfl,rfl,hS,hok1,hdig1,hout1,e1,e2,e3⟩ j hj;obtain⟨vc,HC,vo,HO,HD,hC,hO,hD,rfl⟩:=hS;have hDD:=hD;obtain⟨vd,HD0,hm,rfl⟩:=hD;rw[List.cons_append];have hmst:(k.mf s1 i false vc vo).st=i:=rfl;have hmpc:(k.mf s1 i false vc vo).pc=s1.pc:=rfl;refine zQ32 ?_;refine gaa ?_;refine zoC rfl (λhc=>?_) (λhc=>?_);rotate_left
 ·have hil:i=limit:=by have:=zf hc;omega
  subst hil;rw[sub_self,runM] at e1 e2 e3;simp only at e1 e2 e3;refine qag.exit ?_;refine QNo.exit ?_;refine gab ?_;refine qaU.of ?_;refine gaa ?_
  first|refine QNo.ret ?_|skip
  exact qb8.ret1 (vs:=[int .i64 13]) (H2:=[(b4,.cells 23 [int .i64 13])]) hj zpr (qlB b4 _)
   (rC (qdb.cellOne rfl zm0 rfl zsr) rN) (zhD zhr) ⟨⟨s1,false,e2,by rw[<-e3,Nat.add_zero];exact⟨vc,HC,vo,HO,_,hC,hO,hDD,rfl⟩⟩,by rw[<-e1];rfl⟩
 have hil:i<limit:=by have:=zt hc;omega
 have hn:limit-i=(limit-(i+1))+1:=by omega
 rw[hn,runM] at e1 e2 e3;refine qag.skip ?_
 first|refine QNo.normal ?_|skip
 refine qaU.block ?_;refine zQ32 ?_;refine gaa ?_
 first|refine QNo.normal ?_|skip
 refine qaU.weak (H':=(b4,.cells 23 [int .i64 0])::(k.mb,.cells 89 ((k.mf s1 (i+1) false vc vo).cells vd))::(HD0++(k.memH s1.mem::k.binH::(HC++HO)))) ⟨[],by rw[zLz];exact List.Perm.swap _ _ _⟩ ?_;have hst1:StH k s1 (i+1) false (((k.mb,.cells 89 ((k.mf s1 (i+1) false vc vo).cells vd))::HD0)++(k.memH s1.mem::k.binH::(HC++HO))):=⟨vc,HC,vo,HO,_,hC,hO,⟨vd,HD0,hm,rfl⟩,rfl⟩;have hmpc2:(k.mf s1 (i+1) false vc vo).pc=s1.pc:=rfl;refine zQ25 ?_;refine qcf.step (S.check rfl (λhb=>?_) (λhb=>?_)) rfl;rotate_left
 ·have hpc:¬ s1.pc<262144:=by have:=zf hb;omega
  have hs:stepM s1=.stop 12 s1.out:=by
   unfold stepM;rw[zn hpc];rfl
  rw[hs] at e1 e2 e3;simp only at e1 e2 e3;refine gae ?_
  exact qb8.panic1 (H1:=[(b4,.cells 23 [int .i64 0])]) (vs:=[int .i64 12]) (H2:=[(b4,.cells 23 [int .i64 12])]) hj zpr (qlP b4 _)
   (rC (qdb.cellOne rfl zm0 rfl zsr) rN) (zhD zhr) ⟨⟨s1,false,e2,by rw[<-e3];exact hst1⟩,by rw[<-e1];rfl⟩
 have hpc:s1.pc<262144:=by have:=zt hb;omega
 refine zQ41 ?_;refine zQ32 ?_;refine zQ29 ?_;refine qP (Pure.indexRowE (o:=s1.pc) rfl rfl zo zo zo) rfl ?_;refine qP (pL (c:=u32 (s1.mem s1.pc)) rfl (zMt (zMt (mem_append_right _ zm0))) (qhe _ hpc)) rfl ?_;refine gad ?_
 first|refine QNo.normal ?_|skip
 refine zQ32 ?_;refine gaa ?_;refine oP (Pure.addW rfl rfl) rfl<|gab ?_
 have hw:IntKind.u32.wrap ((s1.pc:Int)+1)=((s1.pc+1:Nat):Int):=by
  rw[qfp];omega
 refine oS (sS (n:=1) (vs:=[u32 (s1.pc+1)]) (cs':=[_,_,_,_,_,_,_,_,_,_]) rfl zp1 (by show some [int .u32 _]=some [int .u32 _];rw[<-hw]) rfl rfl rfl rfl ?_) rfl;refine gaf ?_
 first|refine QNo.normal ?_|skip
 generalize hcd:s1.mem s1.pc=c at *;have hcl:c<4294967296:=by rw[<-hcd];exact hok1.mem _
 have hok2:MsOk { s1 with pc:=s1.pc+1 }:=⟨hok1.mem,by show s1.pc+1<_;omega,hok1.data,hok1.calls,hok1.inp,hok1.few,hok1.deep⟩;have hex:=qrI (B0:=B0) (w0:=w0) k (s:={ s1 with pc:=s1.pc+1 }) (st:=i+1) (c:=c) hok2 hcl hdig1 (by show s1.out.length<=_;omega) (H:=((k.mb,.cells 89 ((k.mf { s1 with pc:=s1.pc+1 } (i+1) false vc vo).cells vd))::HD0)++(k.memH s1.mem::k.binH::(HC++HO))) ⟨vc,HC,vo,HO,_,hC,hO,⟨vd,HD0,hm,rfl⟩,rfl⟩;refine zQ25 ?_;refine qcf.step (S.callH (F:=[(b4,.cells 23 [int .i64 0])]) [_,_] rfl (List.Perm.cons _ (List.perm_append_singleton _ _).symm) hex ?_ ?_) rfl
 ·intro v H2 hP
  cases hx:exeM c { s1 with pc:=s1.pc+1 } with
  |run s2=>
   rw[hx] at hP;obtain⟨hv,hS2⟩:=hP;cases hv
   have hs:stepM s1=.run { s2 with digit:=qcd c }:=by
    unfold stepM;rw[zp hpc,hcd,hx]
   rw[hs] at e1 e2 e3;simp only at e1 e2 e3;have hok3:=qxm hok2 hcl hx;have hlen:=qwb hx;have hdig3:qcd c=true->s2.data≠[]:=qwA hx
   have hlen2:s2.out.length<=i+1:=by
    have:s2.out.length<=s1.out.length+1:=hlen;omega
   obtain⟨vc2,HC2,vo2,HO2,HD2,hC2,hO2,hD2,rfl⟩:=hS2;obtain⟨vd2,HD3,hm2,rfl⟩:=hD2;refine zQ41 ?_;refine qaU.weak (H':=(b4,.cells 23 [int .i64 0])::(k.mb,.cells 89 ((k.mf s2 (i+1) false vc2 vo2).cells vd2))::(HD3++(k.memH s2.mem::k.binH::(HC2++HO2)))) ⟨[],by rw[zLz];exact zPc⟩ ?_;refine qaU.of ?_;refine gaa ?_;refine zoC rfl (λhc=>by cases hc) (λ_=>?_);refine gaa ?_;have fin:∀ (dg:Bool),qcd c=dg->StH k { s2 with digit:=dg } (i+1) false (((k.mb,.cells 89 ((k.mf { s2 with digit:=dg } (i+1) false vc2 vo2).cells vd2))::HD3)++(k.memH s2.mem::k.binH::(HC2++HO2)))/\MsOk { s2 with digit:=dg }/\(dg=true->s2.data≠[]):=λdg hd=>⟨⟨vc2,HC2,vo2,HO2,_,hC2,hO2,⟨vd2,HD3,hm2,rfl⟩,rfl⟩,⟨hok3.mem,hok3.pc,hok3.data,hok3.calls,hok3.inp,hok3.few,hok3.deep⟩,λh=>hdig3 (hd.trans h)⟩;refine zoB 53 rfl (λh=>?_) (λh=>?_)
   ·have hdg:qcd c=decide ((c:Int)<=57):=by
     have:=zt h;unfold qcd;rw[decide_eq_true (by omega:48<=c),Bool.true_and,decide_eq_decide];omega
    obtain⟨f1,f2,f3⟩:=fin _ hdg;rw[hdg] at e1 e2 e3;refine gad ?_
    first|refine QNo.norm ?_|skip
    first|refine qam.normal ?_|skip
    first|refine qN ?_|skip
    exact⟨limit-(i+1),_,_,by omega,⟨i+1,_,_,by omega,by omega,rfl,rfl,rfl,f1,f2,f3,hlen2,e1,e2,by omega⟩,⟨rfl,rfl,rfl,trivial⟩,⟨[],by rw[zLz];exact List.Perm.swap _ _ _⟩,hj⟩
   have hdg:qcd c=false:=by
    have:=zf h;unfold qcd;rw[decide_eq_false (by omega:¬ 48<=c)];rfl
   obtain⟨f1,f2,f3⟩:=fin _ hdg;rw[hdg] at e1 e2 e3;refine gad ?_
   first|refine QNo.norm ?_|skip
   first|refine qam.normal ?_|skip
   first|refine qN ?_|skip
   exact⟨limit-(i+1),_,_,by omega,⟨i+1,_,_,by omega,by omega,rfl,rfl,rfl,f1,f2,f3,hlen2,e1,e2,by omega⟩,⟨rfl,rfl,rfl,trivial⟩,⟨[],by rw[zLz];exact List.Perm.swap _ _ _⟩,hj⟩
  |stop er o=>
   rw[hx] at hP;obtain⟨s2,ho,hP⟩:=hP
   by_cases he:er=0
   rotate_left;rw[zn he] at hP;obtain⟨_,hv,_⟩:=hP;cases hv;rw[zp he] at hP;obtain⟨hv,hS2⟩:=hP;cases hv;subst he
   have hs:stepM s1=.stop 0 o:=by
    unfold stepM;rw[zp hpc,hcd,hx]
   rw[hs] at e1 e2 e3;simp only at e1 e2 e3;have hend:EndH k (st+R.2.2) R.2.1 H2:=⟨s2,true,ho.trans e2,by rw[<-e3];exact hS2⟩;obtain⟨vc2,HC2,vo2,HO2,HD2,hC2,hO2,hD2,rfl⟩:=hS2;obtain⟨vd2,HD3,hm2,rfl⟩:=hD2;refine zQ41 ?_;refine qaU.weak (H':=(b4,.cells 23 [int .i64 0])::(k.mb,.cells 89 ((k.mf s2 (i+1) true vc2 vo2).cells vd2))::(HD3++(k.memH s2.mem::k.binH::(HC2++HO2)))) ⟨[],by rw[zLz];exact zPc⟩ ?_;refine qaU.of ?_;refine gaa ?_;refine zoC rfl (λ_=>?_) (λhc=>by cases hc);refine gaa ?_
   first|refine QNo.ret ?_|skip
   first|refine qaz.ret ?_|skip
   first|refine qam.ret ?_|skip
   first|refine qaz.ret ?_|skip
   first|refine qam.ret ?_|skip
   first|refine qaz.ret ?_|skip
   exact qb8.ret1 (vs:=[int .i64 0]) (H2:=[(b4,.cells 23 [int .i64 0])]) hj zpr (qlB b4 _)
    (rC (qdb.cellOne rfl zm0 rfl zsr) rN) (zhD zhr) ⟨hend,by rw[<-e1];rfl⟩
 intro ch H2 hP
 cases hx:exeM c { s1 with pc:=s1.pc+1 } with
 |run s2=>
  rw[hx] at hP;obtain⟨hv,_⟩:=hP
  cases hv
 |stop er o=>
  rw[hx] at hP;obtain⟨s2,ho,hP⟩:=hP
  by_cases he:er=0
  rw[zp he] at hP;obtain⟨hv,_⟩:=hP;cases hv;rw[zn he] at hP;obtain⟨h12,hv,hS2⟩:=hP;cases hv;subst h12
  have hs:stepM s1=.stop 12 o:=by
   unfold stepM;rw[zp hpc,hcd,hx]
  rw[hs] at e1 e2 e3;simp only at e1 e2 e3;refine gae ?_
  exact qb8.panic1 (H1:=[(b4,.cells 23 [int .i64 0])]) (vs:=[int .i64 12]) (H2:=[(b4,.cells 23 [int .i64 12])]) hj zPc (qlP b4 _)
   (rC (qdb.cellOne rfl zm0 rfl zsr) rN) (zhD zhr) ⟨⟨s2,false,ho.trans e2,by rw[<-e3];exact hS2⟩,by rw[<-e1];rfl⟩
end
def qqv(og:Nat)(code:Wd):LV:=.agg [int .i64 (og:Nat),str code]
def qou(r:Nat×Wd×Nat):LV:=.agg [str r.2.1,int .i64 (r.1:Nat),int .i64 (r.2.2:Nat)]
theorem qsk{code:Wd}{og n:Nat}(h:n<code.length):(λi=>if i=og+n then (code[n]).toNat else qfq (code.take n) og i)=qfq (code.take (n+1)) og:=by
 funext i;unfold qfq;rw[List.getElem?_take,List.getElem?_take]
 by_cases h1:i=og+n
 subst h1;rw[zp rfl,zp zo,show og+n-og=n by omega,zp zo,List.getElem?_eq_getElem h];rw[zn h1]
 by_cases h2:og<=i
 rw[zp h2,zp h2]
 by_cases h3:i-og<n
 rw[zp h3,zp zo];rw[zn h3,zn zo];rw[zn h2,zn h2]
theorem qsb(og:Nat):qfq [] og=λ_=>0:=by
 funext i;unfold qfq;split;rw[List.getElem?_nil];rfl
theorem qt6(code:Wd){og:Nat}{inp:List Nat}(h:og<262144)(hi:∀ v∈inp,v<4294967296):MsOk (qdD code og inp):=
 ⟨λi=>qwQ code og i,by show og<_;omega,λv hv=>(not_mem_nil hv).elim,λv hv=>(not_mem_nil hv).elim,hi,by show 0<=_;omega,by show 0<=_;omega⟩
section
variable{B0:Nat}{w0:World}
@[reducible] def stR(k:MK)(og:Nat)(inp:List Nat):Nat×LObj:=(k.mb,.cells 89 ((k.mf (qdD [] og inp) 0 false (.slice none 0 0) qab).cells (.slice none 0 0)))
@[reducible] def ouR(b:Nat):Nat×LObj:=(b,.cells 25 [str [],int .i64 0,int .i64 0])
theorem qhp{code:Wd}{og:Nat}{inp:List Nat}{steps:Nat}(hog:og+code.length<=262144)(hog2:og<262144)(hin:∀ v∈inp,v<4294967296)(hs0:0<steps)(hs1:steps<=100000000) :
  LCalls (KC B0 w0) 21 [.list [qqv og code],int .i64 (og:Nat),.list (us inp),int .i64 (steps:Nat)] [] (Ret (qou (runM steps (qdD code og inp)))):=by
 have eX:qqv og code=.agg [int .i64 (og:Nat),str code]:=rfl;rw[eX];refine zcI Tryz.func21 rfl (n:=106) rfl rfl rfl ?_;refine gah ?_;refine oS (zsA λb8=>?_) rfl;refine gaa ?_
 refine zoL (λkk ls H'=>∃ i:Nat,i<=1/\kk=1-i/\ls=[(0,.list [.agg [int .i64 (og:Nat),str code]]),(1,int .i64 (og:Nat)),(2,.list (us inp)),(3,int .i64 (steps:Nat)),(8,ptr b8 0),(9,bool true),(23,.list [.agg [int .i64 (og:Nat),str code]]),(24,int .i64 1),(25,int .i64 (i:Nat))]/\H'=[ouR b8])
  ⟨_,_,_,⟨0,by omega,rfl,rfl,rfl⟩,⟨rfl,rfl,rfl,rfl,rfl,qau (decide_eq_true zo),rfl,rfl,rfl,trivial⟩,zhR _⟩ ?_
 rintro kk ls H' ⟨i,hi,rfl,rfl,rfl⟩ j hj;refine gai ?_;refine zoC rfl (λhc=>?_) (λhc=>?_);obtain rfl:i=0:=by have:=zt hc;omega
 refine gak ?_;refine oP (xR (el':=.agg [int .i64 (og:Nat),str code]) (cs:=[_,_]) rfl rfl zDd rfl rfl rfl) rfl<|gad ?_;refine oS (zsA λb11=>?_) rfl;refine gaa ?_;exact⟨_,_,_,by omega,⟨1,by omega,rfl,rfl,rfl⟩,⟨rfl,rfl,rfl,rfl,rfl,qau (decide_eq_true zo),rfl,rfl,rfl,trivial⟩,zhD zhr,hj⟩;obtain rfl:i=1:=by have:=zf hc;omega
 clear hc hi;refine gaa ?_;refine zoC rfl (λhc=>by cases hc) (λ_=>?_);refine gaa ?_;refine zoC rfl (λhc=>?_) (λ_=>?_);have:=zt hc;omega;refine gaa ?_;refine zoC rfl (λhc=>?_) (λ_=>?_);have:=zt hc;omega
 have hwo:IntKind.u32.wrap (og:Int)=(og:Int):=by
  rw[qfp];omega
 refine gab ?_;refine cM (A:=MK) (λk=>[(0,.list [.agg [int .i64 (og:Nat),str code]]),(3,int .i64 (steps:Nat)),(8,ptr b8 0),(12,ptr k.mb 0)]) (λk=>[stR k og inp,k.memH (λ_=>0),k.binH,ouR b8]) (λ_=>True) ?_ (λk _ j2 hj2=>?_);refine cD (m:=8) rfl []<|aT 1 rfl rfl (pM (lv:=.atom _) rfl)<|aT 2 rfl rfl (Pure.cvt rfl)<|aT 3 rfl rfl (pM (lv:=.list _) rfl) ?_;rw[hwo];refine aL ?_ zhn;refine zl2 (i:=0) (j:=4) zk ?_ ?_;refine lW rfl (.inl rfl) rfl (S.makeRow (n:=262144) rfl rfl zDd zDd λmm=>?_);rw[qmn];refine zl1 (i:=4) zk ?_;refine lW rfl (.inl rfl) rfl (S.callH (H1:=[]) [] rfl zpr qhh ?_ (by rintro ch H' ⟨_,h,_⟩;cases h));rintro lv H' ⟨bm,h,rfl⟩;cases h;exact zT18;refine lW rfl (.inl rfl) rfl (S.callH (H1:=[]) [] rfl zpr qhh ?_ (by rintro ch H' ⟨_,h,_⟩;cases h));rintro lv H' ⟨bm,h,rfl⟩;cases h;refine zl1 (i:=0) zk ?_;refine lW rfl (.inl rfl) rfl (S.makeRow (n:=262144) rfl rfl zDd zDd λmm=>?_);rw[qmn];exact zT18;have hjj:j2.ds=[]:=hj2.trans hj;refine gaa ?_
 refine zoL (λkk ls H'=>∃ i:Nat,i<=1/\kk=1-i/\ls=[(3,int .i64 (steps:Nat)),(8,ptr b8 0),(12,ptr k.mb 0),(64,.list [.agg [int .i64 (og:Nat),str code]]),(65,int .i64 1),(66,int .i64 (i:Nat))]/\H'=[stR k og inp,k.memH (qfq (code.take (i * code.length)) og),k.binH,ouR b8])
  ⟨_,_,_,⟨0,by omega,rfl,rfl,rfl⟩,⟨rfl,rfl,rfl,rfl,rfl,rfl,trivial⟩,by rw[Nat.zero_mul,List.take_zero,qsb];exact zhR _⟩ ?_
 rintro kk ls H' ⟨i,hi,rfl,rfl,rfl⟩ j3 hj3;refine gai ?_;refine zoC rfl (λhc=>?_) (λhc=>?_);obtain rfl:i=0:=by have:=zt hc;omega
 refine gak ?_;refine oP (xR (el':=.agg [int .i64 (og:Nat),str code]) (cs:=[_,_]) rfl rfl zDd rfl rfl rfl) rfl<|gad ?_;refine oS (zsA λb14=>?_) rfl;refine gaa ?_
 refine zoL (λkk ls H'=>∃ n:Nat,n<=code.length/\kk=code.length-n/\ls=[(3,int .i64 (steps:Nat)),(8,ptr b8 0),(12,ptr k.mb 0),(14,ptr b14 0),(64,.list [.agg [int .i64 (og:Nat),str code]]),(65,int .i64 1),(66,int .i64 0),(72,int .i64 code.length),(73,int .i64 (n:Nat))]/\H'=[stR k og inp,(b14,.cells 52 [int .i64 (og:Nat),str code]),k.memH (qfq (code.take n) og),k.binH,ouR b8])
  ⟨_,_,_,⟨0,zero_le _,rfl,rfl,rfl⟩,⟨rfl,rfl,rfl,rfl,rfl,rfl,rfl,rfl,rfl,trivial⟩,by rw[Nat.zero_mul];exact zhP zp1 zhr⟩ ?_
 rintro kk ls H' ⟨n,hn,rfl,rfl,rfl⟩ j4 hj4;refine gai ?_;refine zoC rfl (λhd=>?_) (λhd=>?_);have hlt:n<code.length:=by have:=zt hd;omega
 have hget:code[((n:Nat):Int).toNat]? = some code[n]:=by rw[Int.toNat_natCast,List.getElem?_eq_getElem hlt]
 have hnx:=qsk (og:=og) hlt;generalize code[n]=ch at hget hnx
 have hw8:IntKind.u32.wrap ((ch.toNat:Nat):Int)=((ch.toNat:Nat):Int):=by
  rw[qfp];have:=ch.toNat_lt;omega
 refine gac ?_;refine cD (m:=15) rfl [stR k og inp,(b14,LObj.cells 52 [int .i64 (og:Nat),str code])]<|zQ9 ?_;refine aT 3 rfl rfl (pL (c:=.atom _) rfl zm0 rfl)<|aT 4 rfl rfl (pF rfl)<|aT 5 rfl rfl (pL (c:=.atom _) rfl zm1 rfl)<|aT 6 rfl rfl (pM (lv:=.atom _) rfl)<|aT 7 rfl rfl (Pure.add rfl rfl zo)<|aT 8 rfl rfl (pF rfl)<|aT 9 rfl rfl (pL (c:=.atom _) rfl zm1 rfl)<|aT 10 rfl rfl (pM (lv:=.atom _) rfl)<|aT 11 rfl rfl (pI (c:=ch) rfl rfl zo hget)<|aT 12 rfl rfl (Pure.cvt rfl)<|aT 13 rfl rfl (Pure.indexRowE (o:=og+n) rfl rfl zo zo zo)<|aL ?_ ⟨_,List.Perm.refl _⟩;refine zl1 (i:=14) zk ?_;refine lS (H1:=[k.memH (qfq (code.take n) og)]) (F:=[stR k og inp,(b14,LObj.cells 52 [int .i64 (og:Nat),str code]),k.binH,ouR b8]) rfl (.inl rfl) rfl zp2 ⟨_,List.Perm.refl _⟩ ?_;refine sS (n:=1) (vs:=[u32 ch.toNat]) (cs':=memL (qfq (code.take (n+1)) og)) rfl pH (congrArg (λz=>some [int .u32 z]) hw8) rfl (by rw[ble_eq,qhk];omega) rfl (by rw[<-hnx];exact qlx _ _ _) ?_;refine lD zk ?_;refine gaq ?_;exact⟨code.length-(n+1),_,_,by omega,⟨n+1,by omega,rfl,rfl,rfl⟩,⟨rfl,rfl,rfl,rfl,rfl,rfl,rfl,rfl,qap zo,trivial⟩,zhP zp1 (zhP zp1 zhr),hj4⟩;obtain rfl:n=code.length:=by have:=zf hd;omega
 refine gac ?_;exact⟨0,_,_,by omega,⟨1,by omega,rfl,rfl,rfl⟩,⟨rfl,rfl,rfl,rfl,rfl,qap zo,trivial⟩,by rw[Nat.one_mul];exact zhP pH (zhD zhr),hj4.trans hj3⟩;obtain rfl:i=1:=by have:=zf hc;omega
 rw[Nat.one_mul,take_length];have hS:StH k (qdD code og inp) 0 false [stR k og inp,k.memH (qfq code og),k.binH]:=⟨.slice none 0 0,[],qab,[],[stR k og inp],MRow.nil,Acc.nil,⟨.slice none 0 0,[],MRow.nil,rfl⟩,rfl⟩;have hrun:=qgd (B0:=B0) (w0:=w0) k (qt6 code hog2 hin) (λh=>by cases h) (zero_le steps) hs1 (zNr 0) hS;rw[Nat.sub_zero] at hrun;generalize runM steps (qdD code og inp)=R at hrun ⊢;rw[Nat.zero_add] at hrun;refine gac ?_;refine oS (S.callH (H1:=[stR k og inp,k.memH (qfq code og),k.binH]) (F:=[ouR b8]) [_,_] rfl zpr hrun ?_ (by rintro ch H' ⟨_,h⟩;cases h)) rfl;rintro v H' ⟨hE,hv⟩;cases hv;obtain⟨s2,stop,ho,vc,HC,vo,HO,HD,hC,hO,hD,rfl⟩:=hE;obtain⟨vd,HD0,hm,rfl⟩:=hD;refine LOps.weak (H':=ouR b8::(k.mb,.cells 89 ((k.mf s2 R.2.2 stop vc vo).cells vd))::(HD0++(k.memH s2.mem::k.binH::(HC++HO)))) ⟨[],by rw[zLz];exact zPc⟩ ?_;refine gab ?_;refine qag.tail 11 zk ?_;refine gad ?_;refine lP (pL (c:=vo) rfl zm1 rfl) rfl ?_;refine lP (Pure.bytesStrE (l:=s2.out) (by exact hO.elems)) rfl ?_;refine gad ?_;exact qac (hj3.trans hjj) (rC (rA (k:=3) rfl zm0 rfl zsr) rN) (by rw[ho];rfl)
end
end Go.Proofs.YtkihibnffkpnkaaGreatDoor.Mch
namespace Go.Proofs.YtkihibnffkpnkaaGreatDoor.Cmp
open Go.GL Go.RowKit Go.Stele
open Go.Lib (decDigits itoa join)
attribute [local irreducible] LOps qag qae LCalls Go.GL.Pure qaz qam qad LQ LAny qaI qan LS
section
variable{B0:Nat}{w0:World}
theorem qk6(hG:GW B0 w0)(hM:Asm.GM w0){p:Pr}{n:Nat}(h:SzP p n)(hn:n<=2000000)(o:Org)(o1:I64 o.code)(o2:I64 o.scalars)(o3:I64 o.arrays):LCalls (KC B0 w0) 37 [qgA p,qkh o] [] (Ret (qqQ (cmpP p.vars (qbd p) p.funcs o))):=by
 rw[Inp.encPr_eq]
 exact qmM hG hM _ _ _ o (zNt h.vars hn) (by rw[zLm];exact zNt h.arrays hn) (λa ha=>by
  obtain⟨x,hx,rfl⟩:=List.mem_map.1 ha;have:=h.size x hx;constructor;show(-9223372036854775808:Int)<=(x.size:Int);omega;show(x.size:Int)<9223372036854775808
  omega) (zNt h.funcs hn) h.nums o1 o2 o3
def defO:Org:=⟨10000,0,100000⟩
theorem qfj:LCalls (KC B0 w0) 23 [] [] (Ret (qkh defO)):=by
 refine zcI Tryz.func23 rfl (n:=2) rfl rfl rfl ?_;refine gaa ?_;refine oS (zsA λb=>?_) rfl;refine gaa ?_;exact qac rfl (rC (rA rfl zm0 rfl zsr) rN) rfl
end
end Go.Proofs.YtkihibnffkpnkaaGreatDoor.Cmp
namespace Go.Proofs.YtkihibnffkpnkaaGreatDoor.Lb
open Go.GL Go.RowKit Go.Stele
noncomputable def txt(f:Go.Func):List UInt8:=match f.body with
 |some (.seq _ (.seq (.region _ ops _) _))=>(match ops.toList with
  |o::_=>(match o.op with
   |.assign (.const (.string s))=>s.data.toList
   |_=>[])
  |[]=>[])
 |_=>[]
noncomputable def tGf:List UInt8:=(txt Go.Proofs.Tryz.f41)
noncomputable def tCrc:List UInt8:=(txt Go.Proofs.Tryz.f42)
noncomputable def tViterbi:List UInt8:=(txt Go.Proofs.Tryz.f89)++(txt Go.Proofs.Tryz.f90)
noncomputable def tRs:List UInt8:=(txt Go.Proofs.Tryz.f91)++(txt Go.Proofs.Tryz.f92)
noncomputable def tFrame:List UInt8:=(txt Go.Proofs.Tryz.f93)++(txt Go.Proofs.Tryz.f94)++(txt Go.Proofs.Tryz.f95)
noncomputable def tErasure:List UInt8:=(txt Go.Proofs.Tryz.f46)
noncomputable def tBlake:List UInt8:=(txt Go.Proofs.Tryz.f96)++(txt Go.Proofs.Tryz.f97)++(txt Go.Proofs.Tryz.f98)
noncomputable def tReader:List UInt8:=(txt Go.Proofs.Tryz.f99)++(txt Go.Proofs.Tryz.f100)++(txt Go.Proofs.Tryz.f101)++(txt Go.Proofs.Tryz.f102)
noncomputable def tCrcmain:List UInt8:=(txt Go.Proofs.Tryz.f49)
noncomputable def tViterbimain:List UInt8:=(txt Go.Proofs.Tryz.f50)
noncomputable def tRsmain:List UInt8:=(txt Go.Proofs.Tryz.f51)
noncomputable def tFramemain:List UInt8:=(txt Go.Proofs.Tryz.f52)
noncomputable def tErasuremain:List UInt8:=(txt Go.Proofs.Tryz.f53)
noncomputable def tBlakemain:List UInt8:=(txt Go.Proofs.Tryz.f54)
noncomputable def tRender:List UInt8:=(txt Go.Proofs.Tryz.f103)++(txt Go.Proofs.Tryz.f104)++(txt Go.Proofs.Tryz.f105)++(txt Go.Proofs.Tryz.f106)
attribute [local irreducible] LOps qag qae LCalls Go.GL.Pure qaz qam qad LQ LAny qaI qan LS
section
variable{B0:Nat}{w0:World}
theorem srcGf:LCalls (KC B0 w0) 41 [] [] (Ret (str tGf)):=by
 refine zcI Tryz.func41 rfl (n:=1) rfl rfl rfl ?_;refine gat ?_;exact qac rfl (zra rfl) rfl
theorem qxy:LCalls (KC B0 w0) 42 [] [] (Ret (str tCrc)):=by
 refine zcI Tryz.func42 rfl (n:=1) rfl rfl rfl ?_;refine gat ?_;exact qac rfl (zra rfl) rfl
theorem qoq:LCalls (KC B0 w0) 89 [] [] (Ret (str (txt Go.Proofs.Tryz.f89))):=by
 refine zcI Tryz.func89 rfl (n:=1) rfl rfl rfl ?_;refine gat ?_;exact qac rfl (zra rfl) rfl
theorem qnA:LCalls (KC B0 w0) 90 [] [] (Ret (str (txt Go.Proofs.Tryz.f90))):=by
 refine zcI Tryz.func90 rfl (n:=1) rfl rfl rfl ?_;refine gat ?_;exact qac rfl (zra rfl) rfl
theorem qqG:LCalls (KC B0 w0) 43 [] [] (Ret (str tViterbi)):=by
 have h1:=qoq (B0:=B0) (w0:=w0);have h2:=qnA (B0:=B0) (w0:=w0);have n1:(txt Go.Proofs.Tryz.f89).length<=10000:=zt zk;have n2:(txt Go.Proofs.Tryz.f90).length<=10000:=zt zk;unfold tViterbi;generalize (txt Go.Proofs.Tryz.f89)=x1 at h1 n1 ⊢;generalize (txt Go.Proofs.Tryz.f90)=x2 at h2 n2 ⊢;refine zcI Tryz.func43 rfl (n:=4) rfl rfl rfl ?_;refine gar ?_;refine oS (sF [] rfl h1<|oS (sF [] rfl h2 ?_) rfl) rfl;refine zQ26 ?_;exact qac rfl (zra rfl) rfl
theorem qx4:LCalls (KC B0 w0) 91 [] [] (Ret (str (txt Go.Proofs.Tryz.f91))):=by
 refine zcI Tryz.func91 rfl (n:=1) rfl rfl rfl ?_;refine gat ?_;exact qac rfl (zra rfl) rfl
theorem qx6:LCalls (KC B0 w0) 92 [] [] (Ret (str (txt Go.Proofs.Tryz.f92))):=by
 refine zcI Tryz.func92 rfl (n:=1) rfl rfl rfl ?_;refine gat ?_;exact qac rfl (zra rfl) rfl
theorem srcRs:LCalls (KC B0 w0) 44 [] [] (Ret (str tRs)):=by
 have h1:=qx4 (B0:=B0) (w0:=w0);have h2:=qx6 (B0:=B0) (w0:=w0);have n1:(txt Go.Proofs.Tryz.f91).length<=10000:=zt zk;have n2:(txt Go.Proofs.Tryz.f92).length<=10000:=zt zk;unfold tRs;generalize (txt Go.Proofs.Tryz.f91)=x1 at h1 n1 ⊢;generalize (txt Go.Proofs.Tryz.f92)=x2 at h2 n2 ⊢;refine zcI Tryz.func44 rfl (n:=4) rfl rfl rfl ?_;refine gar ?_;refine oS (sF [] rfl h1<|oS (sF [] rfl h2 ?_) rfl) rfl;refine zQ26 ?_;exact qac rfl (zra rfl) rfl
theorem qr9:LCalls (KC B0 w0) 93 [] [] (Ret (str (txt Go.Proofs.Tryz.f93))):=by
 refine zcI Tryz.func93 rfl (n:=1) rfl rfl rfl ?_;refine gat ?_;exact qac rfl (zra rfl) rfl
theorem qrt:LCalls (KC B0 w0) 94 [] [] (Ret (str (txt Go.Proofs.Tryz.f94))):=by
 refine zcI Tryz.func94 rfl (n:=1) rfl rfl rfl ?_;refine gat ?_;exact qac rfl (zra rfl) rfl
theorem qrh:LCalls (KC B0 w0) 95 [] [] (Ret (str (txt Go.Proofs.Tryz.f95))):=by
 refine zcI Tryz.func95 rfl (n:=1) rfl rfl rfl ?_;refine gat ?_;exact qac rfl (zra rfl) rfl
theorem quv:LCalls (KC B0 w0) 45 [] [] (Ret (str tFrame)):=by
 have h1:=qr9 (B0:=B0) (w0:=w0);have h2:=qrt (B0:=B0) (w0:=w0);have h3:=qrh (B0:=B0) (w0:=w0);have n1:(txt Go.Proofs.Tryz.f93).length<=10000:=zt zk;have n2:(txt Go.Proofs.Tryz.f94).length<=10000:=zt zk;have n3:(txt Go.Proofs.Tryz.f95).length<=10000:=zt zk;unfold tFrame;generalize (txt Go.Proofs.Tryz.f93)=x1 at h1 n1 ⊢;generalize (txt Go.Proofs.Tryz.f94)=x2 at h2 n2 ⊢;generalize (txt Go.Proofs.Tryz.f95)=x3 at h3 n3 ⊢;refine zcI Tryz.func45 rfl (n:=6) rfl rfl rfl ?_;refine zQ6 ?_;refine gaf ?_;exact qac rfl (zra rfl) rfl
theorem qqt:LCalls (KC B0 w0) 46 [] [] (Ret (str tErasure)):=by
 refine zcI Tryz.func46 rfl (n:=1) rfl rfl rfl ?_;refine gat ?_;exact qac rfl (zra rfl) rfl
theorem qrP:LCalls (KC B0 w0) 96 [] [] (Ret (str (txt Go.Proofs.Tryz.f96))):=by
 refine zcI Tryz.func96 rfl (n:=1) rfl rfl rfl ?_;refine gat ?_;exact qac rfl (zra rfl) rfl
theorem qsY:LCalls (KC B0 w0) 97 [] [] (Ret (str (txt Go.Proofs.Tryz.f97))):=by
 refine zcI Tryz.func97 rfl (n:=1) rfl rfl rfl ?_;refine gat ?_;exact qac rfl (zra rfl) rfl
theorem qsl:LCalls (KC B0 w0) 98 [] [] (Ret (str (txt Go.Proofs.Tryz.f98))):=by
 refine zcI Tryz.func98 rfl (n:=1) rfl rfl rfl ?_;refine gat ?_;exact qac rfl (zra rfl) rfl
theorem qtZ:LCalls (KC B0 w0) 47 [] [] (Ret (str tBlake)):=by
 have h1:=qrP (B0:=B0) (w0:=w0);have h2:=qsY (B0:=B0) (w0:=w0);have h3:=qsl (B0:=B0) (w0:=w0);have n1:(txt Go.Proofs.Tryz.f96).length<=10000:=zt zk;have n2:(txt Go.Proofs.Tryz.f97).length<=10000:=zt zk;have n3:(txt Go.Proofs.Tryz.f98).length<=10000:=zt zk;unfold tBlake;generalize (txt Go.Proofs.Tryz.f96)=x1 at h1 n1 ⊢;generalize (txt Go.Proofs.Tryz.f97)=x2 at h2 n2 ⊢;generalize (txt Go.Proofs.Tryz.f98)=x3 at h3 n3 ⊢;refine zcI Tryz.func47 rfl (n:=6) rfl rfl rfl ?_;refine zQ6 ?_;refine gaf ?_;exact qac rfl (zra rfl) rfl
theorem qqz:LCalls (KC B0 w0) 99 [] [] (Ret (str (txt Go.Proofs.Tryz.f99))):=by
 refine zcI Tryz.func99 rfl (n:=1) rfl rfl rfl ?_;refine gat ?_;exact qac rfl (zra rfl) rfl
theorem qqX:LCalls (KC B0 w0) 100 [] [] (Ret (str (txt Go.Proofs.Tryz.f100))):=by
 refine zcI Tryz.func100 rfl (n:=1) rfl rfl rfl ?_;refine gat ?_;exact qac rfl (zra rfl) rfl
theorem qqi:LCalls (KC B0 w0) 101 [] [] (Ret (str (txt Go.Proofs.Tryz.f101))):=by
 refine zcI Tryz.func101 rfl (n:=1) rfl rfl rfl ?_;refine gat ?_;exact qac rfl (zra rfl) rfl
theorem qqq:LCalls (KC B0 w0) 102 [] [] (Ret (str (txt Go.Proofs.Tryz.f102))):=by
 refine zcI Tryz.func102 rfl (n:=1) rfl rfl rfl ?_;refine gat ?_;exact qac rfl (zra rfl) rfl
theorem qrd:LCalls (KC B0 w0) 48 [] [] (Ret (str tReader)):=by
 have h1:=qqz (B0:=B0) (w0:=w0);have h2:=qqX (B0:=B0) (w0:=w0);have h3:=qqi (B0:=B0) (w0:=w0);have h4:=qqq (B0:=B0) (w0:=w0);have n1:(txt Go.Proofs.Tryz.f99).length<=10000:=zt zk;have n2:(txt Go.Proofs.Tryz.f100).length<=10000:=zt zk;have n3:(txt Go.Proofs.Tryz.f101).length<=10000:=zt zk;have n4:(txt Go.Proofs.Tryz.f102).length<=10000:=zt zk;unfold tReader;generalize (txt Go.Proofs.Tryz.f99)=x1 at h1 n1 ⊢;generalize (txt Go.Proofs.Tryz.f100)=x2 at h2 n2 ⊢;generalize (txt Go.Proofs.Tryz.f101)=x3 at h3 n3 ⊢;generalize (txt Go.Proofs.Tryz.f102)=x4 at h4 n4 ⊢;refine zcI Tryz.func48 rfl (n:=8) rfl rfl rfl ?_;refine zQ6 ?_;refine oS (sF [] rfl h4 ?_) rfl;refine zQ26 ?_;exact qac rfl (zra rfl) rfl
theorem qqH:LCalls (KC B0 w0) 49 [] [] (Ret (str tCrcmain)):=by
 refine zcI Tryz.func49 rfl (n:=1) rfl rfl rfl ?_;refine gat ?_;exact qac rfl (zra rfl) rfl
theorem qkp:LCalls (KC B0 w0) 50 [] [] (Ret (str tViterbimain)):=by
 refine zcI Tryz.func50 rfl (n:=1) rfl rfl rfl ?_;refine gat ?_;exact qac rfl (zra rfl) rfl
theorem qrO:LCalls (KC B0 w0) 51 [] [] (Ret (str tRsmain)):=by
 refine zcI Tryz.func51 rfl (n:=1) rfl rfl rfl ?_;refine gat ?_;exact qac rfl (zra rfl) rfl
theorem qm5:LCalls (KC B0 w0) 52 [] [] (Ret (str tFramemain)):=by
 refine zcI Tryz.func52 rfl (n:=1) rfl rfl rfl ?_;refine gat ?_;exact qac rfl (zra rfl) rfl
theorem qkq:LCalls (KC B0 w0) 53 [] [] (Ret (str tErasuremain)):=by
 refine zcI Tryz.func53 rfl (n:=1) rfl rfl rfl ?_;refine gat ?_;exact qac rfl (zra rfl) rfl
theorem qmh:LCalls (KC B0 w0) 54 [] [] (Ret (str tBlakemain)):=by
 refine zcI Tryz.func54 rfl (n:=1) rfl rfl rfl ?_;refine gat ?_;exact qac rfl (zra rfl) rfl
theorem qqC:LCalls (KC B0 w0) 103 [] [] (Ret (str (txt Go.Proofs.Tryz.f103))):=by
 refine zcI Tryz.func103 rfl (n:=1) rfl rfl rfl ?_;refine gat ?_;exact qac rfl (zra rfl) rfl
theorem qqW:LCalls (KC B0 w0) 104 [] [] (Ret (str (txt Go.Proofs.Tryz.f104))):=by
 refine zcI Tryz.func104 rfl (n:=1) rfl rfl rfl ?_;refine gat ?_;exact qac rfl (zra rfl) rfl
theorem qpU:LCalls (KC B0 w0) 105 [] [] (Ret (str (txt Go.Proofs.Tryz.f105))):=by
 refine zcI Tryz.func105 rfl (n:=1) rfl rfl rfl ?_;refine gat ?_;exact qac rfl (zra rfl) rfl
theorem qqg:LCalls (KC B0 w0) 106 [] [] (Ret (str (txt Go.Proofs.Tryz.f106))):=by
 refine zcI Tryz.func106 rfl (n:=1) rfl rfl rfl ?_;refine gat ?_;exact qac rfl (zra rfl) rfl
theorem qrn:LCalls (KC B0 w0) 55 [] [] (Ret (str tRender)):=by
 have h1:=qqC (B0:=B0) (w0:=w0);have h2:=qqW (B0:=B0) (w0:=w0);have h3:=qpU (B0:=B0) (w0:=w0);have h4:=qqg (B0:=B0) (w0:=w0);have n1:(txt Go.Proofs.Tryz.f103).length<=10000:=zt zk;have n2:(txt Go.Proofs.Tryz.f104).length<=10000:=zt zk;have n3:(txt Go.Proofs.Tryz.f105).length<=10000:=zt zk;have n4:(txt Go.Proofs.Tryz.f106).length<=10000:=zt zk;unfold tRender;generalize (txt Go.Proofs.Tryz.f103)=x1 at h1 n1 ⊢;generalize (txt Go.Proofs.Tryz.f104)=x2 at h2 n2 ⊢;generalize (txt Go.Proofs.Tryz.f105)=x3 at h3 n3 ⊢;generalize (txt Go.Proofs.Tryz.f106)=x4 at h4 n4 ⊢;refine zcI Tryz.func55 rfl (n:=8) rfl rfl rfl ?_;refine zQ6 ?_;refine oS (sF [] rfl h4 ?_) rfl;refine zQ26 ?_;exact qac rfl (zra rfl) rfl
end
noncomputable def mods:List (List UInt8×Nat×List UInt8):=[([103,102],41,tGf),([99,114,99],42,tCrc),([118,105,116,101,114,98,105],43,tViterbi),([114,115],44,tRs),([102,114,97,109,101],45,tFrame),([101,114,97,115,117,114,101],46,tErasure),([98,108,97,107,101],47,tBlake),([114,101,97,100,101,114],48,tReader),([99,114,99,109,97,105,110],49,tCrcmain),([118,105,116,101,114,98,105,109,97,105,110],50,tViterbimain),([114,115,109,97,105,110],51,tRsmain),([102,114,97,109,101,109,97,105,110],52,tFramemain),([101,114,97,115,117,114,101,109,97,105,110],53,tErasuremain),([98,108,97,107,101,109,97,105,110],54,tBlakemain),([114,101,110,100,101,114],55,tRender)]
def qeY(m:List UInt8×Nat×List UInt8):LV:=.agg [str m.1,.atom (.func (.func m.2.1) #[] #[])]
section
variable{B0:Nat}{w0:World}
theorem qiq:LCalls (KC B0 w0) 25 [] [] (Ret (.list (mods.map qeY))):=by
 refine zcI Tryz.func25 rfl (n:=17) rfl rfl rfl ?_;refine gaa ?_;refine oS (sL (s:=2) [_,_,_,_,_,_,_,_,_,_,_,_,_,_,_] rfl (eC rfl rfl (eC rfl rfl (eC rfl rfl (eC rfl rfl (eC rfl rfl (eC rfl rfl (eC rfl rfl (eC rfl rfl (eC rfl rfl (eC rfl rfl (eC rfl rfl (eC rfl rfl (eC rfl rfl (eC rfl rfl (eC rfl rfl eN))))))))))))))) rfl rfl rfl ?_) rfl;refine gad ?_;exact qac rfl (rC (rT (v:=.list _) rfl zsr) rN) rfl
end
open Inp (u32 Same retS)
abbrev Md:=List UInt8×Nat×List UInt8
noncomputable def modP(name:List UInt8):List UInt8×Int:=match mods.find? λm=>decide (m.1=name) with
 |some m=>(m.2.2,0)
 |none=>([],9)
noncomputable def srcP:List (List UInt8)->List UInt8->List UInt8×Int
 |[],acc=>(acc,0)
 |n::l,acc=>if (modP n).2≠0 then ([],(modP n).2) else srcP l (acc++(modP n).1)
@[reducible] def nmH(b:Nat)(name:List UInt8):Nat×LObj:=(b,.cells 9 [str name])
@[reducible] def cloV(b:Nat):LV:=.atom (.func (.func 27) #[] #[.pointer (some ⟨b,0,none⟩)])
theorem qo7:mods.length=15:=rfl
theorem qvI:∀ m∈mods,m.2.2.length<=10000:=by
 have h:(mods.all λm=>decide (m.2.2.length<=10000))=true:=by kernel_rfl
 intro m hm;exact zt (List.all_eq_true.1 h m hm)
theorem qtN(n:List UInt8):(modP n).1.length<=10000:=by
 unfold modP;split
 rename_i m h
 exact qvI m (List.mem_of_find?_eq_some h);exact zero_le _
theorem qsL:∀ (l:List Md) (name:List UInt8) (i:Nat) (h:i<l.length),(∀ j (hj:j<i),(l[j]'zo).1≠name)->l[i].1=name->(l.find? λm=>decide (m.1=name))=some l[i]
 |[],name,i,h,_,_=>by cases h
 |m::l,name,0,h,_,hn=>by
  have hn:m.1=name:=hn;rw[List.find?_cons,decide_eq_true hn]
  rfl
 |m::l,name,i+1,h,hb,hn=>by
  have h0:m.1≠name:=hb 0 zo;rw[List.find?_cons,decide_eq_false h0];exact qsL l name i (by simpa using h) (λj hj=>hb (j+1) zo) hn
section
variable{B0:Nat}{w0:World}
theorem qtR(m:Md)(name:List UInt8)(b:Nat):LCalls (KC B0 w0) 27 [qeY m,ptr b 0] [nmH b name] (Same (bool (decide (m.1=name))) [nmH b name]):=by
 obtain⟨n,f,t⟩:=m;unfold qeY;refine zcI Tryz.func27 rfl (n:=8) rfl rfl rfl ?_;refine gah ?_;refine oS (zsB rfl λb2=>?_) rfl;refine gaa ?_;exact retS rfl (zra rfl) rfl (zhD zhr)
theorem qxT:∀ m∈mods,LCalls (KC B0 w0) m.2.1 [] [] (Ret (str m.2.2)):=by
 intro m hm;simp only[mods,zMi,not_mem_nil,or_false] at hm;rcases hm with rfl|rfl|rfl|rfl|rfl|rfl|rfl|rfl|rfl|rfl|rfl|rfl|rfl|rfl|rfl;exact srcGf;exact qxy;exact qqG;exact srcRs;exact quv;exact qqt;exact qtZ;exact qrd;exact qqH;exact qkp;exact qrO;exact qm5;exact qkq;exact qmh;exact qrn
theorem qxQ:∀ m∈mods,TEnter (KC B0 w0).P m.2.1:=by
 intro m hm;simp only[mods,zMi,not_mem_nil,or_false] at hm;rcases hm with rfl|rfl|rfl|rfl|rfl|rfl|rfl|rfl|rfl|rfl|rfl|rfl|rfl|rfl|rfl <;> (show TEnter Tryz.prog _;infer_instance)
theorem qh8(ms:List Md)(hml:ms.length=15)(name:List UInt8)(b:Nat):LCalls (KC B0 w0) 26 [.list (ms.map qeY),cloV b] [nmH b name]
  (λr H'=>H'=[nmH b name]/\((r=.ret (int .i64 (-1))/\(ms.find? λm=>decide (m.1=name))=none)∨∃ i,∃ h:i<ms.length,r=.ret (int .i64 (i:Nat))/\(ms.find? λm=>decide (m.1=name))=some ms[i])):=by
 have hla:(ms.map qeY).length=ms.length:=zLm _
 have hfn:(∀ j (hj:j<ms.length),(ms[j]'hj).1≠name)->(ms.find? λm=>decide (m.1=name))=none:=λh=>List.find?_eq_none.2 λm hm=>by
  obtain⟨j,hj,rfl⟩:=List.mem_iff_getElem.1 hm;simpa using h j hj
 refine zcI Tryz.func26 rfl (n:=19) rfl rfl rfl ?_;refine gaa ?_
 refine zoL (λk sl H=>∃ i:Nat,i<=ms.length/\k=ms.length-i/\(∀ j (hj:j<i) (hl:j<ms.length),(ms[j]'hl).1≠name)/\sl=[(0,.list (ms.map qeY)),(1,cloV b),(7,int .i64 ms.length),(8,int .i64 i)]/\H=[nmH b name])
  ⟨_,_,_,⟨0,zero_le _,rfl,λj hj=>by omega,rfl,rfl⟩,⟨rfl,rfl,qap zo,rfl,trivial⟩,zhR _⟩ ?_
 rintro k sl H ⟨i,hi,rfl,hb,rfl,rfl⟩ j1 hj1;refine gai ?_;refine zoC rfl (λhc=>?_) (λhc=>?_)
 ·have hlt:i<ms.length:=by have:=zt hc;omega
  have hg:(ms.map qeY)[((i:Nat):Int).toNat]? = some (qeY ms[i]):=qbj _ _ _ hlt;have hcl:=qtR (B0:=B0) (w0:=w0) ms[i] name b;have hfs:=qsL ms name i hlt (λj hj=>hb j hj zo);refine gac ?_;refine oP (xR (el':=qeY ms[i]) (cs:=[_,_]) rfl rfl zo hg rfl rfl) rfl<|gad ?_;refine oS (S.callV (f:=27) (first:=#[]) (caps:=#[.pointer (some ⟨b,0,none⟩)]) (H1:=[nmH b name]) (F:=[]) [_] rfl rfl (by simp) hcl ?_ ?_) rfl;rotate_left;rintro ch H' ⟨h,_⟩;cases h;rintro v H' ⟨h,rfl⟩;cases h;refine gaf ?_;refine zoC rfl (λh=>?_) (λh=>?_);refine gac ?_;exact rR hj1 (zra rfl) zhr ⟨rfl,.inr ⟨i,hlt,rfl,hfs (zt h)⟩⟩;have hne:=zf h;refine gac ?_
  exact⟨_,_,_,by omega,⟨i+1,by omega,rfl,λj hj hl=>by
   by_cases hji:j<i
   exact hb j hji hl;obtain rfl:j=i:=by omega
   exact hne,rfl,rfl⟩,⟨rfl,rfl,rfl,qap zo,trivial⟩,zhR _,hj1⟩
 have hi':i=ms.length:=by have:=zf hc;omega
 subst hi';refine gac ?_;exact rR hj1 (zra rfl) zhr ⟨rfl,.inl ⟨rfl,hfn λj hj=>hb j hj hj⟩⟩
theorem qot(ms:List Md)(hml:ms.length=15)(hmo:LCalls (KC B0 w0) 25 [] [] (Ret (.list (ms.map qeY))))(hmf:∀ m∈ms,LCalls (KC B0 w0) m.2.1 [] [] (Ret (str m.2.2)))(hmt:∀ m∈ms,TEnter (KC B0 w0).P m.2.1)(name:List UInt8) :
  LCalls (KC B0 w0) 14 [str name] [] (Ret (match ms.find? λm=>decide (m.1=name) with
   |some m=>.tuple [str m.2.2,int .i64 0]
   |none=>.tuple [str [],int .i64 9])):=by
 have hix:=λb=>qh8 (B0:=B0) (w0:=w0) ms hml name b;have hla:(ms.map qeY).length=ms.length:=zLm _;generalize (ms.find? λm=>decide (m.1=name))=MP at hix ⊢;refine zcI Tryz.func14 rfl (n:=18) rfl rfl rfl ?_;refine gah ?_;refine oS (zsB rfl λb1=>?_) rfl;refine gar ?_;refine oS (sF [] rfl hmo ?_) rfl;refine gaa ?_;refine oS (S.callH (H1:=[nmH b1 name]) (F:=[]) [_,_] rfl zpr (hix b1) (λv H' h=>?_) (λch H' h=>?_)) rfl;rotate_left;obtain⟨_,⟨h,_⟩|⟨_,_,h,_⟩⟩:=h <;> cases h;obtain⟨rfl,⟨h,hm⟩|⟨i,hi,h,hm⟩⟩:=h;cases h;subst hm;refine gac ?_;refine zoC rfl (λ_=>?_) (λh=>by cases h);refine gap ?_;exact qac rfl (rC (zrt rfl) (zra rfl)) rfl;cases h;subst hm;have hg:(ms.map qeY)[((i:Nat):Int).toNat]? = some (qeY ms[i]):=qbj _ _ _ hi
 haveI:=hmt ms[i] (List.getElem_mem hi)
 have hf:=hmf ms[i] (List.getElem_mem hi);refine gac ?_;refine zoC rfl (λh=>?_) (λ_=>?_);have:=zt h;omega;refine gac ?_;refine oP (xR (el':=qeY ms[i]) (cs:=[_,_]) rfl rfl zo hg rfl rfl) rfl<|gad ?_;refine oS (S.fnV (f:=ms[i].2.1) [] rfl rfl hf ?_) rfl;refine gaf ?_;exact qac rfl (rC (zrt rfl) (zra rfl)) rfl
theorem qnE(name:List UInt8):LCalls (KC B0 w0) 14 [str name] [] (Ret (.tuple [str (modP name).1,int .i64 (modP name).2])):=by
 have h:=qot mods qo7 qiq qxT qxQ (B0:=B0) (w0:=w0) name;unfold modP;generalize (mods.find? λm=>decide (m.1=name))=MP at h ⊢;cases MP <;> exact h
end
noncomputable def nmS:List (List UInt8):=mods.map (·.1)
@[reducible] def qxe(r:List UInt8×Int):LV:=.tuple [str r.1,int .i64 r.2]
theorem qq2{l:List (List UInt8)}{acc:List UInt8}{i:Nat}(h:i<l.length):srcP (l.drop i) acc=if (modP l[i]).2≠0 then ([],(modP l[i]).2) else srcP (l.drop (i+1)) (acc++(modP l[i]).1):=by
 rw[List.drop_eq_getElem_cons h,srcP]
section
variable{B0:Nat}{w0:World}
theorem qnQ(l:List (List UInt8))(hl:l.length<=1000):LCalls (KC B0 w0) 16 [.list (l.map str)] [] (Ret (qxe (srcP l []))):=by
 have hla:(l.map str).length=l.length:=zLm _;generalize hR:srcP l []=R;refine zcI Tryz.func16 rfl (n:=27) rfl rfl rfl ?_;refine gar ?_;refine oS (zsA λb4=>?_) rfl;refine gaa ?_;have hB0:BH b4 [] [(b4,.cells 69 [.atom (.pointer none),.atom (.slice none 0 0)])]:=⟨_,_,[],.inl rfl,BRow.nil,rfl⟩
 refine zoL (λk sl H=>∃ (i:Nat) (acc:List UInt8),i<=l.length/\k=l.length-i/\acc.length<=i * 10000/\srcP (l.drop i) acc=R/\BH b4 acc H/\sl=[(4,ptr b4 0),(9,.list (l.map str)),(10,int .i64 l.length),(11,int .i64 i)])
  ⟨_,_,_,⟨0,[],zero_le _,rfl,zero_le _,hR,hB0,rfl⟩,⟨rfl,rfl,qap zo,rfl,trivial⟩,zhR _⟩ ?_
 rintro k sl H ⟨i,acc,hi,rfl,hacc,hP,hB,rfl⟩ j1 hj1;refine gai ?_;refine zoC rfl (λhc=>?_) (λhc=>?_)
 ·have hlt:i<l.length:=by have:=zt hc;omega
  have hg:(l.map str)[((i:Nat):Int).toNat]? = some (str l[i]):=qbj _ _ _ hlt;have hm:=qnE (B0:=B0) (w0:=w0) l[i];have hml:=qtN l[i];rw[qq2 hlt] at hP;generalize l[i]=n at *;generalize modP n=q at *;obtain⟨t,e⟩:=q;simp only at hP hm hml;refine gak ?_;refine oP (xR (el':=str n) (cs:=[str n]) rfl rfl zo hg rfl rfl) rfl<|gaa ?_;refine oS (sF [_] rfl hm ?_) rfl;refine gaa ?_
  by_cases he:e=0
  rotate_left;rw[zp he] at hP;subst hP;refine zoC rfl (λ_=>?_) (λhc=>?_);refine gac ?_;exact qac hj1 (rC (zrt rfl) (zra rfl)) rfl;have h2:(!decide (e=0))=false:=hc;simp at h2;exact absurd h2 he;subst he;rw[zn zDd] at hP;refine zoC rfl (λhc=>by cases hc) (λ_=>?_);refine gac ?_;refine oS (S.callH (H1:=H) (F:=[]) [_,_] rfl (by simp) (qfo b4 acc t H hB zo) (λv' H' h=>?_) (λch H' h=>by obtain⟨⟨x,h⟩,_⟩:=h;cases h)) rfl;obtain⟨⟨x,hx⟩,hB'⟩:=h;cases hx;rw[zLz];refine gaq ?_;exact⟨_,_,_,by omega,⟨i+1,acc++t,by omega,rfl,by rw[zLa];omega,hP,hB',rfl⟩,⟨rfl,rfl,rfl,qap zo,trivial⟩,zhR _,hj1⟩
 have hi':i=l.length:=by have:=zf hc;omega
 subst hi';rw[List.drop_length,srcP] at hP;subst hP;refine gac ?_;refine oS (S.callH (H1:=H) (F:=[]) [_] rfl (by simp) (qgG b4 acc H hB zo) (λv' H' h=>?_) (λch H' h=>by obtain⟨h,_⟩:=h;cases h)) rfl;obtain⟨h,rfl⟩:=h;cases h;refine gaf ?_;exact qac hj1 (rC (zrt rfl) (zra rfl)) rfl
theorem qqL:LCalls (KC B0 w0) 16 [qab] [] (Ret (qxe ([],0))):=by
 refine zcI Tryz.func16 rfl (n:=27) rfl rfl rfl ?_;refine gar ?_;refine oS (zsA λb4=>?_) rfl;refine gaa ?_;have hB0:BH b4 [] [(b4,.cells 69 [.atom (.pointer none),.atom (.slice none 0 0)])]:=⟨_,_,[],.inl rfl,BRow.nil,rfl⟩
 refine zoL (λk sl H=>k=0/\BH b4 [] H/\sl=[(4,ptr b4 0),(10,int .i64 0),(11,int .i64 0)])
  ⟨_,_,_,⟨rfl,hB0,rfl⟩,⟨rfl,rfl,rfl,trivial⟩,zhR _⟩ ?_
 rintro k sl H ⟨rfl,hB,rfl⟩ j1 hj1;refine gai ?_;refine zoC rfl (λhc=>by cases hc) (λhc=>?_);refine gac ?_;refine oS (S.callH (H1:=H) (F:=[]) [_] rfl (by simp) (qgG b4 [] H hB zDd) (λv' H' h=>?_) (λch H' h=>by obtain⟨h,_⟩:=h;cases h)) rfl;obtain⟨h,rfl⟩:=h;cases h;refine gaf ?_;exact qac hj1 (rC (zrt rfl) (zra rfl)) rfl
theorem qpP:LCalls (KC B0 w0) 12 [] [] (Ret (.list (nmS.map str))):=by
 have hmo:=qiq (B0:=B0) (w0:=w0);have hla:(mods.map qeY).length=mods.length:=zLm _;have hml:mods.length=15:=qo7;unfold nmS;revert hmo hla hml;generalize mods=ms;intro hmo hla hml;refine zcI Tryz.func12 rfl (n:=17) rfl rfl rfl ?_;refine gar ?_;refine oS (sF [] rfl hmo ?_) rfl;refine gad ?_
 refine zoL (λk sl H=>∃ (i:Nat) (v:LV),i<=ms.length/\k=ms.length-i/\Acc 1 v ((ms.take i).map λm=>str m.1) H []/\sl=[(1,v),(4,.list (ms.map qeY)),(5,int .i64 ms.length),(6,int .i64 i)])
  ⟨_,_,_,⟨0,qab,zero_le _,rfl,Acc.nil,rfl⟩,⟨rfl,rfl,qap zo,rfl,trivial⟩,zhR _⟩ ?_
 rintro k sl H ⟨i,v,hi,rfl,hacc,rfl⟩ j1 hj1;refine gai ?_;refine zoC rfl (λhc=>?_) (λhc=>?_);have hlt:i<ms.length:=by have:=zt hc;omega
 have hg:(ms.map qeY)[((i:Nat):Int).toNat]? = some (qeY ms[i]):=qbj _ _ _ hlt
 have hT:(ms.take (i+1)).map (λm=>str m.1)=(ms.take i).map (λm=>str m.1)++[str ms[i].1]:=by
  rw[List.take_succ_eq_append_getElem hlt,zMa];rfl
 generalize ms[i]=m at *;obtain⟨n,f,t⟩:=m;simp only at hT;refine gak ?_;refine oP (xR (el':=qeY (n,f,t)) (cs:=[_,_]) rfl rfl zo hg rfl rfl) rfl<|gad ?_;refine oS (zsA λb3=>?_) rfl;refine gaa ?_;refine zQ14 ?_;refine gab ?_;refine oS (sL [_] (es:=[str n]) rfl (eC rfl rfl eN) rfl rfl rfl<|oS (S.acc1 rfl hacc rfl (by simp[LV.cells]) rfl (by simp only[zLm,List.length_take,zLc,zLn];omega) λv' H' hacc'=>?_) rfl) rfl;refine zQ19 ?_;refine gaq ?_;exact⟨_,_,_,by omega,⟨i+1,v',by omega,rfl,by rw[hT];exact hacc',rfl⟩,⟨rfl,rfl,rfl,qap zo,trivial⟩,zhD zhr,hj1⟩;have hi':i=ms.length:=by have:=zf hc;omega
 subst hi';rw[take_length] at hacc;refine qag.sub (d:=1) (v:=v) rfl hacc.sub ?_;refine gaa ?_;exact qac hj1 (rC (rT (v:=.list _) rfl zsr) rN) (by show LV.list _=LV.list _;rw[List.map_map];rfl)
end
end Go.Proofs.YtkihibnffkpnkaaGreatDoor.Lb
namespace Go.Proofs.YtkihibnffkpnkaaGreatDoor.Lb
open Go.GL Go.RowKit Go.Stele
open Go.Lib (join)
theorem qjP{s:List UInt8}(h:(qa6 s).2.2=0):∃ T p i op,qh6 s 1=.ok T/\qcN T (10 * T.length+20) noPr 0 0=some (.ok p i op)/\qa6 s=(p,0,0)/\s.length<=60000:=by
 unfold qa6 at h ⊢;split at h
 rename_i l e he
 exact absurd h (qj8 he)
 rename_i T hT
 have hT':=hT;unfold qc5 at hT';split at hT';cases hT'
 rename_i hlen
 split at h
 rename_i p i op hp
 exact⟨T,p,i,op,hT',hp,rfl,by omega⟩
 rename_i l e he
 exact absurd h (qlI _ _ _ _ _ _ _ he)
 rename_i hn
 obtain⟨q,hq⟩:=qdU T (10 * T.length+20) noPr 0 0 (zero_le _) zo;rw[hn] at hq;cases hq
theorem qr5{a b:List UInt8}(ha:(qa6 a).2.2=0)(hb:(qa6 b).2.2=0)(hla:a.length<=20000)(hlb:b.length<=20000):qa6 (a++[10]++b)=((qa6 a).1.app (qa6 b).1,0,0):=by
 obtain⟨A,p,i1,o1,h1,h2,h3,_⟩:=qjP ha;obtain⟨B,q,i2,o2,h4,h5,h6,_⟩:=qjP hb;rw[h3,h6];obtain⟨B',h7,h8⟩:=qi6 b.length b 1 (1+(a.count 10:Nat)+1) B h4
 have h9:qh6 (a++10::b) 1=.ok (A++B'):=by
  rw[qhu b a.length a 1 A (zNr _) h1];unfold qh6;rw[h7];rfl
 have h10:qc5 (a++[10]++b)=.ok (A++B'):=by
  rw[zAs,List.singleton_append];unfold qc5;rw[zn (by simp only[zLa,zLc];omega)];exact h9
 obtain⟨i,op,h11⟩:=qut (p:=p) (q:=q) h2 h5 (B':=B') h8;unfold qa6;rw[h10];simp only;rw[show(noPr:Pr)=qcY from rfl,h11]
def cutL:List Nat->List UInt8->List (List UInt8)
 |[],s=>[s]
 |n::ns,s=>s.take n::cutL ns (s.drop (n+1))
def rowT:List (List UInt8)->List UInt8
 |[]=>[]
 |p::l=>p++10::rowT l
theorem qeq:∀ a b:List (List UInt8),rowT (a++b)=rowT a++rowT b
 |[],b=>rfl
 |p::a,b=>by
  show p++10::rowT (a++b)=(p++10::rowT a)++rowT b;rw[qeq a b,zAs];rfl
def prs:List (List UInt8)->Pr
 |[]=>qcY
 |p::l=>(qa6 p).1.app (prs l)
theorem qr3:qa6 []=(qcY,0,0):=by kernel_rfl
theorem qmK:∀ l:List (List UInt8),(∀ p∈l,(qa6 p).2.2=0)->(rowT l).length<=20000->qa6 (rowT l)=(prs l,0,0)
 |[],_,_=>qr3
 |p::l,h,hl=>by
  have h1:=h p (by simp)
  have hl2:p.length+((rowT l).length+1)<=20000:=by
   have:(rowT (p::l)).length=p.length+((rowT l).length+1):=by
    show(p++10::rowT l).length=_;rw[zLa,zLc]
   omega
  have ih:=qmK l (λq hq=>h q (by simp[hq])) zo;have:=qr5 (a:=p) (b:=rowT l) h1 (by rw[ih]) zo zo;rw[ih,zAs,List.singleton_append] at this;exact this
noncomputable def pGf:List (List UInt8):=cutL [260,90] (tGf.dropLast)
theorem rowGf:tGf=rowT pGf:=by kernel_rfl
noncomputable def pCrc:List (List UInt8):=cutL [] (tCrc.dropLast)
theorem qxv:tCrc=rowT pCrc:=by kernel_rfl
noncomputable def pViterbi:List (List UInt8):=cutL [464,197,667] (tViterbi.dropLast)
theorem qqO:tViterbi=rowT pViterbi:=by kernel_rfl
noncomputable def pRs:List (List UInt8):=cutL [404,812,127,281] (tRs.dropLast)
theorem rowRs:tRs=rowT pRs:=by kernel_rfl
noncomputable def pFrame:List (List UInt8):=cutL [334,306,202,345,268,187,150] (tFrame.dropLast)
theorem qtO:tFrame=rowT pFrame:=by kernel_rfl
noncomputable def pErasure:List (List UInt8):=cutL [] (tErasure.dropLast)
theorem qqx:tErasure=rowT pErasure:=by kernel_rfl
noncomputable def pBlake:List (List UInt8):=cutL [347,601,439,1076,159,138,102] (tBlake.dropLast)
theorem quN:tBlake=rowT pBlake:=by kernel_rfl
noncomputable def pReader:List (List UInt8):=cutL [262,237,216,595,118,603,144,144,61,438,222,471] (tReader.dropLast)
theorem qrN:tReader=rowT pReader:=by kernel_rfl
theorem modGf:modP [103,102]=(tGf,0):=by kernel_rfl
theorem qu6:modP [99,114,99]=(tCrc,0):=by kernel_rfl
theorem qqe:modP [118,105,116,101,114,98,105]=(tViterbi,0):=by kernel_rfl
theorem modRs:modP [114,115]=(tRs,0):=by kernel_rfl
theorem qtE:modP [102,114,97,109,101]=(tFrame,0):=by kernel_rfl
theorem qp8:modP [101,114,97,115,117,114,101]=(tErasure,0):=by kernel_rfl
theorem qud:modP [98,108,97,107,101]=(tBlake,0):=by kernel_rfl
theorem qrz:modP [114,101,97,100,101,114]=(tReader,0):=by kernel_rfl
theorem qqc:modP [99,114,99,109,97,105,110]=(tCrcmain,0):=by kernel_rfl
attribute [local irreducible] LOps qag qae LCalls Go.GL.Pure qaz qam qad LQ LAny qaI qan LS
section
variable{B0:Nat}{w0:World}
end
end Go.Proofs.YtkihibnffkpnkaaGreatDoor.Lb
namespace Go.Proofs.YtkihibnffkpnkaaGreatDoor.Lb
open Go.GL Go.RowKit Go.Stele
open Go.Stele.Wi.Wc
theorem pcGf:pGf.map qa6=[(⟨[],[⟨Rd.kV,512⟩,⟨Rd.kDa,256⟩],[Rd.f_gftables]⟩,0,0),(⟨[],[],[Rd.f_gfmul]⟩,0,0),(⟨[],[],[Rd.f_gfdiv]⟩,0,0)]:=by kernel_rfl
theorem pcCrc:pCrc.map qa6=[(⟨[],[],[Rd.f_crcbyte]⟩,0,0)]:=by kernel_rfl
theorem qrx:pViterbi.map qa6=[(⟨[],[⟨Rd.kLa,836⟩,⟨Rd.kLb,418⟩,⟨Rd.kIa,1676⟩,⟨Rd.kP,52⟩],[Rd.f_extract]⟩,0,0),(⟨[],[],[Rd.f_branch]⟩,0,0),(⟨[],[],[Rd.f_viterbi]⟩,0,0),(⟨[],[],[Rd.f_inner]⟩,0,0)]:=by kernel_rfl
theorem pcRs:pRs.map qa6=[(⟨[Rd.kEb],[⟨Rd.kDb,8⟩,⟨Rd.kGa,9⟩,⟨Rd.kFb,9⟩,⟨Rd.kZb,9⟩,⟨Rd.kBc,8⟩],[Rd.f_syndromes]⟩,0,0),(⟨[],[],[Rd.f_locator]⟩,0,0),(⟨[],[],[Rd.f_evaluate]⟩,0,0),(⟨[],[],[Rd.f_magnitude]⟩,0,0),(⟨[],[],[Rd.f_repair]⟩,0,0)]:=by kernel_rfl
theorem qwD:pFrame.map qa6=[(⟨[Rd.kPa,Rd.kS,Rd.kTa],[⟨Rd.kZa,40000⟩,⟨Rd.kU,48000⟩],[Rd.f_mark]⟩,0,0),(⟨[],[],[Rd.f_unweave]⟩,0,0),(⟨[],[],[Rd.f_checksum]⟩,0,0),(⟨[],[],[Rd.f_valid]⟩,0,0),(⟨[],[],[Rd.f_keep]⟩,0,0),(⟨[],[],[Rd.f_decode]⟩,0,0),(⟨[],[],[Rd.f_scan]⟩,0,0),(⟨[],[],[Rd.f_pieces]⟩,0,0)]:=by kernel_rfl
theorem qri:pErasure.map qa6=[(⟨[],[⟨Rd.kUa,28⟩,⟨Rd.kGb,16⟩,⟨Rd.kOb,16⟩],[Rd.f_combine]⟩,0,0)]:=by kernel_rfl
theorem qwu:pBlake.map qa6=[(⟨[Rd.kFa,Rd.kAb],[⟨Rd.kT,8⟩,⟨Rd.kOa,8⟩,⟨Rd.kK,16⟩,⟨Rd.kW,16⟩,⟨Rd.kL,160⟩,⟨Rd.kQa,64⟩],[Rd.f_sigmarow]⟩,0,0),(⟨[],[],[Rd.f_htables]⟩,0,0),(⟨[],[],[Rd.f_hmix]⟩,0,0),(⟨[],[],[Rd.f_hcompress]⟩,0,0),(⟨[],[],[Rd.f_hbegin]⟩,0,0),(⟨[],[],[Rd.f_hbyte]⟩,0,0),(⟨[],[],[Rd.f_hend]⟩,0,0),(⟨[],[],[Rd.f_hdigest]⟩,0,0)]:=by kernel_rfl
theorem quV:pReader.map qa6=[(⟨[Rd.kYa,Rd.kQ,Rd.kMa,Rd.kPb,Rd.kKb,Rd.kYb],[⟨Rd.kNa,20100⟩],[Rd.f_outnum]⟩,0,0),(⟨[],[],[Rd.f_find]⟩,0,0),(⟨[],[],[Rd.f_findany]⟩,0,0),(⟨[],[],[Rd.f_getblock]⟩,0,0),(⟨[],[],[Rd.f_getbyte]⟩,0,0),(⟨[],[],[Rd.f_loaddir]⟩,0,0),(⟨[],[],[Rd.f_number]⟩,0,0),(⟨[],[],[Rd.f_netlen]⟩,0,0),(⟨[],[],[Rd.f_skip]⟩,0,0),(⟨[],[],[Rd.f_verify]⟩,0,0),(⟨[],[],[Rd.f_copy]⟩,0,0),(⟨[],[],[Rd.f_show]⟩,0,0),(⟨[],[],[Rd.f_main]⟩,0,0)]:=by kernel_rfl
noncomputable def rdPs:List (List UInt8):=pGf++pCrc++pViterbi++pRs++pFrame++pErasure++pBlake++pReader
theorem qsp:∀ l:List (List UInt8),prs l=(l.map qa6).foldr (λr q=>r.1.app q) qcY
 |[]=>rfl
 |p::l=>by
  rw[zMc,List.foldr_cons,<-qsp l];rfl
theorem qxZ{l:List (List UInt8)}(h:((l.map qa6).all λr=>decide (r.2.2=0))=true):∀ p∈l,(qa6 p).2.2=0:=λp hp=>zt (List.all_eq_true.1 h _ (List.mem_map.2 ⟨p,hp,rfl⟩))
theorem qu9:rdPs.map qa6=[(⟨[],[⟨Rd.kV,512⟩,⟨Rd.kDa,256⟩],[Rd.f_gftables]⟩,0,0),(⟨[],[],[Rd.f_gfmul]⟩,0,0),(⟨[],[],[Rd.f_gfdiv]⟩,0,0)]++[(⟨[],[],[Rd.f_crcbyte]⟩,0,0)]++[(⟨[],[⟨Rd.kLa,836⟩,⟨Rd.kLb,418⟩,⟨Rd.kIa,1676⟩,⟨Rd.kP,52⟩],[Rd.f_extract]⟩,0,0),(⟨[],[],[Rd.f_branch]⟩,0,0),(⟨[],[],[Rd.f_viterbi]⟩,0,0),(⟨[],[],[Rd.f_inner]⟩,0,0)]++[(⟨[Rd.kEb],[⟨Rd.kDb,8⟩,⟨Rd.kGa,9⟩,⟨Rd.kFb,9⟩,⟨Rd.kZb,9⟩,⟨Rd.kBc,8⟩],[Rd.f_syndromes]⟩,0,0),(⟨[],[],[Rd.f_locator]⟩,0,0),(⟨[],[],[Rd.f_evaluate]⟩,0,0),(⟨[],[],[Rd.f_magnitude]⟩,0,0),(⟨[],[],[Rd.f_repair]⟩,0,0)]++[(⟨[Rd.kPa,Rd.kS,Rd.kTa],[⟨Rd.kZa,40000⟩,⟨Rd.kU,48000⟩],[Rd.f_mark]⟩,0,0),(⟨[],[],[Rd.f_unweave]⟩,0,0),(⟨[],[],[Rd.f_checksum]⟩,0,0),(⟨[],[],[Rd.f_valid]⟩,0,0),(⟨[],[],[Rd.f_keep]⟩,0,0),(⟨[],[],[Rd.f_decode]⟩,0,0),(⟨[],[],[Rd.f_scan]⟩,0,0),(⟨[],[],[Rd.f_pieces]⟩,0,0)]++[(⟨[],[⟨Rd.kUa,28⟩,⟨Rd.kGb,16⟩,⟨Rd.kOb,16⟩],[Rd.f_combine]⟩,0,0)]++[(⟨[Rd.kFa,Rd.kAb],[⟨Rd.kT,8⟩,⟨Rd.kOa,8⟩,⟨Rd.kK,16⟩,⟨Rd.kW,16⟩,⟨Rd.kL,160⟩,⟨Rd.kQa,64⟩],[Rd.f_sigmarow]⟩,0,0),(⟨[],[],[Rd.f_htables]⟩,0,0),(⟨[],[],[Rd.f_hmix]⟩,0,0),(⟨[],[],[Rd.f_hcompress]⟩,0,0),(⟨[],[],[Rd.f_hbegin]⟩,0,0),(⟨[],[],[Rd.f_hbyte]⟩,0,0),(⟨[],[],[Rd.f_hend]⟩,0,0),(⟨[],[],[Rd.f_hdigest]⟩,0,0)]++[(⟨[Rd.kYa,Rd.kQ,Rd.kMa,Rd.kPb,Rd.kKb,Rd.kYb],[⟨Rd.kNa,20100⟩],[Rd.f_outnum]⟩,0,0),(⟨[],[],[Rd.f_find]⟩,0,0),(⟨[],[],[Rd.f_findany]⟩,0,0),(⟨[],[],[Rd.f_getblock]⟩,0,0),(⟨[],[],[Rd.f_getbyte]⟩,0,0),(⟨[],[],[Rd.f_loaddir]⟩,0,0),(⟨[],[],[Rd.f_number]⟩,0,0),(⟨[],[],[Rd.f_netlen]⟩,0,0),(⟨[],[],[Rd.f_skip]⟩,0,0),(⟨[],[],[Rd.f_verify]⟩,0,0),(⟨[],[],[Rd.f_copy]⟩,0,0),(⟨[],[],[Rd.f_show]⟩,0,0),(⟨[],[],[Rd.f_main]⟩,0,0)]:=by
 unfold rdPs;rw[zMa,zMa,zMa,zMa,zMa,zMa,zMa,pcGf,pcCrc,qrx,pcRs,qwD,qri,qwu,quV]
theorem qxE:prs rdPs=Rd.P:=by
 rw[qsp,qu9];rfl
abbrev rdN:List (List UInt8):=[[103,102],[99,114,99],[118,105,116,101,114,98,105],[114,115],[102,114,97,109,101],[101,114,97,115,117,114,101],[98,108,97,107,101],[114,101,97,100,101,114]]
theorem qxH:srcP rdN []=(rowT rdPs,0):=by
 unfold rdPs;rw[srcP,modGf,zn (λh=>h rfl),srcP,qu6,zn (λh=>h rfl),srcP,qqe,zn (λh=>h rfl),srcP,modRs,zn (λh=>h rfl),srcP,qtE,zn (λh=>h rfl),srcP,qp8,zn (λh=>h rfl),srcP,qud,zn (λh=>h rfl),srcP,qrz,zn (λh=>h rfl),srcP];rw[qeq,qeq,qeq,qeq,qeq,qeq,qeq,<-rowGf,<-qxv,<-qqO,<-rowRs,<-qtO,<-qqx,<-quN,<-qrN,List.nil_append]
theorem quS:qa6 (rowT rdPs)=(Rd.P,0,0):=by
 have h1:∀ p∈rdPs,(qa6 p).2.2=0:=qxZ (by rw[qu9];rfl);have h2:(rowT rdPs).length<=20000:=zt zk;rw[qmK rdPs h1 h2,qxE]
theorem qxC:nmS.take 8=rdN:=rfl
end Go.Proofs.YtkihibnffkpnkaaGreatDoor.Lb
namespace Go.Stele.Wi.Wc.Crc
open Go.Lib
def roundX:Ex:=(.mk [60] 0 [] [(.mk [118,97,114] 0 [105] []),(.mk [110,117,109] 8 [] [])])
def roundB:List Sm:=[(.mk 1 [116] [] [(.mk [47] 0 [] [(.mk [118,97,114] 0 [99] []),(.mk [110,117,109] 2147483648 [] [])])] [] []),(.mk 1 [99] [] [(.mk [42] 0 [] [(.mk [118,97,114] 0 [99] []),(.mk [110,117,109] 2 [] [])])] [] []),(.mk 3 [] [] [(.mk [118,97,114] 0 [116] [])] [(.mk 1 [99] [] [(.mk [94] 0 [] [(.mk [118,97,114] 0 [99] []),(.mk [110,117,109] 79764919 [] [])])] [] [])] []),(.mk 1 [105] [] [(.mk [43] 0 [] [(.mk [118,97,114] 0 [105] []),(.mk [110,117,109] 1 [] [])])] [] [])]
def firstS:Sm:=(.mk 1 [99] [] [(.mk [94] 0 [] [(.mk [118,97,114] 0 [99] []),(.mk [42] 0 [] [(.mk [118,97,114] 0 [98] []),(.mk [110,117,109] 16777216 [] [])])])] [] [])
def zeroS:Sm:=(.mk 1 [105] [] [(.mk [110,117,109] 0 [] [])] [] [])
def backS:Sm:=(.mk 5 [] [] [(.mk [118,97,114] 0 [99] [])] [] [])
def fCrc:FnD:=⟨[99,114,99,98,121,116,101],[[99],[98]],[[105],[116]],[firstS,zeroS,.mk 4 [] [] [roundX] roundB [],backS]⟩
def byteX:Ex:=(.mk [60] 0 [] [(.mk [118,97,114] 0 [98] []),(.mk [110,117,109] 256 [] [])])
def byteB:List Sm:=[(.mk 1 [99] [] [(.mk [99,97,108,108] 0 [99,114,99,98,121,116,101] [(.mk [118,97,114] 0 [99] []),(.mk [118,97,114] 0 [98] [])])] [] []),(.mk 1 [98] [] [(.mk [99,97,108,108] 0 [105,110] [])] [] [])]
def outS(n:Nat):Sm:=(.mk 6 [] [] [(.mk [99,97,108,108] 0 [111,117,116] [(.mk [47] 0 [] [(.mk [118,97,114] 0 [99] []),(.mk [110,117,109] n [] [])])])] [] [])
def fMain:FnD:=⟨[109,97,105,110],[],[[98],[99]],[(.mk 1 [99] [] [(.mk [110,117,109] 4294967295 [] [])] [] []),(.mk 1 [98] [] [(.mk [99,97,108,108] 0 [105,110] [])] [] []),.mk 4 [] [] [byteX] byteB [],outS 16777216,outS 65536,outS 256,(.mk 6 [] [] [(.mk [99,97,108,108] 0 [111,117,116] [(.mk [118,97,114] 0 [99] [])])] [] [])]⟩
def P:Pr:=⟨[],[],[fCrc,fMain]⟩
abbrev cC:=keyI fCrc [99]
abbrev cB:=keyI fCrc [98]
abbrev cI:=keyI fCrc [105]
abbrev cT:=keyI fCrc [116]
abbrev mB:=keyI fMain [98]
abbrev mC:=keyI fMain [99]
def qsa(c:Nat):Nat:=if c / 2147483648=0 then c * 2 % 4294967296 else (c * 2 % 4294967296) ^^^ 79764919
def qo9:Nat->Nat->Nat
 |0,c=>c
 |n+1,c=>qo9 n (qsa c)
def qdQ(c b:Nat):Nat:=qo9 8 (c ^^^ (b * 16777216 % 4294967296))
def Fr(ks:List Nm)(s s':IS):Prop:=(∀ k,k ∉ ks->s'.sc k=s.sc k)/\s'.ar=s.ar/\s'.inp=s.inp/\s'.out=s.out
theorem Fr.refl(ks:List Nm)(s:IS):Fr ks s s:=⟨λ_ _=>rfl,rfl,rfl,rfl⟩
theorem Fr.set{ks:List Nm}{s s':IS}(h:Fr ks s s'){k:Nm}(hk:k∈ks)(v:Nat):Fr ks s (qaJ s' k v):=
 ⟨λx hx=>by
  unfold qaJ;simp only;rw[zn (λe=>hx (by rw[e];exact hk))]
  exact h.1 x hx,h.2.1,h.2.2.1,h.2.2.2⟩
theorem Fr.trans{ks:List Nm}{s s1 s2:IS}(h:Fr ks s s1)(g:Fr ks s1 s2):Fr ks s s2:=
 ⟨λk hk=>(g.1 k hk).trans (h.1 k hk),g.2.1.trans h.2.1,g.2.2.1.trans h.2.2.1,g.2.2.2.trans h.2.2.2⟩
theorem Fr.sub{ks ks':List Nm}{s s':IS}(h:Fr ks s s')(hs:∀ k∈ks,k∈ks'):Fr ks' s s':=⟨λk hk=>h.1 k λe=>hk (hs k e),h.2⟩
theorem round(s:IS)(h8:s.sc cI<8):∃ s',Bl P fCrc roundB s 124 none s'/\s'.sc cC=qsa (s.sc cC)/\s'.sc cI=s.sc cI+1/\Fr [cC,cI,cT] s s':=by
 have e1:(s.sc cI+1) % 4294967296=s.sc cI+1:=Nat.mod_eq_of_lt (by omega)
 by_cases h:s.sc cC / 2147483648=0
 refine⟨qaJ (qaJ (qaJ s cT (s.sc cC / 2147483648)) cC (s.sc cC * 2 % 4294967296)) cI ((s.sc cI+1) % 4294967296),?_,?_,?_,?_⟩
 have ht:vE fCrc (qaJ (qaJ s cT (s.sc cC / 2147483648)) cC (s.sc cC * 2 % 4294967296)) (.mk [118,97,114] 0 [116] [])=0:=by
  refine Eq.trans ?_ h
  kernel_rfl
 exact(Bl.cons (St.asg (v:=s.sc cC / 2147483648) (Ev.of zk zk)) (Bl.cons (St.asg (v:=s.sc cC * 2 % 4294967296) (Ev.of zk zk)) (Bl.cons (St.iff (Ev.of zk ht) Bl.nil) (Bl.cons (St.asg (v:=(s.sc cI+1) % 4294967296) (Ev.of zk zk)) Bl.nil)))).mono zDd;unfold qsa;rw[zp h]
 kernel_rfl
 refine Eq.trans ?_ e1
 kernel_rfl
 exact(((Fr.refl _ s).set zDd _).set zDd _).set zDd _;refine⟨qaJ (qaJ (qaJ (qaJ s cT (s.sc cC / 2147483648)) cC (s.sc cC * 2 % 4294967296)) cC ((s.sc cC * 2 % 4294967296) ^^^ 79764919)) cI ((s.sc cI+1) % 4294967296),?_,?_,?_,?_⟩;exact(Bl.cons (St.asg (v:=s.sc cC / 2147483648) (Ev.of zk zk)) (Bl.cons (St.asg (v:=s.sc cC * 2 % 4294967296) (Ev.of zk zk)) (Bl.cons (St.ift (v:=s.sc cC / 2147483648) (Ev.of zk zk) h (Bl.cons (St.asg (v:=(s.sc cC * 2 % 4294967296) ^^^ 79764919) (Ev.of zk zk)) Bl.nil)) (Bl.cons (St.asg (v:=(s.sc cI+1) % 4294967296) (Ev.of zk zk)) Bl.nil)))).mono zDd;unfold qsa;rw[zn h]
 kernel_rfl
 refine Eq.trans ?_ e1
 kernel_rfl
 exact((((Fr.refl _ s).set zDd _).set zDd _).set zDd _).set zDd _
theorem ql8(s:IS):Ev P fCrc roundX s 14 (b2n (decide (s.sc cI<8))) s:=Ev.of zk zk
theorem rounds:∀ (j:Nat) (s:IS),s.sc cI+j=8->∃ s',Wh P fCrc roundX roundB (b2n (decide (s.sc cI<8))) s (156 * j) none s'/\s'.sc cC=qo9 j (s.sc cC)/\Fr [cC,cI,cT] s s'
 |0,s,h=>⟨s,by
  rw[show decide (s.sc cI<8)=false from decide_eq_false (by omega)]
  exact Wh.done,rfl,Fr.refl _ s⟩
 |j+1,s,h=>by
  obtain⟨s1,h1,h2,h3,h4⟩:=round s (by omega);obtain⟨s2,g1,g2,g3⟩:=rounds j s1 (by omega);refine⟨s2,?_,by rw[g2,h2];try rfl,h4.trans g3⟩;rw[show decide (s.sc cI<8)=true from decide_eq_true (by omega)];exact(Wh.next zDd h1 (ql8 s1) g1).mono (by omega)
theorem quJ(s:IS):St P fCrc firstS s 44 none (qaJ s cC (s.sc cC ^^^ (s.sc cB * 16777216 % 4294967296))):=St.asg (K:=36) (Ev.of zk (by simp only[qu5,qpo,qc1,qdC]))
theorem qwi(s:IS):St P fCrc zeroS s 10 none (qaJ s cI 0):=St.asg (K:=2) (Ev.of zk zk)
theorem qvK(s:IS):St P fCrc backS s 9 (some (s.sc cC)) s:=St.ret (K:=8) (Ev.of zk zk)
theorem quj(s:IS):∃ s',Bl P fCrc fCrc.body s 1333 (some (qdQ (s.sc cC) (s.sc cB))) s'/\Fr [cC,cB,cI,cT] s s':=by
 obtain⟨s',h1,h2,h3⟩:=rounds 8 (qaJ (qaJ s cC (s.sc cC ^^^ (s.sc cB * 16777216 % 4294967296))) cI 0) rfl;have hsc:(qaJ (qaJ s cC (s.sc cC ^^^ (s.sc cB * 16777216 % 4294967296))) cI 0).sc cC=s.sc cC ^^^ (s.sc cB * 16777216 % 4294967296):=by kernel_rfl
 rw[hsc] at h2
 have e:qdQ (s.sc cC) (s.sc cB)=s'.sc cC:=by
  unfold qdQ;exact h2.symm
 refine⟨s',?_,?_⟩;rw[e];have q1:St P fCrc firstS s 44 none (qaJ s cC (s.sc cC ^^^ (s.sc cB * 16777216 % 4294967296))):=quJ s;have q2:St P fCrc zeroS (qaJ s cC (s.sc cC ^^^ (s.sc cB * 16777216 % 4294967296))) 10 none (qaJ (qaJ s cC (s.sc cC ^^^ (s.sc cB * 16777216 % 4294967296))) cI 0):=qwi _;have q3:St P fCrc (.mk 4 [] [] [roundX] roundB []) (qaJ (qaJ s cC (s.sc cC ^^^ (s.sc cB * 16777216 % 4294967296))) cI 0) (8+14+156 * 8) none s':=St.whl (ql8 _) h1;have q:Bl P fCrc fCrc.body s (44+(10+(8+14+156 * 8+9))) (some (s'.sc cC)) s':=Bl.cons q1 (Bl.cons q2 (Bl.cons q3 (Bl.ret (qvK s'))));exact q.mono zDd;refine Fr.trans (Fr.set (Fr.set (Fr.refl _ s) zDd _) zDd _) (h3.sub λk hk=>?_);simp only[zMi,not_mem_nil,or_false] at hk ⊢;rcases hk with h|h|h <;> simp[h]
theorem qxd:fnI P [99,114,99,98,121,116,101]=fCrc:=by kernel_rfl
theorem qtQ(s:IS)(c b:Nat):∃ s',Op P fMain qbB 0 [99,114,99,98,121,116,101] [c,b] s 1333 (qdQ c b) s'/\Fr [cC,cB,cI,cT] s s':=by
 obtain⟨s',h1,h2⟩:=quj (qaJ (qaJ s cC c) cB b);refine⟨s',?_,Fr.trans (Fr.set (Fr.set (Fr.refl _ s) zDd _) zDd _) h2⟩;have:=Op.call (P:=P) (f:=fMain) (num:=0) (name:=[99,114,99,98,121,116,101]) (vs:=[c,b]) (s:=s) (K:=1333) (r:=some (qdQ c b)) (s':=s') zDd zDd (by rw[qxd];exact h1);exact this
theorem qw3(s:IS)(l:List Nat)(k:Nm)(h:s.inp=l):qaJ { s with inp:=s.inp.tail } k (s.inp.headD 4294967295)=qaJ { s with inp:=l.tail } k (l.headD 4294967295):=by rw[h]
theorem qoY(s:IS):Ev P fMain byteX s 16 (b2n (decide (s.sc mB<256))) s:=Ev.of zk zk
theorem qkx:∀ (l:List Nat) (s:IS),(∀ v∈l,v<256)->s.sc mB=l.headD 4294967295->s.inp=l.tail->∃ s',Wh P fMain byteX byteB (b2n (decide (s.sc mB<256))) s (1430 * l.length) none s'/\s'.sc mC=l.foldl qdQ (s.sc mC)/\s'.out=s.out
 |[],s,_,hb,_=>⟨s,by
  rw[hb]
  exact Wh.done,rfl,rfl⟩
 |b::l,s,hl,hb,hi=>by
  obtain⟨s1,h1,h2⟩:=qtQ s (s.sc mC) (s.sc mB);have hb2:s.sc mB<256:=by rw[hb];exact hl b (by simp)
  have hi1:(qaJ s1 mC (qdQ (s.sc mC) (s.sc mB))).inp=l:=by
   show s1.inp=l;rw[h2.2.2.1,hi]
   try rfl
  obtain⟨s',g1,g2,g3⟩:=qkx l (qaJ { qaJ s1 mC (qdQ (s.sc mC) (s.sc mB)) with inp:=l.tail } mB (l.headD 4294967295)) (λv hv=>hl v (by simp[hv])) rfl rfl;refine⟨s',?_,?_,?_⟩
  ·rw[show decide (s.sc mB<256)=true from decide_eq_true hb2];have hargs:Evs P fMain [.mk [118,97,114] 0 [99] [],.mk [118,97,114] 0 [98] []] s 16 [s.sc mC,s.sc mB] s:=(Evs.pure _ zk);have st1:St P fMain _ s (8+(27+16+1333)) none (qaJ s1 mC (qdQ (s.sc mC) (s.sc mB))):=St.asg (name:=[99]) (ix:=[]) (vr:=[]) (th:=[]) (el:=[]) (Ev.mk hargs h1)
   have st2:St P fMain (.mk 1 [98] [] [.mk [99,97,108,108] 0 [105,110] []] [] []) (qaJ s1 mC (qdQ (s.sc mC) (s.sc mB))) 9 none (qaJ { qaJ s1 mC (qdQ (s.sc mC) (s.sc mB)) with inp:=l.tail } mB (l.headD 4294967295)):=by
    rw[<-qw3 _ l mB hi1];exact St.asg (Ev.mk Evs.nil Op.inp)
   exact(Wh.next zDd (Bl.cons st1 (Bl.cons st2 Bl.nil)) (qoY _) g1).mono (by rw[zLc];omega)
  ·rw[g2];show l.foldl qdQ (qdQ (s.sc mC) (s.sc mB))=l.foldl qdQ (qdQ (s.sc mC) b);rw[hb]
   try rfl
  rw[g3];exact h2.2.2.2
def outN(c:Nat):List UInt8:=[UInt8.ofNat (c / 16777216),UInt8.ofNat (c / 65536),UInt8.ofNat (c / 256),UInt8.ofNat c]
theorem qtk(s:IS)(n:Nat)(hn:n≠0):St P fMain (outS n) s 39 none { s with out:=s.out++[UInt8.ofNat (s.sc mC / n)] }:=by
 have hok:okE fMain s (.mk [47] 0 [] [.mk [118,97,114] 0 [99] [],.mk [110,117,109] n [] []])=true:=by
  show(true && (true && (true && true)) && (if n=0 then none else some (s.sc mC / n):Option Nat).isSome)=true;rw[zn hn]
  try rfl
 have hv:vE fMain s (.mk [47] 0 [] [.mk [118,97,114] 0 [99] [],.mk [110,117,109] n [] []])=s.sc mC / n:=by
  show(if n=0 then none else some (s.sc mC / n):Option Nat).getD 0=_;rw[zn hn]
  try rfl
 have hc:cE (.mk [47] 0 [] [.mk [118,97,114] 0 [99] [],.mk [110,117,109] n [] []])<=24:=by
  show 4+(8+0+(wN n+0+0))<=24;unfold wN
  repeat' split
  all_goals omega
 have h:=(Ev.of (P:=P) hok hv).mono hc;refine(St.exp (ix:=[]) (vr:=[]) (th:=[]) (el:=[]) (name:=[]) (Ev.mk (Evs.cons h Evs.nil) Op.out)).mono ?_;show 8+(3+(24+0)+0)<=39;decide
theorem qjM(s:IS)(hl:∀ v∈s.inp,v<256):∃ s',Bl P fMain fMain.body s (1430 * s.inp.length+250) none s'/\s'.out=s.out++outN (s.inp.foldl qdQ 4294967295):=by
 obtain⟨s',h1,h2,h3⟩:=qkx s.inp (qaJ { qaJ s mC 4294967295 with inp:=s.inp.tail } mB (s.inp.headD 4294967295)) hl rfl rfl;have e:s.inp.foldl qdQ 4294967295=s'.sc mC:=h2.symm;have q1:=qtk s' 16777216 zDd;have q2:=qtk { s' with out:=s'.out++[UInt8.ofNat (s'.sc mC / 16777216)] } 65536 zDd;have q3:=qtk { s' with out:=(s'.out++[UInt8.ofNat (s'.sc mC / 16777216)])++[UInt8.ofNat (s'.sc mC / 65536)] } 256 zDd
 have q4:St P fMain (.mk 6 [] [] [.mk [99,97,108,108] 0 [111,117,116] [.mk [118,97,114] 0 [99] []]] [] []) { s' with out:=((s'.out++[UInt8.ofNat (s'.sc mC / 16777216)])++[UInt8.ofNat (s'.sc mC / 65536)])++[UInt8.ofNat (s'.sc mC / 256)] } 19 none { s' with out:=(((s'.out++[UInt8.ofNat (s'.sc mC / 16777216)])++[UInt8.ofNat (s'.sc mC / 65536)])++[UInt8.ofNat (s'.sc mC / 256)])++[UInt8.ofNat (s'.sc mC)] }:=
  (St.exp (Ev.mk (Evs.cons (Ev.of (v:=s'.sc mC) zk zk) Evs.nil) Op.out)).mono zDd
 refine⟨_,(Bl.cons (St.asg (name:=[99]) (v:=4294967295) (Ev.of zk zk)) (Bl.cons (St.asg (name:=[98]) (Ev.mk Evs.nil Op.inp)) (Bl.cons (St.whl (qoY _) h1) (Bl.cons q1 (Bl.cons q2 (Bl.cons q3 (Bl.cons q4 Bl.nil))))))).mono ?_,?_⟩;have e1:wE qbB 0 [105,110] ([]:List Ex).length=1:=rfl;have e2:cE (.mk [110,117,109] 4294967295 [] [])=12:=rfl;omega;show(((s'.out++[UInt8.ofNat (s'.sc mC / 16777216)])++[UInt8.ofNat (s'.sc mC / 65536)])++[UInt8.ofNat (s'.sc mC / 256)])++[UInt8.ofNat (s'.sc mC)]=_;rw[h3,e,zAs,zAs,zAs]
 try rfl
theorem qs3(l:List Nat)(hl:∀ v∈l,v<256)(limit:Nat)(h:1430 * l.length+250<=limit):∃ fuel s2,blkR (stC P fuel (qbS P)) (qbS P).body (qdE P l limit)=.ok none s2/\s2.out=outN (l.foldl qdQ 4294967295):=by
 obtain⟨s',h1,h2⟩:=qjM (qdE P l 0) hl;have hm:qbS P=fMain:=rfl;rw[hm];obtain⟨fuel,s2,g1,g2⟩:=qvq (P:=P) (inp:=l) (limit:=limit) (h1.mono h);exact⟨fuel,s2,g1,g2.trans h2⟩
end Go.Stele.Wi.Wc.Crc
namespace Go.Proofs.YtkihibnffkpnkaaGreatDoor.Lb
open Go.GL Go.RowKit Go.Stele
open Inp (u32 Same retS qfp qfn qnW qlW)
open Go.Stele.Wi.Wc.Crc (qsa qo9 qdQ outN)
theorem Pure.to{C:Ctx}{o:Oper}{e:Env}{H:Heap}{lv lv':LV}(h:Go.GL.Pure C o e H lv)(he:lv=lv'):Go.GL.Pure C o e H lv':=he▸h
def qhC(s:List UInt8):List Nat:=s.map (·.toNat)
theorem qsV(c:UInt8):c.toNat<256:=c.toNat_lt
attribute [local irreducible] LOps qag qae LCalls Go.GL.Pure qaz qam qad LQ LAny qaI qan LS
section
variable{B0:Nat}{w0:World}
theorem qmH(s:List UInt8)(hs:s.length<=1000000):LCalls (KC B0 w0) 9 [str s] [] (Ret (.list ((qhC s).map u32))):=by
 refine zcI Tryz.func9 rfl (n:=20) rfl rfl rfl ?_;refine gar ?_;refine oS (S.litA (s:=1) (es:=[]) [] rfl eN rfl rfl rfl λb=>?_) rfl;refine gaa ?_
 refine zoL (λk sl H=>∃ (i:Nat) (v:LV),i<=s.length/\k=s.length-i/\Acc 1 v ((qhC (s.take i)).map u32) H []/\sl=[(0,str s),(3,v),(4,int .i64 i)])
  ⟨_,_,_,⟨0,_,zero_le _,rfl,Acc.row,rfl⟩,⟨rfl,rfl,rfl,trivial⟩,zhR _⟩ ?_
 rintro k sl H ⟨i,v,hi,rfl,hacc,rfl⟩ j1 hj1;refine gaa ?_;refine zoC rfl (λhc=>?_) (λhc=>?_);have hlt:i<s.length:=by have:=zt hc;omega
 have hb:=qsV s[i];have e0:IntKind.u32.wrap ((s[i].toNat:Nat):Int)=((s[i].toNat:Nat):Int):=by rw[qfp];omega
 have hget:s[((i:Nat):Int).toNat]? = some s[i]:=by
  rw[Int.toNat_natCast];exact List.getElem?_eq_getElem hlt
 have hT:(qhC (s.take (i+1))).map u32=(qhC (s.take i)).map u32++[u32 s[i].toNat]:=by
  rw[List.take_succ_eq_append_getElem hlt];simp only[qhC,zMa];rfl
 generalize s[i]=ch at *;refine gak ?_;refine zQ14 ?_;refine gaj ?_;refine oP (pI rfl rfl zo hget) rfl<|oP (Pure.to (Pure.cvt rfl) (qfn e0)) rfl<|oS (sL [_] (es:=[u32 ch.toNat]) rfl (eC rfl rfl eN) rfl rfl rfl ?_) rfl;refine oS (S.acc (F:=[]) rfl hacc rfl (by simp[LV.cells]) rfl (by simp only[qhC,zLm,List.length_take,zLc,zLn];omega) λv' H' hacc'=>?_) rfl;refine zQ19 ?_;refine gac ?_;exact⟨_,_,_,by omega,⟨i+1,v',by omega,rfl,by rw[hT];exact hacc',rfl⟩,⟨rfl,rfl,qap zo,trivial⟩,zhR _,hj1⟩;have hi':i=s.length:=by have:=zf hc;omega
 subst hi';rw[take_length] at hacc;refine qag.sub (d:=3) (v:=v) rfl hacc.sub ?_;refine gaa ?_;exact qac hj1 (rC (rT (v:=.list _) rfl zsr) rN) rfl
end
end Go.Proofs.YtkihibnffkpnkaaGreatDoor.Lb
namespace Go.Proofs.YtkihibnffkpnkaaGreatDoor.Pp
open Go.GL Go.RowKit Go.Stele
open Cmp (qqQ)
open Go.Lib (decDigits join)
theorem asm_len2{p:Pr}{n:Nat}(hsz:SzP p n){o:Org}{t:Wd}(hn:n<=2000000)(h:cmpP p.vars (qbd p) p.funcs o=.ok t):t.length<=60+60 * n:=by
 obtain⟨hc,hfit,ht,_⟩:=qmi hsz.nums h;have hw:=(qrM (P:=p) (o:=o) hc hsz.nums hfit (zNt hsz.funcs hn)).1;have hj:=qgh (qaT p o);have:=hsz.funcs;rw[ht];omega
theorem opt_out{p:Pr}{n:Nat}(hsz:SzP p n)(hn:n<=3100){o:Org}{t:Wd}(h:cmpP p.vars (qbd p) p.funcs o=.ok t):t.length<=186060/\qcc t=(join (optP (qbi t)) [32],0)/\(join (optP (qbi t)) [32]).length<=300000000:=by
 have h1:=asm_len2 hsz zo h;have h2:=qpI t;refine⟨by omega,?_,by omega⟩;unfold qcc;rw[zn zo]
end Go.Proofs.YtkihibnffkpnkaaGreatDoor.Pp
namespace Go.Proofs.YtkihibnffkpnkaaGreatDoor.Lb
open Go.GL Go.RowKit Go.Stele
open Inp (u32)
open Mch (qou qhp qqv us)
open Asm (asmLV qcn)
open Cmp (I64 qqQ defO qkh qfj qk6)
instance:TOut zTp 25:=.of zk
structure Prog(l:List (List UInt8))(code:Wd):Prop where
 short:l.length<=1000
 ok:∃ src p n x y labs l0,srcP l []=(src,0)/\qa6 src=(p,l0,0)/\SzP p n/\n<=2000000/\qb9 p=0/\cmpP p.vars (qbd p) p.funcs defO=.ok x/\x.length<=1000000/\qcc x=(y,0)/\y.length<=300000000/\asmP y 10000=.ok (code,labs)
 len:code.length<=40000
attribute [local irreducible] LOps qag qae LCalls Go.GL.Pure qaz qam qad LQ LAny qaI qan LS
section
variable{B0:Nat}{w0:World}
theorem qb4(hG:Pp.GW B0 w0){l:List (List UInt8)}{code:Wd}(h:Prog l code):LCalls (KC B0 w0) 22 [.list (l.map str)] [] (Ret (.tuple [str code,int .i64 0])):=by
 obtain⟨hl,⟨src,p,n,x,y,labs,l0,h1,h2,h3,h4,h5,h6,h7,h8,h9,h10⟩,_⟩:=h;have hso:=qnQ (B0:=B0) (w0:=w0) l hl;rw[h1] at hso;have hps:=qmq (B0:=B0) (w0:=w0) hG.base src;rw[h2] at hps;have hck:=Inp.checkPr_spec (B0:=B0) (w0:=w0) h3 h4;rw[h5] at hck;have hcp:=qk6 (B0:=B0) (w0:=w0) hG.base hG.mx h3 h4 defO (by unfold I64;decide) (by unfold I64;decide) (by unfold I64;decide);rw[h6] at hcp;have hop:=Pp.optimize_spec (B0:=B0) (w0:=w0) hG x h7;rw[h8] at hop;have has:=Asm.assemble_spec (B0:=B0) (w0:=w0) hG.base hG.mx y 10000 h9;rw[h10] at has;have hd:=qfj (B0:=B0) (w0:=w0);have eD:qkh defO=.agg [int .i64 10000,int .i64 0,int .i64 100000]:=rfl;have eP:qgA p=.agg [.list (p.vars.map str),.list (p.arrays.map qn6),.list (p.funcs.map qbm)]:=rfl;rw[eD] at hd hcp;unfold qlQ at hps;unfold qqQ at hcp;unfold asmLV at has;simp only at hso hps hcp hop has;rw[eP] at hps hcp hck;clear h1 h2 h3 h4 h5 h6 h7 h8 h9 h10 eP eD;refine zcI Tryz.func22 rfl (n:=69) rfl rfl rfl ?_;refine gac ?_;refine oS (sF [_] rfl hso ?_) rfl;refine gaa ?_;refine zoC rfl (λhc=>by cases hc) (λ_=>?_);refine gac ?_;refine oS (sF [_] rfl hps ?_) rfl;refine gad ?_;refine oS (zsA λb6=>?_) rfl;refine gaa ?_;refine zoC rfl (λhc=>by cases hc) (λ_=>?_);refine gaa ?_;refine oS (S.call0 [_] rfl hck (λv H' h=>?_) (λch H' h=>?_)) rfl;rotate_left;obtain⟨_,_,h⟩:=h;cases h;obtain⟨rfl,nm,h⟩:=h;cases h;refine gaa ?_;refine zoC rfl (λhc=>by cases hc) (λ_=>?_);refine gak ?_;refine oS (sF [] rfl hd<|oS (zsA λb10=>?_) rfl) rfl;refine gaa ?_;refine oS (sF [_,_] rfl hcp ?_) rfl;refine gaa ?_;refine zoC rfl (λhc=>by cases hc) (λ_=>?_);refine gac ?_;refine oS (sF [_] rfl hop ?_) rfl;refine gaa ?_;refine zoC rfl (λhc=>by cases hc) (λ_=>?_);refine gac ?_;refine oS (sF [_,_] rfl has ?_) rfl;refine gaa ?_;exact qac rfl (rC (zrt rfl) (zra rfl)) rfl
theorem qmI(hG:Pp.GW B0 w0){l:List (List UInt8)}{code:Wd}(h:Prog l code){inp:List Nat}(hin:∀ v∈inp,v<4294967296){steps:Nat}(h0:0<steps)(h1:steps<=100000000) :
  LCalls (KC B0 w0) 8 [.list (us inp),int .i64 (steps:Nat),.list (l.map str)] [] (Ret (qou (runM steps (qdD code 10000 inp)))):=by
 have hpr:=qb4 hG h;have hrun:=qhp (B0:=B0) (w0:=w0) (code:=code) (og:=10000) (inp:=inp) (steps:=steps) (by have:=h.len;omega) zDd hin h0 h1;have hd:=qfj (B0:=B0) (w0:=w0);have eD:qkh defO=.agg [int .i64 10000,int .i64 0,int .i64 100000]:=rfl;rw[eD] at hd;generalize runM steps (qdD code 10000 inp)=R at hrun ⊢;unfold qou at hrun ⊢;unfold qqv at hrun;refine zcI Tryz.func8 rfl (n:=30) rfl rfl rfl ?_;refine gah ?_;refine oS (zsA λb6=>?_) rfl;refine gac ?_;refine oS (sF [_] rfl hpr ?_) rfl;refine gaa ?_;refine zoC rfl (λhc=>by cases hc) (λ_=>?_);refine gak ?_;refine oS (sF [] rfl hd<|oS (zsA λb9=>?_) rfl) rfl;refine gaa ?_;refine zQ0 ?_;refine gab ?_;refine oS (sF [_,_,_,_] rfl hrun ?_) rfl;refine gad ?_;exact qac rfl (rC (rA rfl zm0 rfl zsr) rN) rfl
theorem qxL:qa6 []=(⟨[],[],[]⟩,0,0):=by kernel_rfl
theorem qnS(hG:Pp.GW B0 w0):LCalls (KC B0 w0) 22 [qab] [] (Ret (.tuple [str [],int .i64 9])):=by
 have hso:=qqL (B0:=B0) (w0:=w0);have hps:=qmq (B0:=B0) (w0:=w0) hG.base [];rw[qxL] at hps;have hck:=Inp.checkPr_spec (B0:=B0) (w0:=w0) (p:=⟨[],[],[]⟩) (n:=0) ⟨zNr _,zNr _,λa ha=>(by cases ha),zNr _,λa ha=>(by cases ha)⟩ zDd;have h9:qb9 ⟨[],[],[]⟩=9:=by kernel_rfl
 rw[h9] at hck;have eP:qgA ⟨[],[],[]⟩=.agg [.list [],.list [],.list []]:=rfl;unfold qlQ at hps;simp only at hso hps;rw[eP] at hps hck;refine zcI Tryz.func22 rfl (n:=69) rfl rfl rfl ?_;refine gao ?_;refine oS (sF [_] rfl hso ?_) rfl;refine gaa ?_;refine zoC rfl (λhc=>by cases hc) (λ_=>?_);refine gac ?_;refine oS (sF [_] rfl hps ?_) rfl;refine gad ?_;refine oS (zsA λb6=>?_) rfl;refine gaa ?_;refine zoC rfl (λhc=>by cases hc) (λ_=>?_);refine gaa ?_;refine oS (S.call0 [_] rfl hck (λv H' h=>?_) (λch H' h=>?_)) rfl;rotate_left;obtain⟨_,_,h⟩:=h;cases h;obtain⟨rfl,nm,h⟩:=h;cases h;refine gaa ?_;refine zoC rfl (λ_=>?_) (λhc=>by cases hc);refine gac ?_;exact qac rfl (rC (zrt rfl) (zra rfl)) rfl
theorem qnw(hG:Pp.GW B0 w0):LCalls (KC B0 w0) 8 [qab,int .i64 100,qab] [] (Ret (.agg [str [],int .i64 9,int .i64 0])):=by
 have hpr:=qnS (B0:=B0) (w0:=w0) hG;refine zcI Tryz.func8 rfl (n:=30) rfl rfl rfl ?_;refine gah ?_;refine oS (zsA λb6=>?_) rfl;refine gam ?_;refine oS (sF [_] rfl hpr ?_) rfl;refine gaa ?_;refine zoC rfl (λ_=>?_) (λhc=>by cases hc);refine gaa ?_;exact qac rfl (rC (rA rfl zm0 rfl zsr) rN) rfl
end
end Go.Proofs.YtkihibnffkpnkaaGreatDoor.Lb
