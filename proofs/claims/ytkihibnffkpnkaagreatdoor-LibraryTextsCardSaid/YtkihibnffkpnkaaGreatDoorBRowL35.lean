import Derived.Test.YtkihibnffkpnkaaGreatDoorBRowL34
set_option linter.unusedVariables false
set_option linter.unusedSimpArgs false
set_option maxRecDepth 100000
set_option maxHeartbeats 4000000
open List (length_reverse reverse_cons mem_append_right not_mem_nil take_length drop_length)
open Nat (sub_self ble_eq zero_le)
namespace Go.Proofs.YtkihibnffkpnkaaGreatDoor.Mch
open Go.GL Go.RowKit Go.Stele
open Inp (u32 Same retS qeG qd8 qmi qoh)
structure MK where
 mb:Nat
 mm:Nat
 bm:Nat
@[reducible] def memV(k:MK):Value:=.slice (some ⟨k.mm,0,none⟩) 262144 262144
@[reducible] def MK.mf(k:MK)(s:MS)(st:Nat)(stop:Bool)(vc:Value)(vo:LV):MF:=⟨k.mb,memV k,s.pc,vc,s.inp,vo,s.digit,st,stop,k.bm⟩
@[reducible] def MK.memH(k:MK)(f:Nat->Nat):Nat×LObj:=(k.mm,.cells 30 (memL f))
@[reducible] def MK.binH(k:MK):Nat×LObj:=(k.bm,.obj (.map qsw 7))
def StH(k:MK)(s:MS)(st:Nat)(stop:Bool)(H:Heap):Prop:=∃ vc HC vo HO HD,MRow 30 1 vc (us s.calls.reverse) HC/\Acc 1 vo (byts s.out) HO []/\DH (k.mf s st stop vc vo) s.data HD/\H=HD++(k.memH s.mem::k.binH::(HC++HO))
def qkG(k:MK)(st:Nat)(R:MR)(r:LRes)(H:Heap):Prop:=match R with
 |.run s=>r=.ret (.tuple [])/\StH k s st false H
 |.stop e o=>∃ s,s.out=o/\if e=0 then r=.ret (.tuple [])/\StH k s st true H else e=12/\r=.panic qhc/\StH k s st false H
theorem qyC{k:MK}{st:Nat}{o:Wd}{s:MS}{H:Heap}(hs:s.out=o)(h:StH k s st false H):qkG k st (.stop 12 o) (.panic qhc) H:=⟨s,hs,by rw[if_neg zDd];exact⟨rfl,rfl,h⟩⟩
theorem dig_t{c:Nat}{k:Int}(h:(c:Int)=k)(hk:48<=k/\k<=57):true=qca c:=by
 unfold qca;rw[decide_eq_true (by omega:48<=c),decide_eq_true (by omega:c<=57)];rfl
theorem qxL{x m b:Nat×LObj}{A B C:Heap}:(x::(A++(m::b::(B++C)))).Perm (B++(x::(A++(m::b::C)))):=by
 have:=List.perm_append_comm_assoc (x::(A++[m,b])) B C;simpa using this
theorem qqy{x m b:Nat×LObj}{A B C:Heap}:(x::(A++(m::b::(B++C)))).Perm (C++(x::(A++(m::b::B)))):=by
 have:=zPc (l₁:=x::(A++(m::b::B))) (l₂:=C);simpa using this
section
variable{B0:Nat}{w0:World}{e:Env}{H:Heap}{dst:Option Nat}{ty:TypeId}{pos:String}{aft:Array Edge}{g:Option (Nat×Bool)}{K:LV->Heap->Prop}{X:List PanicEntry->Heap->Prop}
theorem S.push{f:MF}{data:List Nat}{v:Nat}{a b:Operand}{ats:Array TypeId}{HD F:Heap}(hx:[e.ev a,e.ev b]=[ptr f.mb 0,u32 v])(hp:H.Perm (HD++F))(hD:DH f data HD)(hf:data.length<=256)
  (hk:data.length<256->∀ HD',DH f (v::data) HD'->K (.tuple []) (HD'++F)) (hn:¬ data.length<256->∀ HD',DH f data HD'->X qhc (HD'++F)) :
  qae (KC B0 w0) ⟨dst,.call { callee:=.value (.func 129),args:=#[a,b],argTypes:=ats },ty,pos,aft,g⟩ e H K X:=by
 refine S.callH (H1:=HD) (F:=F) [a,b] hx hp (qsN hD hf v) ?_ ?_;intro r H' h;unfold qiZ at h;split at h
 rename_i hl
 obtain⟨h1,h2⟩:=h;cases h1;exact hk hl H' h2;obtain⟨h1,_⟩:=h;cases h1;intro ch H' h;unfold qiZ at h;split at h;obtain⟨h1,_⟩:=h;cases h1
 rename_i hl
 obtain⟨h1,h2⟩:=h;cases h1;exact hn hl H' h2
theorem S.pop{f:MF}{data:List Nat}{a:Operand}{ats:Array TypeId}{HD F:Heap}(hx:[e.ev a]=[ptr f.mb 0])(hp:H.Perm (HD++F))(hD:DH f data HD)(hf:data.length<=256)
  (hk:∀ x r,data=x::r->∀ HD',DH f r HD'->K (u32 x) (HD'++F)) (hn:data=[]->∀ HD',DH f [] HD'->X qhc (HD'++F)) :
  qae (KC B0 w0) ⟨dst,.call { callee:=.value (.func 131),args:=#[a],argTypes:=ats },ty,pos,aft,g⟩ e H K X:=by
 refine S.callH (H1:=HD) (F:=F) [a] hx hp (qpq hD hf) ?_ ?_;intro r H' h
 cases data with
 |nil=>
  obtain⟨h1,_⟩:=h
  cases h1
 |cons x d=>
  obtain⟨h1,h2⟩:=h;cases h1;exact hk x d rfl H' h2
 intro ch H' h
 cases data with
 |nil=>
  obtain⟨h1,h2⟩:=h;cases h1
  exact hn rfl H' h2
 |cons x d=>
  obtain⟨h1,_⟩:=h;cases h1
theorem S.address{f:MF}{data:List Nat}{a:Operand}{ats:Array TypeId}{HD F:Heap}(hx:[e.ev a]=[ptr f.mb 0])(hp:H.Perm (HD++F))(hD:DH f data HD)(hf:data.length<=256)
  (hk:∀ x r,data=x::r->x<262144->∀ HD',DH f r HD'->K (u32 x) (HD'++F)) (hn:(∀ x r,data=x::r->¬ x<262144)->∀ d HD',DH f d HD'->X qhc (HD'++F)) :
  qae (KC B0 w0) ⟨dst,.call { callee:=.value (.func 130),args:=#[a],argTypes:=ats },ty,pos,aft,g⟩ e H K X:=by
 refine S.callH (H1:=HD) (F:=F) [a] hx hp (qfG hD hf) ?_ ?_;intro r H' h
 cases data with
 |nil=>
  obtain⟨h1,_⟩:=h
  cases h1
 |cons x d=>
  unfold qi3 at h;simp only at h;split at h
  rename_i hl
  obtain⟨h1,h2⟩:=h;cases h1;exact hk x d rfl hl H' h2;obtain⟨h1,_⟩:=h;cases h1
 intro ch H' h
 cases data with
 |nil=>
  obtain⟨h1,h2⟩:=h;cases h1
  exact hn (λx r hxr=>by cases hxr) _ H' h2
 |cons x d=>
  unfold qi3 at h;simp only at h;split at h;obtain⟨h1,_⟩:=h;cases h1
  rename_i hl
  obtain⟨h1,h2⟩:=h;cases h1
  exact hn (λy r hxr=>by
   injection hxr with e1 e2;rw[<-e1]
   exact hl) _ H' h2
end
attribute [local irreducible] LOps qag qae LCalls Go.GL.Pure qax qam qad LQ LAny qaJ qan LS
section
variable{B0:Nat}{w0:World}
theorem qsc(k:MK){s:MS}{st c:Nat}(hok:MsOk s)(hcl:c<4294967296)(hdig:s.digit=true->s.data≠[])(hout:s.out.length<=100000000000){H:Heap}(h:StH k s st false H) :
  LCalls (KC B0 w0) 76 [ptr k.mb 0,u32 c] H (qkG k st (exeM c s)):=by
 generalize hR:exeM c s=R;obtain⟨vc,HC,vo,HO,HD,hC,hO,hD,rfl⟩:=h;have hfew:=hok.few;have hdeep:=hok.deep;have hl:(us s.data.reverse).length=s.data.length:=by rw[qft,length_reverse]
 have hlc:(us s.calls.reverse).length=s.calls.length:=by rw[qft,length_reverse]
 have mk:∀ (d:List Nat) (HD':Heap),DH (k.mf s st false vc vo) d HD'->StH k { s with data:=d } st false (HD'++(k.memH s.mem::k.binH::(HC++HO))):=λd HD' h=>⟨vc,HC,vo,HO,HD',hC,hO,h,rfl⟩;have mkT:∀ (d:List Nat) (HD':Heap),DH (k.mf s st false vc vo) d HD'->qkG k st (MR.trap s) (.panic qhc) (HD'++(k.memH s.mem::k.binH::(HC++HO))):=λd HD' h=>qyC (s:={ s with data:=d }) rfl (mk d HD' h);have hDD:=hD;obtain⟨vd,HD0,hm,rfl⟩:=hD;rw[List.cons_append];refine zcI Tryz.func76 rfl (n:=219) rfl rfl rfl ?_;refine gac ?_;refine zcC [(0,ptr k.mb 0),(1,u32 c),(14,u32 c),(36,bool (qca c))] ?_ (λj hj=>?_);refine gan ?_;refine oC rfl (λhc=>?_) (λc0=>?_);exact zT2;refine gan ?_;refine oC rfl (λhc=>?_) (λc1=>?_);exact zT2;refine gan ?_;refine oC rfl (λhc=>?_) (λc2=>?_);exact zT2;refine gan ?_;refine oC rfl (λhc=>?_) (λc3=>?_);exact zT2;refine gan ?_;refine oC rfl (λhc=>?_) (λc4=>?_);exact zT2;refine gan ?_;refine oC rfl (λhc=>?_) (λc5=>?_);exact zT2;refine gan ?_;refine oC rfl (λhc=>?_) (λc6=>?_);exact zT2;refine gan ?_;refine oC rfl (λhc=>?_) (λc7=>?_);exact zT2;refine gan ?_;refine oC rfl (λhc=>?_) (λc8=>?_);exact zT2;refine gan ?_
 exact⟨⟨rfl,rfl,rfl,qau (by
  have d0:=zf c0;have d1:=zf c1;have d2:=zf c2;have d3:=zf c3;have d4:=zf c4;have d5:=zf c5;have d6:=zf c6;have d7:=zf c7;have d8:=zf c8;unfold qca;rw[<-Bool.decide_and,decide_eq_decide]
  omega),trivial⟩,rfl,rfl⟩
 refine oC rfl (λhc=>?_) (λhnd=>?_)
 ·have hcd:48<=c/\c<=57:=by
   unfold qca at hc;rw[zBa,zDe,zDe] at hc;exact hc
  have hR2:ql6 c s=R:=by
   rw[<-hR];unfold exeM;rw[if_pos hc]
  refine gac ?_;refine oP (Pure.mlen rfl hm) rfl ?_;refine gab ?_;refine oC rfl (λhdg=>?_) (λhdg=>?_)
  ·obtain⟨d,r,hdr⟩:∃ d r,s.data=d::r:=by
    cases hd:s.data with
    |nil=>exact absurd hd (hdig hdg)
    |cons d r=>exact⟨d,r,rfl⟩
   have hRr:R=.run { s with data:=((d * 10+c-48) % 4294967296)::r }:=by
    rw[<-hR2];unfold ql6;rw[if_pos hdg,hdr]
   subst hRr;have hln:s.data.length=r.length+1:=by rw[hdr];rfl
   have hrl:(us r.reverse).length=r.length:=by rw[qft,length_reverse]
   have hus:us s.data.reverse=us r.reverse++us [d]:=by rw[hdr,reverse_cons,qhe]
   rw[hus] at hm;obtain⟨b,cap,spare,h1,h2,hc1,hc2⟩:=MRow.addr hm (by simp[us]);have hel:(us r.reverse++us [d]).length=r.length+1:=by rw[zLa,hrl];rfl
   have hfl:(us r.reverse++us [d]).flatMap LV.cells=us r.reverse++us [d]:=by rw[<-qhe];exact qjC _
   rw[hfl,zAs] at h2;rw[hel] at h1 hc1 hc2;subst h1 h2
   have hval:IntKind.u32.wrap (IntKind.u32.wrap (IntKind.u32.wrap ((d:Int) * 10)+(c:Int))-48)=(((d * 10+c-48) % 4294967296:Nat):Int):=by
    rw[qeG,qeG,qeG];omega
   refine cD (m:=18) rfl [(k.mb,LObj.cells 89 ((k.mf s st false vc vo).cells (.slice (some ⟨b,0,none⟩) (r.length+1) cap)))] ?_;refine zQ9 ?_;refine aT 3 rfl rfl (pL (c:=.atom _) rfl zm0 rfl) ?_;refine aT 4 rfl rfl (pM (lv:=.atom _) rfl) ?_;refine aT 5 rfl rfl (pM (lv:=.atom _) rfl) ?_;refine aT 6 rfl rfl (pN rfl) ?_;refine aT 7 rfl rfl (pF rfl) ?_;refine aT 8 rfl rfl (pL (c:=.atom _) rfl zm0 rfl) ?_;refine aT 9 rfl rfl (pM (lv:=.atom _) rfl) ?_;refine aT 10 rfl rfl (Pure.indexRowE (o:=r.length) rfl rfl zo zo zo) ?_;refine aT 13 rfl rfl (pM (lv:=.atom _) rfl) ?_;refine aL ?_ zhp;refine lO 11 (lH rfl rfl (pL (c:=u32 d) rfl zm1 (by rw[List.getElem?_append_right zo,hrl,sub_self];rfl)) ?_);refine lO 12 (lH rfl rfl (Pure.mulW rfl rfl) ?_);refine lO 14 (lH rfl rfl (Pure.addW rfl rfl) ?_);refine lO 15 (lH rfl rfl (Pure.subW rfl rfl) ?_);refine lO 16 (lH rfl rfl (Pure.indexRowE (o:=r.length) rfl rfl zo zo zo) ?_);refine zl1 (i:=17) zk ?_;refine lS (H1:=[_]) (F:=_::(k.memH s.mem::k.binH::(HC++HO))) rfl (.inl rfl) rfl zp1 zhp ?_
   refine(sS (vs:=[u32 ((d * 10+c-48) % 4294967296)]) (cs':=us r.reverse++(u32 ((d * 10+c-48) % 4294967296)::spare)) rfl pH (by show some [int .u32 _]=some [int .u32 _];rw[<-hval]) rfl (by rw[ble_eq,zLa,hrl,zLa];show r.length+1<=r.length+(1+spare.length);omega) rfl (by
    have:=quf (us r.reverse) (us [d]++spare) 0 [u32 ((d * 10+c-48) % 4294967296)];rw[hrl,Nat.add_zero] at this;rw[this];show us r.reverse++(u32 _::setL spare 0 [])=_
    rw[qno]) ?_)
   refine lD zk ?_;refine gaa ?_
   have hst:StH k { s with data:=((d * 10+c-48) % 4294967296)::r } st false (((k.mb,.cells 89 ((k.mf s st false vc vo).cells (.slice (some ⟨b,0,none⟩) (r.length+1) cap)))::[(b,.cells 30 (us r.reverse++(u32 ((d * 10+c-48) % 4294967296)::spare)))])++(k.memH s.mem::k.binH::(HC++HO))):=
    mk _ _ ⟨_,_,by
     have:=qoI (el:=30) (b:=b) (m:=r.length+1) (cap:=cap) (l:=(((d * 10+c-48) % 4294967296)::r).reverse) (spare:=spare) (by simp) zo zo;rw[reverse_cons,qhe,zAs] at this;rw[reverse_cons,qhe]
     exact this,rfl⟩
   exact rO hj rN ⟨[],by rw[zLz];exact List.Perm.swap _ _ _⟩ ⟨rfl,hst⟩
  have hsub:IntKind.u32.wrap ((c:Int)-48)=((c-48:Nat):Int):=by
   rw[qeG];omega
  have hRr:qdG (c-48) s=R:=by
   rw[<-hR2];unfold ql6;have hdg':s.digit=false:=hdg;rw[if_neg (by rw[hdg'];decide)]
  unfold qdG at hRr;refine gag ?_;refine oP (Pure.subW rfl rfl) rfl ?_;refine oS (S.push (v:=c-48) (by show [_,int .u32 _]=[_,int .u32 _];rw[<-hsub];rfl) zpr hDD hfew (λhlt HD' hD'=>?_) (λhlt HD' hD' e' he'=>?_)) rfl;rw[if_pos hlt] at hRr;subst hRr;refine gaa ?_;exact rO hj rN zhr ⟨rfl,mk _ _ hD'⟩;rw[if_neg hlt] at hRr;subst hRr;refine gae ?_;exact qad.panic (he'.trans hj) zhr (mkT _ _ hD')
 have hnd':¬ qca c=true:=by rw[hnd];decide
 refine qag.seq ?_;refine zcC [(0,ptr k.mb 0),(1,u32 c),(14,u32 c),(78,bool (decide (c=32∨c=10)))] ?_ (λj2 hj2=>?_);refine gan ?_;refine oC rfl (λhc=>?_) (λc0=>?_);refine gaa ?_;exact⟨⟨rfl,rfl,rfl,qau (hc.trans (decide_eq_true (by have:=zt hc;omega)).symm),trivial⟩,rfl,rfl⟩;refine gan ?_;exact⟨⟨rfl,rfl,rfl,qau (by have:=zf c0;rw[decide_eq_decide];omega),trivial⟩,rfl,rfl⟩;have hjj:=hj2.trans hj;refine oC rfl (λhc=>?_) (λc0=>?_);have hcw:=zt hc
 have hRr:R=.run s:=by
  rw[<-hR];unfold exeM;rw[if_neg hnd',if_pos hcw]
 subst hRr;refine gaa ?_;exact rO hjj rN zhr ⟨rfl,mk _ _ hDD⟩;have hw0:=zf c0;refine gan ?_;refine oC rfl (λhc=>?_) (λc1=>?_)
 ·obtain rfl:c=64:=by have:=zt hc;omega
  have hR2:ldM s=R:=hR;refine cD (m:=10) rfl [] ?_;refine zQ7 ?_;refine aT 5 rfl rfl (pM (lv:=.atom _) rfl) ?_;refine aL ?_ zhn;refine zl2 (i:=4) (j:=6) zk ?_ ?_
  ·refine lH rfl rfl (pL (c:=.atom (memV k)) rfl zm0 rfl) ?_;refine zl1 (i:=6) zk ?_;refine lW rfl (.inl rfl) rfl (S.address rfl zpr hDD hfew (λa r hdr ha HD' hD'=>?_) (λhb d HD' hD' e' he'=>?_));rotate_left;exact zT25
   have hRr:qdG (s.mem a) { s with data:=r }=R:=by
    rw[<-hR2];unfold ldM;rw[hdr];simp only;rw[if_pos ha]
   unfold qdG at hRr;simp only at hRr;have hrl:r.length<=256:=by rw[hdr,zLc] at hfew;omega
   have hD2':=hD';obtain⟨vd',HD1,hm',rfl⟩:=hD2';refine zQ45 ?_;refine lO 8 (lH rfl rfl (pL (c:=u32 (s.mem a)) rfl (mem_append_right _ zm0) (qhl _ ha)) ?_);refine lO 9 (lW rfl (.inl rfl) rfl (S.push (v:=s.mem a) rfl zpr hD' hrl (λhlt HD2 hD2=>?_) (λhlt HD2 hD2 e' he'=>?_)));rw[if_pos hlt] at hRr;subst hRr;refine lD zk ?_;refine gaa ?_;exact rO hjj rN zhr ⟨rfl,mk _ _ hD2⟩;rw[if_neg hlt] at hRr;subst hRr;refine gae ?_;exact qad.panic (he'.trans hjj) zhr (mkT _ _ hD2)
  refine lW rfl (.inl rfl) rfl (S.address rfl zpr hDD hfew (λa r hdr ha HD' hD'=>?_) (λhb d HD' hD' e' he'=>?_));rotate_left;exact zT25
  have hRr:qdG (s.mem a) { s with data:=r }=R:=by
   rw[<-hR2];unfold ldM;rw[hdr];simp only;rw[if_pos ha]
  unfold qdG at hRr;simp only at hRr;have hrl:r.length<=256:=by rw[hdr,zLc] at hfew;omega
  have hD2':=hD';obtain⟨vd',HD1,hm',rfl⟩:=hD2';refine lO 4 (lH rfl rfl (pL (c:=.atom (memV k)) rfl zm0 rfl) ?_);refine zQ45 ?_;refine lO 8 (lH rfl rfl (pL (c:=u32 (s.mem a)) rfl (mem_append_right _ zm0) (qhl _ ha)) ?_);refine lO 9 (lW rfl (.inl rfl) rfl (S.push (v:=s.mem a) rfl zpr hD' hrl (λhlt HD2 hD2=>?_) (λhlt HD2 hD2 e' he'=>?_)));rw[if_pos hlt] at hRr;subst hRr;refine lD zk ?_;refine gaa ?_;exact rO hjj rN zhr ⟨rfl,mk _ _ hD2⟩;rw[if_neg hlt] at hRr;subst hRr;refine gae ?_;exact qad.panic (he'.trans hjj) zhr (mkT _ _ hD2)
 have n64:=zf c1;refine gan ?_;refine oC rfl (λhc=>?_) (λc2=>?_)
 ·obtain rfl:c=33:=by have:=zt hc;omega
  have hR2:stoM s=R:=hR;refine gag ?_;refine oS (S.address rfl zpr hDD hfew (λa r hdr ha HD' hD'=>?_) (λhb d HD' hD' e' he'=>?_)) rfl;rotate_left
  have hRt:R=.trap s:=by
   rw[<-hR2];unfold stoM
   cases hd:s.data with
   |nil=>rfl
   |cons x r=>
    cases r with
    |nil=>rfl
    |cons y r=>simp only;rw[if_neg (hb x _ hd)]
  subst hRt;refine gae ?_;exact qad.panic (he'.trans hjj) zhr (mkT _ _ hD');have hrl:r.length<=256:=by rw[hdr,zLc] at hfew;omega
  have hD3:=hD';obtain⟨vd',HD1,hm',rfl⟩:=hD3;refine gaf ?_;refine cD (m:=9) rfl [] ?_;refine zQ9 ?_;refine aT 4 rfl rfl (pM (lv:=.atom _) rfl) ?_;refine aT 5 rfl rfl (pM (lv:=.atom _) rfl) ?_;refine aL ?_ zhn;refine zl2 (i:=3) (j:=6) zk ?_ ?_
  ·refine lH rfl rfl (pL (c:=.atom (memV k)) rfl zm0 rfl) ?_;refine zl1 (i:=6) zk ?_;refine lW rfl (.inl rfl) rfl (S.pop rfl zpr hD' hrl (λv r2 hdr2 HD2 hD2=>?_) (λhb HD2 hD2 e' he'=>?_));rotate_left
   have hRt:R=.trap s:=by
    rw[<-hR2];unfold stoM;rw[hdr,hb]
   subst hRt;refine gae ?_;exact qad.panic (he'.trans hjj) zhr (mkT _ _ hD2)
   have hRr:R=.run { s with data:=r2,mem:=λi=>if i=a then v else s.mem i }:=by
    rw[<-hR2];unfold stoM;rw[hdr,hdr2];simp only;rw[if_pos ha]
   subst hRr;have hD4:=hD2;obtain⟨vd2,HD3,hm2,rfl⟩:=hD4;refine zQ45 ?_;refine lO 8 (lW rfl (.inl rfl) rfl (sS (n:=1) (vs:=[u32 v]) (cs':=memL (λi=>if i=a then v else s.mem i)) rfl (show Pick _ _ _ from List.perm_middle) rfl rfl (by rw[ble_eq,qhs];omega) rfl (qlR _ _ _) ?_));refine lD zk ?_;refine gaa ?_;exact rO hjj rN ⟨[],by rw[zLz];exact List.perm_middle.symm⟩ ⟨rfl,vc,HC,vo,HO,_,hC,hO,hD2,rfl⟩
  refine lW rfl (.inl rfl) rfl (S.pop rfl zpr hD' hrl (λv r2 hdr2 HD2 hD2=>?_) (λhb HD2 hD2 e' he'=>?_));rotate_left
  have hRt:R=.trap s:=by
   rw[<-hR2];unfold stoM;rw[hdr,hb]
  subst hRt;refine gae ?_;exact qad.panic (he'.trans hjj) zhr (mkT _ _ hD2)
  have hRr:R=.run { s with data:=r2,mem:=λi=>if i=a then v else s.mem i }:=by
   rw[<-hR2];unfold stoM;rw[hdr,hdr2];simp only;rw[if_pos ha]
  subst hRr;have hD4:=hD2;obtain⟨vd2,HD3,hm2,rfl⟩:=hD4;refine lO 3 (lH rfl rfl (pL (c:=.atom (memV k)) rfl zm0 rfl) ?_);refine zQ45 ?_;refine lO 8 (lW rfl (.inl rfl) rfl (sS (n:=1) (vs:=[u32 v]) (cs':=memL (λi=>if i=a then v else s.mem i)) rfl (show Pick _ _ _ from List.perm_middle) rfl rfl (by rw[ble_eq,qhs];omega) rfl (qlR _ _ _) ?_));refine lD zk ?_;refine gaa ?_;exact rO hjj rN ⟨[],by rw[zLz];exact List.perm_middle.symm⟩ ⟨rfl,vc,HC,vo,HO,_,hC,hO,hD2,rfl⟩
 have n33:=zf c2;refine gan ?_;refine oC rfl (λhc=>?_) (λc3=>?_)
 ·obtain rfl:c=63:=by have:=zt hc;omega
  have hR2:jmpM s=R:=hR;refine gag ?_;refine oS (S.pop rfl zpr hDD hfew (λt r hdr HD' hD'=>?_) (λhb HD' hD' e' he'=>?_)) rfl;rotate_left
  have hRt:R=.trap s:=by
   rw[<-hR2];unfold jmpM;rw[hb]
  subst hRt;refine gae ?_;exact qad.panic (he'.trans hjj) zhr (mkT _ _ hD');have hrl:r.length<=256:=by rw[hdr,zLc] at hfew;omega
  refine gap ?_;refine oS (S.pop rfl zpr hD' hrl (λv r2 hdr2 HD2 hD2=>?_) (λhb HD2 hD2 e' he'=>?_)) rfl;rotate_left
  have hRt:R=.trap s:=by
   rw[<-hR2];unfold jmpM;rw[hdr,hb]
  subst hRt;refine gae ?_;exact qad.panic (he'.trans hjj) zhr (mkT _ _ hD2)
  have hRr:R=.run { s with data:=r2,pc:=if v=0 then t else s.pc }:=by
   rw[<-hR2];unfold jmpM;rw[hdr,hdr2]
  obtain⟨vd2,HD3,hm2,rfl⟩:=hD2;refine gaa ?_;refine oC rfl (λhv=>?_) (λhv=>?_);have hv0:v=0:=by have:=zt hv;omega
  rw[if_pos hv0] at hRr;subst hRr;refine gab ?_;exact rO hjj rN zhr ⟨rfl,vc,HC,vo,HO,_::HD3,hC,hO,⟨vd2,HD3,hm2,rfl⟩,rfl⟩;have hv0:¬ v=0:=by have:=zf hv;omega
  rw[if_neg hv0] at hRr;subst hRr;refine gaa ?_;exact rO hjj rN zhr ⟨rfl,mk _ _ ⟨vd2,HD3,hm2,rfl⟩⟩
 have n63:=zf c3;refine gan ?_;refine oC rfl (λhc=>?_) (λc4=>?_)
 ·obtain rfl:c=58:=by have:=zt hc;omega
  have hR2:qne s=R:=hR;refine gag ?_;refine oS (S.pop rfl zpr hDD hfew (λt r hdr HD' hD'=>?_) (λhb HD' hD' e' he'=>?_)) rfl;rotate_left
  have hRt:R=.trap s:=by
   rw[<-hR2];unfold qne;rw[hb]
  subst hRt;refine gae ?_;exact qad.panic (he'.trans hjj) zhr (mkT _ _ hD');have hD3:=hD';obtain⟨vd2,HD3,hm2,rfl⟩:=hD3;refine gac ?_;refine oP (Pure.mlen rfl hC) rfl ?_;refine gaa ?_;refine oS (S.check rfl (λhb=>?_) (λhb e' he'=>?_)) rfl;rotate_left;have hlt:¬ s.calls.length<64:=by have:=zf hb;omega
  have hRt:R=.trap s:=by
   rw[<-hR2];unfold qne;rw[hdr];simp only;rw[if_neg hlt]
  subst hRt;refine gae ?_;exact qad.panic (he'.trans hjj) zhr (mkT _ _ hD');have hlt:s.calls.length<64:=by have:=zt hb;omega
  have hRr:R=.run { s with data:=r,calls:=s.pc::s.calls,pc:=t }:=by
   rw[<-hR2];unfold qne;rw[hdr];simp only;rw[if_pos hlt]
  subst hRr;refine gaa ?_;refine cD (m:=14) rfl [] ?_;refine zQ7 ?_;refine aT 5 rfl rfl (pM (lv:=.atom _) rfl) ?_;refine aT 6 rfl rfl (pN rfl) ?_;refine aT 7 rfl rfl (pF rfl) ?_;refine aL ?_ zhn;refine zl2 (i:=4) (j:=8) zk ?_ ?_;refine lH rfl rfl (pL (c:=.atom vc) rfl zm0 rfl) ?_;refine zl1 (i:=8) zk ?_;refine lH rfl rfl (pL (c:=u32 s.pc) rfl zm0 rfl) ?_;refine zl1 (i:=9) zk ?_;refine zQ28 ?_;exact zT1;refine lH rfl rfl (pL (c:=u32 s.pc) rfl zm0 rfl) ?_;refine zl2 (i:=4) (j:=9) zk ?_ ?_;refine lH rfl rfl (pL (c:=.atom vc) rfl zm0 rfl) ?_;refine zl1 (i:=9) zk ?_;refine zQ28 ?_;exact zT1;refine zQ28 ?_;refine zl1 (i:=4) zk ?_;refine lH rfl rfl (pL (c:=.atom vc) rfl zm0 rfl) ?_;exact zT1
 have n58:=zf c4;refine gan ?_;refine oC rfl (λhc=>?_) (λc5=>?_)
 ·obtain rfl:c=59:=by have:=zt hc;omega
  have hR2:bakM s=R:=hR;refine gac ?_;refine oP (Pure.mlen rfl hC) rfl ?_;refine gab ?_;refine oS (S.check rfl (λhb=>?_) (λhb e' he'=>?_)) rfl;rotate_left
  have hnil:s.calls=[]:=by
   have:=zf hb;exact List.length_eq_zero_iff.1 zo
  have hRt:R=.trap s:=by
   rw[<-hR2];unfold bakM;rw[hnil]
  subst hRt;refine gae ?_;exact qad.panic (he'.trans hjj) zhr (mkT _ _ hDD)
  obtain⟨t,r,hdr⟩:∃ t r,s.calls=t::r:=by
   cases hd:s.calls with
   |nil=>
    have:=zt hb;rw[hlc,hd] at this
    simp at this
   |cons t r=>exact⟨t,r,rfl⟩
  have hRr:R=.run { s with calls:=r,pc:=t }:=by
   rw[<-hR2];unfold bakM;rw[hdr]
  subst hRr;have hln:s.calls.length=r.length+1:=by rw[hdr];rfl
  have hrl:(us r.reverse).length=r.length:=by rw[qft,length_reverse]
  have hus:us s.calls.reverse=us r.reverse++us [t]:=by rw[hdr,reverse_cons,qhe]
  have hC0:=hC;rw[hus] at hC0;obtain⟨b,cap,spare,h1,h2,hc1,hc2⟩:=MRow.addr hC0 (by simp[us]);have hel:(us r.reverse++us [t]).length=r.length+1:=by rw[zLa,hrl];rfl
  have hfl:(us r.reverse++us [t]).flatMap LV.cells=us r.reverse++us [t]:=by rw[<-qhe];exact qjC _
  rw[hfl,zAs] at h2;rw[hel] at h1 hc1 hc2;subst h1 h2;refine gab ?_;refine oP (Pure.indexRowE (o:=r.length) rfl rfl zo zo zo) rfl ?_;refine oP (pL (c:=u32 t) rfl (zMt (mem_append_right _ zm2)) (by rw[List.getElem?_append_right zo,hrl,sub_self];rfl)) rfl ?_;refine gab ?_;refine oP (Pure.rowSlice (n:=r.length) rfl (by exact qao zo) zo) rfl ?_;refine gad ?_;exact rO hjj rN zhr ⟨rfl,_,_,vo,HO,_::HD0,qoI (l:=r.reverse) (spare:=us [t]++spare) (by rw[length_reverse]) zo (by rw[zLa,qft];simp only[List.length_singleton];omega),hO,⟨vd,HD0,hm,rfl⟩,rfl⟩
 have n59:=zf c5;refine gan ?_;refine oC rfl (λhc=>?_) (λc6=>?_)
 ·obtain rfl:c=44:=by have:=zt hc;omega
  have hR2:rdM s=R:=hR;unfold rdM at hR2;refine gab ?_
  cases hi:s.inp with
  |nil=>
   rw[hi] at hR2;unfold qdG at hR2
   have e0:(us (k.mf s st false vc vo).inp).length=0:=by
    show(us s.inp).length=0;rw[hi];rfl
   refine oC rfl (λhc=>?_) (λ_=>?_);have:=zt hc;omega;refine gac ?_;refine oS (S.push (v:=4294967295) rfl zpr hDD hfew (λhlt HD' hD'=>?_) (λhlt HD' hD' e' he'=>?_)) rfl;rw[if_pos hlt] at hR2;subst hR2;refine gaa ?_;exact rO hjj rN zhr ⟨rfl,mk _ _ hD'⟩;rw[if_neg hlt] at hR2;subst hR2;refine gae ?_
   exact qad.panic (he'.trans hjj) zhr (mkT _ _ hD')
  |cons v r=>
   rw[hi] at hR2;unfold qdG at hR2;simp only at hR2
   have hli2:(us (k.mf s st false vc vo).inp).length=r.length+1:=by
    show(us s.inp).length=_;rw[hi];simp[us]
   refine oC rfl (λ_=>?_) (λhc=>?_);rotate_left;have:=zf hc;omega;refine gab ?_;refine oP (xR (el':=u32 v) (cs:=[u32 v]) rfl rfl zDd (by show(us s.inp)[0]? = _;rw[hi];rfl) rfl rfl) rfl ?_;refine gab ?_;refine oP (Pure.lsliceE (ms:=us r) rfl ⟨_,rfl⟩ rfl zo zo zo (qsm _) (by show List.drop _ (List.take ((us s.inp).length:Int).toNat (us s.inp))=us r;rw[hi];simp[us,List.take_of_length_le])) rfl ?_;refine gab ?_;have hD5:DH (k.mf { s with inp:=r } st false vc vo) s.data ((k.mb,.cells 89 ((k.mf { s with inp:=r } st false vc vo).cells vd))::HD0):=⟨vd,HD0,hm,rfl⟩;have mk5:∀ (d:List Nat) (HD':Heap),DH (k.mf { s with inp:=r } st false vc vo) d HD'->StH k { s with inp:=r,data:=d } st false (HD'++(k.memH s.mem::k.binH::(HC++HO))):=λd HD' h=>⟨vc,HC,vo,HO,HD',hC,hO,h,rfl⟩;refine oS (S.push (v:=v) rfl zpr hD5 hfew (λhlt HD' hD'=>?_) (λhlt HD' hD' e' he'=>?_)) rfl;rw[if_pos hlt] at hR2;subst hR2;refine gaa ?_;exact rO hjj rN zhr ⟨rfl,mk5 _ _ hD'⟩;rw[if_neg hlt] at hR2;subst hR2;refine gae ?_;exact qad.panic (he'.trans hjj) zhr (qyC (s:={ s with inp:=r,data:=s.data }) rfl (mk5 _ _ hD'))
 have n44:=zf c6;refine gan ?_;refine oC rfl (λhc=>?_) (λc7=>?_)
 ·obtain rfl:c=46:=by have:=zt hc;omega
  have hR2:wrM s=R:=hR;refine cD (m:=13) rfl [] ?_;refine zQ7 ?_;refine aT 5 rfl rfl (pM (lv:=.atom _) rfl) ?_;refine aL ?_ zhn;refine zl2 (i:=4) (j:=6) zk ?_ ?_
  ·refine lH rfl rfl (pL (c:=vo) rfl zm0 rfl) ?_;refine zl1 (i:=6) zk ?_;refine lW rfl (.inl rfl) rfl (S.pop rfl zpr hDD hfew (λv r hdr HD' hD'=>?_) (λhb HD' hD' e' he'=>?_));rotate_left
   have hRt:R=.trap s:=by
    rw[<-hR2];unfold wrM;rw[hb]
   subst hRt;refine gae ?_;exact qad.panic (he'.trans hjj) zhr (mkT _ _ hD')
   have hRr:R=.run { s with data:=r,out:=s.out++[UInt8.ofNat v] }:=by
    rw[<-hR2];unfold wrM;rw[hdr]
   subst hRr;obtain⟨vd2,HD3,hm2,rfl⟩:=hD'
   have e1:byts s.out++[int .u8 (IntKind.u8.wrap (v:Int))]=byts (s.out++[UInt8.ofNat v]):=by
    rw[qp7,qmi];rfl
   have hroom2:((byts s.out).length+[int .u8 (IntKind.u8.wrap (v:Int))].length) * 1<=140737488355328:=by
    simp only[qi4,zLc,zLn];omega
   exact zT10
  refine lW rfl (.inl rfl) rfl (S.pop rfl zpr hDD hfew (λv r hdr HD' hD'=>?_) (λhb HD' hD' e' he'=>?_));rotate_left
  have hRt:R=.trap s:=by
   rw[<-hR2];unfold wrM;rw[hb]
  subst hRt;refine gae ?_;exact qad.panic (he'.trans hjj) zhr (mkT _ _ hD')
  have hRr:R=.run { s with data:=r,out:=s.out++[UInt8.ofNat v] }:=by
   rw[<-hR2];unfold wrM;rw[hdr]
  subst hRr;obtain⟨vd2,HD3,hm2,rfl⟩:=hD'
  have e1:byts s.out++[int .u8 (IntKind.u8.wrap (v:Int))]=byts (s.out++[UInt8.ofNat v]):=by
   rw[qp7,qmi];rfl
  have hroom2:((byts s.out).length+[int .u8 (IntKind.u8.wrap (v:Int))].length) * 1<=140737488355328:=by
   simp only[qi4,zLc,zLn];omega
  refine zl2 (i:=4) (j:=7) zk ?_ ?_;refine lH rfl rfl (pL (c:=vo) rfl zm0 rfl) ?_;exact zT10;refine lH rfl rfl (Pure.cvt rfl) ?_;refine zl2 (i:=4) (j:=8) zk ?_ ?_;refine lH rfl rfl (pL (c:=vo) rfl zm0 rfl) ?_;refine zQ20 ?_;refine lW rfl (.inl rfl) rfl (sG (A:=_::(HD3++(k.memH s.mem::k.binH::HC))) qqy rfl hO rfl (λv hv=>by rw[List.mem_singleton.1 hv];rfl) rfl hroom2 λv' H' hacc'=>?_);rw[e1] at hacc';refine zQ4 ?_;exact rO hjj rN ⟨[],by rw[zLz];exact zPc.trans qqy.symm⟩ ⟨rfl,vc,HC,v',H',_::HD3,hC,hacc',⟨vd2,HD3,hm2,rfl⟩,rfl⟩;refine lW rfl (.inl rfl) rfl (sL (es:=[int .u8 (IntKind.u8.wrap (v:Int))]) [_] rfl (eC rfl rfl eN) rfl rfl rfl ?_);refine zl1 (i:=4) zk ?_;refine lH rfl rfl (pL (c:=vo) rfl zm0 rfl) ?_;refine zl1 (i:=9) zk ?_;refine lW rfl (.inl rfl) rfl (sG (A:=_::(HD3++(k.memH s.mem::k.binH::HC))) qqy rfl hO rfl (λv hv=>by rw[List.mem_singleton.1 hv];rfl) rfl hroom2 λv' H' hacc'=>?_);rw[e1] at hacc';refine zQ4 ?_;exact rO hjj rN ⟨[],by rw[zLz];exact zPc.trans qqy.symm⟩ ⟨rfl,vc,HC,v',H',_::HD3,hC,hacc',⟨vd2,HD3,hm2,rfl⟩,rfl⟩
 have n46:=zf c7;refine gan ?_;refine oC rfl (λhc=>?_) (λc8=>?_)
 ·obtain rfl:c=36:=by have:=zt hc;omega
  have hRr:R=.stop 0 s.out:=hR.symm;subst hRr;refine gab ?_;exact rO hjj rN zhr ⟨s,rfl,by rw[if_pos rfl];exact⟨rfl,vc,HC,vo,HO,_::HD0,hC,hO,⟨vd,HD0,hm,rfl⟩,rfl⟩⟩
 have n36:=zf c8
 have hsign:∀ r,(if c=43∨c=45∨c=42∨c=47∨c=37∨c=94∨c=60 then opM c s else MR.trap s)=r->R=r:=λr hr=>by
  rw[<-hR,<-hr];unfold exeM;rw[if_neg hnd',if_neg hw0,if_neg zo,if_neg zo,if_neg zo,if_neg zo,if_neg zo,if_neg zo,if_neg zo,if_neg zo]
 by_cases hop:c=43∨c=45∨c=42∨c=47∨c=37∨c=94∨c=60
 rotate_left;have hRt:=hsign _ (if_neg hop);subst hRt;refine gac ?_;refine oP (Pure.lookupMiss2 (zv:=.nilFunc) (kt:=30) (el:=113) (kd:=.u32) zk zk (λw=>(Go.zero_of_info (P:=Tryz.prog) (n:=1) zk).1 w) rfl rfl (zMt (mem_append_right _ zm1)) (qtG hop)) rfl ?_;refine gac ?_;refine oS (S.check rfl (λhb=>?_) (λhb e' he'=>?_)) rfl;cases hb;refine gae ?_;exact qad.panic (he'.trans hjj) zhr (mkT _ _ hDD);have hR2:=hsign _ (if_pos hop)
 have hval:∀ (a b:Nat) (r:List Nat),s.data=b::a::r->a<4294967296/\b<4294967296:=λa b r hd=>by
  have h1:=hok.data;rw[hd] at h1;exact⟨h1 a (zMo _ zMs),h1 b zMs⟩
 obtain⟨jj,f,hf1,hf2,_⟩:=qmV (B0:=B0) (w0:=w0) hop (a:=0) (b:=0) zDd zDd;refine gac ?_;refine oP (Pure.lookupHit2 (kt:=30) (el:=113) (kd:=.u32) zk zk rfl rfl (zMt (mem_append_right _ zm1)) hf1) rfl ?_;refine gac ?_;refine oS (S.check rfl (λhb=>?_) (λhb e' he'=>?_)) rfl;rotate_left;cases hb;refine gam ?_;refine oS (S.pop rfl zpr hDD hfew (λb r hdr HD' hD'=>?_) (λhb HD' hD' e' he'=>?_)) rfl;rotate_left
 have hRt:R=.trap s:=by
  rw[hR2];unfold opM;rw[hb]
 subst hRt;refine gae ?_;exact qad.panic (he'.trans hjj) zhr (mkT _ _ hD');have hrl:r.length<=256:=by rw[hdr,zLc] at hfew;omega
 refine gap ?_;refine oS (S.pop rfl zpr hD' hrl (λa r2 hdr2 HD2 hD2=>?_) (λhb HD2 hD2 e' he'=>?_)) rfl;rotate_left
 have hRt:R=.trap s:=by
  rw[hR2];unfold opM;rw[hdr,hb]
 subst hRt;refine gae ?_;exact qad.panic (he'.trans hjj) zhr (mkT _ _ hD2);have hrl2:r2.length<=256:=by rw[hdr2,zLc] at hrl;omega
 obtain⟨ha,hb4⟩:=hval a b r2 (by rw[hdr,hdr2]);obtain⟨jj2,f2,hf3,hf4,hspec⟩:=qmV (B0:=B0) (w0:=w0) hop ha hb4
 obtain rfl:f=f2:=by
  rw[hf1] at hf3;injection hf3 with h1;injection h1 with h1;injection h1 with h1 h2;injection h2 with h2;injection h2
 have hR3:(match binM c a b with
   |some v=>qdG v { s with data:=r2 }
   |none=>MR.trap s)=R:=by
  rw[hR2];unfold opM;rw[hdr,hdr2];rfl
 refine gap ?_;refine oS (S.callV (f:=f) (first:=#[]) (caps:=#[]) (H1:=HD2++(k.memH s.mem::k.binH::(HC++HO))) (F:=[]) [_,_] rfl rfl (by rw[zLz]) (hspec _) ?_ ?_) rfl;rintro v H' ⟨rfl,h⟩
 cases hbm:binM c a b with
 |none=>
  rw[hbm] at h
  cases h
 |some w=>
  rw[hbm] at h hR3;cases h;simp only at hR3;unfold qdG at hR3;simp only at hR3;rw[zLz];refine oS (S.push (v:=w) rfl zpr hD2 hrl2 (λhlt HD3 hD3=>?_) (λhlt HD3 hD3 e' he'=>?_)) rfl;rw[if_pos hlt] at hR3;subst hR3;refine gaa ?_;exact rO hjj rN zhr ⟨rfl,mk _ _ hD3⟩;rw[if_neg hlt] at hR3;subst hR3;refine gae ?_;exact qad.panic (he'.trans hjj) zhr (mkT _ _ hD3)
 rintro ch H' ⟨rfl,h⟩ e' he'
 cases hbm:binM c a b with
 |some w=>
  rw[hbm] at h
  cases h
 |none=>
  rw[hbm] at h hR3;cases h;simp only at hR3;subst hR3;rw[zLz];refine gae ?_;exact qad.panic (he'.trans hjj) zhr (mkT _ _ hD2)
end
open Inp (u32 Same retS qeG qd8)
theorem qsx(w:World):(zeroValue 116).run Tryz.prog w=.ok (.agg ([]:List Value).toArray) w:=
 (Go.zero_of_info (P:=Tryz.prog) (n:=0) zk).1 w
theorem qwI{c:Nat}{s s':MS}(h:exeM c s=.run s'):s'.out.length<=s.out.length+1:=by
 have push:∀ (v:Nat) (t:MS),qdG v t=.run s'->t.out=s.out->s'.out.length<=s.out.length+1:=λv t h ht=>by
  unfold qdG at h;split at h;injection h with h;subst h;show t.out.length<=_;rw[ht];omega;cases h
 unfold exeM at h;split at h;unfold ql6 at h;split at h;split at h;exact zT32;cases h;exact push _ _ h rfl;split at h;injection h with h;subst h;omega;split at h;unfold ldM at h;split at h;split at h;exact push _ _ h rfl;cases h;cases h;split at h;unfold stoM at h;split at h;split at h;exact zT32;cases h;cases h;split at h;unfold jmpM at h;split at h;exact zT32;cases h;split at h;unfold qne at h;split at h;split at h;exact zT32;cases h;cases h;split at h;unfold bakM at h;split at h;exact zT32;cases h;split at h;unfold rdM at h;split at h;exact push _ _ h rfl;exact push _ _ h rfl;split at h;unfold wrM at h;split at h;exact zT32;cases h;split at h;cases h;split at h;unfold opM at h;split at h;split at h;exact push _ _ h rfl;cases h;cases h;cases h
theorem QNo.exit{Q:Post}{e:Env}{H:Heap}{id:Nat}(h:Q (.exit id) e H):QNo Q (.exit id) e H:=h
attribute [local irreducible] qcc qaU qd4 qbq
section
variable{B0:Nat}{w0:World}
theorem qlW(b:Nat)(d:LV):qbq (KC B0 w0) 75 [ptr b 0] .returning [(b,.cells 23 [d])]
  (λu H=>u=.returning/\H=[(b,.cells 23 [d])]):=by
 refine qbq.intro Tryz.func75 rfl (n:=14) rfl rfl rfl ?_;refine zQ24 ?_;refine gag ?_;refine oP (Chk.Pure.assertNil qsx rfl) rfl ?_;refine gad ?_;refine oS (sA λb5=>?_) rfl;refine gab ?_;refine oC rfl (λhc=>?_) (λhc=>?_);cases hc;refine gab ?_;refine oC rfl (λhc=>?_) (λhc=>?_);cases hc;refine gaa ?_;exact⟨rfl,_,zhD zhr,rfl,rfl⟩
theorem qmc(b:Nat)(d:LV):qbq (KC B0 w0) 75 [ptr b 0] (.panicking qhc) [(b,.cells 23 [d])]
  (λu H=>settle u=.returning/\H=[(b,.cells 23 [int .i64 12])]):=by
 refine qbq.intro Tryz.func75 rfl (n:=14) rfl rfl rfl ?_;refine zQ24 ?_;refine gag ?_;refine oP (Pure.assertOk (vs:=[]) rfl) rfl ?_;refine gad ?_;refine oS (sA λb5=>?_) rfl;refine gab ?_;refine oC rfl (λhc=>?_) (λhc=>?_);refine gab ?_;exact⟨rfl,_,zhP pH zhn,rfl,rfl⟩;cases hc
def EndH(k:MK)(st:Nat)(o:Wd)(H:Heap):Prop:=∃ s stop,s.out=o/\StH k s st stop H
theorem qgd(k:MK){s:MS}{st limit:Nat}(hok:MsOk s)(hdig:s.digit=true->s.data≠[])(hst:st<=limit)(hlim:limit<=100000000)(hout:s.out.length<=st){H:Heap}(h:StH k s st false H) :
  LCalls (KC B0 w0) 35 [ptr k.mb 0,int .i64 (limit:Nat)] H (λr H'=>EndH k (st+(runM (limit-st) s).2.2) (runM (limit-st) s).2.1 H'/\r=.ret (int .i64 ((runM (limit-st) s).1:Nat))):=by
 generalize hR:runM (limit-st) s=R;refine LCalls.introD Tryz.func35 rfl (n:=59) rfl rfl rfl ?_;refine zQ32 ?_;refine gah ?_;refine oS (sA λb4=>?_) rfl;refine gaf ?_;refine zQ26 ?_;refine qcc.defer rfl rfl ?_;refine zQ41 ?_;refine qaU.seq ?_;refine qaU.block ?_
 refine qaU.loopI (λkk ls H'=>∃ (i:Nat) (s1:MS) (H1:Heap),i<=limit/\st<=i/\kk=limit-i/\ls=[(0,ptr k.mb 0),(1,int .i64 (limit:Nat)),(4,ptr b4 0)]/\H'=(b4,.cells 23 [int .i64 0])::H1/\StH k s1 i false H1/\MsOk s1/\(s1.digit=true->s1.data≠[])/\s1.out.length<=i/\(runM (limit-i) s1).1=R.1/\(runM (limit-i) s1).2.1=R.2.1/\i+(runM (limit-i) s1).2.2=st+R.2.2)
  ⟨_,_,_,⟨st,s,H,hst,zNr _,rfl,rfl,rfl,h,hok,hdig,hout,by rw[hR],by rw[hR],by rw[hR]⟩,⟨rfl,rfl,rfl,trivial⟩,zhR _⟩ ?_
 rintro kk ls H' ⟨i,s1,H1,hi,hsi,rfl,rfl,rfl,hS,hok1,hdig1,hout1,e1,e2,e3⟩ j hj;obtain⟨vc,HC,vo,HO,HD,hC,hO,hD,rfl⟩:=hS;have hDD:=hD;obtain⟨vd,HD0,hm,rfl⟩:=hD;rw[List.cons_append];have hmst:(k.mf s1 i false vc vo).st=i:=rfl;have hmpc:(k.mf s1 i false vc vo).pc=s1.pc:=rfl;refine zQ32 ?_;refine gab ?_;refine oC rfl (λhc=>?_) (λhc=>?_);rotate_left
 ·have hil:i=limit:=by have:=zf hc;omega
  subst hil;rw[sub_self,runM] at e1 e2 e3;simp only at e1 e2 e3;refine qag.exit ?_;refine QNo.exit ?_;refine gaa ?_;refine qaU.of ?_;refine gab ?_
  first|refine QNo.ret ?_|skip
  exact qb6.ret1 (vs:=[int .i64 13]) (H2:=[(b4,.cells 23 [int .i64 13])]) hj zpr (qlW b4 _)
   (rC (qc9.cellOne rfl zm0 rfl zsr) rN) (zhD zhr) ⟨⟨s1,false,e2,by rw[<-e3,Nat.add_zero];exact⟨vc,HC,vo,HO,_,hC,hO,hDD,rfl⟩⟩,by rw[<-e1];rfl⟩
 have hil:i<limit:=by have:=zt hc;omega
 have hn:limit-i=(limit-(i+1))+1:=by omega
 rw[hn,runM] at e1 e2 e3;refine qag.skip ?_
 first|refine QNo.normal ?_|skip
 refine qaU.block ?_;refine zQ32 ?_;refine gab ?_
 first|refine QNo.normal ?_|skip
 refine qaU.weak (H':=(b4,.cells 23 [int .i64 0])::(k.mb,.cells 89 ((k.mf s1 (i+1) false vc vo).cells vd))::(HD0++(k.memH s1.mem::k.binH::(HC++HO)))) ⟨[],by rw[zLz];exact List.Perm.swap _ _ _⟩ ?_;have hst1:StH k s1 (i+1) false (((k.mb,.cells 89 ((k.mf s1 (i+1) false vc vo).cells vd))::HD0)++(k.memH s1.mem::k.binH::(HC++HO))):=⟨vc,HC,vo,HO,_,hC,hO,⟨vd,HD0,hm,rfl⟩,rfl⟩;have hmpc2:(k.mf s1 (i+1) false vc vo).pc=s1.pc:=rfl;refine zQ26 ?_;refine qcc.step (S.check rfl (λhb=>?_) (λhb=>?_)) rfl;rotate_left
 ·have hpc:¬ s1.pc<262144:=by have:=zf hb;omega
  have hs:stepM s1=.stop 12 s1.out:=by
   unfold stepM;rw[if_neg hpc];rfl
  rw[hs] at e1 e2 e3;simp only at e1 e2 e3;refine gae ?_
  exact qb6.panic1 (H1:=[(b4,.cells 23 [int .i64 0])]) (vs:=[int .i64 12]) (H2:=[(b4,.cells 23 [int .i64 12])]) hj zpr (qmc b4 _)
   (rC (qc9.cellOne rfl zm0 rfl zsr) rN) (zhD zhr) ⟨⟨s1,false,e2,by rw[<-e3];exact hst1⟩,by rw[<-e1];rfl⟩
 have hpc:s1.pc<262144:=by have:=zt hb;omega
 refine zQ41 ?_;refine zQ32 ?_;refine zQ23 ?_;refine qP (Pure.indexRowE (o:=s1.pc) rfl rfl zo zo zo) rfl ?_;refine qP (pL (c:=u32 (s1.mem s1.pc)) rfl (zMt (zMt (mem_append_right _ zm0))) (qhl _ hpc)) rfl ?_;refine gad ?_
 first|refine QNo.normal ?_|skip
 refine zQ32 ?_;refine gab ?_;refine oP (Pure.addW rfl rfl) rfl ?_;refine gaa ?_
 have hw:IntKind.u32.wrap ((s1.pc:Int)+1)=((s1.pc+1:Nat):Int):=by
  rw[qeG];omega
 refine oS (sS (n:=1) (vs:=[u32 (s1.pc+1)]) (cs':=[_,_,_,_,_,_,_,_,_,_]) rfl zp1 (by show some [int .u32 _]=some [int .u32 _];rw[<-hw]) rfl rfl rfl rfl ?_) rfl;refine gaf ?_
 first|refine QNo.normal ?_|skip
 generalize hcd:s1.mem s1.pc=c at *;have hcl:c<4294967296:=by rw[<-hcd];exact hok1.mem _
 have hok2:MsOk { s1 with pc:=s1.pc+1 }:=⟨hok1.mem,by show s1.pc+1<_;omega,hok1.data,hok1.calls,hok1.inp,hok1.few,hok1.deep⟩;have hex:=qsc (B0:=B0) (w0:=w0) k (s:={ s1 with pc:=s1.pc+1 }) (st:=i+1) (c:=c) hok2 hcl hdig1 (by show s1.out.length<=_;omega) (H:=((k.mb,.cells 89 ((k.mf { s1 with pc:=s1.pc+1 } (i+1) false vc vo).cells vd))::HD0)++(k.memH s1.mem::k.binH::(HC++HO))) ⟨vc,HC,vo,HO,_,hC,hO,⟨vd,HD0,hm,rfl⟩,rfl⟩;refine zQ26 ?_;refine qcc.step (S.callH (F:=[(b4,.cells 23 [int .i64 0])]) [_,_] rfl (List.Perm.cons _ (List.perm_append_singleton _ _).symm) hex ?_ ?_) rfl
 ·intro v H2 hP
  cases hx:exeM c { s1 with pc:=s1.pc+1 } with
  |run s2=>
   rw[hx] at hP;obtain⟨hv,hS2⟩:=hP;cases hv
   have hs:stepM s1=.run { s2 with digit:=qca c }:=by
    unfold stepM;rw[if_pos hpc,hcd,hx]
   rw[hs] at e1 e2 e3;simp only at e1 e2 e3;have hok3:=qxQ hok2 hcl hx;have hlen:=qwI hx;have hdig3:qca c=true->s2.data≠[]:=qw6 hx
   have hlen2:s2.out.length<=i+1:=by
    have:s2.out.length<=s1.out.length+1:=hlen;omega
   obtain⟨vc2,HC2,vo2,HO2,HD2,hC2,hO2,hD2,rfl⟩:=hS2;obtain⟨vd2,HD3,hm2,rfl⟩:=hD2;refine zQ41 ?_;refine qaU.weak (H':=(b4,.cells 23 [int .i64 0])::(k.mb,.cells 89 ((k.mf s2 (i+1) false vc2 vo2).cells vd2))::(HD3++(k.memH s2.mem::k.binH::(HC2++HO2)))) ⟨[],by rw[zLz];exact zPc⟩ ?_;refine qaU.of ?_;refine gab ?_;refine oC rfl (λhc=>by cases hc) (λ_=>?_);refine gab ?_;have fin:∀ (dg:Bool),qca c=dg->StH k { s2 with digit:=dg } (i+1) false (((k.mb,.cells 89 ((k.mf { s2 with digit:=dg } (i+1) false vc2 vo2).cells vd2))::HD3)++(k.memH s2.mem::k.binH::(HC2++HO2)))/\MsOk { s2 with digit:=dg }/\(dg=true->s2.data≠[]):=λdg hd=>⟨⟨vc2,HC2,vo2,HO2,_,hC2,hO2,⟨vd2,HD3,hm2,rfl⟩,rfl⟩,⟨hok3.mem,hok3.pc,hok3.data,hok3.calls,hok3.inp,hok3.few,hok3.deep⟩,λh=>hdig3 (hd.trans h)⟩;refine oB 53 rfl (λh=>?_) (λh=>?_)
   ·have hdg:qca c=decide ((c:Int)<=57):=by
     have:=zt h;unfold qca;rw[decide_eq_true (by omega:48<=c),Bool.true_and,decide_eq_decide];omega
    obtain⟨f1,f2,f3⟩:=fin _ hdg;rw[hdg] at e1 e2 e3;refine gad ?_
    first|refine QNo.norm ?_|skip
    first|refine qam.normal ?_|skip
    first|refine qN ?_|skip
    exact⟨limit-(i+1),_,_,by omega,⟨i+1,_,_,by omega,by omega,rfl,rfl,rfl,f1,f2,f3,hlen2,e1,e2,by omega⟩,⟨rfl,rfl,rfl,trivial⟩,⟨[],by rw[zLz];exact List.Perm.swap _ _ _⟩,hj⟩
   have hdg:qca c=false:=by
    have:=zf h;unfold qca;rw[decide_eq_false (by omega:¬ 48<=c)];rfl
   obtain⟨f1,f2,f3⟩:=fin _ hdg;rw[hdg] at e1 e2 e3;refine gad ?_
   first|refine QNo.norm ?_|skip
   first|refine qam.normal ?_|skip
   first|refine qN ?_|skip
   exact⟨limit-(i+1),_,_,by omega,⟨i+1,_,_,by omega,by omega,rfl,rfl,rfl,f1,f2,f3,hlen2,e1,e2,by omega⟩,⟨rfl,rfl,rfl,trivial⟩,⟨[],by rw[zLz];exact List.Perm.swap _ _ _⟩,hj⟩
  |stop er o=>
   rw[hx] at hP;obtain⟨s2,ho,hP⟩:=hP
   by_cases he:er=0
   rotate_left;rw[if_neg he] at hP;obtain⟨_,hv,_⟩:=hP;cases hv;rw[if_pos he] at hP;obtain⟨hv,hS2⟩:=hP;cases hv;subst he
   have hs:stepM s1=.stop 0 o:=by
    unfold stepM;rw[if_pos hpc,hcd,hx]
   rw[hs] at e1 e2 e3;simp only at e1 e2 e3;have hend:EndH k (st+R.2.2) R.2.1 H2:=⟨s2,true,ho.trans e2,by rw[<-e3];exact hS2⟩;obtain⟨vc2,HC2,vo2,HO2,HD2,hC2,hO2,hD2,rfl⟩:=hS2;obtain⟨vd2,HD3,hm2,rfl⟩:=hD2;refine zQ41 ?_;refine qaU.weak (H':=(b4,.cells 23 [int .i64 0])::(k.mb,.cells 89 ((k.mf s2 (i+1) true vc2 vo2).cells vd2))::(HD3++(k.memH s2.mem::k.binH::(HC2++HO2)))) ⟨[],by rw[zLz];exact zPc⟩ ?_;refine qaU.of ?_;refine gab ?_;refine oC rfl (λ_=>?_) (λhc=>by cases hc);refine gab ?_
   first|refine QNo.ret ?_|skip
   first|refine qax.ret ?_|skip
   first|refine qam.ret ?_|skip
   first|refine qax.ret ?_|skip
   first|refine qam.ret ?_|skip
   first|refine qax.ret ?_|skip
   exact qb6.ret1 (vs:=[int .i64 0]) (H2:=[(b4,.cells 23 [int .i64 0])]) hj zpr (qlW b4 _)
    (rC (qc9.cellOne rfl zm0 rfl zsr) rN) (zhD zhr) ⟨hend,by rw[<-e1];rfl⟩
 intro ch H2 hP
 cases hx:exeM c { s1 with pc:=s1.pc+1 } with
 |run s2=>
  rw[hx] at hP;obtain⟨hv,_⟩:=hP
  cases hv
 |stop er o=>
  rw[hx] at hP;obtain⟨s2,ho,hP⟩:=hP
  by_cases he:er=0
  rw[if_pos he] at hP;obtain⟨hv,_⟩:=hP;cases hv;rw[if_neg he] at hP;obtain⟨h12,hv,hS2⟩:=hP;cases hv;subst h12
  have hs:stepM s1=.stop 12 o:=by
   unfold stepM;rw[if_pos hpc,hcd,hx]
  rw[hs] at e1 e2 e3;simp only at e1 e2 e3;refine gae ?_
  exact qb6.panic1 (H1:=[(b4,.cells 23 [int .i64 0])]) (vs:=[int .i64 12]) (H2:=[(b4,.cells 23 [int .i64 12])]) hj zPc (qmc b4 _)
   (rC (qc9.cellOne rfl zm0 rfl zsr) rN) (zhD zhr) ⟨⟨s2,false,ho.trans e2,by rw[<-e3];exact hS2⟩,by rw[<-e1];rfl⟩
end
def quZ(og:Nat)(code:Wd):LV:=.agg [int .i64 (og:Nat),str code]
def qt0(r:Nat×Wd×Nat):LV:=.agg [str r.2.1,int .i64 (r.1:Nat),int .i64 (r.2.2:Nat)]
theorem qsR{code:Wd}{og n:Nat}(h:n<code.length):(λi=>if i=og+n then (code[n]).toNat else qfp (code.take n) og i)=qfp (code.take (n+1)) og:=by
 funext i;unfold qfp;rw[List.getElem?_take,List.getElem?_take]
 by_cases h1:i=og+n
 subst h1;rw[if_pos rfl,if_pos zo,show og+n-og=n by omega,if_pos zo,List.getElem?_eq_getElem h];rw[if_neg h1]
 by_cases h2:og<=i
 rw[if_pos h2,if_pos h2]
 by_cases h3:i-og<n
 rw[if_pos h3,if_pos zo];rw[if_neg h3,if_neg zo];rw[if_neg h2,if_neg h2]
theorem qsG(og:Nat):qfp [] og=λ_=>0:=by
 funext i;unfold qfp;split;rw[List.getElem?_nil];rfl
theorem quK(code:Wd){og:Nat}{inp:List Nat}(h:og<262144)(hi:∀ v∈inp,v<4294967296):MsOk (qfn code og inp):=
 ⟨λi=>qxi code og i,by show og<_;omega,λv hv=>(not_mem_nil hv).elim,λv hv=>(not_mem_nil hv).elim,hi,by show 0<=_;omega,by show 0<=_;omega⟩
section
variable{B0:Nat}{w0:World}
@[reducible] def stR(k:MK)(og:Nat)(inp:List Nat):Nat×LObj:=(k.mb,.cells 89 ((k.mf (qfn [] og inp) 0 false (.slice none 0 0) qab).cells (.slice none 0 0)))
@[reducible] def ouR(b:Nat):Nat×LObj:=(b,.cells 25 [str [],int .i64 0,int .i64 0])
theorem qnL{code:Wd}{og:Nat}{inp:List Nat}{steps:Nat}(hog:og+code.length<=262144)(hog2:og<262144)(hin:∀ v∈inp,v<4294967296)(hs0:0<steps)(hs1:steps<=100000000) :
  LCalls (KC B0 w0) 21 [.list [quZ og code],int .i64 (og:Nat),.list (us inp),int .i64 (steps:Nat)] [] (Ret (qt0 (runM steps (qfn code og inp)))):=by
 have eX:quZ og code=.agg [int .i64 (og:Nat),str code]:=rfl;rw[eX];refine zcI Tryz.func21 rfl (n:=106) rfl rfl rfl ?_;refine gah ?_;refine oS (sA λb8=>?_) rfl;refine gab ?_
 refine oL (λkk ls H'=>∃ i:Nat,i<=1/\kk=1-i/\ls=[(0,.list [.agg [int .i64 (og:Nat),str code]]),(1,int .i64 (og:Nat)),(2,.list (us inp)),(3,int .i64 (steps:Nat)),(8,ptr b8 0),(9,bool true),(23,.list [.agg [int .i64 (og:Nat),str code]]),(24,int .i64 1),(25,int .i64 (i:Nat))]/\H'=[ouR b8])
  ⟨_,_,_,⟨0,by omega,rfl,rfl,rfl⟩,⟨rfl,rfl,rfl,rfl,rfl,qau (decide_eq_true zo),rfl,rfl,rfl,trivial⟩,zhR _⟩ ?_
 rintro kk ls H' ⟨i,hi,rfl,rfl,rfl⟩ j hj;refine gai ?_;refine oC rfl (λhc=>?_) (λhc=>?_);obtain rfl:i=0:=by have:=zt hc;omega
 refine gaj ?_;refine oP (xR (el':=.agg [int .i64 (og:Nat),str code]) (cs:=[_,_]) rfl rfl zDd rfl rfl rfl) rfl ?_;refine gad ?_;refine oS (sA λb11=>?_) rfl;refine gab ?_;exact⟨_,_,_,by omega,⟨1,by omega,rfl,rfl,rfl⟩,⟨rfl,rfl,rfl,rfl,rfl,qau (decide_eq_true zo),rfl,rfl,rfl,trivial⟩,zhD zhr,hj⟩;obtain rfl:i=1:=by have:=zf hc;omega
 clear hc hi;refine gab ?_;refine oC rfl (λhc=>by cases hc) (λ_=>?_);refine gab ?_;refine oC rfl (λhc=>?_) (λ_=>?_);have:=zt hc;omega;refine gab ?_;refine oC rfl (λhc=>?_) (λ_=>?_);have:=zt hc;omega
 have hwo:IntKind.u32.wrap (og:Int)=(og:Int):=by
  rw[qeG];omega
 refine gaa ?_;refine cM (A:=MK) (λk=>[(0,.list [.agg [int .i64 (og:Nat),str code]]),(3,int .i64 (steps:Nat)),(8,ptr b8 0),(12,ptr k.mb 0)]) (λk=>[stR k og inp,k.memH (λ_=>0),k.binH,ouR b8]) (λ_=>True) ?_ (λk _ j2 hj2=>?_);refine cD (m:=8) rfl [] ?_;refine aT 1 rfl rfl (pM (lv:=.atom _) rfl) ?_;refine aT 2 rfl rfl (Pure.cvt rfl) ?_;refine aT 3 rfl rfl (pM (lv:=.list _) rfl) ?_;rw[hwo];refine aL ?_ zhn;refine zl2 (i:=0) (j:=4) zk ?_ ?_;refine lW rfl (.inl rfl) rfl (S.makeRow (n:=262144) rfl rfl zDd zDd λmm=>?_);rw[qmN];refine zl1 (i:=4) zk ?_;refine lW rfl (.inl rfl) rfl (S.callH (H1:=[]) [] rfl zpr qho ?_ (by rintro ch H' ⟨_,h,_⟩;cases h));rintro lv H' ⟨bm,h,rfl⟩;cases h;exact zT18;refine lW rfl (.inl rfl) rfl (S.callH (H1:=[]) [] rfl zpr qho ?_ (by rintro ch H' ⟨_,h,_⟩;cases h));rintro lv H' ⟨bm,h,rfl⟩;cases h;refine zl1 (i:=0) zk ?_;refine lW rfl (.inl rfl) rfl (S.makeRow (n:=262144) rfl rfl zDd zDd λmm=>?_);rw[qmN];exact zT18;have hjj:j2.ds=[]:=hj2.trans hj;refine gac ?_
 refine oL (λkk ls H'=>∃ i:Nat,i<=1/\kk=1-i/\ls=[(3,int .i64 (steps:Nat)),(8,ptr b8 0),(12,ptr k.mb 0),(64,.list [.agg [int .i64 (og:Nat),str code]]),(65,int .i64 1),(66,int .i64 (i:Nat))]/\H'=[stR k og inp,k.memH (qfp (code.take (i * code.length)) og),k.binH,ouR b8])
  ⟨_,_,_,⟨0,by omega,rfl,rfl,rfl⟩,⟨rfl,rfl,rfl,rfl,rfl,rfl,trivial⟩,by rw[Nat.zero_mul,List.take_zero,qsG];exact zhR _⟩ ?_
 rintro kk ls H' ⟨i,hi,rfl,rfl,rfl⟩ j3 hj3;refine gai ?_;refine oC rfl (λhc=>?_) (λhc=>?_);obtain rfl:i=0:=by have:=zt hc;omega
 refine gaj ?_;refine oP (xR (el':=.agg [int .i64 (og:Nat),str code]) (cs:=[_,_]) rfl rfl zDd rfl rfl rfl) rfl ?_;refine gad ?_;refine oS (sA λb14=>?_) rfl;refine gab ?_
 refine oL (λkk ls H'=>∃ n:Nat,n<=code.length/\kk=code.length-n/\ls=[(3,int .i64 (steps:Nat)),(8,ptr b8 0),(12,ptr k.mb 0),(14,ptr b14 0),(64,.list [.agg [int .i64 (og:Nat),str code]]),(65,int .i64 1),(66,int .i64 0),(72,int .i64 code.length),(73,int .i64 (n:Nat))]/\H'=[stR k og inp,(b14,.cells 52 [int .i64 (og:Nat),str code]),k.memH (qfp (code.take n) og),k.binH,ouR b8])
  ⟨_,_,_,⟨0,zero_le _,rfl,rfl,rfl⟩,⟨rfl,rfl,rfl,rfl,rfl,rfl,rfl,rfl,rfl,trivial⟩,by rw[Nat.zero_mul];exact zhP zp1 zhr⟩ ?_
 rintro kk ls H' ⟨n,hn,rfl,rfl,rfl⟩ j4 hj4;refine gai ?_;refine oC rfl (λhd=>?_) (λhd=>?_);have hlt:n<code.length:=by have:=zt hd;omega
 have hget:code[((n:Nat):Int).toNat]? = some code[n]:=by rw[Int.toNat_natCast,List.getElem?_eq_getElem hlt]
 have hnx:=qsR (og:=og) hlt;generalize code[n]=ch at hget hnx
 have hw8:IntKind.u32.wrap ((ch.toNat:Nat):Int)=((ch.toNat:Nat):Int):=by
  rw[qeG];have:=ch.toNat_lt;omega
 refine gac ?_;refine cD (m:=15) rfl [stR k og inp,(b14,LObj.cells 52 [int .i64 (og:Nat),str code])] ?_;refine zQ9 ?_;refine aT 3 rfl rfl (pL (c:=.atom _) rfl zm0 rfl) ?_;refine aT 4 rfl rfl (pF rfl) ?_;refine aT 5 rfl rfl (pL (c:=.atom _) rfl zm1 rfl) ?_;refine aT 6 rfl rfl (pM (lv:=.atom _) rfl) ?_;refine aT 7 rfl rfl (Pure.add rfl rfl zo) ?_;refine aT 8 rfl rfl (pF rfl) ?_;refine aT 9 rfl rfl (pL (c:=.atom _) rfl zm1 rfl) ?_;refine aT 10 rfl rfl (pM (lv:=.atom _) rfl) ?_;refine aT 11 rfl rfl (pI (c:=ch) rfl rfl zo hget) ?_;refine aT 12 rfl rfl (Pure.cvt rfl) ?_;refine aT 13 rfl rfl (Pure.indexRowE (o:=og+n) rfl rfl zo zo zo) ?_;refine aL ?_ ⟨_,List.Perm.refl _⟩;refine zl1 (i:=14) zk ?_;refine lS (H1:=[k.memH (qfp (code.take n) og)]) (F:=[stR k og inp,(b14,LObj.cells 52 [int .i64 (og:Nat),str code]),k.binH,ouR b8]) rfl (.inl rfl) rfl zp2 ⟨_,List.Perm.refl _⟩ ?_;refine sS (n:=1) (vs:=[u32 ch.toNat]) (cs':=memL (qfp (code.take (n+1)) og)) rfl pH (congrArg (λz=>some [int .u32 z]) hw8) rfl (by rw[ble_eq,qhs];omega) rfl (by rw[<-hnx];exact qlR _ _ _) ?_;refine lD zk ?_;refine gar ?_;exact⟨code.length-(n+1),_,_,by omega,⟨n+1,by omega,rfl,rfl,rfl⟩,⟨rfl,rfl,rfl,rfl,rfl,rfl,rfl,rfl,qao zo,trivial⟩,zhP zp1 (zhP zp1 zhr),hj4⟩;obtain rfl:n=code.length:=by have:=zf hd;omega
 refine gac ?_;exact⟨0,_,_,by omega,⟨1,by omega,rfl,rfl,rfl⟩,⟨rfl,rfl,rfl,rfl,rfl,qao zo,trivial⟩,by rw[Nat.one_mul];exact zhP pH (zhD zhr),hj4.trans hj3⟩;obtain rfl:i=1:=by have:=zf hc;omega
 rw[Nat.one_mul,take_length];have hS:StH k (qfn code og inp) 0 false [stR k og inp,k.memH (qfp code og),k.binH]:=⟨.slice none 0 0,[],qab,[],[stR k og inp],MRow.nil,Acc.nil,⟨.slice none 0 0,[],MRow.nil,rfl⟩,rfl⟩;have hrun:=qgd (B0:=B0) (w0:=w0) k (quK code hog2 hin) (λh=>by cases h) (zero_le steps) hs1 (zNr 0) hS;rw[Nat.sub_zero] at hrun;generalize runM steps (qfn code og inp)=R at hrun ⊢;rw[Nat.zero_add] at hrun;refine gac ?_;refine oS (S.callH (H1:=[stR k og inp,k.memH (qfp code og),k.binH]) (F:=[ouR b8]) [_,_] rfl zpr hrun ?_ (by rintro ch H' ⟨_,h⟩;cases h)) rfl;rintro v H' ⟨hE,hv⟩;cases hv;obtain⟨s2,stop,ho,vc,HC,vo,HO,HD,hC,hO,hD,rfl⟩:=hE;obtain⟨vd,HD0,hm,rfl⟩:=hD;refine LOps.weak (H':=ouR b8::(k.mb,.cells 89 ((k.mf s2 R.2.2 stop vc vo).cells vd))::(HD0++(k.memH s2.mem::k.binH::(HC++HO)))) ⟨[],by rw[zLz];exact zPc⟩ ?_;refine gaa ?_;refine qag.tail 11 zk ?_;refine gau ?_;refine lP (pL (c:=vo) rfl zm1 rfl) rfl ?_;refine lP (Pure.bytesStrE (l:=s2.out) (by exact hO.elems)) rfl ?_;refine gad ?_;exact qac (hj3.trans hjj) (rC (rA (k:=3) rfl zm0 rfl zsr) rN) (by rw[ho];rfl)
end
end Go.Proofs.YtkihibnffkpnkaaGreatDoor.Mch
namespace Go.Proofs.YtkihibnffkpnkaaGreatDoor.Cmp
open Go.GL Go.RowKit Go.Stele
open Go.Lib (decDigits itoa join)
attribute [local irreducible] LOps qag qae LCalls Go.GL.Pure qax qam qad LQ LAny qaJ qan LS
section
variable{B0:Nat}{w0:World}
theorem qlq(hG:GW B0 w0)(hM:Asm.GM w0){p:Pr}{n:Nat}(h:SzP p n)(hn:n<=2000000)(o:Org)(o1:I64 o.code)(o2:I64 o.scalars)(o3:I64 o.arrays):LCalls (KC B0 w0) 37 [qgo p,qkv o] [] (Ret (qrn (cmpP p.vars (qbo p) p.funcs o))):=by
 rw[Inp.encPr_eq]
 exact qm9 hG hM _ _ _ o (zNt h.vars hn) (by rw[zLm];exact zNt h.arrays hn) (λa ha=>by
  obtain⟨x,hx,rfl⟩:=List.mem_map.1 ha;have:=h.size x hx;constructor;show(-9223372036854775808:Int)<=(x.size:Int);omega;show(x.size:Int)<9223372036854775808
  omega) (zNt h.funcs hn) h.nums o1 o2 o3
def defO:Org:=⟨10000,0,100000⟩
theorem qfj:LCalls (KC B0 w0) 23 [] [] (Ret (qkv defO)):=by
 refine zcI Tryz.func23 rfl (n:=2) rfl rfl rfl ?_;refine gab ?_;refine oS (sA λb=>?_) rfl;refine gab ?_;exact qac rfl (rC (rA rfl zm0 rfl zsr) rN) rfl
end
end Go.Proofs.YtkihibnffkpnkaaGreatDoor.Cmp
namespace Go.Proofs.YtkihibnffkpnkaaGreatDoor.Lb
open Go.GL Go.RowKit Go.Stele
noncomputable def txt(f:Go.Func):List UInt8:=match f.body with
 |some (.seq _ (.seq (.region _ ops _) _))=>(match ops.toList with
  |o::_=>(match o.op with
   |.assign (.const (.string s))=>s.data.toList
   |_=>[])
  |[]=>[])
 |_=>[]
noncomputable def tGf:List UInt8:=(txt Go.Proofs.Tryz.f41)
noncomputable def tCrc:List UInt8:=(txt Go.Proofs.Tryz.f42)
noncomputable def tViterbi:List UInt8:=(txt Go.Proofs.Tryz.f89)++(txt Go.Proofs.Tryz.f90)
noncomputable def tRs:List UInt8:=(txt Go.Proofs.Tryz.f91)++(txt Go.Proofs.Tryz.f92)
noncomputable def tFrame:List UInt8:=(txt Go.Proofs.Tryz.f93)++(txt Go.Proofs.Tryz.f94)++(txt Go.Proofs.Tryz.f95)
noncomputable def tErasure:List UInt8:=(txt Go.Proofs.Tryz.f46)
noncomputable def tBlake:List UInt8:=(txt Go.Proofs.Tryz.f96)++(txt Go.Proofs.Tryz.f97)++(txt Go.Proofs.Tryz.f98)
noncomputable def tReader:List UInt8:=(txt Go.Proofs.Tryz.f99)++(txt Go.Proofs.Tryz.f100)++(txt Go.Proofs.Tryz.f101)++(txt Go.Proofs.Tryz.f102)
noncomputable def tCrcmain:List UInt8:=(txt Go.Proofs.Tryz.f49)
noncomputable def tViterbimain:List UInt8:=(txt Go.Proofs.Tryz.f50)
noncomputable def tRsmain:List UInt8:=(txt Go.Proofs.Tryz.f51)
noncomputable def tFramemain:List UInt8:=(txt Go.Proofs.Tryz.f52)
noncomputable def tErasuremain:List UInt8:=(txt Go.Proofs.Tryz.f53)
noncomputable def tBlakemain:List UInt8:=(txt Go.Proofs.Tryz.f54)
noncomputable def tRender:List UInt8:=(txt Go.Proofs.Tryz.f103)++(txt Go.Proofs.Tryz.f104)++(txt Go.Proofs.Tryz.f105)++(txt Go.Proofs.Tryz.f106)
attribute [local irreducible] LOps qag qae LCalls Go.GL.Pure qax qam qad LQ LAny qaJ qan LS
section
variable{B0:Nat}{w0:World}
theorem srcGf:LCalls (KC B0 w0) 41 [] [] (Ret (str tGf)):=by
 refine zcI Tryz.func41 rfl (n:=1) rfl rfl rfl ?_;refine gat ?_;exact qac rfl (zra rfl) rfl
theorem qxY:LCalls (KC B0 w0) 42 [] [] (Ret (str tCrc)):=by
 refine zcI Tryz.func42 rfl (n:=1) rfl rfl rfl ?_;refine gat ?_;exact qac rfl (zra rfl) rfl
theorem qoX:LCalls (KC B0 w0) 89 [] [] (Ret (str (txt Go.Proofs.Tryz.f89))):=by
 refine zcI Tryz.func89 rfl (n:=1) rfl rfl rfl ?_;refine gat ?_;exact qac rfl (zra rfl) rfl
theorem qn6:LCalls (KC B0 w0) 90 [] [] (Ret (str (txt Go.Proofs.Tryz.f90))):=by
 refine zcI Tryz.func90 rfl (n:=1) rfl rfl rfl ?_;refine gat ?_;exact qac rfl (zra rfl) rfl
theorem qrd:LCalls (KC B0 w0) 43 [] [] (Ret (str tViterbi)):=by
 have h1:=qoX (B0:=B0) (w0:=w0);have h2:=qn6 (B0:=B0) (w0:=w0);have n1:(txt Go.Proofs.Tryz.f89).length<=10000:=zt zk;have n2:(txt Go.Proofs.Tryz.f90).length<=10000:=zt zk;unfold tViterbi;generalize (txt Go.Proofs.Tryz.f89)=x1 at h1 n1 ⊢;generalize (txt Go.Proofs.Tryz.f90)=x2 at h2 n2 ⊢;refine zcI Tryz.func43 rfl (n:=4) rfl rfl rfl ?_;refine gaq ?_;refine oS (sF [] rfl h1 ?_) rfl;refine oS (sF [] rfl h2 ?_) rfl;refine zQ27 ?_;exact qac rfl (zra rfl) rfl
theorem qys:LCalls (KC B0 w0) 91 [] [] (Ret (str (txt Go.Proofs.Tryz.f91))):=by
 refine zcI Tryz.func91 rfl (n:=1) rfl rfl rfl ?_;refine gat ?_;exact qac rfl (zra rfl) rfl
theorem qyu:LCalls (KC B0 w0) 92 [] [] (Ret (str (txt Go.Proofs.Tryz.f92))):=by
 refine zcI Tryz.func92 rfl (n:=1) rfl rfl rfl ?_;refine gat ?_;exact qac rfl (zra rfl) rfl
theorem srcRs:LCalls (KC B0 w0) 44 [] [] (Ret (str tRs)):=by
 have h1:=qys (B0:=B0) (w0:=w0);have h2:=qyu (B0:=B0) (w0:=w0);have n1:(txt Go.Proofs.Tryz.f91).length<=10000:=zt zk;have n2:(txt Go.Proofs.Tryz.f92).length<=10000:=zt zk;unfold tRs;generalize (txt Go.Proofs.Tryz.f91)=x1 at h1 n1 ⊢;generalize (txt Go.Proofs.Tryz.f92)=x2 at h2 n2 ⊢;refine zcI Tryz.func44 rfl (n:=4) rfl rfl rfl ?_;refine gaq ?_;refine oS (sF [] rfl h1 ?_) rfl;refine oS (sF [] rfl h2 ?_) rfl;refine zQ27 ?_;exact qac rfl (zra rfl) rfl
theorem qsF:LCalls (KC B0 w0) 93 [] [] (Ret (str (txt Go.Proofs.Tryz.f93))):=by
 refine zcI Tryz.func93 rfl (n:=1) rfl rfl rfl ?_;refine gat ?_;exact qac rfl (zra rfl) rfl
theorem qrY:LCalls (KC B0 w0) 94 [] [] (Ret (str (txt Go.Proofs.Tryz.f94))):=by
 refine zcI Tryz.func94 rfl (n:=1) rfl rfl rfl ?_;refine gat ?_;exact qac rfl (zra rfl) rfl
theorem qrN:LCalls (KC B0 w0) 95 [] [] (Ret (str (txt Go.Proofs.Tryz.f95))):=by
 refine zcI Tryz.func95 rfl (n:=1) rfl rfl rfl ?_;refine gat ?_;exact qac rfl (zra rfl) rfl
theorem qu8:LCalls (KC B0 w0) 45 [] [] (Ret (str tFrame)):=by
 have h1:=qsF (B0:=B0) (w0:=w0);have h2:=qrY (B0:=B0) (w0:=w0);have h3:=qrN (B0:=B0) (w0:=w0);have n1:(txt Go.Proofs.Tryz.f93).length<=10000:=zt zk;have n2:(txt Go.Proofs.Tryz.f94).length<=10000:=zt zk;have n3:(txt Go.Proofs.Tryz.f95).length<=10000:=zt zk;unfold tFrame;generalize (txt Go.Proofs.Tryz.f93)=x1 at h1 n1 ⊢;generalize (txt Go.Proofs.Tryz.f94)=x2 at h2 n2 ⊢;generalize (txt Go.Proofs.Tryz.f95)=x3 at h3 n3 ⊢;refine zcI Tryz.func45 rfl (n:=6) rfl rfl rfl ?_;refine zQ6 ?_;refine gaf ?_;exact qac rfl (zra rfl) rfl
theorem qq1:LCalls (KC B0 w0) 46 [] [] (Ret (str tErasure)):=by
 refine zcI Tryz.func46 rfl (n:=1) rfl rfl rfl ?_;refine gat ?_;exact qac rfl (zra rfl) rfl
theorem qsj:LCalls (KC B0 w0) 96 [] [] (Ret (str (txt Go.Proofs.Tryz.f96))):=by
 refine zcI Tryz.func96 rfl (n:=1) rfl rfl rfl ?_;refine gat ?_;exact qac rfl (zra rfl) rfl
theorem qtv:LCalls (KC B0 w0) 97 [] [] (Ret (str (txt Go.Proofs.Tryz.f97))):=by
 refine zcI Tryz.func97 rfl (n:=1) rfl rfl rfl ?_;refine gat ?_;exact qac rfl (zra rfl) rfl
theorem qsS:LCalls (KC B0 w0) 98 [] [] (Ret (str (txt Go.Proofs.Tryz.f98))):=by
 refine zcI Tryz.func98 rfl (n:=1) rfl rfl rfl ?_;refine gat ?_;exact qac rfl (zra rfl) rfl
theorem quE:LCalls (KC B0 w0) 47 [] [] (Ret (str tBlake)):=by
 have h1:=qsj (B0:=B0) (w0:=w0);have h2:=qtv (B0:=B0) (w0:=w0);have h3:=qsS (B0:=B0) (w0:=w0);have n1:(txt Go.Proofs.Tryz.f96).length<=10000:=zt zk;have n2:(txt Go.Proofs.Tryz.f97).length<=10000:=zt zk;have n3:(txt Go.Proofs.Tryz.f98).length<=10000:=zt zk;unfold tBlake;generalize (txt Go.Proofs.Tryz.f96)=x1 at h1 n1 ⊢;generalize (txt Go.Proofs.Tryz.f97)=x2 at h2 n2 ⊢;generalize (txt Go.Proofs.Tryz.f98)=x3 at h3 n3 ⊢;refine zcI Tryz.func47 rfl (n:=6) rfl rfl rfl ?_;refine zQ6 ?_;refine gaf ?_;exact qac rfl (zra rfl) rfl
theorem qq6:LCalls (KC B0 w0) 99 [] [] (Ret (str (txt Go.Proofs.Tryz.f99))):=by
 refine zcI Tryz.func99 rfl (n:=1) rfl rfl rfl ?_;refine gat ?_;exact qac rfl (zra rfl) rfl
theorem qrt:LCalls (KC B0 w0) 100 [] [] (Ret (str (txt Go.Proofs.Tryz.f100))):=by
 refine zcI Tryz.func100 rfl (n:=1) rfl rfl rfl ?_;refine gat ?_;exact qac rfl (zra rfl) rfl
theorem qqQ:LCalls (KC B0 w0) 101 [] [] (Ret (str (txt Go.Proofs.Tryz.f101))):=by
 refine zcI Tryz.func101 rfl (n:=1) rfl rfl rfl ?_;refine gat ?_;exact qac rfl (zra rfl) rfl
theorem qqY:LCalls (KC B0 w0) 102 [] [] (Ret (str (txt Go.Proofs.Tryz.f102))):=by
 refine zcI Tryz.func102 rfl (n:=1) rfl rfl rfl ?_;refine gat ?_;exact qac rfl (zra rfl) rfl
theorem qrJ:LCalls (KC B0 w0) 48 [] [] (Ret (str tReader)):=by
 have h1:=qq6 (B0:=B0) (w0:=w0);have h2:=qrt (B0:=B0) (w0:=w0);have h3:=qqQ (B0:=B0) (w0:=w0);have h4:=qqY (B0:=B0) (w0:=w0);have n1:(txt Go.Proofs.Tryz.f99).length<=10000:=zt zk;have n2:(txt Go.Proofs.Tryz.f100).length<=10000:=zt zk;have n3:(txt Go.Proofs.Tryz.f101).length<=10000:=zt zk;have n4:(txt Go.Proofs.Tryz.f102).length<=10000:=zt zk;unfold tReader;generalize (txt Go.Proofs.Tryz.f99)=x1 at h1 n1 ⊢;generalize (txt Go.Proofs.Tryz.f100)=x2 at h2 n2 ⊢;generalize (txt Go.Proofs.Tryz.f101)=x3 at h3 n3 ⊢;generalize (txt Go.Proofs.Tryz.f102)=x4 at h4 n4 ⊢;refine zcI Tryz.func48 rfl (n:=8) rfl rfl rfl ?_;refine zQ6 ?_;refine oS (sF [] rfl h4 ?_) rfl;refine zQ27 ?_;exact qac rfl (zra rfl) rfl
theorem qre:LCalls (KC B0 w0) 49 [] [] (Ret (str tCrcmain)):=by
 refine zcI Tryz.func49 rfl (n:=1) rfl rfl rfl ?_;refine gat ?_;exact qac rfl (zra rfl) rfl
theorem qkE:LCalls (KC B0 w0) 50 [] [] (Ret (str tViterbimain)):=by
 refine zcI Tryz.func50 rfl (n:=1) rfl rfl rfl ?_;refine gat ?_;exact qac rfl (zra rfl) rfl
theorem qsi:LCalls (KC B0 w0) 51 [] [] (Ret (str tRsmain)):=by
 refine zcI Tryz.func51 rfl (n:=1) rfl rfl rfl ?_;refine gat ?_;exact qac rfl (zra rfl) rfl
theorem qny:LCalls (KC B0 w0) 52 [] [] (Ret (str tFramemain)):=by
 refine zcI Tryz.func52 rfl (n:=1) rfl rfl rfl ?_;refine gat ?_;exact qac rfl (zra rfl) rfl
theorem qkF:LCalls (KC B0 w0) 53 [] [] (Ret (str tErasuremain)):=by
 refine zcI Tryz.func53 rfl (n:=1) rfl rfl rfl ?_;refine gat ?_;exact qac rfl (zra rfl) rfl
theorem qmH:LCalls (KC B0 w0) 54 [] [] (Ret (str tBlakemain)):=by
 refine zcI Tryz.func54 rfl (n:=1) rfl rfl rfl ?_;refine gat ?_;exact qac rfl (zra rfl) rfl
theorem qq9:LCalls (KC B0 w0) 103 [] [] (Ret (str (txt Go.Proofs.Tryz.f103))):=by
 refine zcI Tryz.func103 rfl (n:=1) rfl rfl rfl ?_;refine gat ?_;exact qac rfl (zra rfl) rfl
theorem qrs:LCalls (KC B0 w0) 104 [] [] (Ret (str (txt Go.Proofs.Tryz.f104))):=by
 refine zcI Tryz.func104 rfl (n:=1) rfl rfl rfl ?_;refine gat ?_;exact qac rfl (zra rfl) rfl
theorem qqu:LCalls (KC B0 w0) 105 [] [] (Ret (str (txt Go.Proofs.Tryz.f105))):=by
 refine zcI Tryz.func105 rfl (n:=1) rfl rfl rfl ?_;refine gat ?_;exact qac rfl (zra rfl) rfl
theorem qqO:LCalls (KC B0 w0) 106 [] [] (Ret (str (txt Go.Proofs.Tryz.f106))):=by
 refine zcI Tryz.func106 rfl (n:=1) rfl rfl rfl ?_;refine gat ?_;exact qac rfl (zra rfl) rfl
theorem qrS:LCalls (KC B0 w0) 55 [] [] (Ret (str tRender)):=by
 have h1:=qq9 (B0:=B0) (w0:=w0);have h2:=qrs (B0:=B0) (w0:=w0);have h3:=qqu (B0:=B0) (w0:=w0);have h4:=qqO (B0:=B0) (w0:=w0);have n1:(txt Go.Proofs.Tryz.f103).length<=10000:=zt zk;have n2:(txt Go.Proofs.Tryz.f104).length<=10000:=zt zk;have n3:(txt Go.Proofs.Tryz.f105).length<=10000:=zt zk;have n4:(txt Go.Proofs.Tryz.f106).length<=10000:=zt zk;unfold tRender;generalize (txt Go.Proofs.Tryz.f103)=x1 at h1 n1 ⊢;generalize (txt Go.Proofs.Tryz.f104)=x2 at h2 n2 ⊢;generalize (txt Go.Proofs.Tryz.f105)=x3 at h3 n3 ⊢;generalize (txt Go.Proofs.Tryz.f106)=x4 at h4 n4 ⊢;refine zcI Tryz.func55 rfl (n:=8) rfl rfl rfl ?_;refine zQ6 ?_;refine oS (sF [] rfl h4 ?_) rfl;refine zQ27 ?_;exact qac rfl (zra rfl) rfl
end
noncomputable def mods:List (List UInt8×Nat×List UInt8):=[([103,102],41,tGf),([99,114,99],42,tCrc),([118,105,116,101,114,98,105],43,tViterbi),([114,115],44,tRs),([102,114,97,109,101],45,tFrame),([101,114,97,115,117,114,101],46,tErasure),([98,108,97,107,101],47,tBlake),([114,101,97,100,101,114],48,tReader),([99,114,99,109,97,105,110],49,tCrcmain),([118,105,116,101,114,98,105,109,97,105,110],50,tViterbimain),([114,115,109,97,105,110],51,tRsmain),([102,114,97,109,101,109,97,105,110],52,tFramemain),([101,114,97,115,117,114,101,109,97,105,110],53,tErasuremain),([98,108,97,107,101,109,97,105,110],54,tBlakemain),([114,101,110,100,101,114],55,tRender)]
def qeY(m:List UInt8×Nat×List UInt8):LV:=.agg [str m.1,.atom (.func (.func m.2.1) #[] #[])]
section
variable{B0:Nat}{w0:World}
theorem qiC:LCalls (KC B0 w0) 25 [] [] (Ret (.list (mods.map qeY))):=by
 refine zcI Tryz.func25 rfl (n:=17) rfl rfl rfl ?_;refine gab ?_;refine oS (sL (s:=2) [_,_,_,_,_,_,_,_,_,_,_,_,_,_,_] rfl (eC rfl rfl (eC rfl rfl (eC rfl rfl (eC rfl rfl (eC rfl rfl (eC rfl rfl (eC rfl rfl (eC rfl rfl (eC rfl rfl (eC rfl rfl (eC rfl rfl (eC rfl rfl (eC rfl rfl (eC rfl rfl (eC rfl rfl eN))))))))))))))) rfl rfl rfl ?_) rfl;refine gad ?_;exact qac rfl (rC (rT (v:=.list _) rfl zsr) rN) rfl
end
open Inp (u32 Same retS)
abbrev Md:=List UInt8×Nat×List UInt8
noncomputable def modP(name:List UInt8):List UInt8×Int:=match mods.find? λm=>decide (m.1=name) with
 |some m=>(m.2.2,0)
 |none=>([],9)
noncomputable def srcP:List (List UInt8)->List UInt8->List UInt8×Int
 |[],acc=>(acc,0)
 |n::l,acc=>if (modP n).2≠0 then ([],(modP n).2) else srcP l (acc++(modP n).1)
@[reducible] def nmH(b:Nat)(name:List UInt8):Nat×LObj:=(b,.cells 9 [str name])
@[reducible] def cloV(b:Nat):LV:=.atom (.func (.func 27) #[] #[.pointer (some ⟨b,0,none⟩)])
theorem qpI:mods.length=15:=rfl
theorem qwg:∀ m∈mods,m.2.2.length<=10000:=by
 have h:(mods.all λm=>decide (m.2.2.length<=10000))=true:=by kernel_rfl
 intro m hm;exact zt (List.all_eq_true.1 h m hm)
theorem qlD(n:List UInt8):(modP n).1.length<=10000:=by
 unfold modP;split
 rename_i m h
 exact qwg m (List.mem_of_find?_eq_some h);exact zero_le _
theorem qti:∀ (l:List Md) (name:List UInt8) (i:Nat) (h:i<l.length),(∀ j (hj:j<i),(l[j]'zo).1≠name)->l[i].1=name->(l.find? λm=>decide (m.1=name))=some l[i]
 |[],name,i,h,_,_=>by cases h
 |m::l,name,0,h,_,hn=>by
  have hn:m.1=name:=hn;rw[List.find?_cons,decide_eq_true hn]
  rfl
 |m::l,name,i+1,h,hb,hn=>by
  have h0:m.1≠name:=hb 0 zo;rw[List.find?_cons,decide_eq_false h0];exact qti l name i (by simpa using h) (λj hj=>hb (j+1) zo) hn
section
variable{B0:Nat}{w0:World}
theorem quv(m:Md)(name:List UInt8)(b:Nat):LCalls (KC B0 w0) 27 [qeY m,ptr b 0] [nmH b name] (Same (bool (decide (m.1=name))) [nmH b name]):=by
 obtain⟨n,f,t⟩:=m;unfold qeY;refine zcI Tryz.func27 rfl (n:=8) rfl rfl rfl ?_;refine gah ?_;refine oS (sB rfl λb2=>?_) rfl;refine gab ?_;exact retS rfl (zra rfl) rfl (zhD zhr)
theorem qyh:∀ m∈mods,LCalls (KC B0 w0) m.2.1 [] [] (Ret (str m.2.2)):=by
 intro m hm;simp only[mods,zMi,not_mem_nil,or_false] at hm;rcases hm with rfl|rfl|rfl|rfl|rfl|rfl|rfl|rfl|rfl|rfl|rfl|rfl|rfl|rfl|rfl;exact srcGf;exact qxY;exact qrd;exact srcRs;exact qu8;exact qq1;exact quE;exact qrJ;exact qre;exact qkE;exact qsi;exact qny;exact qkF;exact qmH;exact qrS
theorem qyd:∀ m∈mods,TEnter (KC B0 w0).P m.2.1:=by
 intro m hm;simp only[mods,zMi,not_mem_nil,or_false] at hm;rcases hm with rfl|rfl|rfl|rfl|rfl|rfl|rfl|rfl|rfl|rfl|rfl|rfl|rfl|rfl|rfl <;> (show TEnter Tryz.prog _;infer_instance)
theorem qih(ms:List Md)(hml:ms.length=15)(name:List UInt8)(b:Nat):LCalls (KC B0 w0) 26 [.list (ms.map qeY),cloV b] [nmH b name]
  (λr H'=>H'=[nmH b name]/\((r=.ret (int .i64 (-1))/\(ms.find? λm=>decide (m.1=name))=none)∨∃ i,∃ h:i<ms.length,r=.ret (int .i64 (i:Nat))/\(ms.find? λm=>decide (m.1=name))=some ms[i])):=by
 have hla:(ms.map qeY).length=ms.length:=zLm _
 have hfn:(∀ j (hj:j<ms.length),(ms[j]'hj).1≠name)->(ms.find? λm=>decide (m.1=name))=none:=λh=>List.find?_eq_none.2 λm hm=>by
  obtain⟨j,hj,rfl⟩:=List.mem_iff_getElem.1 hm;simpa using h j hj
 refine zcI Tryz.func26 rfl (n:=19) rfl rfl rfl ?_;refine gac ?_
 refine oL (λk sl H=>∃ i:Nat,i<=ms.length/\k=ms.length-i/\(∀ j (hj:j<i) (hl:j<ms.length),(ms[j]'hl).1≠name)/\sl=[(0,.list (ms.map qeY)),(1,cloV b),(7,int .i64 ms.length),(8,int .i64 i)]/\H=[nmH b name])
  ⟨_,_,_,⟨0,zero_le _,rfl,λj hj=>by omega,rfl,rfl⟩,⟨rfl,rfl,qao zo,rfl,trivial⟩,zhR _⟩ ?_
 rintro k sl H ⟨i,hi,rfl,hb,rfl,rfl⟩ j1 hj1;refine gai ?_;refine oC rfl (λhc=>?_) (λhc=>?_)
 ·have hlt:i<ms.length:=by have:=zt hc;omega
  have hg:(ms.map qeY)[((i:Nat):Int).toNat]? = some (qeY ms[i]):=qa5 _ _ _ hlt;have hcl:=quv (B0:=B0) (w0:=w0) ms[i] name b;have hfs:=qti ms name i hlt (λj hj=>hb j hj zo);refine gac ?_;refine oP (xR (el':=qeY ms[i]) (cs:=[_,_]) rfl rfl zo hg rfl rfl) rfl ?_;refine gad ?_;refine oS (S.callV (f:=27) (first:=#[]) (caps:=#[.pointer (some ⟨b,0,none⟩)]) (H1:=[nmH b name]) (F:=[]) [_] rfl rfl (by simp) hcl ?_ ?_) rfl;rotate_left;rintro ch H' ⟨h,_⟩;cases h;rintro v H' ⟨h,rfl⟩;cases h;refine gaf ?_;refine oC rfl (λh=>?_) (λh=>?_);refine gac ?_;exact rR hj1 (zra rfl) zhr ⟨rfl,.inr ⟨i,hlt,rfl,hfs (zt h)⟩⟩;have hne:=zf h;refine gac ?_
  exact⟨_,_,_,by omega,⟨i+1,by omega,rfl,λj hj hl=>by
   by_cases hji:j<i
   exact hb j hji hl;obtain rfl:j=i:=by omega
   exact hne,rfl,rfl⟩,⟨rfl,rfl,rfl,qao zo,trivial⟩,zhR _,hj1⟩
 have hi':i=ms.length:=by have:=zf hc;omega
 subst hi';refine gac ?_;exact rR hj1 (zra rfl) zhr ⟨rfl,.inl ⟨rfl,hfn λj hj=>hb j hj hj⟩⟩
theorem qo1(ms:List Md)(hml:ms.length=15)(hmo:LCalls (KC B0 w0) 25 [] [] (Ret (.list (ms.map qeY))))(hmf:∀ m∈ms,LCalls (KC B0 w0) m.2.1 [] [] (Ret (str m.2.2)))(hmt:∀ m∈ms,TEnter (KC B0 w0).P m.2.1)(name:List UInt8) :
  LCalls (KC B0 w0) 14 [str name] [] (Ret (match ms.find? λm=>decide (m.1=name) with
   |some m=>.tuple [str m.2.2,int .i64 0]
   |none=>.tuple [str [],int .i64 9])):=by
 have hix:=λb=>qih (B0:=B0) (w0:=w0) ms hml name b;have hla:(ms.map qeY).length=ms.length:=zLm _;generalize (ms.find? λm=>decide (m.1=name))=MP at hix ⊢;refine zcI Tryz.func14 rfl (n:=18) rfl rfl rfl ?_;refine gah ?_;refine oS (sB rfl λb1=>?_) rfl;refine gaq ?_;refine oS (sF [] rfl hmo ?_) rfl;refine gab ?_;refine oS (S.callH (H1:=[nmH b1 name]) (F:=[]) [_,_] rfl zpr (hix b1) (λv H' h=>?_) (λch H' h=>?_)) rfl;rotate_left;obtain⟨_,⟨h,_⟩|⟨_,_,h,_⟩⟩:=h <;> cases h;obtain⟨rfl,⟨h,hm⟩|⟨i,hi,h,hm⟩⟩:=h;cases h;subst hm;refine gac ?_;refine oC rfl (λ_=>?_) (λh=>by cases h);refine gao ?_;exact qac rfl (rC (zrt rfl) (zra rfl)) rfl;cases h;subst hm;have hg:(ms.map qeY)[((i:Nat):Int).toNat]? = some (qeY ms[i]):=qa5 _ _ _ hi
 haveI:=hmt ms[i] (List.getElem_mem hi)
 have hf:=hmf ms[i] (List.getElem_mem hi);refine gac ?_;refine oC rfl (λh=>?_) (λ_=>?_);have:=zt h;omega;refine gac ?_;refine oP (xR (el':=qeY ms[i]) (cs:=[_,_]) rfl rfl zo hg rfl rfl) rfl ?_;refine gad ?_;refine oS (S.fnV (f:=ms[i].2.1) [] rfl rfl hf ?_) rfl;refine gaf ?_;exact qac rfl (rC (zrt rfl) (zra rfl)) rfl
theorem qjt(name:List UInt8):LCalls (KC B0 w0) 14 [str name] [] (Ret (.tuple [str (modP name).1,int .i64 (modP name).2])):=by
 have h:=qo1 mods qpI qiC qyh qyd (B0:=B0) (w0:=w0) name;unfold modP;generalize (mods.find? λm=>decide (m.1=name))=MP at h ⊢;cases MP <;> exact h
end
noncomputable def nmS:List (List UInt8):=mods.map (·.1)
@[reducible] def qwo(r:List UInt8×Int):LV:=.tuple [str r.1,int .i64 r.2]
theorem qmv{l:List (List UInt8)}{acc:List UInt8}{i:Nat}(h:i<l.length):srcP (l.drop i) acc=if (modP l[i]).2≠0 then ([],(modP l[i]).2) else srcP (l.drop (i+1)) (acc++(modP l[i]).1):=by
 rw[List.drop_eq_getElem_cons h,srcP]
section
variable{B0:Nat}{w0:World}
theorem qe8(l:List (List UInt8))(hl:l.length<=1000):LCalls (KC B0 w0) 16 [.list (l.map str)] [] (Ret (qwo (srcP l []))):=by
 have hla:(l.map str).length=l.length:=zLm _;generalize hR:srcP l []=R;refine zcI Tryz.func16 rfl (n:=27) rfl rfl rfl ?_;refine gaq ?_;refine oS (sA λb4=>?_) rfl;refine gac ?_;have hB0:BH b4 [] [(b4,.cells 69 [.atom (.pointer none),.atom (.slice none 0 0)])]:=⟨_,_,[],.inl rfl,BRow.nil,rfl⟩
 refine oL (λk sl H=>∃ (i:Nat) (acc:List UInt8),i<=l.length/\k=l.length-i/\acc.length<=i * 10000/\srcP (l.drop i) acc=R/\BH b4 acc H/\sl=[(4,ptr b4 0),(9,.list (l.map str)),(10,int .i64 l.length),(11,int .i64 i)])
  ⟨_,_,_,⟨0,[],zero_le _,rfl,zero_le _,hR,hB0,rfl⟩,⟨rfl,rfl,qao zo,rfl,trivial⟩,zhR _⟩ ?_
 rintro k sl H ⟨i,acc,hi,rfl,hacc,hP,hB,rfl⟩ j1 hj1;refine gai ?_;refine oC rfl (λhc=>?_) (λhc=>?_)
 ·have hlt:i<l.length:=by have:=zt hc;omega
  have hg:(l.map str)[((i:Nat):Int).toNat]? = some (str l[i]):=qa5 _ _ _ hlt;have hm:=qjt (B0:=B0) (w0:=w0) l[i];have hml:=qlD l[i];rw[qmv hlt] at hP;generalize l[i]=n at *;generalize modP n=q at *;obtain⟨t,e⟩:=q;simp only at hP hm hml;refine zQ56 ?_
  by_cases he:e=0
  rotate_left;exact zT26;subst he;rw[if_neg zDd] at hP;refine oC rfl (λhc=>by cases hc) (λ_=>?_);refine gac ?_;refine oS (S.callH (H1:=H) (F:=[]) [_,_] rfl (by simp) (qfo b4 acc t H hB zo) (λv' H' h=>?_) (λch H' h=>by obtain⟨⟨x,h⟩,_⟩:=h;cases h)) rfl;obtain⟨⟨x,hx⟩,hB'⟩:=h;cases hx;rw[zLz];refine gar ?_;exact⟨_,_,_,by omega,⟨i+1,acc++t,by omega,rfl,by rw[zLa];omega,hP,hB',rfl⟩,⟨rfl,rfl,rfl,qao zo,trivial⟩,zhR _,hj1⟩
 have hi':i=l.length:=by have:=zf hc;omega
 subst hi';rw[drop_length,srcP] at hP;subst hP;refine gac ?_;refine oS (S.callH (H1:=H) (F:=[]) [_] rfl (by simp) (qgL b4 acc H hB zo) (λv' H' h=>?_) (λch H' h=>by obtain⟨h,_⟩:=h;cases h)) rfl;obtain⟨h,rfl⟩:=h;cases h;refine gaf ?_;exact qac hj1 (rC (zrt rfl) (zra rfl)) rfl
theorem qri:LCalls (KC B0 w0) 16 [qab] [] (Ret (qwo ([],0))):=by
 refine zcI Tryz.func16 rfl (n:=27) rfl rfl rfl ?_;refine gaq ?_;refine oS (sA λb4=>?_) rfl;refine gac ?_;have hB0:BH b4 [] [(b4,.cells 69 [.atom (.pointer none),.atom (.slice none 0 0)])]:=⟨_,_,[],.inl rfl,BRow.nil,rfl⟩
 refine oL (λk sl H=>k=0/\BH b4 [] H/\sl=[(4,ptr b4 0),(10,int .i64 0),(11,int .i64 0)])
  ⟨_,_,_,⟨rfl,hB0,rfl⟩,⟨rfl,rfl,rfl,trivial⟩,zhR _⟩ ?_
 rintro k sl H ⟨rfl,hB,rfl⟩ j1 hj1;refine gai ?_;refine oC rfl (λhc=>by cases hc) (λhc=>?_);refine gac ?_;refine oS (S.callH (H1:=H) (F:=[]) [_] rfl (by simp) (qgL b4 [] H hB zDd) (λv' H' h=>?_) (λch H' h=>by obtain⟨h,_⟩:=h;cases h)) rfl;obtain⟨h,rfl⟩:=h;cases h;refine gaf ?_;exact qac hj1 (rC (zrt rfl) (zra rfl)) rfl
theorem qkM:LCalls (KC B0 w0) 12 [] [] (Ret (.list (nmS.map str))):=by
 have hmo:=qiC (B0:=B0) (w0:=w0);have hla:(mods.map qeY).length=mods.length:=zLm _;have hml:mods.length=15:=qpI;unfold nmS;revert hmo hla hml;generalize mods=ms;intro hmo hla hml;refine zcI Tryz.func12 rfl (n:=17) rfl rfl rfl ?_;refine gaq ?_;refine oS (sF [] rfl hmo ?_) rfl;refine gaa ?_
 refine oL (λk sl H=>∃ (i:Nat) (v:LV),i<=ms.length/\k=ms.length-i/\Acc 1 v ((ms.take i).map λm=>str m.1) H []/\sl=[(1,v),(4,.list (ms.map qeY)),(5,int .i64 ms.length),(6,int .i64 i)])
  ⟨_,_,_,⟨0,qab,zero_le _,rfl,Acc.nil,rfl⟩,⟨rfl,rfl,qao zo,rfl,trivial⟩,zhR _⟩ ?_
 rintro k sl H ⟨i,v,hi,rfl,hacc,rfl⟩ j1 hj1;refine gai ?_;refine oC rfl (λhc=>?_) (λhc=>?_);have hlt:i<ms.length:=by have:=zt hc;omega
 have hg:(ms.map qeY)[((i:Nat):Int).toNat]? = some (qeY ms[i]):=qa5 _ _ _ hlt
 have hT:(ms.take (i+1)).map (λm=>str m.1)=(ms.take i).map (λm=>str m.1)++[str ms[i].1]:=by
  rw[List.take_succ_eq_append_getElem hlt,zMa];rfl
 generalize ms[i]=m at *;obtain⟨n,f,t⟩:=m;simp only at hT;refine gaj ?_;refine oP (xR (el':=qeY (n,f,t)) (cs:=[_,_]) rfl rfl zo hg rfl rfl) rfl ?_;refine gad ?_;refine oS (sA λb3=>?_) rfl;refine gab ?_;refine zQ46 ?_;refine oS (sL [_] (es:=[str n]) rfl (eC rfl rfl eN) rfl rfl rfl ?_) rfl;refine oS (S.acc1 rfl hacc rfl (by simp[LV.cells]) rfl (by simp only[zLm,List.length_take,zLc,zLn];omega) λv' H' hacc'=>?_) rfl;refine zQ19 ?_;refine gar ?_;exact⟨_,_,_,by omega,⟨i+1,v',by omega,rfl,by rw[hT];exact hacc',rfl⟩,⟨rfl,rfl,rfl,qao zo,trivial⟩,zhD zhr,hj1⟩;have hi':i=ms.length:=by have:=zf hc;omega
 subst hi';rw[take_length] at hacc;refine qag.sub (d:=1) (v:=v) rfl hacc.sub ?_;refine gab ?_;exact qac hj1 (rC (rT (v:=.list _) rfl zsr) rN) (by show LV.list _=LV.list _;rw[List.map_map];rfl)
theorem qnZ:LCalls (KC B0 w0) 13 [] [] (Ret (.list (nmS.map str))):=by
 refine zcI Tryz.func13 rfl (n:=2) rfl rfl rfl ?_;refine gaq ?_;refine oS (sL (s:=1) (es:=nmS.map str) [_,_,_,_,_,_,_,_,_,_,_,_,_,_,_] rfl (qaF nmS) rfl rfl rfl ?_) rfl;refine gad ?_;exact qac rfl (rC (rT (v:=.list _) rfl zsr) rN) rfl
end
theorem qyl:modP [103,102]=(tGf,0):=by kernel_rfl
theorem qrE:modP [99,114,99]=(tCrc,0):=by kernel_rfl
theorem qkX:modP [118,105,116,101,114,98,105]=(tViterbi,0):=by kernel_rfl
theorem qxH:modP [114,115]=(tRs,0):=by kernel_rfl
theorem qpe:modP [102,114,97,109,101]=(tFrame,0):=by kernel_rfl
theorem qkT:modP [101,114,97,115,117,114,101]=(tErasure,0):=by kernel_rfl
theorem qpz:modP [98,108,97,107,101]=(tBlake,0):=by kernel_rfl
theorem qmG:modP [114,101,97,100,101,114]=(tReader,0):=by kernel_rfl
theorem qhZ:modP [99,114,99,109,97,105,110]=(tCrcmain,0):=by kernel_rfl
theorem qgv:modP [118,105,116,101,114,98,105,109,97,105,110]=(tViterbimain,0):=by kernel_rfl
theorem qnn:modP [114,115,109,97,105,110]=(tRsmain,0):=by kernel_rfl
theorem qir:modP [102,114,97,109,101,109,97,105,110]=(tFramemain,0):=by kernel_rfl
theorem qgs:modP [101,114,97,115,117,114,101,109,97,105,110]=(tErasuremain,0):=by kernel_rfl
theorem qit:modP [98,108,97,107,101,109,97,105,110]=(tBlakemain,0):=by kernel_rfl
theorem qnK:modP [114,101,110,100,101,114]=(tRender,0):=by kernel_rfl
theorem quj{name:List UInt8}(h0:¬ name=[103,102])(h1:¬ name=[99,114,99])(h2:¬ name=[118,105,116,101,114,98,105])(h3:¬ name=[114,115])(h4:¬ name=[102,114,97,109,101])(h5:¬ name=[101,114,97,115,117,114,101])(h6:¬ name=[98,108,97,107,101])(h7:¬ name=[114,101,97,100,101,114])(h8:¬ name=[99,114,99,109,97,105,110])(h9:¬ name=[118,105,116,101,114,98,105,109,97,105,110])(h10:¬ name=[114,115,109,97,105,110])(h11:¬ name=[102,114,97,109,101,109,97,105,110])(h12:¬ name=[101,114,97,115,117,114,101,109,97,105,110])(h13:¬ name=[98,108,97,107,101,109,97,105,110])(h14:¬ name=[114,101,110,100,101,114]):modP name=([],9):=by
 unfold modP;rw[List.find?_eq_none.2 λm hm=>?_];simp only[mods,zMi,not_mem_nil,or_false] at hm;rcases hm with rfl|rfl|rfl|rfl|rfl|rfl|rfl|rfl|rfl|rfl|rfl|rfl|rfl|rfl|rfl;exact λh=>h0 (zt h).symm;exact λh=>h1 (zt h).symm;exact λh=>h2 (zt h).symm;exact λh=>h3 (zt h).symm;exact λh=>h4 (zt h).symm;exact λh=>h5 (zt h).symm;exact λh=>h6 (zt h).symm;exact λh=>h7 (zt h).symm;exact λh=>h8 (zt h).symm;exact λh=>h9 (zt h).symm;exact λh=>h10 (zt h).symm;exact λh=>h11 (zt h).symm;exact λh=>h12 (zt h).symm;exact λh=>h13 (zt h).symm;exact λh=>h14 (zt h).symm
section
variable{B0:Nat}{w0:World}
theorem qiM(name:List UInt8):LCalls (KC B0 w0) 15 [str name] [] (Ret (.tuple [str (modP name).1,int .i64 (modP name).2])):=by
 generalize hR:modP name=R;refine zcI Tryz.func15 rfl (n:=35) rfl rfl rfl ?_;refine gac ?_;refine oC rfl (λh=>?_) (λh0=>?_);rw[zt h,qyl] at hR;subst hR;refine gas ?_;exact qac rfl (rC (zrt rfl) (zra rfl)) zk;have h0:=zf h0;refine gal ?_;refine oC rfl (λh=>?_) (λh1=>?_);rw[zt h,qrE] at hR;subst hR;refine gas ?_;exact qac rfl (rC (zrt rfl) (zra rfl)) zk;have h1:=zf h1;refine gal ?_;refine oC rfl (λh=>?_) (λh2=>?_);rw[zt h,qkX] at hR;subst hR;refine gas ?_;exact qac rfl (rC (zrt rfl) (zra rfl)) zk;have h2:=zf h2;refine gal ?_;refine oC rfl (λh=>?_) (λh3=>?_);rw[zt h,qxH] at hR;subst hR;refine gas ?_;exact qac rfl (rC (zrt rfl) (zra rfl)) zk;have h3:=zf h3;refine gal ?_;refine oC rfl (λh=>?_) (λh4=>?_);rw[zt h,qpe] at hR;subst hR;refine gas ?_;exact qac rfl (rC (zrt rfl) (zra rfl)) zk;have h4:=zf h4;refine gal ?_;refine oC rfl (λh=>?_) (λh5=>?_);rw[zt h,qkT] at hR;subst hR;refine gas ?_;exact qac rfl (rC (zrt rfl) (zra rfl)) zk;have h5:=zf h5;refine gal ?_;refine oC rfl (λh=>?_) (λh6=>?_);rw[zt h,qpz] at hR;subst hR;refine gas ?_;exact qac rfl (rC (zrt rfl) (zra rfl)) zk;have h6:=zf h6;refine gal ?_;refine oC rfl (λh=>?_) (λh7=>?_);rw[zt h,qmG] at hR;subst hR;refine gas ?_;exact qac rfl (rC (zrt rfl) (zra rfl)) zk;have h7:=zf h7;refine gal ?_;refine oC rfl (λh=>?_) (λh8=>?_);rw[zt h,qhZ] at hR;subst hR;refine gas ?_;exact qac rfl (rC (zrt rfl) (zra rfl)) zk;have h8:=zf h8;refine gal ?_;refine oC rfl (λh=>?_) (λh9=>?_);rw[zt h,qgv] at hR;subst hR;refine gas ?_;exact qac rfl (rC (zrt rfl) (zra rfl)) zk;have h9:=zf h9;refine gal ?_;refine oC rfl (λh=>?_) (λh10=>?_);rw[zt h,qnn] at hR;subst hR;refine gas ?_;exact qac rfl (rC (zrt rfl) (zra rfl)) zk;have h10:=zf h10;refine gal ?_;refine oC rfl (λh=>?_) (λh11=>?_);rw[zt h,qir] at hR;subst hR;refine gas ?_;exact qac rfl (rC (zrt rfl) (zra rfl)) zk;have h11:=zf h11;refine gal ?_;refine oC rfl (λh=>?_) (λh12=>?_);rw[zt h,qgs] at hR;subst hR;refine gas ?_;exact qac rfl (rC (zrt rfl) (zra rfl)) zk;have h12:=zf h12;refine gal ?_;refine oC rfl (λh=>?_) (λh13=>?_);rw[zt h,qit] at hR;subst hR;refine gas ?_;exact qac rfl (rC (zrt rfl) (zra rfl)) zk;have h13:=zf h13;refine gal ?_;refine oC rfl (λh=>?_) (λh14=>?_);rw[zt h,qnK] at hR;subst hR;refine gas ?_;exact qac rfl (rC (zrt rfl) (zra rfl)) zk;have h14:=zf h14;refine gac ?_;rw[quj h0 h1 h2 h3 h4 h5 h6 h7 h8 h9 h10 h11 h12 h13 h14] at hR;subst hR;exact qac rfl (rC (zrt rfl) (zra rfl)) rfl
theorem qni(l:List (List UInt8))(hl:l.length<=1000):LCalls (KC B0 w0) 17 [.list (l.map str)] [] (Ret (qwo (srcP l []))):=by
 have hla:(l.map str).length=l.length:=zLm _;generalize hR:srcP l []=R;refine zcI Tryz.func17 rfl (n:=28) rfl rfl rfl ?_;refine gac ?_
 refine oL (λk sl H=>∃ (i:Nat) (acc:List UInt8),i<=l.length/\k=l.length-i/\acc.length<=i * 10000/\srcP (l.drop i) acc=R/\sl=[(4,str acc),(9,.list (l.map str)),(10,int .i64 l.length),(11,int .i64 i)]/\H=[])
  ⟨_,_,_,⟨0,[],zero_le _,rfl,zero_le _,hR,rfl,rfl⟩,⟨rfl,rfl,qao zo,rfl,trivial⟩,zhR _⟩ ?_
 rintro k sl H ⟨i,acc,hi,rfl,hacc,hP,rfl,rfl⟩ j1 hj1;refine gai ?_;refine oC rfl (λhc=>?_) (λhc=>?_)
 ·have hlt:i<l.length:=by have:=zt hc;omega
  have hg:(l.map str)[((i:Nat):Int).toNat]? = some (str l[i]):=qa5 _ _ _ hlt;have hm:=qiM (B0:=B0) (w0:=w0) l[i];have hml:=qlD l[i];rw[qmv hlt] at hP;generalize l[i]=n at *;generalize modP n=q at *;obtain⟨t,e⟩:=q;simp only at hP hm hml;refine zQ56 ?_
  by_cases he:e=0
  rotate_left;exact zT26;subst he;rw[if_neg zDd] at hP;refine oC rfl (λhc=>by cases hc) (λ_=>?_);refine gab ?_;exact⟨_,_,_,by omega,⟨i+1,acc++t,by omega,rfl,by rw[zLa];omega,hP,rfl,rfl⟩,⟨rfl,rfl,rfl,qao zo,trivial⟩,zhR _,hj1⟩
 have hi':i=l.length:=by have:=zf hc;omega
 subst hi';rw[drop_length,srcP] at hP;subst hP;refine gac ?_;exact qac hj1 (rC (zrt rfl) (zra rfl)) rfl
end
end Go.Proofs.YtkihibnffkpnkaaGreatDoor.Lb
namespace Go.Stele.Wi.Wc.Crc
open Go.Lib
def roundX:Ex:=(.mk [60] 0 [] [(.mk [118,97,114] 0 [105] []),(.mk [110,117,109] 8 [] [])])
def roundB:List Sm:=[(.mk 1 [116] [] [(.mk [47] 0 [] [(.mk [118,97,114] 0 [99] []),(.mk [110,117,109] 2147483648 [] [])])] [] []),(.mk 1 [99] [] [(.mk [42] 0 [] [(.mk [118,97,114] 0 [99] []),(.mk [110,117,109] 2 [] [])])] [] []),(.mk 3 [] [] [(.mk [118,97,114] 0 [116] [])] [(.mk 1 [99] [] [(.mk [94] 0 [] [(.mk [118,97,114] 0 [99] []),(.mk [110,117,109] 79764919 [] [])])] [] [])] []),(.mk 1 [105] [] [(.mk [43] 0 [] [(.mk [118,97,114] 0 [105] []),(.mk [110,117,109] 1 [] [])])] [] [])]
def firstS:Sm:=(.mk 1 [99] [] [(.mk [94] 0 [] [(.mk [118,97,114] 0 [99] []),(.mk [42] 0 [] [(.mk [118,97,114] 0 [98] []),(.mk [110,117,109] 16777216 [] [])])])] [] [])
def zeroS:Sm:=(.mk 1 [105] [] [(.mk [110,117,109] 0 [] [])] [] [])
def backS:Sm:=(.mk 5 [] [] [(.mk [118,97,114] 0 [99] [])] [] [])
def fCrc:FnD:=⟨[99,114,99,98,121,116,101],[[99],[98]],[[105],[116]],[firstS,zeroS,.mk 4 [] [] [roundX] roundB [],backS]⟩
def byteX:Ex:=(.mk [60] 0 [] [(.mk [118,97,114] 0 [98] []),(.mk [110,117,109] 256 [] [])])
def byteB:List Sm:=[(.mk 1 [99] [] [(.mk [99,97,108,108] 0 [99,114,99,98,121,116,101] [(.mk [118,97,114] 0 [99] []),(.mk [118,97,114] 0 [98] [])])] [] []),(.mk 1 [98] [] [(.mk [99,97,108,108] 0 [105,110] [])] [] [])]
def outS(n:Nat):Sm:=(.mk 6 [] [] [(.mk [99,97,108,108] 0 [111,117,116] [(.mk [47] 0 [] [(.mk [118,97,114] 0 [99] []),(.mk [110,117,109] n [] [])])])] [] [])
def fMain:FnD:=⟨[109,97,105,110],[],[[98],[99]],[(.mk 1 [99] [] [(.mk [110,117,109] 4294967295 [] [])] [] []),(.mk 1 [98] [] [(.mk [99,97,108,108] 0 [105,110] [])] [] []),.mk 4 [] [] [byteX] byteB [],outS 16777216,outS 65536,outS 256,(.mk 6 [] [] [(.mk [99,97,108,108] 0 [111,117,116] [(.mk [118,97,114] 0 [99] [])])] [] [])]⟩
def P:Pr:=⟨[],[],[fCrc,fMain]⟩
abbrev cC:=keyI fCrc [99]
abbrev cB:=keyI fCrc [98]
abbrev cI:=keyI fCrc [105]
abbrev cT:=keyI fCrc [116]
abbrev mB:=keyI fMain [98]
abbrev mC:=keyI fMain [99]
def qjL(c:Nat):Nat:=if c / 2147483648=0 then c * 2 % 4294967296 else (c * 2 % 4294967296) ^^^ 79764919
theorem qp8{c:Nat}:qjL c<4294967296:=by
 unfold qjL;split;omega;exact Nat.xor_lt_two_pow (n:=32) (by omega) zDd
def qhq:Nat->Nat->Nat
 |0,c=>c
 |n+1,c=>qhq n (qjL c)
def qce(c b:Nat):Nat:=qhq 8 (c ^^^ (b * 16777216 % 4294967296))
def Fr(ks:List Nm)(s s':IS):Prop:=(∀ k,k ∉ ks->s'.sc k=s.sc k)/\s'.ar=s.ar/\s'.inp=s.inp/\s'.out=s.out
theorem Fr.refl(ks:List Nm)(s:IS):Fr ks s s:=⟨λ_ _=>rfl,rfl,rfl,rfl⟩
theorem Fr.set{ks:List Nm}{s s':IS}(h:Fr ks s s'){k:Nm}(hk:k∈ks)(v:Nat):Fr ks s (qbj s' k v):=
 ⟨λx hx=>by
  unfold qbj;simp only;rw[if_neg (λe=>hx (by rw[e];exact hk))]
  exact h.1 x hx,h.2.1,h.2.2.1,h.2.2.2⟩
theorem Fr.trans{ks:List Nm}{s s1 s2:IS}(h:Fr ks s s1)(g:Fr ks s1 s2):Fr ks s s2:=
 ⟨λk hk=>(g.1 k hk).trans (h.1 k hk),g.2.1.trans h.2.1,g.2.2.1.trans h.2.2.1,g.2.2.2.trans h.2.2.2⟩
theorem Fr.sub{ks ks':List Nm}{s s':IS}(h:Fr ks s s')(hs:∀ k∈ks,k∈ks'):Fr ks' s s':=⟨λk hk=>h.1 k λe=>hk (hs k e),h.2⟩
theorem round(s:IS)(h8:s.sc cI<8):∃ s',Bl P fCrc roundB s 124 none s'/\s'.sc cC=qjL (s.sc cC)/\s'.sc cI=s.sc cI+1/\Fr [cC,cI,cT] s s':=by
 have e1:(s.sc cI+1) % 4294967296=s.sc cI+1:=Nat.mod_eq_of_lt (by omega)
 by_cases h:s.sc cC / 2147483648=0
 refine⟨qbj (qbj (qbj s cT (s.sc cC / 2147483648)) cC (s.sc cC * 2 % 4294967296)) cI ((s.sc cI+1) % 4294967296),?_,?_,?_,?_⟩
 have ht:vE fCrc (qbj (qbj s cT (s.sc cC / 2147483648)) cC (s.sc cC * 2 % 4294967296)) (.mk [118,97,114] 0 [116] [])=0:=by
  refine Eq.trans ?_ h
  kernel_rfl
 exact(Bl.cons (St.asg (v:=s.sc cC / 2147483648) (Ev.of (by kernel_rfl) (by kernel_rfl))) (Bl.cons (St.asg (v:=s.sc cC * 2 % 4294967296) (Ev.of (by kernel_rfl) (by kernel_rfl))) (Bl.cons (St.iff (Ev.of (by kernel_rfl) ht) Bl.nil) (Bl.cons (St.asg (v:=(s.sc cI+1) % 4294967296) (Ev.of (by kernel_rfl) (by kernel_rfl))) Bl.nil)))).mono zDd;unfold qjL;rw[if_pos h]
 kernel_rfl
 refine Eq.trans ?_ e1
 kernel_rfl
 exact(((Fr.refl _ s).set zDd _).set zDd _).set zDd _;refine⟨qbj (qbj (qbj (qbj s cT (s.sc cC / 2147483648)) cC (s.sc cC * 2 % 4294967296)) cC ((s.sc cC * 2 % 4294967296) ^^^ 79764919)) cI ((s.sc cI+1) % 4294967296),?_,?_,?_,?_⟩;exact(Bl.cons (St.asg (v:=s.sc cC / 2147483648) (Ev.of (by kernel_rfl) (by kernel_rfl))) (Bl.cons (St.asg (v:=s.sc cC * 2 % 4294967296) (Ev.of (by kernel_rfl) (by kernel_rfl))) (Bl.cons (St.ift (v:=s.sc cC / 2147483648) (Ev.of (by kernel_rfl) (by kernel_rfl)) h (Bl.cons (St.asg (v:=(s.sc cC * 2 % 4294967296) ^^^ 79764919) (Ev.of (by kernel_rfl) (by kernel_rfl))) Bl.nil)) (Bl.cons (St.asg (v:=(s.sc cI+1) % 4294967296) (Ev.of (by kernel_rfl) (by kernel_rfl))) Bl.nil)))).mono zDd;unfold qjL;rw[if_neg h]
 kernel_rfl
 refine Eq.trans ?_ e1
 kernel_rfl
 exact((((Fr.refl _ s).set zDd _).set zDd _).set zDd _).set zDd _
theorem qmw(s:IS):Ev P fCrc roundX s 14 (b2n (decide (s.sc cI<8))) s:=Ev.of (by kernel_rfl) (by kernel_rfl)
theorem rounds:∀ (j:Nat) (s:IS),s.sc cI+j=8->∃ s',Wh P fCrc roundX roundB (b2n (decide (s.sc cI<8))) s (156 * j) none s'/\s'.sc cC=qhq j (s.sc cC)/\Fr [cC,cI,cT] s s'
 |0,s,h=>⟨s,by
  rw[show decide (s.sc cI<8)=false from decide_eq_false (by omega)]
  exact Wh.done,rfl,Fr.refl _ s⟩
 |j+1,s,h=>by
  obtain⟨s1,h1,h2,h3,h4⟩:=round s (by omega);obtain⟨s2,g1,g2,g3⟩:=rounds j s1 (by omega);refine⟨s2,?_,by rw[g2,h2];try rfl,h4.trans g3⟩;rw[show decide (s.sc cI<8)=true from decide_eq_true (by omega)];exact(Wh.next zDd h1 (qmw s1) g1).mono (by omega)
theorem qvp(s:IS):St P fCrc firstS s 44 none (qbj s cC (s.sc cC ^^^ (s.sc cB * 16777216 % 4294967296))):=St.asg (K:=36) (Ev.of (by kernel_rfl) (by simp only[qxE,qyi,qyn,qxM]))
theorem qwN(s:IS):St P fCrc zeroS s 10 none (qbj s cI 0):=St.asg (K:=2) (Ev.of (by kernel_rfl) (by kernel_rfl))
theorem qwi(s:IS):St P fCrc backS s 9 (some (s.sc cC)) s:=St.ret (K:=8) (Ev.of (by kernel_rfl) (by kernel_rfl))
theorem quU(s:IS):∃ s',Bl P fCrc fCrc.body s 1333 (some (qce (s.sc cC) (s.sc cB))) s'/\Fr [cC,cB,cI,cT] s s':=by
 obtain⟨s',h1,h2,h3⟩:=rounds 8 (qbj (qbj s cC (s.sc cC ^^^ (s.sc cB * 16777216 % 4294967296))) cI 0) rfl;have hsc:(qbj (qbj s cC (s.sc cC ^^^ (s.sc cB * 16777216 % 4294967296))) cI 0).sc cC=s.sc cC ^^^ (s.sc cB * 16777216 % 4294967296):=by kernel_rfl
 rw[hsc] at h2
 have e:qce (s.sc cC) (s.sc cB)=s'.sc cC:=by
  unfold qce;exact h2.symm
 refine⟨s',?_,?_⟩;rw[e];have q1:St P fCrc firstS s 44 none (qbj s cC (s.sc cC ^^^ (s.sc cB * 16777216 % 4294967296))):=qvp s;have q2:St P fCrc zeroS (qbj s cC (s.sc cC ^^^ (s.sc cB * 16777216 % 4294967296))) 10 none (qbj (qbj s cC (s.sc cC ^^^ (s.sc cB * 16777216 % 4294967296))) cI 0):=qwN _;have q3:St P fCrc (.mk 4 [] [] [roundX] roundB []) (qbj (qbj s cC (s.sc cC ^^^ (s.sc cB * 16777216 % 4294967296))) cI 0) (8+14+156 * 8) none s':=St.whl (qmw _) h1;have q:Bl P fCrc fCrc.body s (44+(10+(8+14+156 * 8+9))) (some (s'.sc cC)) s':=Bl.cons q1 (Bl.cons q2 (Bl.cons q3 (Bl.ret (qwi s'))));exact q.mono zDd;refine Fr.trans (Fr.set (Fr.set (Fr.refl _ s) zDd _) zDd _) (h3.sub λk hk=>?_);simp only[zMi,not_mem_nil,or_false] at hk ⊢;rcases hk with h|h|h <;> simp[h]
theorem qxJ:fnI P [99,114,99,98,121,116,101]=fCrc:=by kernel_rfl
theorem quu(s:IS)(c b:Nat):∃ s',Op P fMain qbN 0 [99,114,99,98,121,116,101] [c,b] s 1333 (qce c b) s'/\Fr [cC,cB,cI,cT] s s':=by
 obtain⟨s',h1,h2⟩:=quU (qbj (qbj s cC c) cB b);refine⟨s',?_,Fr.trans (Fr.set (Fr.set (Fr.refl _ s) zDd _) zDd _) h2⟩;have:=Op.call (P:=P) (f:=fMain) (num:=0) (name:=[99,114,99,98,121,116,101]) (vs:=[c,b]) (s:=s) (K:=1333) (r:=some (qce c b)) (s':=s') zDd zDd (by rw[qxJ];exact h1);exact this
theorem qxx(s:IS)(l:List Nat)(k:Nm)(h:s.inp=l):qbj { s with inp:=s.inp.tail } k (s.inp.headD 4294967295)=qbj { s with inp:=l.tail } k (l.headD 4294967295):=by rw[h]
theorem qpy(s:IS):Ev P fMain byteX s 16 (b2n (decide (s.sc mB<256))) s:=Ev.of (by kernel_rfl) (by kernel_rfl)
theorem qkO:∀ (l:List Nat) (s:IS),(∀ v∈l,v<256)->s.sc mB=l.headD 4294967295->s.inp=l.tail->∃ s',Wh P fMain byteX byteB (b2n (decide (s.sc mB<256))) s (1430 * l.length) none s'/\s'.sc mC=l.foldl qce (s.sc mC)/\s'.out=s.out
 |[],s,_,hb,_=>⟨s,by
  rw[hb]
  exact Wh.done,rfl,rfl⟩
 |b::l,s,hl,hb,hi=>by
  obtain⟨s1,h1,h2⟩:=quu s (s.sc mC) (s.sc mB);have hb2:s.sc mB<256:=by rw[hb];exact hl b (by simp)
  have hi1:(qbj s1 mC (qce (s.sc mC) (s.sc mB))).inp=l:=by
   show s1.inp=l;rw[h2.2.2.1,hi]
   try rfl
  obtain⟨s',g1,g2,g3⟩:=qkO l (qbj { qbj s1 mC (qce (s.sc mC) (s.sc mB)) with inp:=l.tail } mB (l.headD 4294967295)) (λv hv=>hl v (by simp[hv])) rfl rfl;refine⟨s',?_,?_,?_⟩
  ·rw[show decide (s.sc mB<256)=true from decide_eq_true hb2];have hargs:Evs P fMain [.mk [118,97,114] 0 [99] [],.mk [118,97,114] 0 [98] []] s 16 [s.sc mC,s.sc mB] s:=(Evs.pure _ (by kernel_rfl));have st1:St P fMain _ s (8+(27+16+1333)) none (qbj s1 mC (qce (s.sc mC) (s.sc mB))):=St.asg (name:=[99]) (ix:=[]) (vr:=[]) (th:=[]) (el:=[]) (Ev.mk hargs h1)
   have st2:St P fMain (.mk 1 [98] [] [.mk [99,97,108,108] 0 [105,110] []] [] []) (qbj s1 mC (qce (s.sc mC) (s.sc mB))) 9 none (qbj { qbj s1 mC (qce (s.sc mC) (s.sc mB)) with inp:=l.tail } mB (l.headD 4294967295)):=by
    rw[<-qxx _ l mB hi1];exact St.asg (Ev.mk Evs.nil Op.inp)
   exact(Wh.next zDd (Bl.cons st1 (Bl.cons st2 Bl.nil)) (qpy _) g1).mono (by rw[zLc];omega)
  ·rw[g2];show l.foldl qce (qce (s.sc mC) (s.sc mB))=l.foldl qce (qce (s.sc mC) b);rw[hb]
   try rfl
  rw[g3];exact h2.2.2.2
def outN(c:Nat):List UInt8:=[UInt8.ofNat (c / 16777216),UInt8.ofNat (c / 65536),UInt8.ofNat (c / 256),UInt8.ofNat c]
theorem qtR(s:IS)(n:Nat)(hn:n≠0):St P fMain (outS n) s 39 none { s with out:=s.out++[UInt8.ofNat (s.sc mC / n)] }:=by
 have hok:okE fMain s (.mk [47] 0 [] [.mk [118,97,114] 0 [99] [],.mk [110,117,109] n [] []])=true:=by
  show(true && (true && (true && true)) && (if n=0 then none else some (s.sc mC / n):Option Nat).isSome)=true;rw[if_neg hn]
  try rfl
 have hv:vE fMain s (.mk [47] 0 [] [.mk [118,97,114] 0 [99] [],.mk [110,117,109] n [] []])=s.sc mC / n:=by
  show(if n=0 then none else some (s.sc mC / n):Option Nat).getD 0=_;rw[if_neg hn]
  try rfl
 have hc:cE (.mk [47] 0 [] [.mk [118,97,114] 0 [99] [],.mk [110,117,109] n [] []])<=24:=by
  show 4+(8+0+(wN n+0+0))<=24;unfold wN
  repeat' split
  all_goals omega
 have h:=(Ev.of (P:=P) hok hv).mono hc;refine(St.exp (ix:=[]) (vr:=[]) (th:=[]) (el:=[]) (name:=[]) (Ev.mk (Evs.cons h Evs.nil) Op.out)).mono ?_;show 8+(3+(24+0)+0)<=39;decide
theorem qs4(s:IS)(hl:∀ v∈s.inp,v<256):∃ s',Bl P fMain fMain.body s (1430 * s.inp.length+250) none s'/\s'.out=s.out++outN (s.inp.foldl qce 4294967295):=by
 obtain⟨s',h1,h2,h3⟩:=qkO s.inp (qbj { qbj s mC 4294967295 with inp:=s.inp.tail } mB (s.inp.headD 4294967295)) hl rfl rfl;have e:s.inp.foldl qce 4294967295=s'.sc mC:=h2.symm;have q1:=qtR s' 16777216 zDd;have q2:=qtR { s' with out:=s'.out++[UInt8.ofNat (s'.sc mC / 16777216)] } 65536 zDd;have q3:=qtR { s' with out:=(s'.out++[UInt8.ofNat (s'.sc mC / 16777216)])++[UInt8.ofNat (s'.sc mC / 65536)] } 256 zDd
 have q4:St P fMain (.mk 6 [] [] [.mk [99,97,108,108] 0 [111,117,116] [.mk [118,97,114] 0 [99] []]] [] []) { s' with out:=((s'.out++[UInt8.ofNat (s'.sc mC / 16777216)])++[UInt8.ofNat (s'.sc mC / 65536)])++[UInt8.ofNat (s'.sc mC / 256)] } 19 none { s' with out:=(((s'.out++[UInt8.ofNat (s'.sc mC / 16777216)])++[UInt8.ofNat (s'.sc mC / 65536)])++[UInt8.ofNat (s'.sc mC / 256)])++[UInt8.ofNat (s'.sc mC)] }:=
  (St.exp (Ev.mk (Evs.cons (Ev.of (v:=s'.sc mC) (by kernel_rfl) (by kernel_rfl)) Evs.nil) Op.out)).mono zDd
 refine⟨_,(Bl.cons (St.asg (name:=[99]) (v:=4294967295) (Ev.of (by kernel_rfl) (by kernel_rfl))) (Bl.cons (St.asg (name:=[98]) (Ev.mk Evs.nil Op.inp)) (Bl.cons (St.whl (qpy _) h1) (Bl.cons q1 (Bl.cons q2 (Bl.cons q3 (Bl.cons q4 Bl.nil))))))).mono ?_,?_⟩;have e1:wE qbN 0 [105,110] ([]:List Ex).length=1:=rfl;have e2:cE (.mk [110,117,109] 4294967295 [] [])=12:=rfl;omega;show(((s'.out++[UInt8.ofNat (s'.sc mC / 16777216)])++[UInt8.ofNat (s'.sc mC / 65536)])++[UInt8.ofNat (s'.sc mC / 256)])++[UInt8.ofNat (s'.sc mC)]=_;rw[h3,e,zAs,zAs,zAs]
 try rfl
theorem qtB(l:List Nat)(hl:∀ v∈l,v<256)(limit:Nat)(h:1430 * l.length+250<=limit):∃ fuel s2,blkR (stC P fuel (qb7 P)) (qb7 P).body (qer P l limit)=.ok none s2/\s2.out=outN (l.foldl qce 4294967295):=by
 obtain⟨s',h1,h2⟩:=qs4 (qer P l 0) hl;have hm:qb7 P=fMain:=rfl;rw[hm];obtain⟨fuel,s2,g1,g2⟩:=qye (P:=P) (inp:=l) (limit:=limit) (h1.mono h);exact⟨fuel,s2,g1,g2.trans h2⟩
end Go.Stele.Wi.Wc.Crc
namespace Go.Proofs.YtkihibnffkpnkaaGreatDoor.Lb
open Go.GL Go.RowKit Go.Stele
open Inp (u32 Same retS qeG qd8 qjR qmi)
open Go.Stele.Wi.Wc.Crc (qjL qp8 qhq qce outN)
theorem Pure.to{C:Ctx}{o:Oper}{e:Env}{H:Heap}{lv lv':LV}(h:Go.GL.Pure C o e H lv)(he:lv=lv'):Go.GL.Pure C o e H lv':=he▸h
theorem wrap8(n:Int):IntKind.u8.wrap n=n % 256:=by
 simp only[IntKind.wrap,IntKind.bits,IntKind.signed,Bool.false_and];rfl
theorem ql1{n:Int}{m:Nat}(h:n=m):int .u8 (IntKind.u8.wrap n)=int .u8 ((UInt8.ofNat m).toNat:Int):=by
 rw[wrap8,h,UInt8.toNat_ofNat'];congr 1
theorem qsL{x:Nat}{s:Int}{d:Nat}(hs:(2:Int) ^ min s.toNat IntKind.u32.bits=(d:Int)):int .u32 (Int.fdiv (x:Int) (2 ^ min s.toNat IntKind.u32.bits))=u32 (x / d):=by
 rw[hs,Int.fdiv_eq_ediv_of_nonneg _ zo];rfl
def qdC(s:List UInt8):List Nat:=s.map (·.toNat)
theorem qyB(n:Nat):IntKind.u32.wrap (n:Int)=((n % 4294967296:Nat):Int):=by
 rw[qeG];omega
theorem qoN(c:UInt8):c.toNat<256:=c.toNat_lt
attribute [local irreducible] LOps qag qae LCalls Go.GL.Pure qax qam qad LQ LAny qaJ qan LS
section
variable{B0:Nat}{w0:World}
theorem qrV(c:Nat)(hc:c<4294967296):LCalls (KC B0 w0) 40 [u32 c] [] (Ret (u32 (qjL c))):=by
 have hst:qjL c=if c / 2147483648=0 then c * 2 % 4294967296 else (c * 2 % 4294967296) ^^^ 79764919:=rfl
 generalize qjL c=r at hst ⊢
 have e1:IntKind.u32.wrap ((c:Int) * 2 ^ min (1:Int).toNat IntKind.u32.bits)=((c * 2 % 4294967296:Nat):Int):=by
  have:((c:Int) * 2 ^ min (1:Int).toNat IntKind.u32.bits)=((c * 2:Nat):Int):=by
   show(c:Int) * 2 ^ 1=_;omega
  rw[this,qyB]
 have e2:IntKind.u32.wrap ((BitVec.ofInt IntKind.u32.bits ((c * 2 % 4294967296:Nat):Int) ^^^ BitVec.ofInt IntKind.u32.bits 79764919).toNat:Nat)=(((c * 2 % 4294967296) ^^^ 79764919:Nat):Int):=qjR (a:=c * 2 % 4294967296) (b:=79764919) zo zDd;refine zcI Tryz.func40 rfl (n:=10) rfl rfl rfl ?_;refine gab ?_;refine oC rfl (λh=>?_) (λh=>?_);have h1:=zt h;rw[if_neg zo] at hst;refine gag ?_;refine oP (Pure.shlW rfl rfl zDd) rfl ?_;rw[e1];refine oP (Pure.xorW rfl rfl) rfl ?_;rw[e2];refine gaa ?_;exact qac rfl (zra rfl) (by rw[hst];rfl);have h1:=zf h;rw[if_pos zo] at hst;refine gac ?_;refine oP (Pure.shlW rfl rfl zDd) rfl ?_;rw[e1];refine gaf ?_;exact qac rfl (zra rfl) (by rw[hst];rfl)
theorem qu3(c b:Nat):qce c b=qhq 8 (c ^^^ (b * 16777216 % 4294967296)):=rfl
theorem qom(c:Nat)(hc:c<4294967296)(s:List UInt8)(hs:s.length<=1000000):LCalls (KC B0 w0) 24 [u32 c,str s] [] (Ret (u32 ((qdC s).foldl qce c))):=by
 have hR:((qdC (s.drop 0)).foldl qce c)=(qdC s).foldl qce c:=rfl;generalize (qdC s).foldl qce c=R at hR ⊢;refine zcI Tryz.func24 rfl (n:=27) rfl rfl rfl ?_;refine gac ?_
 refine oL (λk sl H=>∃ (i a:Nat),i<=s.length/\k=s.length-i/\a<4294967296/\((qdC (s.drop i)).foldl qce a)=R/\sl=[(0,u32 a),(1,str s),(5,int .i64 i)]/\H=[])
  ⟨_,_,_,⟨0,c,zero_le _,rfl,hc,hR,rfl,rfl⟩,⟨rfl,rfl,rfl,trivial⟩,zhR _⟩ ?_
 rintro k sl H ⟨i,a,hi,rfl,ha,hP,rfl,rfl⟩ j1 hj1;refine gab ?_;refine oC rfl (λhc=>?_) (λhc=>?_);have hlt:i<s.length:=by have:=zt hc;omega
 have hb:=qoN s[i]
 have hP2:(qdC (s.drop (i+1))).foldl qce (qce a s[i].toNat)=R:=by
  rw[<-hP,List.drop_eq_getElem_cons hlt];rfl
 rw[qu3] at hP2;have hx:a ^^^ (s[i].toNat * 16777216 % 4294967296)<4294967296:=Nat.xor_lt_two_pow (n:=32) ha zo;have e0:IntKind.u32.wrap ((s[i].toNat:Nat):Int)=((s[i].toNat:Nat):Int):=by rw[qeG];omega
 have e1:IntKind.u32.wrap (((s[i].toNat:Nat):Int) * 2 ^ min (24:Int).toNat IntKind.u32.bits)=((s[i].toNat * 16777216 % 4294967296:Nat):Int):=by
  have:(((s[i].toNat:Nat):Int) * 2 ^ min (24:Int).toNat IntKind.u32.bits)=((s[i].toNat * 16777216:Nat):Int):=by
   show((s[i].toNat:Nat):Int) * 16777216=_;omega
  rw[this,qyB]
 have e2:=qjR (a:=a) (b:=s[i].toNat * 16777216 % 4294967296) ha zo
 have hget:s[((i:Nat):Int).toNat]? = some s[i]:=by
  rw[Int.toNat_natCast];exact List.getElem?_eq_getElem hlt
 generalize s[i]=ch at *;generalize a ^^^ (ch.toNat * 16777216 % 4294967296)=y at *;generalize ch.toNat * 16777216 % 4294967296=z at *;refine gac ?_;refine oP (pI rfl rfl zo hget) rfl ?_;refine oP (Pure.to (Pure.cvt rfl) (qd8 e0)) rfl ?_;refine oP (Pure.to (Pure.shlW rfl rfl zDd) (qd8 e1)) rfl ?_;refine oP (Pure.to (Pure.xorW rfl rfl) (qd8 e2)) rfl ?_;refine gac ?_
 refine oL (λk sl H=>∃ (q t:Nat),q<=8/\k=8-q/\t<4294967296/\qhq (8-q) t=qhq 8 y/\sl=[(0,u32 t),(1,str s),(5,int .i64 i),(6,int .i64 q)]/\H=[])
  ⟨_,_,_,⟨0,y,by omega,rfl,hx,rfl,rfl,rfl⟩,⟨rfl,rfl,rfl,rfl,trivial⟩,zhR _⟩ ?_
 rintro k sl H ⟨q,t,hq,rfl,ht,hS,rfl,rfl⟩ j2 hj2;refine gac ?_;refine oC rfl (λhc=>?_) (λhc=>?_);have hq8:q<8:=by have:=zt hc;omega
 have hst:=qrV (B0:=B0) (w0:=w0) t ht;have hlt2:=qp8 (c:=t);rw[show 8-q=(8-(q+1))+1 by omega,qhq] at hS;generalize qjL t=t2 at *;refine gac ?_;refine oS (sF [_] rfl hst ?_) rfl;refine gac ?_;exact⟨_,_,_,by omega,⟨q+1,t2,by omega,rfl,hlt2,hS,rfl,rfl⟩,⟨rfl,rfl,rfl,qao zo,trivial⟩,zhR _,hj2⟩;have hq8:q=8:=by have:=zf hc;omega
 subst hq8;have hS:t=qhq 8 y:=hS;rw[<-hS] at hP2;refine gac ?_;exact⟨_,_,_,by omega,⟨i+1,t,by omega,rfl,ht,hP2,rfl,rfl⟩,⟨rfl,rfl,qao zo,trivial⟩,zhR _,hj2.trans hj1⟩;have hi':i=s.length:=by have:=zf hc;omega
 subst hi';rw[drop_length] at hP;have hP:a=R:=hP;subst hP;refine gac ?_;exact qac hj1 (zra rfl) rfl
theorem qug(s:List UInt8)(hs:s.length<=1000000):LCalls (KC B0 w0) 11 [.list [str s]] [] (Ret (u32 ((qdC s).foldl qce 4294967295))):=by
 have hu:=qom (B0:=B0) (w0:=w0) 4294967295 zDd s hs;have hg:([str s]:List LV)[((0:Nat):Int).toNat]? = some (str s):=rfl;generalize (qdC s).foldl qce 4294967295=R at hu ⊢;refine zcI Tryz.func11 rfl (n:=18) rfl rfl rfl ?_;refine gac ?_
 refine oL (λk sl H=>∃ (i:Nat) (v:Nat),i<=1/\k=1-i/\(if i=0 then v=4294967295 else v=R)/\sl=[(0,.list [str s]),(3,u32 v),(4,int .i64 i)]/\H=[])
  ⟨_,_,_,⟨0,4294967295,by omega,rfl,rfl,rfl,rfl⟩,⟨rfl,rfl,rfl,trivial⟩,zhR _⟩ ?_
 rintro k sl H ⟨i,v,hi,rfl,hv,rfl,rfl⟩ j1 hj1;refine gac ?_;refine oC rfl (λhc=>?_) (λhc=>?_)
 have h0:i=0:=by
  have h1:((i:Nat):Int)<1:=zt hc;omega
 subst h0;have hv:v=4294967295:=hv;subst hv;refine gac ?_;refine oP (xR (el':=str s) (cs:=[str s]) rfl rfl zDd hg rfl rfl) rfl ?_;refine gad ?_;refine oS (sF [_,_] rfl hu ?_) rfl;refine gac ?_;exact⟨_,_,_,by omega,⟨1,R,by omega,rfl,rfl,rfl,rfl⟩,⟨rfl,rfl,qao zo,trivial⟩,zhR _,hj1⟩
 have h1:i=1:=by
  have h1:¬ ((i:Nat):Int)<1:=zf hc;omega
 subst h1;have hv:v=R:=hv;subst hv;refine gac ?_;exact qac hj1 (zra rfl) rfl
theorem qnr(x:Nat):LCalls (KC B0 w0) 10 [u32 x] [] (Ret (str (outN x))):=by
 refine zcI Tryz.func10 rfl (n:=16) rfl rfl rfl ?_;refine gap ?_;refine oP (Pure.to (Pure.shr rfl rfl zDd) (qsL (d:=16777216) zDd)) rfl ?_;refine oP (Pure.to (Pure.cvt rfl) (ql1 (m:=x / 16777216) rfl)) rfl ?_;refine gaa ?_;refine oP (Pure.to (Pure.shr rfl rfl zDd) (qsL (d:=65536) zDd)) rfl ?_;refine oP (Pure.to (Pure.cvt rfl) (ql1 (m:=x / 65536) rfl)) rfl ?_;refine gaa ?_;refine oP (Pure.to (Pure.shr rfl rfl zDd) (qsL (d:=256) zDd)) rfl ?_;refine oP (Pure.to (Pure.cvt rfl) (ql1 (m:=x / 256) rfl)) rfl ?_;refine oP (pM rfl) rfl ?_;refine oP (Pure.to (Pure.cvt rfl) (ql1 (m:=x) rfl)) rfl ?_;refine oS (sL (es:=(outN x).map λb=>int .u8 (b.toNat:Int)) [_,_,_,_] rfl (eC rfl rfl (eC rfl rfl (eC rfl rfl (eC rfl rfl eN)))) rfl rfl rfl ?_) rfl;refine oP (Pure.bytesStr (l:=outN x) rfl (by simp[outN])) rfl ?_;refine gaf ?_;exact qac rfl (zra rfl) rfl
theorem qix(s:List UInt8)(hs:s.length<=1000000):LCalls (KC B0 w0) 9 [str s] [] (Ret (.list ((qdC s).map u32))):=by
 refine zcI Tryz.func9 rfl (n:=20) rfl rfl rfl ?_;refine gaq ?_;refine oS (S.litA (s:=1) (es:=[]) [] rfl eN rfl rfl rfl λb=>?_) rfl;refine gab ?_
 refine oL (λk sl H=>∃ (i:Nat) (v:LV),i<=s.length/\k=s.length-i/\Acc 1 v ((qdC (s.take i)).map u32) H []/\sl=[(0,str s),(3,v),(4,int .i64 i)])
  ⟨_,_,_,⟨0,_,zero_le _,rfl,Acc.row,rfl⟩,⟨rfl,rfl,rfl,trivial⟩,zhR _⟩ ?_
 rintro k sl H ⟨i,v,hi,rfl,hacc,rfl⟩ j1 hj1;refine gab ?_;refine oC rfl (λhc=>?_) (λhc=>?_);have hlt:i<s.length:=by have:=zt hc;omega
 have hb:=qoN s[i];have e0:IntKind.u32.wrap ((s[i].toNat:Nat):Int)=((s[i].toNat:Nat):Int):=by rw[qeG];omega
 have hget:s[((i:Nat):Int).toNat]? = some s[i]:=by
  rw[Int.toNat_natCast];exact List.getElem?_eq_getElem hlt
 have hT:(qdC (s.take (i+1))).map u32=(qdC (s.take i)).map u32++[u32 s[i].toNat]:=by
  rw[List.take_succ_eq_append_getElem hlt];simp only[qdC,zMa];rfl
 generalize s[i]=ch at *;refine gaj ?_;refine zQ46 ?_;refine oP (pI rfl rfl zo hget) rfl ?_;refine oP (Pure.to (Pure.cvt rfl) (qd8 e0)) rfl ?_;refine oS (sL [_] (es:=[u32 ch.toNat]) rfl (eC rfl rfl eN) rfl rfl rfl ?_) rfl;refine oS (S.acc (F:=[]) rfl hacc rfl (by simp[LV.cells]) rfl (by simp only[qdC,zLm,List.length_take,zLc,zLn];omega) λv' H' hacc'=>?_) rfl;refine zQ19 ?_;refine gac ?_;exact⟨_,_,_,by omega,⟨i+1,v',by omega,rfl,by rw[hT];exact hacc',rfl⟩,⟨rfl,rfl,qao zo,trivial⟩,zhR _,hj1⟩;have hi':i=s.length:=by have:=zf hc;omega
 subst hi';rw[take_length] at hacc;refine qag.sub (d:=3) (v:=v) rfl hacc.sub ?_;refine gab ?_;exact qac hj1 (rC (rT (v:=.list _) rfl zsr) rN) rfl
end
end Go.Proofs.YtkihibnffkpnkaaGreatDoor.Lb
namespace Go.Proofs.YtkihibnffkpnkaaGreatDoor.Pp
open Go.GL Go.RowKit Go.Stele
open Cmp (qrn)
open Go.Lib (decDigits join)
theorem qvA{p:Pr}{n:Nat}(hsz:SzP p n){o:Org}{t:Wd}(hn:n<=2000000)(h:cmpP p.vars (qbo p) p.funcs o=.ok t):t.length<=60+60 * n:=by
 obtain⟨hc,hfit,ht,_⟩:=qmI hsz.nums h;have hw:=(qsg (P:=p) (o:=o) hc hsz.nums hfit (zNt hsz.funcs hn)).1;have hj:=qgi (qa6 p o);have:=hsz.funcs;rw[ht];omega
theorem opt_out{p:Pr}{n:Nat}(hsz:SzP p n)(hn:n<=3100){o:Org}{t:Wd}(h:cmpP p.vars (qbo p) p.funcs o=.ok t):t.length<=186060/\qcD t=(join (optP (qbl t)) [32],0)/\(join (optP (qbl t)) [32]).length<=300000000:=by
 have h1:=qvA hsz zo h;have h2:=qvG t;refine⟨by omega,?_,by omega⟩;unfold qcD;rw[if_neg zo]
end Go.Proofs.YtkihibnffkpnkaaGreatDoor.Pp
namespace Go.Proofs.YtkihibnffkpnkaaGreatDoor.Lb
open Go.GL Go.RowKit Go.Stele
open Inp (u32)
open Mch (qt0 qnL quZ us)
open Asm (asmLV qcl)
open Cmp (I64 qrn defO qkv qfj qlq)
instance:TOut zTp 25:=.of zk
structure Prog(l:List (List UInt8))(code:Wd):Prop where
 short:l.length<=1000
 ok:∃ src p n x y labs l0,srcP l []=(src,0)/\qaA src=(p,l0,0)/\SzP p n/\n<=2000000/\qcf p=0/\cmpP p.vars (qbo p) p.funcs defO=.ok x/\x.length<=1000000/\qcD x=(y,0)/\y.length<=300000000/\asmP y 10000=.ok (code,labs)
 len:code.length<=40000
attribute [local irreducible] LOps qag qae LCalls Go.GL.Pure qax qam qad LQ LAny qaJ qan LS
section
variable{B0:Nat}{w0:World}
theorem qcn(hG:Pp.GW B0 w0){l:List (List UInt8)}{code:Wd}(h:Prog l code):LCalls (KC B0 w0) 22 [.list (l.map str)] [] (Ret (.tuple [str code,int .i64 0])):=by
 obtain⟨hl,⟨src,p,n,x,y,labs,l0,h1,h2,h3,h4,h5,h6,h7,h8,h9,h10⟩,_⟩:=h;have hso:=qe8 (B0:=B0) (w0:=w0) l hl;rw[h1] at hso;have hps:=qg7 (B0:=B0) (w0:=w0) hG.base src;rw[h2] at hps;have hck:=Inp.checkPr_spec (B0:=B0) (w0:=w0) h3 h4;rw[h5] at hck;have hcp:=qlq (B0:=B0) (w0:=w0) hG.base hG.mx h3 h4 defO (by unfold I64;decide) (by unfold I64;decide) (by unfold I64;decide);rw[h6] at hcp;have hop:=Pp.optimize_spec (B0:=B0) (w0:=w0) hG x h7;rw[h8] at hop;have has:=Asm.assemble_spec (B0:=B0) (w0:=w0) hG.base hG.mx y 10000 h9;rw[h10] at has;have hd:=qfj (B0:=B0) (w0:=w0);have eD:qkv defO=.agg [int .i64 10000,int .i64 0,int .i64 100000]:=rfl;have eP:qgo p=.agg [.list (p.vars.map str),.list (p.arrays.map qhp),.list (p.funcs.map qa7)]:=rfl;rw[eD] at hd hcp;unfold qi8 at hps;unfold qrn at hcp;unfold asmLV at has;simp only at hso hps hcp hop has;rw[eP] at hps hcp hck;clear h1 h2 h3 h4 h5 h6 h7 h8 h9 h10 eP eD;refine zcI Tryz.func22 rfl (n:=69) rfl rfl rfl ?_;refine gac ?_;refine oS (sF [_] rfl hso ?_) rfl;refine gab ?_;refine oC rfl (λhc=>by cases hc) (λ_=>?_);refine gac ?_;refine oS (sF [_] rfl hps ?_) rfl;refine gad ?_;refine oS (sA λb6=>?_) rfl;refine gab ?_;refine oC rfl (λhc=>by cases hc) (λ_=>?_);refine gab ?_;refine oS (S.call0 [_] rfl hck (λv H' h=>?_) (λch H' h=>?_)) rfl;rotate_left;obtain⟨_,_,h⟩:=h;cases h;obtain⟨rfl,nm,h⟩:=h;cases h;refine gab ?_;refine oC rfl (λhc=>by cases hc) (λ_=>?_);refine gaj ?_;refine oS (sF [] rfl hd ?_) rfl;refine oS (sA λb10=>?_) rfl;refine gab ?_;refine oS (sF [_,_] rfl hcp ?_) rfl;refine gab ?_;refine oC rfl (λhc=>by cases hc) (λ_=>?_);refine gac ?_;refine oS (sF [_] rfl hop ?_) rfl;refine gab ?_;refine oC rfl (λhc=>by cases hc) (λ_=>?_);refine gac ?_;refine oS (sF [_,_] rfl has ?_) rfl;refine gab ?_;exact qac rfl (rC (zrt rfl) (zra rfl)) rfl
theorem qm7(hG:Pp.GW B0 w0){l:List (List UInt8)}{code:Wd}(h:Prog l code){inp:List Nat}(hin:∀ v∈inp,v<4294967296){steps:Nat}(h0:0<steps)(h1:steps<=100000000) :
  LCalls (KC B0 w0) 8 [.list (us inp),int .i64 (steps:Nat),.list (l.map str)] [] (Ret (qt0 (runM steps (qfn code 10000 inp)))):=by
 have hpr:=qcn hG h;have hrun:=qnL (B0:=B0) (w0:=w0) (code:=code) (og:=10000) (inp:=inp) (steps:=steps) (by have:=h.len;omega) zDd hin h0 h1;have hd:=qfj (B0:=B0) (w0:=w0);have eD:qkv defO=.agg [int .i64 10000,int .i64 0,int .i64 100000]:=rfl;rw[eD] at hd;generalize runM steps (qfn code 10000 inp)=R at hrun ⊢;unfold qt0 at hrun ⊢;unfold quZ at hrun;refine zcI Tryz.func8 rfl (n:=30) rfl rfl rfl ?_;refine gah ?_;refine oS (sA λb6=>?_) rfl;refine gac ?_;refine oS (sF [_] rfl hpr ?_) rfl;refine gab ?_;refine oC rfl (λhc=>by cases hc) (λ_=>?_);refine gaj ?_;refine oS (sF [] rfl hd ?_) rfl;refine oS (sA λb9=>?_) rfl;refine gab ?_;refine zQ0 ?_;refine gaa ?_;refine oS (sF [_,_,_,_] rfl hrun ?_) rfl;refine gad ?_;exact qac rfl (rC (rA rfl zm0 rfl zsr) rN) rfl
theorem qx8:qaA []=(⟨[],[],[]⟩,0,0):=by kernel_rfl
theorem qoo(hG:Pp.GW B0 w0):LCalls (KC B0 w0) 22 [qab] [] (Ret (.tuple [str [],int .i64 9])):=by
 have hso:=qri (B0:=B0) (w0:=w0);have hps:=qg7 (B0:=B0) (w0:=w0) hG.base [];rw[qx8] at hps;have hck:=Inp.checkPr_spec (B0:=B0) (w0:=w0) (p:=⟨[],[],[]⟩) (n:=0) ⟨zNr _,zNr _,λa ha=>(by cases ha),zNr _,λa ha=>(by cases ha)⟩ zDd;have h9:qcf ⟨[],[],[]⟩=9:=by kernel_rfl
 rw[h9] at hck;have eP:qgo ⟨[],[],[]⟩=.agg [.list [],.list [],.list []]:=rfl;unfold qi8 at hps;simp only at hso hps;rw[eP] at hps hck;refine zcI Tryz.func22 rfl (n:=69) rfl rfl rfl ?_;refine gap ?_;refine oS (sF [_] rfl hso ?_) rfl;refine gab ?_;refine oC rfl (λhc=>by cases hc) (λ_=>?_);refine gac ?_;refine oS (sF [_] rfl hps ?_) rfl;refine gad ?_;refine oS (sA λb6=>?_) rfl;refine gab ?_;refine oC rfl (λhc=>by cases hc) (λ_=>?_);refine gab ?_;refine oS (S.call0 [_] rfl hck (λv H' h=>?_) (λch H' h=>?_)) rfl;rotate_left;obtain⟨_,_,h⟩:=h;cases h;obtain⟨rfl,nm,h⟩:=h;cases h;refine gab ?_;refine oC rfl (λ_=>?_) (λhc=>by cases hc);refine gac ?_;exact qac rfl (rC (zrt rfl) (zra rfl)) rfl
theorem qn2(hG:Pp.GW B0 w0):LCalls (KC B0 w0) 8 [qab,int .i64 100,qab] [] (Ret (.agg [str [],int .i64 9,int .i64 0])):=by
 have hpr:=qoo (B0:=B0) (w0:=w0) hG;refine zcI Tryz.func8 rfl (n:=30) rfl rfl rfl ?_;refine gah ?_;refine oS (sA λb6=>?_) rfl;refine gam ?_;refine oS (sF [_] rfl hpr ?_) rfl;refine gab ?_;refine oC rfl (λ_=>?_) (λhc=>by cases hc);refine gab ?_;exact qac rfl (rC (rA rfl zm0 rfl zsr) rN) rfl
end
open Mch (qt0 us)
open Cmp (I64 qrn defO)
open Go.Stele.Wi.Wc (runC endC stC qgG)
open Go.Stele.Wi.Wc.Crc (qce outN qtB)
open Go.Lib (join)
theorem qxz{P:Pr}{n:Nat}(hsz:SzP P n)(hn:n<=3100){x:Wd}(hm:cmpP P.vars (qbo P) P.funcs defO=.ok x){i0:List Nat}(hi0:∀ v∈i0,v<4294967296){f0 l0:Nat}(h0:(runC P f0 i0 l0).1=0) :
  ∃ y code labs,x.length<=1000000/\qcD x=(y,0)/\y.length<=300000000/\asmP y 10000=.ok (code,labs)/\code.length<=40000 /\
   ∀ (inp:List Nat),(∀ v∈inp,v<4294967296)->∀ fuel limit,(runC P fuel inp limit).1=0->∃ K,∀ N,limit+101<=N->runM N (qfn code 10000 inp)=(0,(runC P fuel inp limit).2.out,K):=by
 obtain⟨o1,o2,o3⟩:=Pp.opt_out hsz hn hm;obtain⟨x1,l1,y1,l1',K1,K1',a1,a2,a3,a4,a5,a6,a7⟩:=qgG (o:=defO) hsz.nums hm hi0 f0 l0 (.inl h0);refine⟨_,y1,l1',by omega,o2,o3,a2,by omega,λinp hi fuel limit he=>?_⟩;obtain⟨x2,l2,y2,l2',K2,K2',b1,b2,b3,b4,b5,b6,b7⟩:=qgG (o:=defO) hsz.nums hm hi fuel limit (.inl he);rw[a2] at b2;injection b2 with b2;injection b2 with b2 _;subst b2;refine⟨K2',λN hN=>?_⟩;have:=(b7 N zo).2;rw[he] at this;exact this
noncomputable def crcSrc:List UInt8:=tCrc++tCrcmain
abbrev nCrc:List UInt8:=[99,114,99]
abbrev qeW:List UInt8:=[99,114,99,109,97,105,110]
theorem qxB:srcP [nCrc,qeW] []=(crcSrc,0):=by
 rw[srcP,qrE,if_neg zDd,srcP,qhZ,if_neg zDd,srcP];rfl
theorem qts:qaA crcSrc=(Go.Stele.Wi.Wc.Crc.P,0,0):=by kernel_rfl
theorem qwm:qcf Go.Stele.Wi.Wc.Crc.P=0:=by kernel_rfl
def qxW:Wd:=match cmpP Go.Stele.Wi.Wc.Crc.P.vars (qbo Go.Stele.Wi.Wc.Crc.P) Go.Stele.Wi.Wc.Crc.P.funcs defO with
 |.ok t=>t
 |.error _=>[]
theorem qtg:cmpP Go.Stele.Wi.Wc.Crc.P.vars (qbo Go.Stele.Wi.Wc.Crc.P) Go.Stele.Wi.Wc.Crc.P.funcs defO=.ok qxW:=by kernel_rfl
theorem qvZ:SzP Go.Stele.Wi.Wc.Crc.P 300:=by
 refine⟨by decide,by decide,λa ha=>(by cases ha),by decide,λf hf=>?_⟩;have hf:f∈[Go.Stele.Wi.Wc.Crc.fCrc,Go.Stele.Wi.Wc.Crc.fMain]:=hf;rcases zMi.1 hf with rfl|hf;simp[Go.Stele.Wi.Wc.Crc.fCrc,Go.Stele.Wi.Wc.Crc.firstS,Go.Stele.Wi.Wc.Crc.zeroS,Go.Stele.Wi.Wc.Crc.backS,Go.Stele.Wi.Wc.Crc.roundX,Go.Stele.Wi.Wc.Crc.roundB,qcI,numS,qdt,numE,Lt];obtain rfl:=List.mem_singleton.1 hf;simp[Go.Stele.Wi.Wc.Crc.fMain,Go.Stele.Wi.Wc.Crc.byteX,Go.Stele.Wi.Wc.Crc.byteB,Go.Stele.Wi.Wc.Crc.outS,qcI,numS,qdt,numE,Lt]
theorem qvo:∃ code,Prog [nCrc,qeW] code/\∀ l:List Nat,(∀ v∈l,v<256)->∀ N,1430 * l.length+351<=N->∃ K,runM N (qfn code 10000 l)=(0,outN (l.foldl qce 4294967295),K):=by
 have run:∀ (l:List Nat),(∀ v∈l,v<256)->∃ fuel,(runC Go.Stele.Wi.Wc.Crc.P fuel l (1430 * l.length+250)).1=0/\(runC Go.Stele.Wi.Wc.Crc.P fuel l (1430 * l.length+250)).2.out=outN (l.foldl qce 4294967295):=λl hl=>by
  obtain⟨fuel,s2,h1,h2⟩:=qtB l hl (1430 * l.length+250) (zNr _);refine⟨fuel,?_⟩;unfold runC;rw[h1];exact⟨rfl,h2⟩
 obtain⟨f0,h0,_⟩:=run [] (λv hv=>(not_mem_nil hv).elim);obtain⟨y,code,labs,a1,a2,a3,a4,a5,a6⟩:=qxz qvZ zDd qtg (i0:=[]) (λv hv=>(not_mem_nil hv).elim) h0;refine⟨code,⟨by decide,⟨crcSrc,_,_,_,y,labs,0,qxB,qts,qvZ,by decide,qwm,qtg,a1,a2,a3,a4⟩,a5⟩,λl hl N hN=>?_⟩;obtain⟨fuel,g1,g2⟩:=run l hl;obtain⟨K,hK⟩:=a6 l (λv hv=>by have:=hl v hv;omega) fuel _ g1;exact⟨K,by rw[hK N zo,g2]⟩
theorem qpd(s:List UInt8):∀ v∈qdC s,v<256:=λv hv=>by
 obtain⟨c,_,rfl⟩:=List.mem_map.1 hv;exact qoN c
theorem qtE:outN ((qdC [49,50,51,52,53,54,55,56,57]).foldl qce 4294967295)=[3,118,230,231]:=by kernel_rfl
section
variable{B0:Nat}{w0:World}
theorem qpv(hG:Pp.GW B0 w0)(s:List UInt8){N:Nat}(hN:1430 * s.length+351<=N)(hN2:N<=100000000):∃ K:Nat,LCalls (KC B0 w0) 8 [.list ((qdC s).map u32),int .i64 (N:Nat),.list [str nCrc,str qeW]] [] (Ret (.agg [str (outN ((qdC s).foldl qce 4294967295)),int .i64 0,int .i64 (K:Nat)])):=by
 obtain⟨code,h1,h2⟩:=qvo;obtain⟨K,hK⟩:=h2 (qdC s) (qpd s) N (by unfold qdC;rw[zLm];exact hN);have:=qm7 (B0:=B0) (w0:=w0) hG h1 (inp:=qdC s) (λv hv=>by have:=qpd s v hv;omega) (steps:=N) zo hN2;rw[hK] at this;exact⟨K,this⟩
theorem qhS(hG:Pp.GW B0 w0):LCalls (KC B0 w0) 7 [] [] (Ret (bool true)):=by
 obtain⟨K,hx⟩:=qpv (B0:=B0) (w0:=w0) hG [49,50,51,52,53,54,55,56,57] (N:=100000) zDd zDd;rw[qtE] at hx;have hb:=qix (B0:=B0) (w0:=w0) [49,50,51,52,53,54,55,56,57] zDd;have hy:=qn2 (B0:=B0) (w0:=w0) hG;generalize (qdC [49,50,51,52,53,54,55,56,57]).map u32=ins at hx hb;refine zcI Tryz.func7 rfl (n:=20) rfl rfl rfl ?_;refine gaq ?_;refine oS (sF [_] rfl hb ?_) rfl;refine oS (sL (s:=1) (es:=[str nCrc,str qeW]) [_,_] rfl (qaF [nCrc,qeW]) rfl rfl rfl ?_) rfl;refine oS (sF [_,_,_] rfl hx ?_) rfl;refine oS (sA λb1=>?_) rfl;refine gab ?_;refine oS (sF [_,_,_] rfl hy ?_) rfl;refine oS (sA λb2=>?_) rfl;refine gab ?_;refine oB 10 rfl (λ_=>?_) (λh=>absurd rfl (zf h));refine oB 15 rfl (λ_=>?_) (λh=>absurd rfl (zf h));refine oP (Pure.eqOutT (a:=[]) (b:=[]) (i:=9) (k:=9) (j:=0) (l:=0) rfl rfl rfl rfl rfl) rfl ?_;refine gaa ?_;exact qac rfl (zra rfl) rfl
end
end Go.Proofs.YtkihibnffkpnkaaGreatDoor.Lb
namespace Go.Proofs.YtkihibnffkpnkaaGreatDoor.Lb
open Go.GL Go.RowKit Go.Stele
open Inp (u32)
open Go.Stele.Wi.Wc.Crc (qce outN)
theorem qan.pureHW{C:Ctx}{e:Env}{H:Heap}{dst:Option Nat}{ty:TypeId}{pos:String}{aft:Array Edge}{n:Nat}{ops:Array Oper}{Q:Post}{HF:Heap}{fuel:Nat}{listed:Array Bool}{i j d:Nat}{b:Bool}{op:Op}{lv:LV}(hi:ops[i]? = some ⟨dst,op,ty,pos,aft,some (j,b)⟩)(hj:(ops[j]?).bind (·.dst)=some d)(hb:e.s d=.atom (.bool b))(hd:qc5 n dst)
  (hp:Go.GL.Pure C ⟨dst,op,ty,pos,aft,some (j,b)⟩ e H lv) (k:qaJ C n ops Q HF fuel (listed.setIfInBounds i true) (e.put dst lv) H):qan C n ops Q HF fuel listed e H i:=λw0 L0 a w L hL hA hsz hE hH=>by
 obtain⟨v,hv,hrun⟩:=hp a.eval w L hE.ev hH;unfold wpOp;rw[hi];simp only;rw[if_pos (by simp[Region.wanted,qco hE hj hb])];refine .inl ?_;unfold Oper.wp;rw[hrun w (qeL.refl _ _ _)];exact⟨hA,k w0 L0 _ w L hL hA hsz (hE.put hd hv) hH⟩
attribute [local irreducible] LOps qag qae LCalls Go.GL.Pure qax qam qad LQ LAny qaJ qan LS
section
variable{B0:Nat}{w0:World}
theorem qpN(hG:Pp.GW B0 w0)(b:List UInt8):LCalls (KC B0 w0) 3 [str b] [] (Ret (bool true)):=by
 have hal:=qhS (B0:=B0) (w0:=w0) hG;refine zcI Tryz.func3 rfl (n:=25) rfl rfl rfl ?_;refine gaq ?_;refine oS (sF [] rfl hal ?_) rfl;refine gad ?_;refine oC rfl (λhc=>by cases hc) (λ_=>?_);refine gab ?_;refine oC rfl (λ_=>?_) (λhc=>?_);refine gao ?_;exact qac rfl (zra rfl) rfl;have hb:b.length<=100:=by have:=zf hc;omega
 obtain⟨K,hx⟩:=qpv (B0:=B0) (w0:=w0) hG b (N:=1000000) zo zDd;have hi:=qix (B0:=B0) (w0:=w0) b zo;have hs:=qug (B0:=B0) (w0:=w0) b zo;have h3:=qnr (B0:=B0) (w0:=w0) ((qdC b).foldl qce 4294967295);generalize (qdC b).foldl qce 4294967295=c at *;generalize outN c=o at *;generalize (qdC b).map u32=ins at hx hi;refine gac ?_;refine oS (sF [_] rfl hi ?_) rfl;refine oS (sL (s:=1) (es:=[str nCrc,str qeW]) [_,_] rfl (qaF [nCrc,qeW]) rfl rfl rfl ?_) rfl;refine oS (sF [_,_,_] rfl hx ?_) rfl;refine oS (sA λb3=>?_) rfl;refine gad ?_;refine cD (m:=13) rfl [(b3,.cells 25 [str o,int .i64 0,int .i64 K])] ?_;refine zQ51 ?_;refine aT 2 rfl rfl (Pure.eql rfl rfl) ?_;refine aT 3 rfl rfl (pM (lv:=.atom _) rfl) ?_;refine LAny.tkW 4 rfl rfl rfl rfl (pF rfl) ?_;refine LAny.tkW 5 rfl rfl rfl rfl (pL (c:=.atom _) rfl zm0 rfl) ?_;refine LAny.tkW 6 rfl rfl rfl rfl (pM (lv:=.atom _) rfl) ?_;refine aL ?_ zhr;refine lO 7 (lS (H1:=[]) rfl (.inr ⟨_,_,_,rfl,rfl,rfl⟩) rfl zpr zhr (sL (s:=1) (es:=[str b]) [_] rfl (qaF [b]) rfl rfl rfl ?_));refine lO 8 (lS (H1:=[]) rfl (.inr ⟨_,_,_,rfl,rfl,rfl⟩) rfl zpr zhr (sF [_] rfl hs ?_));refine lO 9 (lS (H1:=[]) rfl (.inr ⟨_,_,_,rfl,rfl,rfl⟩) rfl zpr zhr (sF [_] rfl h3 ?_));refine lO 10 (qan.pureHW rfl rfl rfl rfl (Pure.seq rfl rfl) ?_);refine lO 11 (lH rfl rfl (Pure.pickT (lv:=.atom _) rfl rfl) ?_);refine lO 12 (lH rfl rfl (pA (lv:=.atom _) rfl) ?_);refine lD zk ?_;refine gaf ?_;exact qac rfl (zra rfl) (qau (decide_eq_true rfl))
end
end Go.Proofs.YtkihibnffkpnkaaGreatDoor.Lb
