/- Texts joined: MchC, GlDefLoop, MchD, GlBytS, MchE, CmpKn, CmpTrn, CmpCln, CmpCln2. -/
import Derived.Test.YtpbbgkoalnonoaaGreatDoorBRowM22
import Derived.Test.YtpbbgkoalnonoaaGreatDoorBRowM25
import Derived.Test.YtpbbgkoalnonoaaGreatDoorBRowM28
import Derived.Test.YtpbbgkoalnonoaaGreatDoorBRowM29
import Derived.Test.YtpbbgkoalnonoaaGreatDoorBRowM210
import Derived.Test.YtpbbgkoalnonoaaGreatDoorBRowM212
set_option linter.unusedVariables false
set_option linter.unusedSimpArgs false
set_option maxRecDepth 100000
set_option maxHeartbeats 4000000
namespace Go.Proofs.YtpbbgkoalnonoaaGreatDoor.Mch
open Go.GL Go.RowKit Go.Stele
open Inp (u32 Same retS wrapU u32_eq wrap_u8 acc_one)
structure MK where
 mb:Nat
 mm:Nat
 bm:Nat
@[reducible] def memV (k:MK):Value:=.slice (some ⟨k.mm,0,none⟩) 262144 262144
@[reducible] def MK.mf (k:MK) (s:MS) (st:Nat) (stop:Bool) (vc:Value) (vo:LV):MF:=⟨k.mb,memV k,s.pc,vc,s.inp,vo,s.digit,st,stop,k.bm⟩
@[reducible] def MK.memH (k:MK) (f:Nat→Nat):Nat×LObj:=(k.mm,.cells 93 (memL f))
@[reducible] def MK.binH (k:MK):Nat×LObj:=(k.bm,.obj (.map binsE 7))
def StH (k:MK) (s:MS) (st:Nat) (stop:Bool) (H:Heap):Prop:=∃ vc HC vo HO HD,MRow 93 1 vc (us s.calls.reverse) HC∧Acc 1 vo (byts s.out) HO []∧DH (k.mf s st stop vc vo) s.data HD∧H=HD++(k.memH s.mem::k.binH::(HC++HO))
def PostE (k:MK) (st:Nat) (R:MR) (r:LRes) (H:Heap):Prop:=match R with
 |.run s=>r=.ret (.tuple [])∧StH k s st false H
 |.stop e o=>∃ s,s.out=o∧if e=0 then r=.ret (.tuple [])∧StH k s st true H else e=12∧r=.panic trapV∧StH k s st false H
theorem trapE {k:MK} {st:Nat} {o:Wd} {s:MS} {H:Heap} (hs:s.out=o) (h:StH k s st false H):PostE k st (.stop 12 o) (.panic trapV) H:=⟨s,hs,by rw[if_neg zDd];exact ⟨rfl,rfl,h⟩⟩
theorem dig_t {c:Nat} {k:Int} (h:(c:Int)=k) (hk:48≤k∧k≤57):true=isDigN c:=by
 unfold isDigN
 rw[decide_eq_true (by omega:48≤c),decide_eq_true (by omega:c≤57)]
 try rfl
theorem permC {x m b:Nat×LObj} {A B C:Heap}:(x::(A++(m::b::(B++C)))).Perm (B++(x::(A++(m::b::C)))):=by
 have:=List.perm_append_comm_assoc (x::(A++[m,b])) B C
 simpa using this
theorem permO {x m b:Nat×LObj} {A B C:Heap}:(x::(A++(m::b::(B++C)))).Perm (C++(x::(A++(m::b::B)))):=by
 have:=List.perm_append_comm (l₁:=x::(A++(m::b::B))) (l₂:=C)
 simpa using this
section
variable {B0:Nat} {w0:World} {e:Env} {H:Heap} {dst:Option Nat} {ty:TypeId} {pos:String} {aft:Array Edge} {g:Option (Nat×Bool)} {K:LV→Heap→Prop} {X:List PanicEntry→Heap→Prop}
theorem S.push {f:MF} {data:List Nat} {v:Nat} {a b:Operand} {ats:Array TypeId} {HD F:Heap} (hx:[e.ev a,e.ev b]=[ptr f.mb 0,u32 v]) (hp:H.Perm (HD++F)) (hD:DH f data HD) (hf:data.length≤256)
  (hk:data.length<256→∀ HD',DH f (v::data) HD'→K (.tuple []) (HD'++F)) (hn:¬ data.length<256→∀ HD',DH f data HD'→X trapV (HD'++F)) :
  LStep (KC B0 w0) ⟨dst,.call { callee:=.value (.func 163),args:=#[a,b],argTypes:=ats },ty,pos,aft,g⟩ e H K X:=by
 refine S.callH (H1:=HD) (F:=F) [a,b] hx hp (push_spec hD hf v) ?_ ?_
 ·intro r H' h
  unfold PostPush at h
  split at h
  ·rename_i hl
   obtain ⟨h1,h2⟩:=h
   cases h1
   exact hk hl H' h2
  ·obtain ⟨h1,_⟩:=h
   cases h1
 ·intro ch H' h
  unfold PostPush at h
  split at h
  ·obtain ⟨h1,_⟩:=h
   cases h1
  ·rename_i hl
   obtain ⟨h1,h2⟩:=h
   cases h1
   exact hn hl H' h2
theorem S.pop {f:MF} {data:List Nat} {a:Operand} {ats:Array TypeId} {HD F:Heap} (hx:[e.ev a]=[ptr f.mb 0]) (hp:H.Perm (HD++F)) (hD:DH f data HD) (hf:data.length≤256)
  (hk:∀ x r,data=x::r→∀ HD',DH f r HD'→K (u32 x) (HD'++F)) (hn:data=[]→∀ HD',DH f [] HD'→X trapV (HD'++F)) :
  LStep (KC B0 w0) ⟨dst,.call { callee:=.value (.func 165),args:=#[a],argTypes:=ats },ty,pos,aft,g⟩ e H K X:=by
 refine S.callH (H1:=HD) (F:=F) [a] hx hp (pop_spec hD hf) ?_ ?_
 ·intro r H' h
  cases data with
  |nil=>
   obtain ⟨h1,_⟩:=h
   cases h1
  |cons x d=>
   obtain ⟨h1,h2⟩:=h
   cases h1
   exact hk x d rfl H' h2
 ·intro ch H' h
  cases data with
  |nil=>
   obtain ⟨h1,h2⟩:=h
   cases h1
   exact hn rfl H' h2
  |cons x d=>
   obtain ⟨h1,_⟩:=h
   cases h1
theorem S.address {f:MF} {data:List Nat} {a:Operand} {ats:Array TypeId} {HD F:Heap} (hx:[e.ev a]=[ptr f.mb 0]) (hp:H.Perm (HD++F)) (hD:DH f data HD) (hf:data.length≤256)
  (hk:∀ x r,data=x::r→x<262144→∀ HD',DH f r HD'→K (u32 x) (HD'++F)) (hn:(∀ x r,data=x::r→¬ x<262144)→∀ d HD',DH f d HD'→X trapV (HD'++F)) :
  LStep (KC B0 w0) ⟨dst,.call { callee:=.value (.func 164),args:=#[a],argTypes:=ats },ty,pos,aft,g⟩ e H K X:=by
 refine S.callH (H1:=HD) (F:=F) [a] hx hp (address_spec hD hf) ?_ ?_
 ·intro r H' h
  cases data with
  |nil=>
   obtain ⟨h1,_⟩:=h
   cases h1
  |cons x d=>
   unfold PostAddr at h
   simp only at h
   split at h
   ·rename_i hl
    obtain ⟨h1,h2⟩:=h
    cases h1
    exact hk x d rfl hl H' h2
   ·obtain ⟨h1,_⟩:=h
    cases h1
 ·intro ch H' h
  cases data with
  |nil=>
   obtain ⟨h1,h2⟩:=h
   cases h1
   exact hn (fun x r hxr=>by cases hxr) _ H' h2
  |cons x d=>
   unfold PostAddr at h
   simp only at h
   split at h
   ·obtain ⟨h1,_⟩:=h
    cases h1
   ·rename_i hl
    obtain ⟨h1,h2⟩:=h
    cases h1
    exact hn (fun y r hxr=>by
     injection hxr with e1 e2
     rw[←e1]
     exact hl) _ H' h2
end
attribute [local irreducible] LOps LCode LStep LCalls Go.GL.Pure QThen QBlock RetPost LQ LAny LLate LLateOp LS
section
variable {B0:Nat} {w0:World}
theorem exec_spec (k:MK) {s:MS} {st c:Nat} (hok:MsOk s) (hcl:c<4294967296) (hdig:s.digit=true→s.data≠[]) (hout:s.out.length≤100000000000) {H:Heap} (h:StH k s st false H) :
  LCalls (KC B0 w0) 101 [ptr k.mb 0,u32 c] H (PostE k st (exeM c s)):=by
 generalize hR:exeM c s=R
 obtain ⟨vc,HC,vo,HO,HD,hC,hO,hD,rfl⟩:=h
 have hfew:=hok.few
 have hdeep:=hok.deep
 have hl:(us s.data.reverse).length=s.data.length:=by rw[us_len,List.length_reverse]
 have hlc:(us s.calls.reverse).length=s.calls.length:=by rw[us_len,List.length_reverse]
 have mk:∀ (d:List Nat) (HD':Heap),DH (k.mf s st false vc vo) d HD'→StH k { s with data:=d } st false (HD'++(k.memH s.mem::k.binH::(HC++HO))):=fun d HD' h=>⟨vc,HC,vo,HO,HD',hC,hO,h,rfl⟩
 have mkT:∀ (d:List Nat) (HD':Heap),DH (k.mf s st false vc vo) d HD'→PostE k st (MR.trap s) (.panic trapV) (HD'++(k.memH s.mem::k.binH::(HC++HO))):=fun d HD' h=>trapE (s:={ s with data:=d }) rfl (mk d HD' h)
 have hDD:=hD
 obtain ⟨vd,HD0,hm,rfl⟩:=hD
 rw[List.cons_append]
 refine cI Tryz.func101 rfl (n:=219) rfl rfl rfl ?_
 refine gab ?_
 refine LCode.cut [(0,ptr k.mb 0),(1,u32 c),(14,u32 c),(36,bool (isDigN c))] ?_ (fun j hj=>?_)
 ·refine gai ?_
  refine oC rfl (fun hc=>?_) (fun c0=>?_)
  ·refine gaa ?_
   exact ⟨⟨rfl,rfl,rfl,bool_eq (hc.trans (dig_t (zt hc) zDd)),trivial⟩,rfl,rfl⟩
  refine gai ?_
  refine oC rfl (fun hc=>?_) (fun c1=>?_)
  ·refine gaa ?_
   exact ⟨⟨rfl,rfl,rfl,bool_eq (hc.trans (dig_t (zt hc) zDd)),trivial⟩,rfl,rfl⟩
  refine gai ?_
  refine oC rfl (fun hc=>?_) (fun c2=>?_)
  ·refine gaa ?_
   exact ⟨⟨rfl,rfl,rfl,bool_eq (hc.trans (dig_t (zt hc) zDd)),trivial⟩,rfl,rfl⟩
  refine gai ?_
  refine oC rfl (fun hc=>?_) (fun c3=>?_)
  ·refine gaa ?_
   exact ⟨⟨rfl,rfl,rfl,bool_eq (hc.trans (dig_t (zt hc) zDd)),trivial⟩,rfl,rfl⟩
  refine gai ?_
  refine oC rfl (fun hc=>?_) (fun c4=>?_)
  ·refine gaa ?_
   exact ⟨⟨rfl,rfl,rfl,bool_eq (hc.trans (dig_t (zt hc) zDd)),trivial⟩,rfl,rfl⟩
  refine gai ?_
  refine oC rfl (fun hc=>?_) (fun c5=>?_)
  ·refine gaa ?_
   exact ⟨⟨rfl,rfl,rfl,bool_eq (hc.trans (dig_t (zt hc) zDd)),trivial⟩,rfl,rfl⟩
  refine gai ?_
  refine oC rfl (fun hc=>?_) (fun c6=>?_)
  ·refine gaa ?_
   exact ⟨⟨rfl,rfl,rfl,bool_eq (hc.trans (dig_t (zt hc) zDd)),trivial⟩,rfl,rfl⟩
  refine gai ?_
  refine oC rfl (fun hc=>?_) (fun c7=>?_)
  ·refine gaa ?_
   exact ⟨⟨rfl,rfl,rfl,bool_eq (hc.trans (dig_t (zt hc) zDd)),trivial⟩,rfl,rfl⟩
  refine gai ?_
  refine oC rfl (fun hc=>?_) (fun c8=>?_)
  ·refine gaa ?_
   exact ⟨⟨rfl,rfl,rfl,bool_eq (hc.trans (dig_t (zt hc) zDd)),trivial⟩,rfl,rfl⟩
  refine gai ?_
  exact ⟨⟨rfl,rfl,rfl,bool_eq (by
   have d0:=zf c0
   have d1:=zf c1
   have d2:=zf c2
   have d3:=zf c3
   have d4:=zf c4
   have d5:=zf c5
   have d6:=zf c6
   have d7:=zf c7
   have d8:=zf c8
   unfold isDigN
   rw[←Bool.decide_and,decide_eq_decide]
   omega),trivial⟩,rfl,rfl⟩
 refine oC rfl (fun hc=>?_) (fun hnd=>?_)
 ·have hcd:48≤c∧c≤57:=by
   unfold isDigN at hc
   rw[zBa,zDe,zDe] at hc
   exact hc
  have hR2:digM' c s=R:=by
   rw[←hR]
   unfold exeM
   rw[if_pos hc]
  refine gab ?_
  refine oP (Pure.mlen rfl hm) rfl ?_
  refine gac ?_
  refine oC rfl (fun hdg=>?_) (fun hdg=>?_)
  ·obtain ⟨d,r,hdr⟩:∃ d r,s.data=d::r:=by
    cases hd:s.data with
    |nil=>exact absurd hd (hdig hdg)
    |cons d r=>exact ⟨d,r,rfl⟩
   have hRr:R=.run { s with data:=((d * 10+c-48) % 4294967296)::r }:=by
    rw[←hR2]
    unfold digM'
    rw[if_pos hdg,hdr]
   subst hRr
   have hln:s.data.length=r.length+1:=by rw[hdr];try rfl
   have hrl:(us r.reverse).length=r.length:=by rw[us_len,List.length_reverse]
   have hus:us s.data.reverse=us r.reverse++us [d]:=by rw[hdr,List.reverse_cons,us_app]
   rw[hus] at hm
   obtain ⟨b,cap,spare,h1,h2,hc1,hc2⟩:=MRow.addr hm (by simp[us])
   have hel:(us r.reverse++us [d]).length=r.length+1:=by rw[zLa,hrl];try rfl
   have hfl:(us r.reverse++us [d]).flatMap LV.cells=us r.reverse++us [d]:=by rw[←us_app];exact us_flat _
   rw[hfl,zAs] at h2
   rw[hel] at h1 hc1 hc2
   subst h1 h2
   have hval:IntKind.u32.wrap (IntKind.u32.wrap (IntKind.u32.wrap ((d:Int) * 10)+(c:Int))-48)=(((d * 10+c-48) % 4294967296:Nat):Int):=by
    rw[wrapU,wrapU,wrapU]
    omega
   refine LCode.draw (m:=18) rfl [(k.mb,LObj.cells 98 ((k.mf s st false vc vo).cells (.slice (some ⟨b,0,none⟩) (r.length+1) cap)))] ?_
   refine aT 0 rfl rfl (pM (lv:=.atom _) rfl) ?_
   refine aT 1 rfl rfl (pN rfl) ?_
   refine aT 2 rfl rfl (pF rfl) ?_
   refine aT 3 rfl rfl (pL (c:=.atom _) rfl zm0 rfl) ?_
   refine aT 4 rfl rfl (pM (lv:=.atom _) rfl) ?_
   refine aT 5 rfl rfl (pM (lv:=.atom _) rfl) ?_
   refine aT 6 rfl rfl (pN rfl) ?_
   refine aT 7 rfl rfl (pF rfl) ?_
   refine aT 8 rfl rfl (pL (c:=.atom _) rfl zm0 rfl) ?_
   refine aT 9 rfl rfl (pM (lv:=.atom _) rfl) ?_
   refine aT 10 rfl rfl (Pure.indexRowE (o:=r.length) rfl rfl zo zo zo) ?_
   refine aT 13 rfl rfl (pM (lv:=.atom _) rfl) ?_
   refine LAny.late ?_ zhp
   refine lO 11 (lH rfl rfl (pL (c:=u32 d) rfl zm1 (by rw[List.getElem?_append_right zo,hrl,Nat.sub_self];try rfl)) ?_)
   refine lO 12 (lH rfl rfl (Pure.mulW rfl rfl) ?_)
   refine lO 14 (lH rfl rfl (Pure.addW rfl rfl) ?_)
   refine lO 15 (lH rfl rfl (Pure.subW rfl rfl) ?_)
   refine lO 16 (lH rfl rfl (Pure.indexRowE (o:=r.length) rfl rfl zo zo zo) ?_)
   refine zl1 (i:=17) zk ?_
   refine lS (H1:=[_]) (F:=_::(k.memH s.mem::k.binH::(HC++HO))) rfl (.inl rfl) rfl zp1 zhp ?_
   refine (sS (vs:=[u32 ((d * 10+c-48) % 4294967296)]) (cs':=us r.reverse++(u32 ((d * 10+c-48) % 4294967296)::spare)) rfl pH (by show some [int .u32 _]=some [int .u32 _];rw[←hval]) rfl (by rw[Nat.ble_eq,zLa,hrl,zLa];show r.length+1≤r.length+(1+spare.length);omega) rfl (by
    have:=setL_app (us r.reverse) (us [d]++spare) 0 [u32 ((d * 10+c-48) % 4294967296)]
    rw[hrl,Nat.add_zero] at this
    rw[this]
    show us r.reverse++(u32 _::setL spare 0 [])=_
    rw[setL_none]) ?_)
   refine lD zk ?_
   refine gaa ?_
   have hst:StH k { s with data:=((d * 10+c-48) % 4294967296)::r } st false (((k.mb,.cells 98 ((k.mf s st false vc vo).cells (.slice (some ⟨b,0,none⟩) (r.length+1) cap)))::[(b,.cells 93 (us r.reverse++(u32 ((d * 10+c-48) % 4294967296)::spare)))])++(k.memH s.mem::k.binH::(HC++HO))):=
    mk _ _ ⟨_,_,by
     have:=mrow_us (el:=93) (b:=b) (m:=r.length+1) (cap:=cap) (l:=(((d * 10+c-48) % 4294967296)::r).reverse) (spare:=spare) (by simp) zo zo
     rw[List.reverse_cons,us_app,zAs] at this
     rw[List.reverse_cons,us_app]
     exact this,rfl⟩
   exact rO hj rN ⟨[],by rw[zLz];exact List.Perm.swap _ _ _⟩ ⟨rfl,hst⟩
  ·have hsub:IntKind.u32.wrap ((c:Int)-48)=((c-48:Nat):Int):=by
    rw[wrapU]
    omega
   have hRr:pushM (c-48) s=R:=by
    rw[←hR2]
    unfold digM'
    have hdg':s.digit=false:=hdg
    rw[if_neg (by rw[hdg'];decide)]
   unfold pushM at hRr
   refine gaf ?_
   refine oP (Pure.subW rfl rfl) rfl ?_
   refine oS (S.push (v:=c-48) (by show [_,int .u32 _]=[_,int .u32 _];rw[←hsub];try rfl) zpr hDD hfew (fun hlt HD' hD'=>?_) (fun hlt HD' hD' e' he'=>?_)) rfl
   ·rw[if_pos hlt] at hRr
    subst hRr
    refine gaa ?_
    exact rO hj rN zhr ⟨rfl,mk _ _ hD'⟩
   ·rw[if_neg hlt] at hRr
    subst hRr
    refine gae ?_
    exact RetPost.panic (he'.trans hj) zhr (mkT _ _ hD')
 have hnd':¬ isDigN c=true:=by rw[hnd];decide
 refine LCode.seq ?_
 refine LCode.cut [(0,ptr k.mb 0),(1,u32 c),(14,u32 c),(78,bool (decide (c=32∨c=10)))] ?_ (fun j2 hj2=>?_)
 ·refine gai ?_
  refine oC rfl (fun hc=>?_) (fun c0=>?_)
  ·refine gaa ?_
   exact ⟨⟨rfl,rfl,rfl,bool_eq (hc.trans (decide_eq_true (by have:=zt hc;omega)).symm),trivial⟩,rfl,rfl⟩
  refine gai ?_
  exact ⟨⟨rfl,rfl,rfl,bool_eq (by have:=zf c0;rw[decide_eq_decide];omega),trivial⟩,rfl,rfl⟩
 have hjj:=hj2.trans hj
 refine oC rfl (fun hc=>?_) (fun c0=>?_)
 ·have hcw:=zt hc
  have hRr:R=.run s:=by
   rw[←hR]
   unfold exeM
   rw[if_neg hnd',if_pos hcw]
  subst hRr
  refine gaa ?_
  exact rO hjj rN zhr ⟨rfl,mk _ _ hDD⟩
 have hw0:=zf c0
 refine gai ?_
 refine oC rfl (fun hc=>?_) (fun c1=>?_)
 ·obtain rfl:c=64:=by have:=zt hc;omega
  have hR2:ldM s=R:=hR
  refine LCode.draw (m:=10) rfl [] ?_
  refine aT 0 rfl rfl (pM (lv:=.atom _) rfl) ?_
  refine aT 1 rfl rfl (pM (lv:=.atom _) rfl) ?_
  refine aT 2 rfl rfl (pN rfl) ?_
  refine aT 3 rfl rfl (pF rfl) ?_
  refine aT 5 rfl rfl (pM (lv:=.atom _) rfl) ?_
  refine LAny.late ?_ zhn
  refine LLate.two (i:=4) (j:=6) zk ?_ ?_
  ·refine lH rfl rfl (pL (c:=.atom (memV k)) rfl zm0 rfl) ?_
   refine zl1 (i:=6) zk ?_
   refine lW rfl (.inl rfl) rfl (S.address rfl zpr hDD hfew (fun a r hdr ha HD' hD'=>?_) (fun hb d HD' hD' e' he'=>?_))
   rotate_left
   ·have hRt:R=.trap s:=by
     rw[←hR2]
     unfold ldM
     cases hd:s.data with
     |nil=>rfl
     |cons x r=>simp only;rw[if_neg (hb x r hd)]
    subst hRt
    refine gae ?_
    exact RetPost.panic (he'.trans hjj) zhr (mkT _ _ hD')
   have hRr:pushM (s.mem a) { s with data:=r }=R:=by
    rw[←hR2]
    unfold ldM
    rw[hdr]
    simp only
    rw[if_pos ha]
   unfold pushM at hRr
   simp only at hRr
   have hrl:r.length≤256:=by rw[hdr,zLc] at hfew;omega
   have hD2':=hD'
   obtain ⟨vd',HD1,hm',rfl⟩:=hD2'
   refine lO 7 (lH rfl rfl (Pure.indexRowE (o:=a) rfl rfl zo zo zo) ?_)
   refine lO 8 (lH rfl rfl (pL (c:=u32 (s.mem a)) rfl (List.mem_append_right _ zm0) (memL_get _ ha)) ?_)
   refine lO 9 (lW rfl (.inl rfl) rfl (S.push (v:=s.mem a) rfl zpr hD' hrl (fun hlt HD2 hD2=>?_) (fun hlt HD2 hD2 e' he'=>?_)))
   ·rw[if_pos hlt] at hRr
    subst hRr
    refine lD zk ?_
    refine gaa ?_
    exact rO hjj rN zhr ⟨rfl,mk _ _ hD2⟩
   ·rw[if_neg hlt] at hRr
    subst hRr
    refine gae ?_
    exact RetPost.panic (he'.trans hjj) zhr (mkT _ _ hD2)
  ·refine lW rfl (.inl rfl) rfl (S.address rfl zpr hDD hfew (fun a r hdr ha HD' hD'=>?_) (fun hb d HD' hD' e' he'=>?_))
   rotate_left
   ·have hRt:R=.trap s:=by
     rw[←hR2]
     unfold ldM
     cases hd:s.data with
     |nil=>rfl
     |cons x r=>simp only;rw[if_neg (hb x r hd)]
    subst hRt
    refine gae ?_
    exact RetPost.panic (he'.trans hjj) zhr (mkT _ _ hD')
   have hRr:pushM (s.mem a) { s with data:=r }=R:=by
    rw[←hR2]
    unfold ldM
    rw[hdr]
    simp only
    rw[if_pos ha]
   unfold pushM at hRr
   simp only at hRr
   have hrl:r.length≤256:=by rw[hdr,zLc] at hfew;omega
   have hD2':=hD'
   obtain ⟨vd',HD1,hm',rfl⟩:=hD2'
   refine lO 4 (lH rfl rfl (pL (c:=.atom (memV k)) rfl zm0 rfl) ?_)
   refine lO 7 (lH rfl rfl (Pure.indexRowE (o:=a) rfl rfl zo zo zo) ?_)
   refine lO 8 (lH rfl rfl (pL (c:=u32 (s.mem a)) rfl (List.mem_append_right _ zm0) (memL_get _ ha)) ?_)
   refine lO 9 (lW rfl (.inl rfl) rfl (S.push (v:=s.mem a) rfl zpr hD' hrl (fun hlt HD2 hD2=>?_) (fun hlt HD2 hD2 e' he'=>?_)))
   ·rw[if_pos hlt] at hRr
    subst hRr
    refine lD zk ?_
    refine gaa ?_
    exact rO hjj rN zhr ⟨rfl,mk _ _ hD2⟩
   ·rw[if_neg hlt] at hRr
    subst hRr
    refine gae ?_
    exact RetPost.panic (he'.trans hjj) zhr (mkT _ _ hD2)
 have n64:=zf c1
 refine gai ?_
 refine oC rfl (fun hc=>?_) (fun c2=>?_)
 ·obtain rfl:c=33:=by have:=zt hc;omega
  have hR2:stoM s=R:=hR
  refine gaf ?_
  refine oS (S.address rfl zpr hDD hfew (fun a r hdr ha HD' hD'=>?_) (fun hb d HD' hD' e' he'=>?_)) rfl
  rotate_left
  ·have hRt:R=.trap s:=by
    rw[←hR2]
    unfold stoM
    cases hd:s.data with
    |nil=>rfl
    |cons x r=>
     cases r with
     |nil=>rfl
     |cons y r=>simp only;rw[if_neg (hb x _ hd)]
   subst hRt
   refine gae ?_
   exact RetPost.panic (he'.trans hjj) zhr (mkT _ _ hD')
  have hrl:r.length≤256:=by rw[hdr,zLc] at hfew;omega
  have hD3:=hD'
  obtain ⟨vd',HD1,hm',rfl⟩:=hD3
  refine gau ?_
  refine LCode.draw (m:=9) rfl [] ?_
  refine aT 0 rfl rfl (pM (lv:=.atom _) rfl) ?_
  refine aT 1 rfl rfl (pN rfl) ?_
  refine aT 2 rfl rfl (pF rfl) ?_
  refine aT 4 rfl rfl (pM (lv:=.atom _) rfl) ?_
  refine aT 5 rfl rfl (pM (lv:=.atom _) rfl) ?_
  refine LAny.late ?_ zhn
  refine LLate.two (i:=3) (j:=6) zk ?_ ?_
  ·refine lH rfl rfl (pL (c:=.atom (memV k)) rfl zm0 rfl) ?_
   refine zl1 (i:=6) zk ?_
   refine lW rfl (.inl rfl) rfl (S.pop rfl zpr hD' hrl (fun v r2 hdr2 HD2 hD2=>?_) (fun hb HD2 hD2 e' he'=>?_))
   rotate_left
   ·have hRt:R=.trap s:=by
     rw[←hR2]
     unfold stoM
     rw[hdr,hb]
    subst hRt
    refine gae ?_
    exact RetPost.panic (he'.trans hjj) zhr (mkT _ _ hD2)
   have hRr:R=.run { s with data:=r2,mem:=fun i=>if i=a then v else s.mem i }:=by
    rw[←hR2]
    unfold stoM
    rw[hdr,hdr2]
    simp only
    rw[if_pos ha]
   subst hRr
   have hD4:=hD2
   obtain ⟨vd2,HD3,hm2,rfl⟩:=hD4
   refine lO 7 (lH rfl rfl (Pure.indexRowE (o:=a) rfl rfl zo zo zo) ?_)
   refine lO 8 (lW rfl (.inl rfl) rfl (sS (n:=1) (vs:=[u32 v]) (cs':=memL (fun i=>if i=a then v else s.mem i)) rfl (show Pick _ _ _ from List.perm_middle) rfl rfl (by rw[Nat.ble_eq,memL_len];omega) rfl (memL_set _ _ _) ?_))
   refine lD zk ?_
   refine gaa ?_
   exact rO hjj rN ⟨[],by rw[zLz];exact List.perm_middle.symm⟩ ⟨rfl,vc,HC,vo,HO,_,hC,hO,hD2,rfl⟩
  ·refine lW rfl (.inl rfl) rfl (S.pop rfl zpr hD' hrl (fun v r2 hdr2 HD2 hD2=>?_) (fun hb HD2 hD2 e' he'=>?_))
   rotate_left
   ·have hRt:R=.trap s:=by
     rw[←hR2]
     unfold stoM
     rw[hdr,hb]
    subst hRt
    refine gae ?_
    exact RetPost.panic (he'.trans hjj) zhr (mkT _ _ hD2)
   have hRr:R=.run { s with data:=r2,mem:=fun i=>if i=a then v else s.mem i }:=by
    rw[←hR2]
    unfold stoM
    rw[hdr,hdr2]
    simp only
    rw[if_pos ha]
   subst hRr
   have hD4:=hD2
   obtain ⟨vd2,HD3,hm2,rfl⟩:=hD4
   refine lO 3 (lH rfl rfl (pL (c:=.atom (memV k)) rfl zm0 rfl) ?_)
   refine lO 7 (lH rfl rfl (Pure.indexRowE (o:=a) rfl rfl zo zo zo) ?_)
   refine lO 8 (lW rfl (.inl rfl) rfl (sS (n:=1) (vs:=[u32 v]) (cs':=memL (fun i=>if i=a then v else s.mem i)) rfl (show Pick _ _ _ from List.perm_middle) rfl rfl (by rw[Nat.ble_eq,memL_len];omega) rfl (memL_set _ _ _) ?_))
   refine lD zk ?_
   refine gaa ?_
   exact rO hjj rN ⟨[],by rw[zLz];exact List.perm_middle.symm⟩ ⟨rfl,vc,HC,vo,HO,_,hC,hO,hD2,rfl⟩
 have n33:=zf c2
 refine gai ?_
 refine oC rfl (fun hc=>?_) (fun c3=>?_)
 ·obtain rfl:c=63:=by have:=zt hc;omega
  have hR2:jmpM s=R:=hR
  refine gaf ?_
  refine oS (S.pop rfl zpr hDD hfew (fun t r hdr HD' hD'=>?_) (fun hb HD' hD' e' he'=>?_)) rfl
  rotate_left
  ·have hRt:R=.trap s:=by
    rw[←hR2]
    unfold jmpM
    rw[hb]
   subst hRt
   refine gae ?_
   exact RetPost.panic (he'.trans hjj) zhr (mkT _ _ hD')
  have hrl:r.length≤256:=by rw[hdr,zLc] at hfew;omega
  refine gao ?_
  refine oS (S.pop rfl zpr hD' hrl (fun v r2 hdr2 HD2 hD2=>?_) (fun hb HD2 hD2 e' he'=>?_)) rfl
  rotate_left
  ·have hRt:R=.trap s:=by
    rw[←hR2]
    unfold jmpM
    rw[hdr,hb]
   subst hRt
   refine gae ?_
   exact RetPost.panic (he'.trans hjj) zhr (mkT _ _ hD2)
  have hRr:R=.run { s with data:=r2,pc:=if v=0 then t else s.pc }:=by
   rw[←hR2]
   unfold jmpM
   rw[hdr,hdr2]
  obtain ⟨vd2,HD3,hm2,rfl⟩:=hD2
  refine gaa ?_
  refine oC rfl (fun hv=>?_) (fun hv=>?_)
  ·have hv0:v=0:=by have:=zt hv;omega
   rw[if_pos hv0] at hRr
   subst hRr
   refine gac ?_
   exact rO hjj rN zhr ⟨rfl,vc,HC,vo,HO,_::HD3,hC,hO,⟨vd2,HD3,hm2,rfl⟩,rfl⟩
  ·have hv0:¬ v=0:=by have:=zf hv;omega
   rw[if_neg hv0] at hRr
   subst hRr
   refine gaa ?_
   exact rO hjj rN zhr ⟨rfl,mk _ _ ⟨vd2,HD3,hm2,rfl⟩⟩
 have n63:=zf c3
 refine gai ?_
 refine oC rfl (fun hc=>?_) (fun c4=>?_)
 ·obtain rfl:c=58:=by have:=zt hc;omega
  have hR2:callM s=R:=hR
  refine gaf ?_
  refine oS (S.pop rfl zpr hDD hfew (fun t r hdr HD' hD'=>?_) (fun hb HD' hD' e' he'=>?_)) rfl
  rotate_left
  ·have hRt:R=.trap s:=by
    rw[←hR2]
    unfold callM
    rw[hb]
   subst hRt
   refine gae ?_
   exact RetPost.panic (he'.trans hjj) zhr (mkT _ _ hD')
  have hD3:=hD'
  obtain ⟨vd2,HD3,hm2,rfl⟩:=hD3
  refine gab ?_
  refine oP (Pure.mlen rfl hC) rfl ?_
  refine gaa ?_
  refine oS (S.check rfl (fun hb=>?_) (fun hb e' he'=>?_)) rfl
  rotate_left
  ·have hlt:¬ s.calls.length<64:=by have:=zf hb;omega
   have hRt:R=.trap s:=by
    rw[←hR2]
    unfold callM
    rw[hdr]
    simp only
    rw[if_neg hlt]
   subst hRt
   refine gae ?_
   exact RetPost.panic (he'.trans hjj) zhr (mkT _ _ hD')
  have hlt:s.calls.length<64:=by have:=zt hb;omega
  have hRr:R=.run { s with data:=r,calls:=s.pc::s.calls,pc:=t }:=by
   rw[←hR2]
   unfold callM
   rw[hdr]
   simp only
   rw[if_pos hlt]
  subst hRr
  refine gaa ?_
  refine LCode.draw (m:=14) rfl [] ?_
  refine aT 0 rfl rfl (pM (lv:=.atom _) rfl) ?_
  refine aT 1 rfl rfl (pM (lv:=.atom _) rfl) ?_
  refine aT 2 rfl rfl (pN rfl) ?_
  refine aT 3 rfl rfl (pF rfl) ?_
  refine aT 5 rfl rfl (pM (lv:=.atom _) rfl) ?_
  refine aT 6 rfl rfl (pN rfl) ?_
  refine aT 7 rfl rfl (pF rfl) ?_
  refine LAny.late ?_ zhn
  refine LLate.two (i:=4) (j:=8) zk ?_ ?_
  ·refine lH rfl rfl (pL (c:=.atom vc) rfl zm0 rfl) ?_
   refine zl1 (i:=8) zk ?_
   refine lH rfl rfl (pL (c:=u32 s.pc) rfl zm0 rfl) ?_
   refine zl1 (i:=9) zk ?_
   refine lW rfl (.inl rfl) rfl (sL [_] rfl (eC rfl rfl eN) rfl rfl rfl ?_)
   exact zT5
  ·refine lH rfl rfl (pL (c:=u32 s.pc) rfl zm0 rfl) ?_
   refine LLate.two (i:=4) (j:=9) zk ?_ ?_
   ·refine lH rfl rfl (pL (c:=.atom vc) rfl zm0 rfl) ?_
    refine zl1 (i:=9) zk ?_
    refine lW rfl (.inl rfl) rfl (sL [_] rfl (eC rfl rfl eN) rfl rfl rfl ?_)
    exact zT5
   ·refine lW rfl (.inl rfl) rfl (sL [_] rfl (eC rfl rfl eN) rfl rfl rfl ?_)
    refine zl1 (i:=4) zk ?_
    refine lH rfl rfl (pL (c:=.atom vc) rfl zm0 rfl) ?_
    exact zT5
 have n58:=zf c4
 refine gai ?_
 refine oC rfl (fun hc=>?_) (fun c5=>?_)
 ·obtain rfl:c=59:=by have:=zt hc;omega
  have hR2:bakM s=R:=hR
  refine gab ?_
  refine oP (Pure.mlen rfl hC) rfl ?_
  refine gac ?_
  refine oS (S.check rfl (fun hb=>?_) (fun hb e' he'=>?_)) rfl
  rotate_left
  ·have hnil:s.calls=[]:=by
    have:=zf hb
    exact List.length_eq_zero_iff.1 zo
   have hRt:R=.trap s:=by
    rw[←hR2]
    unfold bakM
    rw[hnil]
   subst hRt
   refine gae ?_
   exact RetPost.panic (he'.trans hjj) zhr (mkT _ _ hDD)
  obtain ⟨t,r,hdr⟩:∃ t r,s.calls=t::r:=by
   cases hd:s.calls with
   |nil=>
    have:=zt hb
    rw[hlc,hd] at this
    simp at this
   |cons t r=>exact ⟨t,r,rfl⟩
  have hRr:R=.run { s with calls:=r,pc:=t }:=by
   rw[←hR2]
   unfold bakM
   rw[hdr]
  subst hRr
  have hln:s.calls.length=r.length+1:=by rw[hdr];try rfl
  have hrl:(us r.reverse).length=r.length:=by rw[us_len,List.length_reverse]
  have hus:us s.calls.reverse=us r.reverse++us [t]:=by rw[hdr,List.reverse_cons,us_app]
  have hC0:=hC
  rw[hus] at hC0
  obtain ⟨b,cap,spare,h1,h2,hc1,hc2⟩:=MRow.addr hC0 (by simp[us])
  have hel:(us r.reverse++us [t]).length=r.length+1:=by rw[zLa,hrl];try rfl
  have hfl:(us r.reverse++us [t]).flatMap LV.cells=us r.reverse++us [t]:=by rw[←us_app];exact us_flat _
  rw[hfl,zAs] at h2
  rw[hel] at h1 hc1 hc2
  subst h1 h2
  refine gac ?_
  refine oP (Pure.indexRowE (o:=r.length) rfl rfl zo zo zo) rfl ?_
  refine oP (pL (c:=u32 t) rfl (List.Mem.tail _ (List.mem_append_right _ zm2)) (by rw[List.getElem?_append_right zo,hrl,Nat.sub_self];try rfl)) rfl ?_
  refine gac ?_
  refine oP (Pure.rowSlice (n:=r.length) rfl (by exact int_eq zo) zo) rfl ?_
  refine gad ?_
  exact rO hjj rN zhr ⟨rfl,_,_,vo,HO,_::HD0,mrow_us (l:=r.reverse) (spare:=us [t]++spare) (by rw[List.length_reverse]) zo (by rw[zLa,us_len];simp only[List.length_singleton];omega),hO,⟨vd,HD0,hm,rfl⟩,rfl⟩
 have n59:=zf c5
 refine gai ?_
 refine oC rfl (fun hc=>?_) (fun c6=>?_)
 ·obtain rfl:c=44:=by have:=zt hc;omega
  have hR2:rdM s=R:=hR
  unfold rdM at hR2
  refine gac ?_
  cases hi:s.inp with
  |nil=>
   rw[hi] at hR2
   unfold pushM at hR2
   have e0:(us (k.mf s st false vc vo).inp).length=0:=by
    show (us s.inp).length=0
    rw[hi]
    try rfl
   refine oC rfl (fun hc=>?_) (fun _=>?_)
   ·have:=zt hc
    omega
   refine gab ?_
   refine oS (S.push (v:=4294967295) rfl zpr hDD hfew (fun hlt HD' hD'=>?_) (fun hlt HD' hD' e' he'=>?_)) rfl
   ·rw[if_pos hlt] at hR2
    subst hR2
    refine gaa ?_
    exact rO hjj rN zhr ⟨rfl,mk _ _ hD'⟩
   ·rw[if_neg hlt] at hR2
    subst hR2
    refine gae ?_
    exact RetPost.panic (he'.trans hjj) zhr (mkT _ _ hD')
  |cons v r=>
   rw[hi] at hR2
   unfold pushM at hR2
   simp only at hR2
   have hli2:(us (k.mf s st false vc vo).inp).length=r.length+1:=by
    show (us s.inp).length=_
    rw[hi]
    simp[us]
   refine oC rfl (fun _=>?_) (fun hc=>?_)
   rotate_left
   ·have:=zf hc
    omega
   refine gac ?_
   refine oP (xR (el':=u32 v) (cs:=[u32 v]) rfl rfl zDd (by show (us s.inp)[0]? = _;rw[hi];try rfl) rfl rfl) rfl ?_
   refine gac ?_
   refine oP (Pure.lsliceE (ms:=us r) rfl ⟨_,rfl⟩ rfl zo zo zo (us_cell _) (by show List.drop _ (List.take ((us s.inp).length:Int).toNat (us s.inp))=us r;rw[hi];simp[us,List.take_of_length_le])) rfl ?_
   refine gac ?_
   have hD5:DH (k.mf { s with inp:=r } st false vc vo) s.data ((k.mb,.cells 98 ((k.mf { s with inp:=r } st false vc vo).cells vd))::HD0):=⟨vd,HD0,hm,rfl⟩
   have mk5:∀ (d:List Nat) (HD':Heap),DH (k.mf { s with inp:=r } st false vc vo) d HD'→StH k { s with inp:=r,data:=d } st false (HD'++(k.memH s.mem::k.binH::(HC++HO))):=fun d HD' h=>⟨vc,HC,vo,HO,HD',hC,hO,h,rfl⟩
   refine oS (S.push (v:=v) rfl zpr hD5 hfew (fun hlt HD' hD'=>?_) (fun hlt HD' hD' e' he'=>?_)) rfl
   ·rw[if_pos hlt] at hR2
    subst hR2
    refine gaa ?_
    exact rO hjj rN zhr ⟨rfl,mk5 _ _ hD'⟩
   ·rw[if_neg hlt] at hR2
    subst hR2
    refine gae ?_
    exact RetPost.panic (he'.trans hjj) zhr (trapE (s:={ s with inp:=r,data:=s.data }) rfl (mk5 _ _ hD'))
 have n44:=zf c6
 refine gai ?_
 refine oC rfl (fun hc=>?_) (fun c7=>?_)
 ·obtain rfl:c=46:=by have:=zt hc;omega
  have hR2:wrM s=R:=hR
  refine LCode.draw (m:=13) rfl [] ?_
  refine aT 0 rfl rfl (pM (lv:=.atom _) rfl) ?_
  refine aT 1 rfl rfl (pM (lv:=.atom _) rfl) ?_
  refine aT 2 rfl rfl (pN rfl) ?_
  refine aT 3 rfl rfl (pF rfl) ?_
  refine aT 5 rfl rfl (pM (lv:=.atom _) rfl) ?_
  refine LAny.late ?_ zhn
  refine LLate.two (i:=4) (j:=6) zk ?_ ?_
  ·refine lH rfl rfl (pL (c:=vo) rfl zm0 rfl) ?_
   refine zl1 (i:=6) zk ?_
   refine lW rfl (.inl rfl) rfl (S.pop rfl zpr hDD hfew (fun v r hdr HD' hD'=>?_) (fun hb HD' hD' e' he'=>?_))
   rotate_left
   ·have hRt:R=.trap s:=by
     rw[←hR2]
     unfold wrM
     rw[hb]
    subst hRt
    refine gae ?_
    exact RetPost.panic (he'.trans hjj) zhr (mkT _ _ hD')
   have hRr:R=.run { s with data:=r,out:=s.out++[UInt8.ofNat v] }:=by
    rw[←hR2]
    unfold wrM
    rw[hdr]
   subst hRr
   obtain ⟨vd2,HD3,hm2,rfl⟩:=hD'
   have e1:byts s.out++[int .u8 (IntKind.u8.wrap (v:Int))]=byts (s.out++[UInt8.ofNat v]):=by
    rw[byts_app,wrap_u8]
    try rfl
   have hroom2:((byts s.out).length+[int .u8 (IntKind.u8.wrap (v:Int))].length) * 1≤140737488355328:=by
    simp only[byts_len,zLc,zLn]
    omega
   refine zl1 (i:=7) zk ?_
   refine lH rfl rfl (Pure.cvt rfl) ?_
   refine zl1 (i:=8) zk ?_
   refine lW rfl (.inl rfl) rfl (sL (es:=[int .u8 (IntKind.u8.wrap (v:Int))]) [_] rfl (eC rfl rfl eN) rfl rfl rfl ?_)
   exact zT4
  ·refine lW rfl (.inl rfl) rfl (S.pop rfl zpr hDD hfew (fun v r hdr HD' hD'=>?_) (fun hb HD' hD' e' he'=>?_))
   rotate_left
   ·have hRt:R=.trap s:=by
     rw[←hR2]
     unfold wrM
     rw[hb]
    subst hRt
    refine gae ?_
    exact RetPost.panic (he'.trans hjj) zhr (mkT _ _ hD')
   have hRr:R=.run { s with data:=r,out:=s.out++[UInt8.ofNat v] }:=by
    rw[←hR2]
    unfold wrM
    rw[hdr]
   subst hRr
   obtain ⟨vd2,HD3,hm2,rfl⟩:=hD'
   have e1:byts s.out++[int .u8 (IntKind.u8.wrap (v:Int))]=byts (s.out++[UInt8.ofNat v]):=by
    rw[byts_app,wrap_u8]
    try rfl
   have hroom2:((byts s.out).length+[int .u8 (IntKind.u8.wrap (v:Int))].length) * 1≤140737488355328:=by
    simp only[byts_len,zLc,zLn]
    omega
   refine LLate.two (i:=4) (j:=7) zk ?_ ?_
   ·refine lH rfl rfl (pL (c:=vo) rfl zm0 rfl) ?_
    refine zl1 (i:=7) zk ?_
    refine lH rfl rfl (Pure.cvt rfl) ?_
    refine zl1 (i:=8) zk ?_
    refine lW rfl (.inl rfl) rfl (sL (es:=[int .u8 (IntKind.u8.wrap (v:Int))]) [_] rfl (eC rfl rfl eN) rfl rfl rfl ?_)
    exact zT4
   ·refine lH rfl rfl (Pure.cvt rfl) ?_
    refine LLate.two (i:=4) (j:=8) zk ?_ ?_
    ·refine lH rfl rfl (pL (c:=vo) rfl zm0 rfl) ?_
     refine zl1 (i:=8) zk ?_
     refine lW rfl (.inl rfl) rfl (sL (es:=[int .u8 (IntKind.u8.wrap (v:Int))]) [_] rfl (eC rfl rfl eN) rfl rfl rfl ?_)
     exact zT4
    ·refine lW rfl (.inl rfl) rfl (sL (es:=[int .u8 (IntKind.u8.wrap (v:Int))]) [_] rfl (eC rfl rfl eN) rfl rfl rfl ?_)
     refine zl1 (i:=4) zk ?_
     refine lH rfl rfl (pL (c:=vo) rfl zm0 rfl) ?_
     exact zT4
 have n46:=zf c7
 refine gai ?_
 refine oC rfl (fun hc=>?_) (fun c8=>?_)
 ·obtain rfl:c=36:=by have:=zt hc;omega
  have hRr:R=.stop 0 s.out:=hR.symm
  subst hRr
  refine gac ?_
  exact rO hjj rN zhr ⟨s,rfl,by rw[if_pos rfl];exact ⟨rfl,vc,HC,vo,HO,_::HD0,hC,hO,⟨vd,HD0,hm,rfl⟩,rfl⟩⟩
 have n36:=zf c8
 have hsign:∀ r,(if c=43∨c=45∨c=42∨c=47∨c=37∨c=94∨c=60 then opM c s else MR.trap s)=r→R=r:=fun r hr=>by
  rw[←hR,←hr]
  unfold exeM
  rw[if_neg hnd',if_neg hw0,if_neg zo,if_neg zo,if_neg zo,if_neg zo,if_neg zo,if_neg zo,if_neg zo,if_neg zo]
 by_cases hop:c=43∨c=45∨c=42∨c=47∨c=37∨c=94∨c=60
 rotate_left
 ·have hRt:=hsign _ (if_neg hop)
  subst hRt
  refine gab ?_
  refine oP (Pure.lookupMiss2 (zv:=.nilFunc) (kt:=93) (el:=188) (kd:=.u32) zk zk (fun w=>(Go.zero_of_info (P:=Tryz.prog) (n:=1) zk).1 w) rfl rfl (List.Mem.tail _ (List.mem_append_right _ zm1)) (bins_miss hop)) rfl ?_
  refine gab ?_
  refine oS (S.check rfl (fun hb=>?_) (fun hb e' he'=>?_)) rfl
  ·cases hb
  ·refine gae ?_
   exact RetPost.panic (he'.trans hjj) zhr (mkT _ _ hDD)
 have hR2:=hsign _ (if_pos hop)
 have hval:∀ (a b:Nat) (r:List Nat),s.data=b::a::r→a<4294967296∧b<4294967296:=fun a b r hd=>by
  have h1:=hok.data
  rw[hd] at h1
  exact ⟨h1 a (zMo _ zMs),h1 b zMs⟩
 obtain ⟨jj,f,hf1,hf2,_⟩:=mbin_spec (B0:=B0) (w0:=w0) hop (a:=0) (b:=0) zDd zDd
 refine gab ?_
 refine oP (Pure.lookupHit2 (kt:=93) (el:=188) (kd:=.u32) zk zk rfl rfl (List.Mem.tail _ (List.mem_append_right _ zm1)) hf1) rfl ?_
 refine gab ?_
 refine oS (S.check rfl (fun hb=>?_) (fun hb e' he'=>?_)) rfl
 rotate_left
 ·cases hb
 refine gan ?_
 refine oS (S.pop rfl zpr hDD hfew (fun b r hdr HD' hD'=>?_) (fun hb HD' hD' e' he'=>?_)) rfl
 rotate_left
 ·have hRt:R=.trap s:=by
   rw[hR2]
   unfold opM
   rw[hb]
  subst hRt
  refine gae ?_
  exact RetPost.panic (he'.trans hjj) zhr (mkT _ _ hD')
 have hrl:r.length≤256:=by rw[hdr,zLc] at hfew;omega
 refine gao ?_
 refine oS (S.pop rfl zpr hD' hrl (fun a r2 hdr2 HD2 hD2=>?_) (fun hb HD2 hD2 e' he'=>?_)) rfl
 rotate_left
 ·have hRt:R=.trap s:=by
   rw[hR2]
   unfold opM
   rw[hdr,hb]
  subst hRt
  refine gae ?_
  exact RetPost.panic (he'.trans hjj) zhr (mkT _ _ hD2)
 have hrl2:r2.length≤256:=by rw[hdr2,zLc] at hrl;omega
 obtain ⟨ha,hb4⟩:=hval a b r2 (by rw[hdr,hdr2])
 obtain ⟨jj2,f2,hf3,hf4,hspec⟩:=mbin_spec (B0:=B0) (w0:=w0) hop ha hb4
 obtain rfl:f=f2:=by
  rw[hf1] at hf3
  injection hf3 with h1
  injection h1 with h1
  injection h1 with h1 h2
  injection h2 with h2
  injection h2
 have hR3:(match binM c a b with
   |some v=>pushM v { s with data:=r2 }
   |none=>MR.trap s)=R:=by
  rw[hR2]
  unfold opM
  rw[hdr,hdr2]
  try rfl
 refine gao ?_
 refine oS (S.callV (f:=f) (first:=#[]) (caps:=#[]) (H1:=HD2++(k.memH s.mem::k.binH::(HC++HO))) (F:=[]) [_,_] rfl rfl (by rw[zLz]) (hspec _) ?_ ?_) rfl
 ·rintro v H' ⟨rfl,h⟩
  cases hbm:binM c a b with
  |none=>
   rw[hbm] at h
   cases h
  |some w=>
   rw[hbm] at h hR3
   cases h
   simp only at hR3
   unfold pushM at hR3
   simp only at hR3
   rw[zLz]
   refine oS (S.push (v:=w) rfl zpr hD2 hrl2 (fun hlt HD3 hD3=>?_) (fun hlt HD3 hD3 e' he'=>?_)) rfl
   ·rw[if_pos hlt] at hR3
    subst hR3
    refine gaa ?_
    exact rO hjj rN zhr ⟨rfl,mk _ _ hD3⟩
   ·rw[if_neg hlt] at hR3
    subst hR3
    refine gae ?_
    exact RetPost.panic (he'.trans hjj) zhr (mkT _ _ hD3)
 ·rintro ch H' ⟨rfl,h⟩ e' he'
  cases hbm:binM c a b with
  |some w=>
   rw[hbm] at h
   cases h
  |none=>
   rw[hbm] at h hR3
   cases h
   simp only at hR3
   subst hR3
   rw[zLz]
   refine gae ?_
   exact RetPost.panic (he'.trans hjj) zhr (mkT _ _ hD2)
end
end Go.Proofs.YtpbbgkoalnonoaaGreatDoor.Mch
namespace Go.GL
open Go.RowKit
section
variable {C:Ctx} {n:Nat} {Q:Post} {e:Env} {H:Heap}
theorem LCodeP.weak {c:Code} {H':Heap} (s:HSub H' H) (h:LCodeP C n c Q e H'):LCodeP C n c Q e H:=fun a w L hE hH=>
 Go.wp_mono (h a w L hE (hH.weak s)) fun _ _ _ ⟨e',H2,L',h1,h2,h3,h4⟩=>⟨e',H2,L',h1.wide s.keys,h2,h3,h4⟩
theorem LCodeP.conseq {c:Code} {Q':Post} (h:LCodeP C n c Q e H) (hq:∀ x e H,Q x e H→Q' x e H):LCodeP C n c Q' e H:=fun a w L hE hH=>
 Go.wp_mono (h a w L hE hH) fun _ _ _ ⟨e',H2,L',h1,h2,h3,h4⟩=>⟨e',H2,L',h1,h2,h3,hq _ _ _ h4⟩
theorem LCodeP.loop {c:Code} (I:Nat→Env→Heap→Prop) (k:Nat) (h0:I k e H)
  (round:∀ k e H,I k e H→LCodeP C n c (QThen (fun e' H'=>∃ m,m<k∧I m e' H') Q) e H):LCodeP C n (.loop c) Q e H:=fun a w L hE hH=>by
 refine wp_loop_idx (I:=fun k a' w'=>∃ e' H' L',Fr (keys H) w L w' L' H'∧RelH C w' L' H'∧RelE n a' e' w' L'∧I k e' H') (n:=k) ?_ ⟨e,H,L,Fr.refl _ _ _,hH,hE,h0⟩
 rintro k a1 w1 ⟨e1,H1,L1,h1,h2,h3,h4⟩
 refine Go.wp_mono (round k e1 H1 h4 a1 w1 L1 h3 h2) fun ex a' w' hq=>?_
 obtain ⟨e',H',L',g1,g2,g3,g4⟩:=hq
 cases ex with
 |normal=>
  obtain ⟨m,hm,g4⟩:=g4
  exact ⟨m,hm,e',H',L',h1.trans g1,g2,g3,g4⟩
 |exit id=>exact ⟨e',H',L',h1.trans g1,g2,g3,g4⟩
 |goto id=>exact ⟨e',H',L',h1.trans g1,g2,g3,g4⟩
 |ret=>exact ⟨e',H',L',h1.trans g1,g2,g3,g4⟩
 |panic ch=>exact ⟨e',H',L',h1.trans g1,g2,g3,g4⟩
 |outgrown=>exact ⟨e',H',L',h1.trans g1,g2,g3,g4⟩
theorem LCodeP.loopI {c:Code} (I:Nat→List (Nat×LV)→Heap→Prop) (h0:∃ k l H0,I k l H0∧AllSlots e l∧HSub H0 H)
  (round:∀ k l H,I k l H→∀ j:Env,j.ds=e.ds→LCodeP C n c (QThen (Again I k e.ds) Q) (Env.slots j l) H):LCodeP C n (.loop c) Q e H:=by
 obtain ⟨k,l,H0,h0,h1,h2⟩:=h0
 refine LCodeP.weak h2 (LCodeP.loop (fun k e' H'=>∃ l H0,I k l H0∧AllSlots e' l∧HSub H0 H'∧e'.ds=e.ds) k ⟨l,H0,h0,h1,zhR _,rfl⟩ ?_)
 rintro k e' H' ⟨l,H0,g0,g1,g2,g3⟩
 have:=round k l H0 g0 e' g3
 rw[Env.slots_self g1.mem] at this
 refine LCodeP.weak g2 (LCodeP.conseq this ?_)
 rintro ex e2 H2 hq
 cases ex with
 |normal=>
  obtain ⟨m,l',H3,r1,r2,r3,r4,r5⟩:=hq
  exact ⟨m,r1,l',H3,r2,r3,r4,r5⟩
 |exit id=>exact hq
 |goto id=>exact hq
 |ret=>exact hq
 |panic ch=>exact hq
 |outgrown=>exact hq
end
end Go.GL
namespace Go.Proofs.YtpbbgkoalnonoaaGreatDoor.Mch
open Go.GL Go.RowKit Go.Stele
open Inp (u32 Same retS wrapU u32_eq)
theorem trap_zero (w:World):(zeroValue 191).run Tryz.prog w=.ok (.agg ([]:List Value).toArray) w:=
 (Go.zero_of_info (P:=Tryz.prog) (n:=0) zk).1 w
theorem exe_len {c:Nat} {s s':MS} (h:exeM c s=.run s'):s'.out.length≤s.out.length+1:=by
 have push:∀ (v:Nat) (t:MS),pushM v t=.run s'→t.out=s.out→s'.out.length≤s.out.length+1:=fun v t h ht=>by
  unfold pushM at h
  split at h
  ·injection h with h
   subst h
   show t.out.length≤_
   rw[ht]
   omega
  ·cases h
 unfold exeM at h
 split at h
 ·unfold digM' at h
  split at h
  ·split at h
   ·injection h with h
    subst h
    simp
   ·cases h
  ·exact push _ _ h rfl
 split at h
 ·injection h with h
  subst h
  omega
 split at h
 ·unfold ldM at h
  split at h
  ·split at h
   ·exact push _ _ h rfl
   ·cases h
  ·cases h
 split at h
 ·unfold stoM at h
  split at h
  ·split at h
   ·injection h with h
    subst h
    simp
   ·cases h
  ·cases h
 split at h
 ·unfold jmpM at h
  split at h
  ·injection h with h
   subst h
   simp
  ·cases h
 split at h
 ·unfold callM at h
  split at h
  ·split at h
   ·injection h with h
    subst h
    simp
   ·cases h
  ·cases h
 split at h
 ·unfold bakM at h
  split at h
  ·injection h with h
   subst h
   simp
  ·cases h
 split at h
 ·unfold rdM at h
  split at h
  ·exact push _ _ h rfl
  ·exact push _ _ h rfl
 split at h
 ·unfold wrM at h
  split at h
  ·injection h with h
   subst h
   simp
  ·cases h
 split at h
 ·cases h
 split at h
 ·unfold opM at h
  split at h
  ·split at h
   ·exact push _ _ h rfl
   ·cases h
  ·cases h
 ·cases h
theorem QNo.exit {Q:Post} {e:Env} {H:Heap} {id:Nat} (h:Q (.exit id) e H):QNo Q (.exit id) e H:=h
attribute [local irreducible] LOps LCode LStep LCalls Go.GL.Pure QThen QBlock RetPost LQ LAny LLate LLateOp LS LOpsP LCodeP LCodeS LCallsD
section
variable {B0:Nat} {w0:World}
theorem rec_ret (b:Nat) (d:LV):LCallsD (KC B0 w0) 100 [ptr b 0] .returning [(b,.cells 31 [d])]
  (fun u H=>u=.returning∧H=[(b,.cells 31 [d])]):=by
 refine LCallsD.intro Tryz.func100 rfl (n:=14) rfl rfl rfl ?_
 refine LCodeS.seq (LCodeS.recover rfl rfl ?_)
 refine LCodeS.of ?_
 refine gaf ?_
 refine oP (Chk.Pure.assertNil trap_zero rfl) rfl ?_
 refine gad ?_
 refine oS (sA fun b5=>?_) rfl
 refine gac ?_
 refine oC rfl (fun hc=>?_) (fun hc=>?_)
 ·cases hc
 refine gac ?_
 refine oC rfl (fun hc=>?_) (fun hc=>?_)
 ·cases hc
 ·refine gaa ?_
  exact ⟨rfl,_,zhD zhr,rfl,rfl⟩
theorem rec_pan (b:Nat) (d:LV):LCallsD (KC B0 w0) 100 [ptr b 0] (.panicking trapV) [(b,.cells 31 [d])]
  (fun u H=>settle u=.returning∧H=[(b,.cells 31 [int .i64 12])]):=by
 refine LCallsD.intro Tryz.func100 rfl (n:=14) rfl rfl rfl ?_
 refine LCodeS.seq (LCodeS.recover rfl rfl ?_)
 refine LCodeS.of ?_
 refine gaf ?_
 refine oP (Pure.assertOk (vs:=[]) rfl) rfl ?_
 refine gad ?_
 refine oS (sA fun b5=>?_) rfl
 refine gac ?_
 refine oC rfl (fun hc=>?_) (fun hc=>?_)
 ·refine gac ?_
  exact ⟨rfl,_,zhP pH zhn,rfl,rfl⟩
 ·cases hc
def EndH (k:MK) (st:Nat) (o:Wd) (H:Heap):Prop:=∃ s stop,s.out=o∧StH k s st stop H
theorem run_spec (k:MK) {s:MS} {st limit:Nat} (hok:MsOk s) (hdig:s.digit=true→s.data≠[]) (hst:st≤limit) (hlim:limit≤100000000) (hout:s.out.length≤st) {H:Heap} (h:StH k s st false H) :
  LCalls (KC B0 w0) 41 [ptr k.mb 0,int .i64 (limit:Nat)] H (fun r H'=>EndH k (st+(runM (limit-st) s).2.2) (runM (limit-st) s).2.1 H'∧r=.ret (int .i64 ((runM (limit-st) s).1:Nat))):=by
 generalize hR:runM (limit-st) s=R
 refine LCalls.introD Tryz.func41 rfl (n:=59) rfl rfl rfl ?_
 refine LCodeP.seq (LCodeP.of ?_)
 refine gag ?_
 refine oS (sA fun b4=>?_) rfl
 refine gap ?_
 refine LCodeP.seq (LCodeP.region ?_)
 refine gad ?_
 refine LOpsP.defer rfl rfl ?_
 refine LOpsP.nil ?_
 refine qN ?_
 refine LCodeP.seq ?_
 refine LCodeP.block ?_
 refine LCodeP.loopI (fun kk ls H'=>∃ (i:Nat) (s1:MS) (H1:Heap),i≤limit∧st≤i∧kk=limit-i∧ls=[(0,ptr k.mb 0),(1,int .i64 (limit:Nat)),(4,ptr b4 0)]∧H'=(b4,.cells 31 [int .i64 0])::H1∧StH k s1 i false H1∧MsOk s1∧(s1.digit=true→s1.data≠[])∧s1.out.length≤i∧(runM (limit-i) s1).1=R.1∧(runM (limit-i) s1).2.1=R.2.1∧i+(runM (limit-i) s1).2.2=st+R.2.2)
  ⟨_,_,_,⟨st,s,H,hst,zNr _,rfl,rfl,rfl,h,hok,hdig,hout,by rw[hR],by rw[hR],by rw[hR]⟩,⟨rfl,rfl,rfl,trivial⟩,zhR _⟩ ?_
 rintro kk ls H' ⟨i,s1,H1,hi,hsi,rfl,rfl,rfl,hS,hok1,hdig1,hout1,e1,e2,e3⟩ j hj
 obtain ⟨vc,HC,vo,HO,HD,hC,hO,hD,rfl⟩:=hS
 have hDD:=hD
 obtain ⟨vd,HD0,hm,rfl⟩:=hD
 rw[List.cons_append]
 have hmst:(k.mf s1 i false vc vo).st=i:=rfl
 have hmpc:(k.mf s1 i false vc vo).pc=s1.pc:=rfl
 refine LCodeP.seq (LCodeP.of ?_)
 refine gab ?_
 refine oC rfl (fun hc=>?_) (fun hc=>?_)
 rotate_left
 ·have hil:i=limit:=by have:=zf hc;omega
  subst hil
  rw[Nat.sub_self,runM] at e1 e2 e3
  simp only at e1 e2 e3
  refine LCode.exit ?_
  refine QNo.exit ?_
  refine gaa ?_
  refine LCodeP.of ?_
  refine gac ?_
  first|refine QNo.ret ?_|skip
  exact RetPostD.ret1 (vs:=[int .i64 13]) (H2:=[(b4,.cells 31 [int .i64 13])]) hj zpr (rec_ret b4 _)
   (rC (ResIs.cellOne rfl zm0 rfl zsr) rN) (zhD zhr) ⟨⟨s1,false,e2,by rw[←e3,Nat.add_zero];exact ⟨vc,HC,vo,HO,_,hC,hO,hDD,rfl⟩⟩,by rw[←e1];try rfl⟩
 have hil:i<limit:=by have:=zt hc;omega
 have hn:limit-i=(limit-(i+1))+1:=by omega
 rw[hn,runM] at e1 e2 e3
 refine LCode.skip ?_
 first|refine QNo.normal ?_|skip
 refine LCodeP.block ?_
 refine LCodeP.seq (LCodeP.of ?_)
 refine gac ?_
 first|refine QNo.normal ?_|skip
 refine LCodeP.weak (H':=(b4,.cells 31 [int .i64 0])::(k.mb,.cells 98 ((k.mf s1 (i+1) false vc vo).cells vd))::(HD0++(k.memH s1.mem::k.binH::(HC++HO)))) ⟨[],by rw[zLz];exact List.Perm.swap _ _ _⟩ ?_
 have hst1:StH k s1 (i+1) false (((k.mb,.cells 98 ((k.mf s1 (i+1) false vc vo).cells vd))::HD0)++(k.memH s1.mem::k.binH::(HC++HO))):=⟨vc,HC,vo,HO,_,hC,hO,⟨vd,HD0,hm,rfl⟩,rfl⟩
 have hmpc2:(k.mf s1 (i+1) false vc vo).pc=s1.pc:=rfl
 refine LCodeP.seq (LCodeP.region ?_)
 refine gad ?_
 refine LOpsP.step (S.check rfl (fun hb=>?_) (fun hb=>?_)) rfl
 rotate_left
 ·have hpc:¬ s1.pc<262144:=by have:=zf hb;omega
  have hs:stepM s1=.stop 12 s1.out:=by
   unfold stepM
   rw[if_neg hpc]
   try rfl
  rw[hs] at e1 e2 e3
  simp only at e1 e2 e3
  refine gae ?_
  exact RetPostD.panic1 (H1:=[(b4,.cells 31 [int .i64 0])]) (vs:=[int .i64 12]) (H2:=[(b4,.cells 31 [int .i64 12])]) hj zpr (rec_pan b4 _)
   (rC (ResIs.cellOne rfl zm0 rfl zsr) rN) (zhD zhr) ⟨⟨s1,false,e2,by rw[←e3];exact hst1⟩,by rw[←e1];try rfl⟩
 have hpc:s1.pc<262144:=by have:=zt hb;omega
 refine LOpsP.nil ?_
 refine qN ?_
 refine LCodeP.seq (LCodeP.of ?_)
 refine LCode.quiet zk ?_
 refine gad ?_
 refine LQ.pure (Pure.indexRowE (o:=s1.pc) rfl rfl zo zo zo) rfl ?_
 refine LQ.pure (pL (c:=u32 (s1.mem s1.pc)) rfl (List.Mem.tail _ (List.Mem.tail _ (List.mem_append_right _ zm0))) (memL_get _ hpc)) rfl ?_
 refine gad ?_
 first|refine QNo.normal ?_|skip
 refine LCodeP.seq (LCodeP.of ?_)
 refine gab ?_
 refine oP (Pure.addW rfl rfl) rfl ?_
 refine gaa ?_
 have hw:IntKind.u32.wrap ((s1.pc:Int)+1)=((s1.pc+1:Nat):Int):=by
  rw[wrapU]
  omega
 refine oS (sS (n:=1) (vs:=[u32 (s1.pc+1)]) (cs':=[_,_,_,_,_,_,_,_,_,_]) rfl zp1 (by show some [int .u32 _]=some [int .u32 _];rw[←hw]) rfl rfl rfl rfl ?_) rfl
 refine gap ?_
 first|refine QNo.normal ?_|skip
 generalize hcd:s1.mem s1.pc=c at *
 have hcl:c<4294967296:=by rw[←hcd];exact hok1.mem _
 have hok2:MsOk { s1 with pc:=s1.pc+1 }:=⟨hok1.mem,by show s1.pc+1<_;omega,hok1.data,hok1.calls,hok1.inp,hok1.few,hok1.deep⟩
 have hex:=exec_spec (B0:=B0) (w0:=w0) k (s:={ s1 with pc:=s1.pc+1 }) (st:=i+1) (c:=c) hok2 hcl hdig1 (by show s1.out.length≤_;omega) (H:=((k.mb,.cells 98 ((k.mf { s1 with pc:=s1.pc+1 } (i+1) false vc vo).cells vd))::HD0)++(k.memH s1.mem::k.binH::(HC++HO))) ⟨vc,HC,vo,HO,_,hC,hO,⟨vd,HD0,hm,rfl⟩,rfl⟩
 refine LCodeP.seq (LCodeP.region ?_)
 refine gad ?_
 refine LOpsP.step (S.callH (F:=[(b4,.cells 31 [int .i64 0])]) [_,_] rfl (List.Perm.cons _ (List.perm_append_singleton _ _).symm) hex ?_ ?_) rfl
 ·intro v H2 hP
  cases hx:exeM c { s1 with pc:=s1.pc+1 } with
  |run s2=>
   rw[hx] at hP
   obtain ⟨hv,hS2⟩:=hP
   cases hv
   have hs:stepM s1=.run { s2 with digit:=isDigN c }:=by
    unfold stepM
    rw[if_pos hpc,hcd,hx]
   rw[hs] at e1 e2 e3
   simp only at e1 e2 e3
   have hok3:=exe_ok hok2 hcl hx
   have hlen:=exe_len hx
   have hdig3:isDigN c=true→s2.data≠[]:=exe_dig hx
   have hlen2:s2.out.length≤i+1:=by
    have:s2.out.length≤s1.out.length+1:=hlen
    omega
   obtain ⟨vc2,HC2,vo2,HO2,HD2,hC2,hO2,hD2,rfl⟩:=hS2
   obtain ⟨vd2,HD3,hm2,rfl⟩:=hD2
   refine LOpsP.nil ?_
   refine qN ?_
   refine LCodeP.weak (H':=(b4,.cells 31 [int .i64 0])::(k.mb,.cells 98 ((k.mf s2 (i+1) false vc2 vo2).cells vd2))::(HD3++(k.memH s2.mem::k.binH::(HC2++HO2)))) ⟨[],by rw[zLz];exact zPc⟩ ?_
   refine LCodeP.of ?_
   refine gab ?_
   refine oC rfl (fun hc=>by cases hc) (fun _=>?_)
   refine gac ?_
   have fin:∀ (dg:Bool),isDigN c=dg→StH k { s2 with digit:=dg } (i+1) false (((k.mb,.cells 98 ((k.mf { s2 with digit:=dg } (i+1) false vc2 vo2).cells vd2))::HD3)++(k.memH s2.mem::k.binH::(HC2++HO2)))∧MsOk { s2 with digit:=dg }∧(dg=true→s2.data≠[]):=fun dg hd=>⟨⟨vc2,HC2,vo2,HO2,_,hC2,hO2,⟨vd2,HD3,hm2,rfl⟩,rfl⟩,⟨hok3.mem,hok3.pc,hok3.data,hok3.calls,hok3.inp,hok3.few,hok3.deep⟩,fun h=>hdig3 (hd.trans h)⟩
   refine oB 53 rfl (fun h=>?_) (fun h=>?_)
   ·have hdg:isDigN c=decide ((c:Int)≤57):=by
     have:=zt h
     unfold isDigN
     rw[decide_eq_true (by omega:48≤c),Bool.true_and,decide_eq_decide]
     omega
    obtain ⟨f1,f2,f3⟩:=fin _ hdg
    rw[hdg] at e1 e2 e3
    refine gad ?_
    first|refine QNo.norm ?_|skip
    first|refine QBlock.normal ?_|skip
    first|refine qN ?_|skip
    exact ⟨limit-(i+1),_,_,by omega,⟨i+1,_,_,by omega,by omega,rfl,rfl,rfl,f1,f2,f3,hlen2,e1,e2,by omega⟩,⟨rfl,rfl,rfl,trivial⟩,⟨[],by rw[zLz];exact List.Perm.swap _ _ _⟩,hj⟩
   ·have hdg:isDigN c=false:=by
     have:=zf h
     unfold isDigN
     rw[decide_eq_false (by omega:¬ 48≤c)]
     try rfl
    obtain ⟨f1,f2,f3⟩:=fin _ hdg
    rw[hdg] at e1 e2 e3
    refine gad ?_
    first|refine QNo.norm ?_|skip
    first|refine QBlock.normal ?_|skip
    first|refine qN ?_|skip
    exact ⟨limit-(i+1),_,_,by omega,⟨i+1,_,_,by omega,by omega,rfl,rfl,rfl,f1,f2,f3,hlen2,e1,e2,by omega⟩,⟨rfl,rfl,rfl,trivial⟩,⟨[],by rw[zLz];exact List.Perm.swap _ _ _⟩,hj⟩
  |stop er o=>
   rw[hx] at hP
   obtain ⟨s2,ho,hP⟩:=hP
   by_cases he:er=0
   rotate_left
   ·rw[if_neg he] at hP
    obtain ⟨_,hv,_⟩:=hP
    cases hv
   rw[if_pos he] at hP
   obtain ⟨hv,hS2⟩:=hP
   cases hv
   subst he
   have hs:stepM s1=.stop 0 o:=by
    unfold stepM
    rw[if_pos hpc,hcd,hx]
   rw[hs] at e1 e2 e3
   simp only at e1 e2 e3
   have hend:EndH k (st+R.2.2) R.2.1 H2:=⟨s2,true,ho.trans e2,by rw[←e3];exact hS2⟩
   obtain ⟨vc2,HC2,vo2,HO2,HD2,hC2,hO2,hD2,rfl⟩:=hS2
   obtain ⟨vd2,HD3,hm2,rfl⟩:=hD2
   refine LOpsP.nil ?_
   refine qN ?_
   refine LCodeP.weak (H':=(b4,.cells 31 [int .i64 0])::(k.mb,.cells 98 ((k.mf s2 (i+1) true vc2 vo2).cells vd2))::(HD3++(k.memH s2.mem::k.binH::(HC2++HO2)))) ⟨[],by rw[zLz];exact zPc⟩ ?_
   refine LCodeP.of ?_
   refine gab ?_
   refine oC rfl (fun _=>?_) (fun hc=>by cases hc)
   refine gac ?_
   first|refine QNo.ret ?_|skip
   first|refine QThen.ret ?_|skip
   first|refine QBlock.ret ?_|skip
   first|refine QThen.ret ?_|skip
   first|refine QBlock.ret ?_|skip
   first|refine QThen.ret ?_|skip
   exact RetPostD.ret1 (vs:=[int .i64 0]) (H2:=[(b4,.cells 31 [int .i64 0])]) hj zpr (rec_ret b4 _)
    (rC (ResIs.cellOne rfl zm0 rfl zsr) rN) (zhD zhr) ⟨hend,by rw[←e1];try rfl⟩
 ·intro ch H2 hP
  cases hx:exeM c { s1 with pc:=s1.pc+1 } with
  |run s2=>
   rw[hx] at hP
   obtain ⟨hv,_⟩:=hP
   cases hv
  |stop er o=>
   rw[hx] at hP
   obtain ⟨s2,ho,hP⟩:=hP
   by_cases he:er=0
   ·rw[if_pos he] at hP
    obtain ⟨hv,_⟩:=hP
    cases hv
   rw[if_neg he] at hP
   obtain ⟨h12,hv,hS2⟩:=hP
   cases hv
   subst h12
   have hs:stepM s1=.stop 12 o:=by
    unfold stepM
    rw[if_pos hpc,hcd,hx]
   rw[hs] at e1 e2 e3
   simp only at e1 e2 e3
   refine gae ?_
   exact RetPostD.panic1 (H1:=[(b4,.cells 31 [int .i64 0])]) (vs:=[int .i64 12]) (H2:=[(b4,.cells 31 [int .i64 12])]) hj zPc (rec_pan b4 _)
    (rC (ResIs.cellOne rfl zm0 rfl zsr) rN) (zhD zhr) ⟨⟨s2,false,ho.trans e2,by rw[←e3];exact hS2⟩,by rw[←e1];try rfl⟩
end
end Go.Proofs.YtpbbgkoalnonoaaGreatDoor.Mch
namespace Go.GL
open Go.RowKit
section
variable {C:Ctx} {e:Env} {H:Heap} {x y:Operand} {dst:Option Nat} {ty:TypeId} {pos:String} {aft:Array Edge} {g:Option (Nat×Bool)}
theorem Pure.bytesStrE {s d el:TypeId} [hs:TSlice C.P s el 1] [he:TKind C.P el .u8] [hd:TStr C.P d] {l:List UInt8} (hx:elems (e.ev x)=some (byts l)):Pure C ⟨dst,.convert s d x,ty,pos,aft,g⟩ e H (str l):=by
 by_cases hne:l=[]
 ·subst hne
  intro ρ w L h _
  obtain ⟨a,cap,hv,hcap,hr⟩:=(h x).elems hx
  refine ⟨_,rep_atom,fun w' ha=>?_⟩
  have h0:execOp ρ ⟨dst,.convert s d x,ty,pos,aft,g⟩=(do Pure.pure (.value (←convert s d (ρ x)))):=rfl
  have hlen:(byts []).length=0:=rfl
  have hc:(convert s d (.slice a 0 cap)).run C.P w'=.ok (.string ⟨#[]⟩) w':=by
   rw[run_convert_bytes_string w' s d el a 0 cap hs.und he.und hd.und]
   cases a with
   |none=>rfl
   |some a=>exact run_bytesToString w' a 0 cap [] (run_loadCells_list (P:=C.P) w' a [] fun j v hj=>by cases hj)
  rw[h0,hv,hlen]
  simp only[Sem.run_bind,hc,Result.andThen_ok,Sem.run_pure]
 ·exact Pure.bytesStr hx hne
end
end Go.GL
namespace Go.Proofs.YtpbbgkoalnonoaaGreatDoor.Mch
open Go.GL Go.RowKit Go.Stele
open Inp (u32 Same retS wrapU u32_eq)
def txtLV (og:Nat) (code:Wd):LV:=.agg [int .i64 (og:Nat),str code]
def mchLV (r:Nat×Wd×Nat):LV:=.agg [str r.2.1,int .i64 (r.1:Nat),int .i64 (r.2.2:Nat)]
theorem load_next {code:Wd} {og n:Nat} (h:n<code.length):(fun i=>if i=og+n then (code[n]).toNat else loadM (code.take n) og i)=loadM (code.take (n+1)) og:=by
 funext i
 unfold loadM
 rw[List.getElem?_take,List.getElem?_take]
 by_cases h1:i=og+n
 ·subst h1
  rw[if_pos rfl,if_pos zo,show og+n-og=n by omega,if_pos zo,List.getElem?_eq_getElem h]
 ·rw[if_neg h1]
  by_cases h2:og≤i
  ·rw[if_pos h2,if_pos h2]
   by_cases h3:i-og<n
   ·rw[if_pos h3,if_pos zo]
   ·rw[if_neg h3,if_neg zo]
  ·rw[if_neg h2,if_neg h2]
theorem load_none (og:Nat):loadM [] og=fun _=>0:=by
 funext i
 unfold loadM
 split
 ·rw[List.getElem?_nil]
 ·rfl
theorem start_ok (code:Wd) {og:Nat} {inp:List Nat} (h:og<262144) (hi:∀ v∈inp,v<4294967296):MsOk (startM code og inp):=
 ⟨fun i=>load_lt code og i,by show og<_;omega,fun v hv=>(List.not_mem_nil hv).elim,fun v hv=>(List.not_mem_nil hv).elim,hi,by show 0≤_;omega,by show 0≤_;omega⟩
attribute [local irreducible] LOps LCode LStep LCalls Go.GL.Pure QThen QBlock RetPost LQ LAny LLate LLateOp LS
section
variable {B0:Nat} {w0:World}
@[reducible] def stR (k:MK) (og:Nat) (inp:List Nat):Nat×LObj:=(k.mb,.cells 98 ((k.mf (startM [] og inp) 0 false (.slice none 0 0) nilSlice).cells (.slice none 0 0)))
@[reducible] def ouR (b:Nat):Nat×LObj:=(b,.cells 44 [str [],int .i64 0,int .i64 0])
theorem mrun_spec {code:Wd} {og:Nat} {inp:List Nat} {steps:Nat} (hog:og+code.length≤262144) (hog2:og<262144) (hin:∀ v∈inp,v<4294967296) (hs0:0<steps) (hs1:steps≤100000000) :
  LCalls (KC B0 w0) 21 [.list [txtLV og code],int .i64 (og:Nat),.list (us inp),int .i64 (steps:Nat)] [] (Ret (mchLV (runM steps (startM code og inp)))):=by
 have eX:txtLV og code=.agg [int .i64 (og:Nat),str code]:=rfl
 rw[eX]
 refine cI Tryz.func21 rfl (n:=106) rfl rfl rfl ?_
 refine gag ?_
 refine oS (sA fun b8=>?_) rfl
 refine gac ?_
 refine oL (fun kk ls H'=>∃ i:Nat,i≤1∧kk=1-i∧ls=[(0,.list [.agg [int .i64 (og:Nat),str code]]),(1,int .i64 (og:Nat)),(2,.list (us inp)),(3,int .i64 (steps:Nat)),(8,ptr b8 0),(9,bool true),(23,.list [.agg [int .i64 (og:Nat),str code]]),(24,int .i64 1),(25,int .i64 (i:Nat))]∧H'=[ouR b8])
  ⟨_,_,_,⟨0,by omega,rfl,rfl,rfl⟩,⟨rfl,rfl,rfl,rfl,rfl,bool_eq (decide_eq_true zo),rfl,rfl,rfl,trivial⟩,zhR _⟩ ?_
 rintro kk ls H' ⟨i,hi,rfl,rfl,rfl⟩ j hj
 refine gal ?_
 refine oC rfl (fun hc=>?_) (fun hc=>?_)
 ·obtain rfl:i=0:=by have:=zt hc;omega
  refine gam ?_
  refine oP (xR (el':=.agg [int .i64 (og:Nat),str code]) (cs:=[_,_]) rfl rfl zDd rfl rfl rfl) rfl ?_
  refine gad ?_
  refine oS (sA fun b11=>?_) rfl
  refine gac ?_
  exact ⟨_,_,_,by omega,⟨1,by omega,rfl,rfl,rfl⟩,⟨rfl,rfl,rfl,rfl,rfl,bool_eq (decide_eq_true zo),rfl,rfl,rfl,trivial⟩,zhD zhr,hj⟩
 obtain rfl:i=1:=by have:=zf hc;omega
 clear hc hi
 refine gab ?_
 refine oC rfl (fun hc=>by cases hc) (fun _=>?_)
 refine gac ?_
 refine oC rfl (fun hc=>?_) (fun _=>?_)
 ·have:=zt hc
  omega
 refine gac ?_
 refine oC rfl (fun hc=>?_) (fun _=>?_)
 ·have:=zt hc
  omega
 have hwo:IntKind.u32.wrap (og:Int)=(og:Int):=by
  rw[wrapU]
  omega
 refine gaa ?_
 refine LCode.midC (A:=MK) (fun k=>[(0,.list [.agg [int .i64 (og:Nat),str code]]),(3,int .i64 (steps:Nat)),(8,ptr b8 0),(12,ptr k.mb 0)]) (fun k=>[stR k og inp,k.memH (fun _=>0),k.binH,ouR b8]) (fun _=>True) ?_ (fun k _ j2 hj2=>?_)
 ·refine LCode.draw (m:=8) rfl [] ?_
  refine aT 1 rfl rfl (pM (lv:=.atom _) rfl) ?_
  refine aT 2 rfl rfl (Pure.cvt rfl) ?_
  refine aT 3 rfl rfl (pM (lv:=.list _) rfl) ?_
  rw[hwo]
  refine LAny.late ?_ zhn
  refine LLate.two (i:=0) (j:=4) zk ?_ ?_
  ·refine lW rfl (.inl rfl) rfl (S.makeRow (n:=262144) rfl rfl zDd zDd fun mm=>?_)
   rw[memL_zero]
   refine zl1 (i:=4) zk ?_
   refine lW rfl (.inl rfl) rfl (S.callH (H1:=[]) [] rfl zpr binaries_spec ?_ (by rintro ch H' ⟨_,h,_⟩;cases h))
   rintro lv H' ⟨bm,h,rfl⟩
   cases h
   exact zT10
  ·refine lW rfl (.inl rfl) rfl (S.callH (H1:=[]) [] rfl zpr binaries_spec ?_ (by rintro ch H' ⟨_,h,_⟩;cases h))
   rintro lv H' ⟨bm,h,rfl⟩
   cases h
   refine zl1 (i:=0) zk ?_
   refine lW rfl (.inl rfl) rfl (S.makeRow (n:=262144) rfl rfl zDd zDd fun mm=>?_)
   rw[memL_zero]
   exact zT10
 have hjj:j2.ds=[]:=hj2.trans hj
 refine gac ?_
 refine oL (fun kk ls H'=>∃ i:Nat,i≤1∧kk=1-i∧ls=[(3,int .i64 (steps:Nat)),(8,ptr b8 0),(12,ptr k.mb 0),(64,.list [.agg [int .i64 (og:Nat),str code]]),(65,int .i64 1),(66,int .i64 (i:Nat))]∧H'=[stR k og inp,k.memH (loadM (code.take (i * code.length)) og),k.binH,ouR b8])
  ⟨_,_,_,⟨0,by omega,rfl,rfl,rfl⟩,⟨rfl,rfl,rfl,rfl,rfl,rfl,trivial⟩,by rw[Nat.zero_mul,List.take_zero,load_none];exact zhR _⟩ ?_
 rintro kk ls H' ⟨i,hi,rfl,rfl,rfl⟩ j3 hj3
 refine gal ?_
 refine oC rfl (fun hc=>?_) (fun hc=>?_)
 ·obtain rfl:i=0:=by have:=zt hc;omega
  refine gam ?_
  refine oP (xR (el':=.agg [int .i64 (og:Nat),str code]) (cs:=[_,_]) rfl rfl zDd rfl rfl rfl) rfl ?_
  refine gad ?_
  refine oS (sA fun b14=>?_) rfl
  refine gac ?_
  refine oL (fun kk ls H'=>∃ n:Nat,n≤code.length∧kk=code.length-n∧ls=[(3,int .i64 (steps:Nat)),(8,ptr b8 0),(12,ptr k.mb 0),(14,ptr b14 0),(64,.list [.agg [int .i64 (og:Nat),str code]]),(65,int .i64 1),(66,int .i64 0),(72,int .i64 code.length),(73,int .i64 (n:Nat))]∧H'=[stR k og inp,(b14,.cells 50 [int .i64 (og:Nat),str code]),k.memH (loadM (code.take n) og),k.binH,ouR b8])
   ⟨_,_,_,⟨0,Nat.zero_le _,rfl,rfl,rfl⟩,⟨rfl,rfl,rfl,rfl,rfl,rfl,rfl,rfl,rfl,trivial⟩,by rw[Nat.zero_mul];exact zhP zp1 zhr⟩ ?_
  rintro kk ls H' ⟨n,hn,rfl,rfl,rfl⟩ j4 hj4
  refine gal ?_
  refine oC rfl (fun hd=>?_) (fun hd=>?_)
  ·have hlt:n<code.length:=by have:=zt hd;omega
   have hget:code[((n:Nat):Int).toNat]? = some code[n]:=by rw[Int.toNat_natCast,List.getElem?_eq_getElem hlt]
   have hnx:=load_next (og:=og) hlt
   generalize code[n]=ch at hget hnx
   have hw8:IntKind.u32.wrap ((ch.toNat:Nat):Int)=((ch.toNat:Nat):Int):=by
    rw[wrapU]
    have:=ch.toNat_lt
    omega
   refine gab ?_
   refine LCode.draw (m:=15) rfl [stR k og inp,(b14,LObj.cells 50 [int .i64 (og:Nat),str code])] ?_
   refine aT 0 rfl rfl (pM (lv:=.atom _) rfl) ?_
   refine aT 1 rfl rfl (pN rfl) ?_
   refine aT 2 rfl rfl (pF rfl) ?_
   refine aT 3 rfl rfl (pL (c:=.atom _) rfl zm0 rfl) ?_
   refine aT 4 rfl rfl (pF rfl) ?_
   refine aT 5 rfl rfl (pL (c:=.atom _) rfl zm1 rfl) ?_
   refine aT 6 rfl rfl (pM (lv:=.atom _) rfl) ?_
   refine aT 7 rfl rfl (Pure.add rfl rfl zo) ?_
   refine aT 8 rfl rfl (pF rfl) ?_
   refine aT 9 rfl rfl (pL (c:=.atom _) rfl zm1 rfl) ?_
   refine aT 10 rfl rfl (pM (lv:=.atom _) rfl) ?_
   refine aT 11 rfl rfl (Pure.sindex (c:=ch) rfl rfl zo hget) ?_
   refine aT 12 rfl rfl (Pure.cvt rfl) ?_
   refine aT 13 rfl rfl (Pure.indexRowE (o:=og+n) rfl rfl zo zo zo) ?_
   refine LAny.late ?_ ⟨_,List.Perm.refl _⟩
   refine zl1 (i:=14) zk ?_
   refine lS (H1:=[k.memH (loadM (code.take n) og)]) (F:=[stR k og inp,(b14,LObj.cells 50 [int .i64 (og:Nat),str code]),k.binH,ouR b8]) rfl (.inl rfl) rfl zp2 ⟨_,List.Perm.refl _⟩ ?_
   refine sS (n:=1) (vs:=[u32 ch.toNat]) (cs':=memL (loadM (code.take (n+1)) og)) rfl pH (congrArg (fun z=>some [int .u32 z]) hw8) rfl (by rw[Nat.ble_eq,memL_len];omega) rfl (by rw[←hnx];exact memL_set _ _ _) ?_
   refine lD zk ?_
   refine gaq ?_
   exact ⟨code.length-(n+1),_,_,by omega,⟨n+1,by omega,rfl,rfl,rfl⟩,⟨rfl,rfl,rfl,rfl,rfl,rfl,rfl,rfl,int_eq zo,trivial⟩,zhP zp1 (zhP zp1 zhr),hj4⟩
  ·obtain rfl:n=code.length:=by have:=zf hd;omega
   refine gab ?_
   exact ⟨0,_,_,by omega,⟨1,by omega,rfl,rfl,rfl⟩,⟨rfl,rfl,rfl,rfl,rfl,int_eq zo,trivial⟩,by rw[Nat.one_mul];exact zhP pH (zhD zhr),hj4.trans hj3⟩
 obtain rfl:i=1:=by have:=zf hc;omega
 rw[Nat.one_mul,List.take_length]
 have hS:StH k (startM code og inp) 0 false [stR k og inp,k.memH (loadM code og),k.binH]:=⟨.slice none 0 0,[],nilSlice,[],[stR k og inp],MRow.nil,Acc.nil,⟨.slice none 0 0,[],MRow.nil,rfl⟩,rfl⟩
 have hrun:=run_spec (B0:=B0) (w0:=w0) k (start_ok code hog2 hin) (fun h=>by cases h) (Nat.zero_le steps) hs1 (zNr 0) hS
 rw[Nat.sub_zero] at hrun
 generalize runM steps (startM code og inp)=R at hrun ⊢
 rw[Nat.zero_add] at hrun
 refine gab ?_
 refine oS (S.callH (H1:=[stR k og inp,k.memH (loadM code og),k.binH]) (F:=[ouR b8]) [_,_] rfl zpr hrun ?_ (by rintro ch H' ⟨_,h⟩;cases h)) rfl
 rintro v H' ⟨hE,hv⟩
 cases hv
 obtain ⟨s2,stop,ho,vc,HC,vo,HO,HD,hC,hO,hD,rfl⟩:=hE
 obtain ⟨vd,HD0,hm,rfl⟩:=hD
 refine LOps.weak (H':=ouR b8::(k.mb,.cells 98 ((k.mf s2 R.2.2 stop vc vo).cells vd))::(HD0++(k.memH s2.mem::k.binH::(HC++HO)))) ⟨[],by rw[zLz];exact zPc⟩ ?_
 refine gaa ?_
 refine LCode.tail 11 zk ?_
 refine gad ?_
 refine LS.pure (pL (c:=vo) rfl zm1 rfl) rfl ?_
 refine LS.pure (Pure.bytesStrE (l:=s2.out) (by exact hO.elems)) rfl ?_
 refine gad ?_
 exact retRet (hj3.trans hjj) (rC (rA (k:=3) rfl zm0 rfl zsr) rN) (by rw[ho];try rfl)
end
end Go.Proofs.YtpbbgkoalnonoaaGreatDoor.Mch
namespace Go.Stele
open Go.Lib
section
variable (vars arrays later:List Nm)
def knF:List FSum→List FnD→FnD→List FSum
 |known,[],f=>known
 |known,g::l,f=>if g.name=f.name then known else knF (known++[sumF vars arrays later known g]) l f
end
section
variable {vars arrays later:List Nm}
theorem kn_err:∀ (fs:List FnD) (known:List FSum),errFs vars arrays later known fs=0→(fs.map (·.name)).Nodup→∀ f∈fs,errSs (envF vars arrays later (knF vars arrays later known fs f) f) f.body=0
 |[],known,_,_,f,hf=>(List.not_mem_nil hf).elim
 |g::l,known,h,hn,f,hf=>by
  rw[errFs] at h
  obtain ⟨h1,h2⟩:=orE_zero.1 h
  rw[zMc,List.nodup_cons] at hn
  rw[knF]
  rcases zMi.1 hf with rfl|hf
  ·rw[if_pos rfl]
   exact (orE_zero.1 h1).2
  ·rw[if_neg (fun e=>hn.1 (List.mem_map.2 ⟨f,hf,e.symm⟩))]
   exact kn_err l _ h2 hn.2 f hf
theorem kn_sum:∀ (fs:List FnD) (known:List FSum),(fs.map (·.name)).Nodup→∀ f∈fs,∀ k∈knF vars arrays later known fs f,k∈known∨∃ g∈fs,k=sumF vars arrays later (knF vars arrays later known fs g) g
 |[],known,_,f,hf,k,hk=>(List.not_mem_nil hf).elim
 |g::l,known,hn,f,hf,k,hk=>by
  rw[zMc,List.nodup_cons] at hn
  rw[knF] at hk
  rcases zMi.1 hf with rfl|hf
  ·rw[if_pos rfl] at hk
   exact .inl hk
  ·rw[if_neg (fun e=>hn.1 (List.mem_map.2 ⟨f,hf,e.symm⟩))] at hk
   rcases kn_sum l _ hn.2 f hf k hk with h|⟨x,h1,h2⟩
   ·rcases List.mem_append.1 h with h|h
    ·exact .inl h
    ·refine .inr ⟨g,List.mem_cons_self ..,?_⟩
     rw[knF,if_pos rfl]
     exact List.mem_singleton.1 h
   ·refine .inr ⟨x,zMo _ h1,?_⟩
    rw[knF,if_neg (fun e=>hn.1 (List.mem_map.2 ⟨x,h1,e.symm⟩))]
    exact h2
theorem sumFs_map:∀ (fs:List FnD) (known:List FSum),(fs.map (·.name)).Nodup→sumFs vars arrays later known fs=known++fs.map fun g=>sumF vars arrays later (knF vars arrays later known fs g) g
 |[],known,_=>by simp[sumFs]
 |g::l,known,hn=>by
  rw[zMc,List.nodup_cons] at hn
  rw[sumFs,sumFs_map l _ hn.2,zMc,zAs]
  congr 1
  rw[List.singleton_append]
  congr 1
  ·rw[knF,if_pos rfl]
  ·refine List.map_congr_left fun x hx=>?_
   rw[knF,if_neg (fun e=>hn.1 (List.mem_map.2 ⟨x,hx,e.symm⟩))]
theorem sum_need (known:List FSum) (f:FnD):needSs (envF vars arrays later known f) f.body≤(sumF vars arrays later known f).need∧depSs (envF vars arrays later known f) f.body≤(sumF vars arrays later known f).depth:=⟨Nat.le_max_right _ _,Nat.le_max_right _ _⟩
end
/-! ### Where a function's words begin -/
def fstF (cc:Nm→CC):Nat→Nat→List FnD→FnD→Nat
 |_,i,[],_=>i
 |n,i,g::l,f=>if g.name=f.name then i else fstF cc (fnW (cc g.name) n g).2 (i+(fnW (cc g.name) n g).1.length) l f
theorem code_at {C:PW} {cc:Nm→CC}:∀ (fs:List FnD) (n i:Nat),C.Code i (fnWs cc n fs).1→(fs.map (·.name)).Nodup→∀ f∈fs,∃ nl,C.Code (fstF cc n i fs f) (fnW (cc f.name) nl f).1
 |[],n,i,_,_,f,hf=>(List.not_mem_nil hf).elim
 |g::l,n,i,h,hn,f,hf=>by
  rw[zMc,List.nodup_cons] at hn
  rw[fnWs] at h
  obtain ⟨h1,h2⟩:=h.app
  rw[fstF]
  rcases zMi.1 hf with rfl|hf
  ·rw[if_pos rfl]
   exact ⟨n,h1⟩
  ·rw[if_neg (fun e=>hn.1 (List.mem_map.2 ⟨f,hf,e.symm⟩))]
   exact code_at l _ _ h2 hn.2 f hf
theorem code_all (W:List Wd) (og:Nat) (known:Wd→Nat):PW.Code ⟨W,og,known⟩ 0 W:=fun k hk=>by
 rw[Nat.zero_add]
 exact List.getElem?_eq_getElem hk
/-! ### Where the arrays lie -/
def offA:List Ar→Nm→Nat
 |[],_=>0
 |a::l,x=>if a.name=x then 0 else a.size+offA l x
def totA (l:List Ar):Nat:=(l.map (·.size)).sum
theorem totA_int (l:List Ar):((l.map fun a=>(a.name,(a.size:Int))).map (·.2)).sum=((totA l:Nat):Int):=by
 unfold totA
 induction l with
 |nil=>rfl
 |cons a l ih=>
  simp only[zMc,List.sum_cons] at ih ⊢
  rw[ih]
  omega
theorem arrA_off:∀ (l:List Ar) (at':Int) (a:Ar),a∈l→arrA at' (l.map fun a=>(a.name,(a.size:Int))) a.name=at'+(offA l a.name:Nat)
 |[],at',a,h=>(List.not_mem_nil h).elim
 |b::l,at',a,h=>by
  rw[zMc,arrA,offA]
  by_cases he:b.name=a.name
  ·rw[if_pos he,if_pos he];simp
  ·rw[if_neg he,if_neg he]
   rcases zMi.1 h with rfl|h
   ·exact absurd rfl he
   ·rw[arrA_off l _ a h]
    omega
theorem off_le:∀ (l:List Ar),(l.map (·.name)).Nodup→∀ a∈l,offA l a.name+a.size≤totA l
 |[],_,a,h=>(List.not_mem_nil h).elim
 |b::l,hn,a,h=>by
  rw[zMc,List.nodup_cons] at hn
  have ht:totA (b::l)=b.size+totA l:=by simp[totA]
  rw[offA,ht]
  rcases zMi.1 h with rfl|h
  ·rw[if_pos rfl];omega
  ·rw[if_neg (fun e=>hn.1 (List.mem_map.2 ⟨a,h,e.symm⟩))]
   have:=off_le l hn.2 a h
   omega
theorem off_apart:∀ (l:List Ar),(l.map (·.name)).Nodup→∀ a∈l,∀ b∈l,a.name≠b.name→offA l a.name+a.size≤offA l b.name∨offA l b.name+b.size≤offA l a.name
 |[],_,a,h,_,_,_=>(List.not_mem_nil h).elim
 |x::l,hn,a,ha,b,hb,hne=>by
  rw[zMc,List.nodup_cons] at hn
  rw[offA,offA]
  rcases zMi.1 ha with rfl|ha
  ·rw[if_pos rfl,if_neg hne]
   left;omega
  ·rw[if_neg (fun e=>hn.1 (List.mem_map.2 ⟨a,ha,e.symm⟩))]
   rcases zMi.1 hb with rfl|hb
   ·rw[if_pos rfl]
    right;omega
   ·rw[if_neg (fun e=>hn.1 (List.mem_map.2 ⟨b,hb,e.symm⟩))]
    rcases off_apart l hn.2 a ha b hb hne with h|h
    ·left;omega
    ·right;omega
theorem arr_same {l:List Ar} (h:(l.map (·.name)).Nodup) {a b:Ar} (ha:a∈l) (hb:b∈l) (he:a.name=b.name):a=b:=by
 induction l with
 |nil=>cases ha
 |cons x l ih=>
  rw[zMc,List.nodup_cons] at h
  rcases zMi.1 ha with rfl|ha'
  ·rcases zMi.1 hb with rfl|hb'
   ·rfl
   ·exact absurd (List.mem_map.2 ⟨b,hb',he.symm⟩) h.1
  ·rcases zMi.1 hb with rfl|hb'
   ·exact absurd (List.mem_map.2 ⟨a,ha',he⟩) h.1
   ·exact ih h.2 ha' hb'
end Go.Stele
namespace Go.Stele
open Go.Lib
def arrsP (P:Pr):List (Nm×Int):=P.arrays.map fun a=>(a.name,(a.size:Int))
def wordsC (P:Pr) (o:Org):List Wd:=prW P.vars (arrsP P) P.funcs o
def knownC (P:Pr) (o:Org):Wd→Nat:=findL (labsA (fun _=>0) o.code.toNat (wordsC P o))
def trnP (P:Pr) (o:Org):Trn where
 C:=⟨wordsC P o,o.code.toNat,knownC P o⟩
 P:=P
 cc:=fun f=>ccF P.vars (arrsP P) P.funcs o f.name
 cenv:=fun f=>envF P.vars (P.arrays.map (·.name)) (P.funcs.map (·.name)) (knF P.vars (P.arrays.map (·.name)) (P.funcs.map (·.name)) [] P.funcs f) f
 sa:=fun k=>o.scalars.toNat+3+(scalarsP P.vars P.funcs).idxOf k
 aa:=fun n=>o.arrays.toNat+offA P.arrays n
 S:=o.scalars.toNat
 fst:=fstF (ccF P.vars (arrsP P) P.funcs o) 0 5 P.funcs
theorem itoa_pos {z:Int} (h:0≤z):itoa z=decDigits z.toNat:=by
 unfold itoa
 rw[if_neg (by omega)]
structure FitN (P:Pr) (o:Org):Prop where
 s0:0≤o.scalars
 c0:0≤o.code
 a0:0≤o.arrays
 s1:o.scalars.toNat+3+(scalarsP P.vars P.funcs).length≤262144
 c1:o.code.toNat+40000≤262144
 a1:o.arrays.toNat+totA P.arrays≤262144
 cs:o.scalars.toNat+3+(scalarsP P.vars P.funcs).length≤o.code.toNat∨o.code.toNat+40000≤o.scalars.toNat
 asA:0<totA P.arrays→o.scalars.toNat+3+(scalarsP P.vars P.funcs).length≤o.arrays.toNat∨o.arrays.toNat+totA P.arrays≤o.scalars.toNat
 ac:0<totA P.arrays→o.code.toNat+40000≤o.arrays.toNat∨o.arrays.toNat+totA P.arrays≤o.code.toNat
theorem fit_of {P:Pr} {o:Org} (h:fitsP P.vars (arrsP P) P.funcs o=true):FitN P o:=by
 unfold fitsP insideA meetsA at h
 simp only[zBa,Bool.not_eq_true',zDe,decide_eq_false_iff_not] at h
 have ht:((arrsP P).map (·.2)).sum=((totA P.arrays:Nat):Int):=totA_int P.arrays
 rw[ht] at h
 obtain ⟨⟨⟨⟨⟨h1,h2⟩,h3⟩,h4⟩,h5⟩,h6⟩:=h
 constructor <;> omega
section
variable {P:Pr} {o:Org}
theorem sc_at (hv:Valid P) (hf:FitN P o) {f:FnD} (hm:f∈P.funcs) (name:Nm) (hk:keyI f name∈scalarsP P.vars P.funcs):((trnP P o).cc f).sc name=decDigits ((trnP P o).sa (keyI f name)):=by
 show itoa (placeA (scalarsP P.vars P.funcs) o.scalars (keyC (scalarsP P.vars P.funcs) f.name name))=_
 have h1:keyC (scalarsP P.vars P.funcs) f.name name=keyI f name:=key_eq hv.names hm name
 have h2:=hf.s0
 rw[h1]
 unfold placeA
 rw[if_pos hk,itoa_pos (by omega)]
 show _=decDigits (o.scalars.toNat+3+_)
 congr 1
 omega
theorem idx_lt {l:List Nm} {k:Nm} (h:k∈l):l.idxOf k<l.length:=List.idxOf_lt_length_of_mem h
theorem idx_inj {l:List Nm} {k k':Nm} (h:k∈l) (h':k'∈l) (he:l.idxOf k=l.idxOf k'):k=k':=by
 have h1:l[l.idxOf k]? = some k:=by rw[List.getElem?_eq_getElem (idx_lt h),List.getElem_idxOf]
 have h2:l[l.idxOf k']? = some k':=by rw[List.getElem?_eq_getElem (idx_lt h'),List.getElem_idxOf]
 rw[he,h2] at h1
 injection h1 with h1
 exact h1.symm
theorem trn_ok (hc:checkPr P=0) (hnum:∀ f∈P.funcs,numSs f.body) (hfit:fitsP P.vars (arrsP P) P.funcs o=true) (hasm:AsmOk (wordsC P o)) (hne:∀ w∈wordsC P o,w≠[]) (hlen:(textA (knownC P o) (wordsC P o)).length≤40000):TrnOk (trnP P o):=by
 have hv:=valid_of hc
 have hF:=fit_of hfit
 have hnames:=(fresh_zero _ _ hv.names).1
 have hfn:(P.funcs.map (·.name)).Nodup:=(List.nodup_append.1 hnames).2.1
 have han:(P.arrays.map (·.name)).Nodup:=(List.nodup_append.1 (List.nodup_append.1 hnames).1).2.1
 have herr:errFs P.vars (P.arrays.map (·.name)) (P.funcs.map (·.name)) [] P.funcs=0:=by
  unfold checkPr checkP at hc
  have e1:(P.arrays.map fun a=>(a.name,(a.size:Int))).map (·.1)=P.arrays.map (·.name):=by rw[List.map_map];try rfl
  rw[e1] at hc
  exact (orE_zero.1 (orE_zero.1 (orE_zero.1 hc).2).2).1
 obtain ⟨s0,c0,a0,s1,c1,a1,cs,as',ac⟩:=hF
 have hF:FitN P o:=⟨s0,c0,a0,s1,c1,a1,cs,as',ac⟩
 have hcode:∀ f∈P.funcs,∃ nl,(trnP P o).C.Code ((trnP P o).fst f) (fnW ((trnP P o).cc f) nl f).1:=fun f hf=>by
  have h1:PW.Code (trnP P o).C 0 ([[38,102,95,109,97,105,110],[58],itoa o.scalars,[33],[36]]++(fnWs (ccF P.vars (arrsP P) P.funcs o) 0 P.funcs).1):=code_all _ _ _
  exact code_at P.funcs 0 5 h1.app.2 hfn f hf
 have hmem:∀ {j:Nat} {w:Wd},(wordsC P o)[j]? = some w→OkW (defs (wordsC P o)) w:=fun h=>hasm.2 _ (List.mem_of_getElem? h)
 have hfd:∀ f∈P.funcs,defW ([102,95]++f.name++[58])=some ([102,95]++f.name):=fun f hf=>by
  obtain ⟨nl,h⟩:=hcode f hf
  unfold fnW at h
  simp only[List.singleton_append,List.cons_append,zAs] at h
  have h1:(wordsC P o)[(trnP P o).fst f]? = some (102::(95::f.name)++[58]):=by
   have h0:=h.cons.1
   simp only[zAs,List.cons_append,List.nil_append] at h0 ⊢
   exact h0
  have h2:=def_of (hmem h1) zDd zDd
  simpa using h2
 refine ⟨fun f hf name h=>?_,fun f hf name h=>?_,fun f hf=>?_,fun x hx=>?_,fun x hx=>?_,fun k hk=>?_,fun k hk k' hk' h=>?_,fun a ha i hi=>?_,fun a ha b hb i j hi hj h=>?_,fun a ha=>?_,fun a ha b hb h=>?_,fun f hf=>⟨kn_err _ _ herr hfn f hf,hnum f hf⟩,fun f hf name g h=>?_,fun f hf=>?_,hcode,fun j n h=>?_,fun j n h=>?_,hfd,fun f hf=>ref_def (hfd f hf),fun j w x hw hd=>?_⟩
 ·have hk:keyI f name∈scalarsP P.vars P.funcs:=key_placed hf h
  exact ⟨sc_at hv hF hf name hk,hk⟩
 ·unfold arrayE at h
  split at h
  ·rename_i hm
   obtain ⟨a,h1,h2⟩:=List.mem_map.1 (show name∈P.arrays.map (·.name) from hm)
   refine ⟨?_,a,h1,h2⟩
   show itoa (arrA o.arrays (arrsP P) name)=decDigits (o.arrays.toNat+offA P.arrays name)
   rw[←h2]
   unfold arrsP
   rw[arrA_off _ _ _ h1,itoa_pos (by omega)]
   congr 1
   omega
  ·split at h <;> cases h
 ·show itoa o.scalars=decDigits o.scalars.toNat∧itoa (o.scalars+1)=decDigits (o.scalars.toNat+1)∧itoa (o.scalars+2)=decDigits (o.scalars.toNat+2)
  rw[itoa_pos s0,itoa_pos (by omega),itoa_pos (by omega)]
  exact ⟨rfl,by congr 1;omega,by congr 1;omega⟩
 ·rcases hx with ⟨k,hk,rfl⟩|hx|⟨a,ha,i,hi,rfl⟩
  ·have h1:(scalarsP P.vars P.funcs).idxOf k<_:=idx_lt hk
   show o.scalars.toNat+3+(scalarsP P.vars P.funcs).idxOf k<262144
   omega
  ·have h1:o.scalars.toNat≤x∧x≤o.scalars.toNat+2:=hx
   omega
  ·have h1:=off_le _ han a ha
   show o.arrays.toNat+offA P.arrays a.name+i<262144
   omega
 ·show x<o.code.toNat∨o.code.toNat+(textA (knownC P o) (wordsC P o)).length≤x
  rcases hx with ⟨k,hk,rfl⟩|hx|⟨a,ha,i,hi,rfl⟩
  ·have h1:(scalarsP P.vars P.funcs).idxOf k<_:=idx_lt hk
   show o.scalars.toNat+3+(scalarsP P.vars P.funcs).idxOf k<_∨_≤o.scalars.toNat+3+(scalarsP P.vars P.funcs).idxOf k
   omega
  ·have h1:o.scalars.toNat≤x∧x≤o.scalars.toNat+2:=hx
   omega
  ·have h1:=off_le _ han a ha
   have h2:=ac (by have:i<a.size:=hi;omega)
   have h3:i<a.size:=hi
   show o.arrays.toNat+offA P.arrays a.name+i<_∨_≤o.arrays.toNat+offA P.arrays a.name+i
   omega
 ·exact Nat.le_add_right _ _
 ·have h1:o.scalars.toNat+3+(scalarsP P.vars P.funcs).idxOf k=o.scalars.toNat+3+(scalarsP P.vars P.funcs).idxOf k':=h
  have h2:(scalarsP P.vars P.funcs).idxOf k=(scalarsP P.vars P.funcs).idxOf k':=by omega
  exact idx_inj hk hk' h2
 ·have h1:=off_le _ han a ha
  have h2:=as' (by omega)
  refine ⟨fun k hk=>?_,?_⟩
  ·have h3:(scalarsP P.vars P.funcs).idxOf k<_:=idx_lt hk
   show o.scalars.toNat+3+(scalarsP P.vars P.funcs).idxOf k≠o.arrays.toNat+offA P.arrays a.name+i
   omega
  ·show ¬ (o.scalars.toNat≤o.arrays.toNat+offA P.arrays a.name+i∧o.arrays.toNat+offA P.arrays a.name+i≤o.scalars.toNat+2)
   omega
 ·have h:o.arrays.toNat+offA P.arrays a.name+i=o.arrays.toNat+offA P.arrays b.name+j:=h
  by_cases he:a.name=b.name
  ·rw[he] at h
   exact ⟨he,by omega⟩
  ·rcases off_apart _ han a ha b hb he with h1|h1
   ·omega
   ·omega
 ·have h1:=off_le _ han a ha
  show o.arrays.toNat+offA P.arrays a.name<1000000
  omega
 ·rw[arr_same han ha hb h]
 ·have h1:g∈knF P.vars (P.arrays.map (·.name)) (P.funcs.map (·.name)) [] P.funcs f:=List.mem_of_find?_eq_some h
  have h2:g.name=name:=of_decide_eq_true (List.find?_some (p:=fun g:FSum=>decide (g.name=name)) h)
  rcases kn_sum P.funcs [] hfn f hf g h1 with h3|⟨x,h3,h4⟩
  ·exact (List.not_mem_nil h3).elim
  ·have h5:x.name=name:=by rw[←h2,h4];try rfl
   have h6:=fnI_mem (P:=P) hfn h3
   rw[h5] at h6
   show fnI P name∈P.funcs∧_
   rw[show (trnP P o).P=P from rfl,h6,h4]
   exact ⟨h3,h5,rfl,(sum_need _ x).1,(sum_need _ x).2⟩
 ·have ho:=hv.own f hf
  have hkey:∀ p∈f.params,keyI f p=f.name++[46]++p:=fun p hp=>by unfold keyI;rw[if_pos (.inl hp)]
  refine ⟨fun p hp=>?_,?_⟩
  ·have hk:keyI f p∈scalarsP P.vars P.funcs:=by
    rw[hkey p hp]
    exact (own_key hv.names hf p).2 (List.mem_append.2 (.inl hp))
   exact ⟨hk,sc_at hv hF hf p hk⟩
  ·have hn:f.params.Nodup:=(List.nodup_append.1 ho.1).1
   refine List.pairwise_map.2 (hn.imp_of_mem fun {a b} ha hb hab he=>hab ?_)
   rw[hkey a ha,hkey b hb] at he
   exact List.append_cancel_left he
 ·exact def_of (c:=106) (x:=decDigits n) (hmem h) zDd zDd
 ·exact ref_of (hmem h)
 ·exact label_plc o.code.toNat hasm.1 hne hw hd
end
end Go.Stele
namespace Go.Stele
open Go.Lib
def AllC (l:List Wd):Prop:=∀ w∈l,CleanW w
theorem allC_nil:AllC []:=fun w hw=>(List.not_mem_nil hw).elim
theorem allC_cons {w:Wd} {l:List Wd}:AllC (w::l) ↔ CleanW w∧AllC l:=List.forall_mem_cons
theorem allC_app {a b:List Wd}:AllC (a++b) ↔ AllC a∧AllC b:=List.forall_mem_append
def cleanB (w:Wd):Bool:=decide (w≠[]) && w.all fun c=>decide (c≠10∧c≠32∧c≠35)
theorem clean_b {w:Wd} (h:cleanB w=true):CleanW w:=by
 unfold cleanB at h
 rw[zBa,zDe,List.all_eq_true] at h
 refine ⟨h.1,fun c hc=>?_⟩
 have:=of_decide_eq_true (h.2 c hc)
 exact this
theorem allC_b {l:List Wd} (h:l.all cleanB=true):AllC l:=fun w hw=>clean_b (List.all_eq_true.1 h w hw)
theorem itoa_clean {z:Int} (h:0≤z):CleanW (itoa z):=by rw[itoa_pos h];exact dec_clean _
theorem clean_put {a b:Wd} (h:Plain a) (h2:Plain b) (hne:a≠[]):CleanW (a++b):=⟨fun h=>hne (List.append_eq_nil_iff.1 h).1,fun c hc=>(List.mem_append.1 hc).elim (h c) (h2 c)⟩
theorem ite_C {p:Prop} [Decidable p] {a b:List Wd} (h1:p→AllC a) (h2:¬ p→AllC b):AllC (if p then a else b):=by
 by_cases h:p
 ·rw[if_pos h];exact h1 h
 ·rw[if_neg h];exact h2 h
structure ClC (c:CC):Prop where
 sc:∀ n,CleanW (c.sc n)
 ar:∀ n,CleanW (c.ar n)
 t0:CleanW c.t0
 t1:CleanW c.t1
 t2:CleanW c.t2
theorem nm_plain {s:Nm} (h:isNm s=true):Plain s:=by
 unfold isNm at h
 rw[zBa] at h
 have h2:=h.2
 have hi:∀ c:UInt8,isLetter c=true∨isInner c=true→c≠10∧c≠32∧c≠35:=fun c hc=>by
  refine ⟨?_,?_,?_⟩ <;> (rintro rfl;exact absurd hc zDd)
 cases s with
 |nil=>exact fun c hc=>(List.not_mem_nil hc).elim
 |cons c r=>
  simp only[zBa] at h2
  intro d hd
  rcases zMi.1 hd with rfl|hd
  ·exact hi _ (.inl h2.1)
  ·exact hi _ (.inr (List.all_eq_true.1 h2.2 d hd))
theorem greater_clean {c:CC} (hc:ClC c):AllC (greaterW c):=by
 have hs:∀ {k:UInt8},(k≠10∧k≠32∧k≠35)→CleanW [k]:=fun h=>⟨by simp,fun x hx=>by rw[List.mem_singleton.1 hx];exact h⟩
 unfold greaterW
 repeat' first|exact hc.t1|exact hc.t2|exact hs zDd|exact allC_nil|refine allC_cons.2 ⟨?_,?_⟩
theorem opW_clean {c:CC} (hc:ClC c) {op name:Nm} {num:Nat} {l:List (List Wd)} (hl:∀ ws∈l,AllC ws) (hop:opnds op ≠ -2) (hcall:op=nCall→Plain name):AllC (opW c op num name l):=by
 have hh:AllC (l.headD []):=by
  cases l with
  |nil=>exact allC_nil
  |cons a r=>exact hl a zMs
 have h2:AllC ((l.drop 1).headD []):=by
  cases l with
  |nil=>exact allC_nil
  |cons a r=>
   cases r with
   |nil=>exact allC_nil
   |cons b r=>exact hl b (zMo _ zMs)
 have hf:AllC l.flatten:=fun w hw=>by
  obtain ⟨ws,h1,h3⟩:=List.mem_flatten.1 hw
  exact hl ws h1 w h3
 have hg:=greater_clean hc
 have hs:∀ {k:UInt8},(k≠10∧k≠32∧k≠35)→CleanW [k]:=fun h=>⟨by simp,fun x hx=>by rw[List.mem_singleton.1 hx];exact h⟩
 have hbin:¬ (op=nNum)→¬ (op=nVar)→¬ (op=nElem)→¬ (op=nCall)→¬ (op=nNeg)→¬ (op=nNot)→CleanW op:=by
  intro a1 a2 a3 a4 a5 a6
  unfold opnds at hop
  rw[if_neg (by simp[a1,a2]),if_neg (by simp[a3,a5,a6]),if_neg a4] at hop
  split at hop
  ·rename_i h
   exact allC_b (l:=binOps) zDd op h
  ·exact absurd rfl hop
 unfold opW
 refine ite_C (fun n1=>?_) fun n1=>ite_C (fun n2=>?_) fun n2=>ite_C (fun n3=>?_) fun n3=>ite_C (fun n4=>?_) fun n4=>ite_C (fun n5=>?_) fun n5=>ite_C (fun n6=>?_) fun n6=>ite_C (fun n7=>?_) fun n7=>ite_C (fun n8=>?_) fun n8=>ite_C (fun n9=>?_) fun n9=>?_
 ·exact allC_cons.2 ⟨dec_clean _,allC_nil⟩
 ·repeat' first|exact hh|exact h2|exact allC_nil|exact hc.sc _|exact hc.ar _|exact hs zDd|refine allC_cons.2 ⟨?_,?_⟩|refine allC_app.2 ⟨?_,?_⟩
 ·repeat' first|exact hh|exact h2|exact allC_nil|exact hc.sc _|exact hc.ar _|exact hs zDd|refine allC_cons.2 ⟨?_,?_⟩|refine allC_app.2 ⟨?_,?_⟩
 ·refine allC_app.2 ⟨hf,ite_C (fun _=>allC_b zDd) fun _=>ite_C (fun _=>allC_b zDd) fun _=>?_⟩
  refine allC_cons.2 ⟨clean_put (fun x hx=>?_) (hcall n4) (by simp),allC_b zDd⟩
  have:=List.all_eq_true.1 (show ([38,102,95]:Wd).all (fun c=>decide (c≠10∧c≠32∧c≠35))=true by decide) x hx
  exact of_decide_eq_true this
 ·repeat' first|exact hh|exact h2|exact allC_nil|exact hc.sc _|exact hc.ar _|exact hs zDd|refine allC_cons.2 ⟨?_,?_⟩|refine allC_app.2 ⟨?_,?_⟩
 ·repeat' first|exact hh|exact h2|exact allC_nil|exact hc.sc _|exact hc.ar _|exact hs zDd|refine allC_cons.2 ⟨?_,?_⟩|refine allC_app.2 ⟨?_,?_⟩
 ·repeat' first|exact hh|exact h2|exact allC_nil|exact hc.sc _|exact hc.ar _|exact hs zDd|refine allC_cons.2 ⟨?_,?_⟩|refine allC_app.2 ⟨?_,?_⟩
 ·repeat' first|exact hh|exact h2|exact allC_nil|exact hc.sc _|exact hc.ar _|exact hs zDd|refine allC_cons.2 ⟨?_,?_⟩|refine allC_app.2 ⟨?_,?_⟩
 ·repeat' first|exact hh|exact h2|exact allC_nil|exact hc.sc _|exact hc.ar _|exact hs zDd|refine allC_cons.2 ⟨?_,?_⟩|refine allC_app.2 ⟨?_,?_⟩
 refine allC_app.2 ⟨allC_app.2 ⟨hh,h2⟩,?_⟩
 refine ite_C (fun _=>hg) fun _=>ite_C (fun _=>allC_app.2 ⟨hg,allC_b zDd⟩) fun _=>ite_C (fun _=>allC_b zDd) fun _=>ite_C (fun _=>allC_b zDd) fun _=>?_
 exact allC_cons.2 ⟨hbin n1 n2 n3 n4 n5 n6,allC_nil⟩
mutual
theorem exW_clean {c:CC} (hc:ClC c) {env:CEnv} (hfn:∀ k∈env.funcs,Plain k.name):∀ e,errE env e=0→AllC (exW c e)
 |.mk op num name args,h=>by
  rw[errE] at h
  split at h
  ·rename_i ho
   obtain ⟨h1,h3⟩:=orE_zero.1 h
   rw[exW]
   refine opW_clean hc (exWl_clean hc hfn args h1) (by omega) (fun hcl=>?_)
   subst hcl
   unfold useE at h3
   rw[if_neg zDd,if_neg zDd,if_pos rfl] at h3
   unfold callE at h3
   split at h3
   ·rename_i e;rw[e]
    exact fun x hx=>of_decide_eq_true (List.all_eq_true.1 (show ([105,110]:Wd).all (fun c=>decide (c≠10∧c≠32∧c≠35))=true by decide) x hx)
   split at h3
   ·rename_i e;rw[e]
    exact fun x hx=>of_decide_eq_true (List.all_eq_true.1 (show ([111,117,116]:Wd).all (fun c=>decide (c≠10∧c≠32∧c≠35))=true by decide) x hx)
   unfold CEnv.fn at h3
   cases hf:env.funcs.find? fun f=>decide (f.name=name) with
   |none=>
    rw[hf] at h3
    simp only at h3
    split at h3 <;> cases h3
   |some k=>
    have e:k.name=name:=of_decide_eq_true (List.find?_some (p:=fun g:FSum=>decide (g.name=name)) hf)
    rw[←e]
    exact hfn k (List.mem_of_find?_eq_some hf)
  ·cases h
theorem exWl_clean {c:CC} (hc:ClC c) {env:CEnv} (hfn:∀ k∈env.funcs,Plain k.name):∀ l,errEs env l=0→∀ ws∈exWl c l,AllC ws
 |[],h,ws,hw=>by rw[exWl] at hw;exact (List.not_mem_nil hw).elim
 |x::l,h,ws,hw=>by
  rw[errEs] at h
  obtain ⟨h1,h2⟩:=orE_zero.1 h
  rw[exWl] at hw
  rcases zMi.1 hw with rfl|hw
  ·exact exW_clean hc hfn x h1
  ·exact exWl_clean hc hfn l h2 ws hw
end
end Go.Stele
namespace Go.Stele
open Go.Lib
theorem lab_clean (n:Nat):CleanW (labW n)∧CleanW (38::labW n)∧CleanW (labW n++[58]):=by
 have h:=(dec_clean n).2
 have h1:∀ {c:UInt8} {w:Wd},(c≠10∧c≠32∧c≠35)→Plain w→Plain (c::w):=fun hc hw x hx=>by
  rcases zMi.1 hx with rfl|hx
  ·exact hc
  ·exact hw x hx
 have h2:Plain (labW n):=h1 zDd h
 exact ⟨⟨by simp[labW],h2⟩,⟨by simp,h1 zDd h2⟩,clean_put h2 (h1 zDd fun x hx=>(List.not_mem_nil hx).elim) (by simp[labW])⟩
section
variable {c:CC} {env:CEnv}
theorem hs_clean {k:UInt8} (h:k≠10∧k≠32∧k≠35):CleanW [k]:=⟨by simp,fun x hx=>by rw[List.mem_singleton.1 hx];exact h⟩
theorem head_clean (hc:ClC c) (hfn:∀ k∈env.funcs,Plain k.name) {l:List Ex} (h1:l.length=1) (h:errEs env l=0):AllC (exW c (l.headD default)):=by
 obtain ⟨x,rfl⟩:=List.length_eq_one_iff.1 h1
 rw[errEs] at h
 exact exW_clean hc hfn x (orE_zero.1 h).1
mutual
theorem stW_clean (hc:ClC c) (hfn:∀ k∈env.funcs,Plain k.name):∀ (s:Sm) (n:Nat),errS env s=0→AllC (stW c n s).1
 |.mk kind name index value thn els,n,h=>by
  rw[errS] at h
  by_cases hf:formS (.mk kind name index value thn els)=false
  ·rw[if_pos hf] at h;cases h
  rw[if_neg hf] at h
  obtain ⟨h1,h⟩:=orE_zero.1 h
  obtain ⟨h2,h⟩:=orE_zero.1 h
  obtain ⟨h3,h⟩:=orE_zero.1 h
  obtain ⟨h4,h5⟩:=orE_zero.1 h
  rw[Bool.not_eq_false] at hf
  unfold formS at hf
  have hv:kind=1∨kind=2∨kind=3∨kind=4∨kind=5∨kind=6→AllC (exW c (value.headD default)):=fun hk=>head_clean hc hfn (by
   rcases hk with rfl|rfl|rfl|rfl|rfl|rfl <;> simp at hf <;> simp[hf]) h1
  have ht:=fun n=>stWs_clean hc hfn thn n h4
  have he:=fun n=>stWs_clean hc hfn els n h5
  unfold stW
  by_cases k1:kind=1
  ·rw[if_pos k1]
   exact allC_app.2 ⟨hv (by simp[k1]),allC_cons.2 ⟨hc.sc _,allC_b zDd⟩⟩
  rw[if_neg k1]
  by_cases k2:kind=2
  ·rw[if_pos k2]
   refine allC_app.2 ⟨hv (by simp[k2]),allC_cons.2 ⟨hc.ar _,allC_app.2 ⟨head_clean hc hfn ?_ h2,allC_b zDd⟩⟩⟩
   subst k2
   simp at hf
   simp[hf]
  rw[if_neg k2]
  by_cases k3:kind=3
  ·rw[if_pos k3]
   have h8:=hv (by simp[k3])
   cases els with
   |nil=>
    simp only
    exact allC_app.2 ⟨allC_app.2 ⟨allC_app.2 ⟨h8,allC_cons.2 ⟨(lab_clean n).2.1,allC_b zDd⟩⟩,ht _⟩,allC_cons.2 ⟨(lab_clean n).2.2,allC_nil⟩⟩
   |cons a r=>
    simp only
    exact allC_app.2 ⟨allC_app.2 ⟨allC_app.2 ⟨allC_app.2 ⟨allC_app.2 ⟨h8,allC_cons.2 ⟨(lab_clean n).2.1,allC_b zDd⟩⟩,ht _⟩,allC_cons.2 ⟨hs_clean zDd,allC_cons.2 ⟨(lab_clean (n+1)).2.1,allC_cons.2 ⟨hs_clean zDd,allC_cons.2 ⟨(lab_clean n).2.2,allC_nil⟩⟩⟩⟩⟩,he _⟩,allC_cons.2 ⟨(lab_clean (n+1)).2.2,allC_nil⟩⟩
  rw[if_neg k3]
  by_cases k4:kind=4
  ·rw[if_pos k4]
   have h8:=hv (by simp[k4])
   exact allC_app.2 ⟨allC_app.2 ⟨allC_app.2 ⟨allC_app.2 ⟨allC_cons.2 ⟨(lab_clean n).2.2,allC_nil⟩,h8⟩,allC_cons.2 ⟨(lab_clean (n+1)).2.1,allC_b zDd⟩⟩,ht _⟩,allC_cons.2 ⟨hs_clean zDd,allC_cons.2 ⟨(lab_clean n).2.1,allC_cons.2 ⟨hs_clean zDd,allC_cons.2 ⟨(lab_clean (n+1)).2.2,allC_nil⟩⟩⟩⟩⟩
  rw[if_neg k4]
  by_cases k5:kind=5
  ·rw[if_pos k5]
   exact allC_app.2 ⟨hv (by simp[k5]),allC_b zDd⟩
  rw[if_neg k5]
  by_cases k6:kind=6
  ·rw[if_pos k6]
   exact allC_app.2 ⟨hv (by simp[k6]),allC_cons.2 ⟨hc.t0,allC_b zDd⟩⟩
  rw[if_neg k6]
  by_cases k7:kind=7
  ·rw[if_pos k7]
   exact allC_cons.2 ⟨hs_clean zDd,allC_nil⟩
  ·rw[if_neg k7]
   exact allC_nil
theorem stWs_clean (hc:ClC c) (hfn:∀ k∈env.funcs,Plain k.name):∀ (l:List Sm) (n:Nat),errSs env l=0→AllC (stWs c n l).1
 |[],n,h=>by rw[stWs];exact allC_nil
 |s::l,n,h=>by
  rw[errSs] at h
  obtain ⟨h1,h2⟩:=orE_zero.1 h
  rw[stWs]
  exact allC_app.2 ⟨stW_clean hc hfn s n h1,stWs_clean hc hfn l _ h2⟩
end
theorem fnW_clean (hc:ClC c) (hfn:∀ k∈env.funcs,Plain k.name) (f:FnD) (n:Nat) (hname:Plain f.name) (h:errSs env f.body=0):AllC (fnW c n f).1:=by
 unfold fnW
 simp only
 refine allC_app.2 ⟨allC_app.2 ⟨allC_app.2 ⟨allC_cons.2 ⟨?_,allC_nil⟩,fun w hw=>?_⟩,stWs_clean hc hfn _ _ h⟩,allC_b zDd⟩
 ·rw[zAs]
  refine clean_put (fun x hx=>?_) (fun x hx=>?_) (by simp)
  ·exact of_decide_eq_true (List.all_eq_true.1 (show ([102,95]:Wd).all (fun c=>decide (c≠10∧c≠32∧c≠35))=true by decide) x hx)
  ·rcases List.mem_append.1 hx with h|h
   ·exact hname x h
   ·exact (hs_clean (k:=58) zDd).2 x h
 ·obtain ⟨p,h1,h2⟩:=List.mem_flatMap.1 hw
  rcases zMi.1 h2 with rfl|h2
  ·exact hc.sc _
  ·rw[List.mem_singleton.1 h2]
   exact hs_clean zDd
end
theorem fnWs_clean {cc:Nm→CC} (hc:∀ n,ClC (cc n)):∀ (fs:List FnD) (n:Nat),(∀ f∈fs,∀ m,AllC (fnW (cc f.name) m f).1)→AllC (fnWs cc n fs).1
 |[],n,_=>by rw[fnWs];exact allC_nil
 |f::l,n,h=>by
  rw[fnWs]
  exact allC_app.2 ⟨h f zMs n,fnWs_clean hc l _ fun g hg=>h g (zMo _ hg)⟩
section
variable {P:Pr} {o:Org}
theorem arrA_pos:∀ (l:List (Nm×Int)) (a:Int),0≤a→(∀ p∈l,0≤p.2)→∀ n,0≤arrA a l n
 |[],a,_,_,n=>by simp[arrA]
 |(x,k)::l,a,h,hl,n=>by
  rw[arrA]
  split
  ·exact h
  ·have:0≤k:=hl (x,k) zMs
   exact arrA_pos l _ (by omega) (fun p hp=>hl p (zMo _ hp)) n
theorem cc_clean (hF:FitN P o) (own:Nm):ClC (ccF P.vars (arrsP P) P.funcs o own):=by
 have s0:=hF.s0
 refine ⟨fun n=>?_,fun n=>?_,?_,?_,?_⟩
 ·refine itoa_clean ?_
  unfold placeA
  split <;> omega
 ·refine itoa_clean (arrA_pos _ _ hF.a0 (fun p hp=>?_) n)
  obtain ⟨a,_,rfl⟩:=List.mem_map.1 hp
  exact Int.natCast_nonneg _
 ·exact itoa_clean s0
 ·exact itoa_clean (z:=o.scalars+1) (by omega)
 ·exact itoa_clean (z:=o.scalars+2) (by omega)
theorem prW_clean (hc:checkPr P=0) (hfit:fitsP P.vars (arrsP P) P.funcs o=true):AllC (wordsC P o):=by
 have hv:=valid_of hc
 have hF:=fit_of hfit
 have hfr:=fresh_zero _ _ hv.names
 have hpl:∀ f∈P.funcs,Plain f.name:=fun f hf=>nm_plain (hfr.2 _ (List.mem_append.2 (.inr (List.mem_map.2 ⟨f,hf,rfl⟩)))).2
 have h1:AllC ([[38,102,95,109,97,105,110],[58],itoa o.scalars,[33],[36]]:List Wd):=allC_cons.2 ⟨clean_b zDd,allC_cons.2 ⟨clean_b zDd,allC_cons.2 ⟨itoa_clean hF.s0,allC_b zDd⟩⟩⟩
 refine allC_app.2 ⟨h1,fnWs_clean (fun n=>cc_clean hF n) P.funcs 0 fun f hf m=>?_⟩
 obtain ⟨kn,k1,k2⟩:=hv.bodies f hf
 refine fnW_clean (cc_clean hF f.name) (fun k hk=>?_) f m (hpl f hf) k1
 obtain ⟨g,g1,g2,_⟩:=k2 k hk
 rw[←g2]
 exact hpl g g1
theorem cmp_ok {t:Wd} (hnum:∀ f∈P.funcs,numSs f.body) (h:cmpP P.vars (arrsP P) P.funcs o=.ok t) :
  checkPr P=0∧fitsP P.vars (arrsP P) P.funcs o=true∧t=join (wordsC P o) [32]∧wordsP t=wordsC P o∧asmP t o.code=.ok (textA (knownC P o) (wordsC P o),labsA (fun _=>0) o.code.toNat (wordsC P o))∧TrnOk (trnP P o)∧o.code.toNat+(textA (knownC P o) (wordsC P o)).length≤262144:=by
 unfold cmpP at h
 split at h
 ·cases h
 rename_i h1
 split at h
 ·cases h
 rename_i h2
 have hc:checkPr P=0:=by
  have:=Classical.not_not.1 h1
  exact this
 have hfit:fitsP P.vars (arrsP P) P.funcs o=true:=by simpa using h2
 have hcl:=prW_clean hc hfit
 have hw:wordsP (join (wordsC P o) [32])=wordsC P o:=words_join hcl
 split at h
 ·cases h
 rename_i x hx
 injection h with h
 have hx:asmP (join (wordsC P o) [32]) o.code=.ok x:=hx
 have ht:t=join (wordsC P o) [32]:=h.symm
 rw[ht]
 have hx0:=hx
 unfold asmP at hx
 rw[hw] at hx
 split at hx
 ·cases hx
 split at hx
 ·cases hx
 rename_i h4
 split at hx
 ·cases hx
 rename_i h5
 injection hx with hx
 have hA:AsmOk (wordsC P o):=by
  have:=asm_ok (src:=join (wordsC P o) [32]) (by rw[hw];exact Classical.not_not.1 h4)
  rwa [hw] at this
 have hlen:(textA (knownC P o) (wordsC P o)).length≤40000:=Nat.le_of_not_lt h5
 have hF:=fit_of hfit
 refine ⟨hc,hfit,rfl,hw,by rw[hx0,←hx];try rfl,trn_ok hc hnum hfit hA (fun w hw=>(hcl w hw).1) hlen,?_⟩
 have:=hF.c1
 omega
theorem cmp_run {t:Wd} (hnum:∀ f∈P.funcs,numSs f.body) (h:cmpP P.vars (arrsP P) P.funcs o=.ok t) (inp:List Nat) (limit:Nat) :
  ((runI P inp limit).err=0∨(runI P inp limit).err=12→∀ N,60 * limit+200≤N→∃ k,k≤60 * limit+200∧runM N (startM (textA (knownC P o) (wordsC P o)) o.code.toNat inp)=((runI P inp limit).err.toNat,(runI P inp limit).out,k)) ∧
  ((runI P inp limit).err=13→∃ k m',Stp k (startM (textA (knownC P o) (wordsC P o)) o.code.toNat inp) m'∧m'.out=(runI P inp limit).out):=by
 obtain ⟨hc,hfit,_,_,_,hX,hlen⟩:=cmp_ok hnum h
 have hv:=valid_of hc
 have hF:=fit_of hfit
 have hfn:(P.funcs.map (·.name)).Nodup:=(List.nodup_append.1 (fresh_zero _ _ hv.names).1).2.1
 have hW:(trnP P o).C.Code 0 [[38,102,95,109,97,105,110],[58],decDigits (trnP P o).S,[33],[36]]:=by
  have h1:PW.Code (trnP P o).C 0 ([[38,102,95,109,97,105,110],[58],itoa o.scalars,[33],[36]]++(fnWs (ccF P.vars (arrsP P) P.funcs o) 0 P.funcs).1):=code_all _ _ _
  rw[itoa_pos hF.s0] at h1
  exact h1.app.1
 have hmain:((trnP P o).cenv (mainI P),(mainI P)).2=mainI P:=rfl
 have hneed:needSs ((trnP P o).cenv (mainI P)) (mainI P).body≤200∧depSs ((trnP P o).cenv (mainI P)) (mainI P).body≤60:=by
  unfold checkPr checkP at hc
  have e1:(P.arrays.map fun a=>(a.name,(a.size:Int))).map (·.1)=P.arrays.map (·.name):=by rw[List.map_map];try rfl
  rw[e1,sumFs_map _ _ hfn,List.nil_append] at hc
  have hm:=(orE_zero.1 (orE_zero.1 (orE_zero.1 hc).2).2).2
  unfold mainE at hm
  rw[List.getLast?_map] at hm
  have hmi:mainI P=(P.funcs.getLast?).getD ⟨[],[],[],[]⟩:=rfl
  cases hl:P.funcs.getLast? with
  |none=>rw[hl] at hm;cases hm
  |some f=>
   rw[hl] at hm hmi
   simp only[Option.map_some,Option.getD_some] at hm hmi
   rw[hmi]
   split at hm
   ·split at hm
    ·rename_i hq
     have hs:=sum_need (vars:=P.vars) (arrays:=P.arrays.map (·.name)) (later:=P.funcs.map (·.name)) (knF P.vars (P.arrays.map (·.name)) (P.funcs.map (·.name)) [] P.funcs f) f
     exact ⟨zNt hs.1 hq.2.1,zNt hs.2 hq.2.2⟩
    ·cases hm
   ·cases hm
 exact main_ok hX hlen hW hv.main.1 hv.main.2.1 hv.main.2.2 (zNt hneed.1 zDd) (zNt hneed.2 zDd) inp limit
end
end Go.Stele
