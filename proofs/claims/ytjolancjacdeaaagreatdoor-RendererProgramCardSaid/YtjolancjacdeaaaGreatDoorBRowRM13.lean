import Derived.Test.YtjolancjacdeaaaGreatDoorBRowRM12
set_option linter.unusedVariables false
set_option linter.unusedSimpArgs false
set_option maxRecDepth 100000
set_option maxHeartbeats 4000000
open List (flatMap_cons sum_cons getElem_mem take_of_length_le take_succ_eq_append_getElem drop_length foldl_append not_mem_nil take_length foldl_cons length_set nil_append drop_drop cons_append length_take length_replicate)
open Nat (zero_le lt_or_ge sub_self mul_le_mul_right)
open Option (getD_some)
namespace Go.GL
variable{es:List LV}{s:Nat}
theorem eQ{es:List LV}{cs spare:List LV}(hs:∀ v∈es,v.cells.length=s)(hc:cs.length=s){k:Nat}(hk:k<s):((es++[LV.agg cs]).flatMap LV.cells++spare)[es.length * s+k]? = cs[k]? := by
 have h1:(es.flatMap LV.cells).length=es.length * s:=Fv hs;have h2:[LV.agg cs].flatMap LV.cells=cs:=by simp[LV.cells]
 rw[List.flatMap_append,h2,Xc,List.getElem?_append_right zo,h1,show es.length * s+k-es.length * s=k by omega,List.getElem?_append_left zo]
theorem EK(A B C D:Heap):((A++(B++C))++D).Perm ((A++(D++B))++C):=by rw[Xc,Xc A];refine List.Perm.append_left A ?_;rw[Xc D];exact dd
theorem TU(A B C D:Heap):(A++((B++C)++D)).Perm (B++(A++(D++C))):=by rw[Xc];exact(List.perm_append_comm_assoc A B (C++D)).trans (List.Perm.append_left B (List.Perm.append_left A dd))
theorem jb.flat{el:Nat}{v:Value}{H:Heap}(h:jb el s v es H):(LV.atom v).cells? = some [.atom v]/\bj (.atom v)=true:=by cases h <;> exact⟨rfl,rfl⟩
theorem Acc.flat{v:LV}{H F:Heap}(h:Acc s v es H F):v.cells? = some [v]/\bj v=true:=by cases h <;> exact⟨rfl,rfl⟩
theorem xX{es:List LV}{cs Ya spare:List LV}{x:LV}{k:Nat}(hs:∀ v∈es,v.cells.length=s)(hk:k+1<=cs.length)(hc:Zc cs k [x]=Ya):Zc ((es++[LV.agg cs]).flatMap LV.cells++spare) (es.length * s+k) [x]=(es++[LV.agg Ya]).flatMap LV.cells++spare:=
 qqr (bs:=[]) (a:=.agg cs) (a':=.agg Ya) hs k hk hc.symm
theorem HSub.app(A B:Heap):HSub A (A++B):=⟨B,List.Perm.refl _⟩
end Go.GL
namespace Go.Proofs.YtjolancjacdeaaaGreatDoor.Rr
open Go.GL Go.RowKit Go.Ba
attribute [local irreducible] ea Ga Ja aa Go.GL.Pure Bc Tc oc LQ Pa Td Lf
def Cq(b:Xb):List LV:=[int .i64 b.kind,.list (b.words.map str),.list (b.rows.map λr=>.list (r.map str)),str b.runs,int .i64 b.width]
def wg(b:Xb):LV:=.agg (Cq b)
def cg:List LV->List Xb->Prop
 |[],[]=>True
 |e::es,b::bs=>(∃ cs,e=.agg cs/\cs.length=5/\Ce cs (Cq b))/\cg es bs
 |_,_=>False
theorem cg.len:∀ {es:List LV} {bs:List Xb},cg es bs->es.length=bs.length
 |[],[],_=>rfl
 |_::_,_::_,h=>by simp[cg.len h.2]
 |[],_::_,h=>h.elim
 |_::_,[],h=>h.elim
theorem cg.snoc:∀ {es:List LV} {bs:List Xb} {cs:List LV} {b:Xb},cg es bs->cs.length=5->Ce cs (Cq b)->cg (es++[.agg cs]) (bs++[b])
 |[],[],cs,b,_,h5,h=>⟨⟨cs,rfl,h5,h⟩,trivial⟩
 |_::_,_::_,_,_,h,h5,hs=>⟨h.1,cg.snoc h.2 h5 hs⟩
 |[],_::_,_,_,h,_,_=>h.elim
 |_::_,[],_,_,h,_,_=>h.elim
theorem cg.lh:∀ {es:List LV} {bs:List Xb},cg es bs->∀ v∈es,v.cells.length=5
 |[],[],_,v,hv=>by cases hv
 |e::es,b::bs,h,v,hv=>by rcases Mc.1 hv with rfl|hv;obtain⟨⟨cs,rfl,h5,_⟩,_⟩:=h;exact h5;exact cg.lh h.2 v hv
 |[],_::_,h,_,_=>h.elim
 |_::_,[],h,_,_=>h.elim
theorem cg.sub:∀ {es:List LV} {bs:List Xb},cg es bs->Ce (es.flatMap LV.cells) ((bs.map wg).flatMap LV.cells)
 |[],[],_=>trivial
 |e::es,b::bs,h=>by obtain⟨⟨cs,rfl,h5,hs⟩,h2⟩:=h;rw[flatMap_cons,Tb,flatMap_cons];exact Ce.app hs (cg.sub h2)
 |[],_::_,h=>h.elim
 |_::_,[],h=>h.elim
inductive Yd:List Xb->Nat->Value->Heap->Prop
 |plain {out:List Xb} {op:Nat} {v:Value} {H:Heap} {es:List LV} (hm:jb 74 5 v es H) (he:cg es out) (Zf:op≠2/\op≠3):Yd out op v H
 |words {init:List Xb} {es:List LV} {v:Value} {HM HW:Heap} {w:LV} {ws:List Wd} (hm:jb 74 5 v (es++[.agg [int .i64 2,w,Ea,str [],int .i64 0]]) HM) (he:cg es init) (ha:Acc 1 w (ws.map str) HW []):Yd (init++[⟨2,ws,[],[],0⟩]) 2 v (HM++HW)
 |rows {init:List Xb} {es:List LV} {v:Value} {HM HW:Heap} {w:LV} {rs:List (List Wd)} (hm:jb 74 5 v (es++[.agg [int .i64 3,Ea,w,str [],int .i64 0]]) HM) (he:cg es init) (ha:Acc 1 w (rs.map λr=>.list (r.map str)) HW []):Yd (init++[⟨3,[],rs,[],0⟩]) 3 v (HM++HW)
theorem Yd.view{out:List Xb}{op:Nat}{v:Value}{H:Heap}(h:Yd out op v H):∃ es HM HW,jb 74 5 v es HM/\cg es out/\H=HM++HW:=by
 cases h with
 |plain hm he Zf=>exact⟨_,_,[],hm,he,by simp⟩
 |words hm he ha=>exact⟨_,_,_,hm,he.snoc rfl ⟨vR _,ha.sub,vN,vR _,vR _,trivial⟩,rfl⟩
 |rows hm he ha=>exact⟨_,_,_,hm,he.snoc rfl ⟨vR _,vN,ha.sub,vR _,vR _,trivial⟩,rfl⟩
theorem V4{w:LV}(FD:w.cells? = some [w])(k width:Int)(runs:List UInt8):dA [(0,1),(1,1),(2,1),(3,1),(4,1)] ([Value.int .i64 0,.slice none 0 0,.slice none 0 0,.string ⟨#[]⟩,.int .i64 0].map LV.atom) [(0,int .i64 k),(1,w),(3,str runs),(4,int .i64 width)]=some [int .i64 k,w,Ea,str runs,int .i64 width]:=by have h1:(int .i64 k).cells? = some [int .i64 k]:=rfl;have h2:(str runs).cells? = some [str runs]:=rfl;have h3:(int .i64 width).cells? = some [int .i64 width]:=rfl;simp[dA,FD,h1,h2,h3,Zc]
theorem x5{w:LV}(FD:w.cells? = some [w])(MI:bj w=true)(k width:Int)(runs:List UInt8):(([LV.agg [int .i64 k,w,Ea,str runs,int .i64 width]]:List LV).flatMap LV.cells).all bj=true:=by have h1:bj (int .i64 k)=true:=rfl;have h2:bj (str runs)=true:=rfl;have h3:bj (int .i64 width)=true:=rfl;have h4:bj Ea=true:=rfl;simp[LV.cells,MI,h1,h2,h3,h4]
def AH(p o:Nat)(out:List Xb)(op:Nat)(r:Lc)(H:Heap):Prop:=∃ v HD,r=.ret (.tuple [])/\Yd out op v HD/\H=(p,.cells 3 [int .i64 op])::(o,.cells 64 [.atom v])::HD
variable{B0:Nat}{w0:World}
theorem qqi(p o:Nat)(out:List Xb)(op:Nat)(v:Value)(HD:Heap)(Ug:Yd out op v HD) :
  aa (KC B0 w0) 50 [.agg [int .i64 0,Ea,Ea,str [],int .i64 0],ptr p 0,ptr o 0] ((p,.cells 3 [int .i64 op])::(o,.cells 64 [.atom v])::HD) (AH p o out 0):=by
 obtain⟨es,HM,HW,hm,he,rfl⟩:=Ug.view;refine cJ Tryz.func50 (n:=86) ?_;refine Pc ?_;refine oS (sB (cs:=[int .i64 0,Ea,Ea,str [],int .i64 0]) rfl λb3=>?_);refine ia ?_;refine oC rfl (λ_=>?_) (λh=>by cases h);refine ja ?_;exact rO rfl rN (Ab pH (fe (Ab pH (HSub.app HM HW)))) ⟨v,HM,rfl,Yd.plain hm he ⟨by decide,by decide⟩,rfl⟩
theorem AP(p o:Nat)(out:List Xb)(op:Nat)(v:Value)(HD:Heap)(Ug:Yd out op v HD)(hn:out.length<=1000000)(k:Nat)(hk:k=1∨k=2∨k=4)(Zf:¬ (k=op/\op=2))(w:LV)(ws:List Wd)(hw:w.Sub (.list (ws.map str)))(FD:w.cells? = some [w])(MI:bj w=true)(runs:List UInt8)(width:Nat)(HL:Heap) :
  aa (KC B0 w0) 50 [.agg [int .i64 k,w,Ea,str runs,int .i64 width],ptr p 0,ptr o 0] ((p,.cells 3 [int .i64 op])::(o,.cells 64 [.atom v])::(HD++HL))
   (λr H=>∃ v' es HM,r=.ret (.tuple [])/\cg es out/\jb 74 5 v' (es++[.agg [int .i64 k,w,Ea,str runs,int .i64 width]]) HM/\H=(p,.cells 3 [int .i64 k])::(o,.cells 64 [.atom v'])::(HM++HL)):=by
 obtain⟨es,HM,HW,hm,he,rfl⟩:=Ug.view;have nr:=he.len;refine cJ Tryz.func50 (n:=86) ?_;refine Pc ?_;refine oS (sB (cs:=[int .i64 k,w,Ea,str runs,int .i64 width]) rfl λb3=>?_);refine ia ?_;refine oC rfl (λh=>absurd (zt h) zo) λ_=>?_;refine Pc ?_;refine ea.cut [(1,ptr p 0),(2,ptr o 0),(3,ptr b3 0),(22,bool false)] ?_ λj1 Pb=>?_;refine za ?_;refine oB 27 rfl (λh=>?_) λh=>?_;have Ep:=zt h;refine za ?_;exact⟨⟨rfl,rfl,rfl,Ed (decide_eq_false zo),trivial⟩,rfl,rfl⟩;refine oa ?_;exact⟨Qa,rfl,rfl⟩;refine oC rfl (λh=>by cases h) λ_=>?_;refine Pc ?_;refine ea.cut [(1,ptr p 0),(2,ptr o 0),(3,ptr b3 0),(47,bool false)] ?_ λj2 Ub=>?_;refine za ?_;refine oB 52 rfl (λh=>?_) λh=>?_;have Ep:=zt h;refine za ?_;exact⟨⟨rfl,rfl,rfl,Ed (decide_eq_false (λh2=>Zf ⟨by omega,by omega⟩)),trivial⟩,rfl,rfl⟩;refine oa ?_;exact⟨Qa,rfl,rfl⟩;refine oC rfl (λh=>by cases h) λ_=>?_;refine ia ?_;refine oC rfl (λh=>absurd (zt h) zo) λ_=>?_;refine ja ?_;refine ca (pL (c:=w) rfl yb rfl)<|oa ?_;refine ca (pB _ (cs:=[int .i64 k,w,Ea,str runs,int .i64 width]) (V4 FD _ _ _))<|oS (sL [_] (es:=[.agg [int .i64 k,w,Ea,str runs,int .i64 width]]) rfl (rc rfl rfl Tf) rfl rfl rfl ?_);refine oS (S.Xl (F:=[(b3,.cells 120 [int .i64 k,w,Ea,str runs,int .i64 width]),(p,.cells 3 [int .i64 op]),(o,.cells 64 [.atom v])]++(HL++HW)) rfl (by exact TU [_,_,_] HM HW HL) hm rfl (by simp[LV.cells]) (x5 FD MI _ _ _) (by simp only[Oa,Eb];omega) λv' H' Wg=>?_);refine ea.db (H':=(b3,.cells 120 [int .i64 k,w,Ea,str runs,int .i64 width])::(p,.cells 3 [int .i64 op])::(o,.cells 64 [.atom v])::(H'++HL)) ⟨HW,EK [_,_,_] HL HW H'⟩ ?_;refine MB ?_;refine ja ?_;exact rO (Ub.trans Pb) rN (Ab pH (Ab pH (fe Ma))) ⟨v',es,H',rfl,he,Wg,rfl⟩
theorem B7(p o:Nat)(out:List Xb)(op:Nat)(v:Value)(HD:Heap)(Ug:Yd out op v HD)(hn:out.length<=1000000)(Zf:op≠3)(l:List Wd) :
  aa (KC B0 w0) 50 [.agg [int .i64 3,Ea,.list (l.map str),str [],int .i64 0],ptr p 0,ptr o 0] ((p,.cells 3 [int .i64 op])::(o,.cells 64 [.atom v])::HD)
   (AH p o (out++[⟨3,[],[l],[],0⟩]) 3):=by
 obtain⟨es,HM,HW,hm,he,rfl⟩:=Ug.view;have nr:=he.len;refine cJ Tryz.func50 (n:=86) ?_;refine Pc ?_;refine oS (sB (cs:=[int .i64 3,Ea,.list (l.map str),str [],int .i64 0]) rfl λb3=>?_);refine ia ?_;refine oC rfl (λh=>by cases h) λ_=>?_;refine ja ?_;refine oB 27 rfl (λh=>absurd (zt h) zo) λ_=>?_;refine oa ?_;refine oC rfl (λh=>by cases h) λ_=>?_;refine ja ?_;refine oB 52 rfl (λh=>absurd (zt h) zo) λ_=>?_;refine oa ?_;refine oC rfl (λh=>by cases h) λ_=>?_;refine ia ?_;refine oC rfl (λ_=>?_) (λh=>by cases h);refine ja ?_;refine oS (S.sD [_] (es:=[.list (l.map str)]) rfl (rc rfl rfl Tf) rfl rfl rfl λb4=>?_);refine Oi ?_;refine oS (sL [_] (es:=[.agg [int .i64 3,Ea,.app b4 1 1 [.list (l.map str)],str [],int .i64 0]]) rfl (rc rfl rfl Tf) rfl rfl rfl ?_)
 refine oS (S.Xl (F:=[(b4,.row (1 * 1)),(b3,.cells 120 [int .i64 3,Ea,.list (l.map str),str [],int .i64 0]),(p,.cells 3 [int .i64 op]),(o,.cells 64 [.atom v])]++([]++HW)) rfl (by
  have:=TU [(b4,da.row (1 * 1)),(b3,.cells 120 [int .i64 3,Ea,.list (l.map str),str [],int .i64 0]),(p,.cells 3 [int .i64 op]),(o,.cells 64 [.atom v])] HM HW [];rwa [Qb] at this) hm rfl (by simp[LV.cells]) rfl (by simp only[Oa,Eb];omega) λv' H' Wg=>?_)
 refine ea.db (H':=(b4,.row (1 * 1))::(b3,.cells 120 [int .i64 3,Ea,.list (l.map str),str [],int .i64 0])::(p,.cells 3 [int .i64 op])::(o,.cells 64 [.atom v])::(H'++[])) ⟨HW,EK [_,_,_,_] [] HW H'⟩ ?_;rw[Qb];refine oS (sS (Ya:=[.atom v']) rfl pu Wg.flat.1 rfl rfl (by simp[Wg.flat.2]) rfl ?_);refine ja ?_;exact rO rfl rN (H':=(p,.cells 3 [int .i64 3])::(o,.cells 64 [.atom v'])::(H'++[(b4,.row (1 * 1))])) (Ab pH (Ab pH ⟨[(b3,.cells 120 [int .i64 3,Ea,.list (l.map str),str [],int .i64 0])],by
  rw[Xc];exact(dd (l₁:=[_,_]) (l₂:=H'))⟩)) ⟨v',_,rfl,Yd.rows (rs:=[l]) Wg he Acc.row,rfl⟩
theorem qpy(p o:Nat)(init:List Xb)(es:List LV)(v:Value)(HM HW:Heap)(w:LV)(ws:List Wd)(hm:jb 74 5 v (es++[.agg [int .i64 2,w,Ea,str [],int .i64 0]]) HM)(he:cg es init)(ha:Acc 1 w (ws.map str) HW [])(hn:init.length<=1000000)(LI:ws.length<=1000000)
  (b2 Tn:Nat) (ms:List Wd) (Ut:ms.length<=1000000) (HL:Heap) :
  aa (KC B0 w0) 50 [.agg [int .i64 2,.app b2 Tn 1 (ms.map str),Ea,str [],int .i64 0],ptr p 0,ptr o 0] ((p,.cells 3 [int .i64 2])::(o,.cells 64 [.atom v])::((HM++HW)++HL))
   (AH p o (init++[⟨2,ws++ms,[],[],0⟩]) 2):=by
 have nr:=he.len;have Nk:=he.lh;have fa:(es++[LV.agg [int .i64 2,w,Ea,str [],int .i64 0]]).length=es.length+1:=by simp
 obtain⟨b,cap,spare,hv,nT,hc,Kc⟩:=hm.addr (by simp);rw[fa] at hv hc Kc;subst hv;subst nT;have zh:((es++[LV.agg [int .i64 2,w,Ea,str [],int .i64 0]]).flatMap LV.cells).length=(es.length+1) * 5:=by rw[<-fa];exact Fv hm.lh
 refine cJ Tryz.func50 (n:=86) ?_;refine cW (H':=(p,.cells 3 [int .i64 2])::(o,.cells 64 [.atom (.slice (some ⟨b,0,none⟩) (es.length+1) cap)])::(b,.cells 74 ((es++[LV.agg [int .i64 2,w,Ea,str [],int .i64 0]]).flatMap LV.cells++spare))::HW) ⟨HL,List.Perm.refl _⟩ ?_;refine Pc ?_;refine oS (sB (cs:=[int .i64 2,.app b2 Tn 1 (ms.map str),Ea,str [],int .i64 0]) rfl λb3=>?_);refine ia ?_;refine oC rfl (λh=>by cases h) λ_=>?_;refine ja ?_;refine oC rfl (λh=>by cases h) λ_=>?_;refine ja ?_;refine oC rfl (λ_=>?_) (λh=>by cases h);refine ja ?_;refine Mm ?_;refine za ?_;refine ca (Pure.vb (o:=es.length * 5) rfl rfl zo zo zo)<|fj ?_;refine cD (m:=11) rfl [(b3,.cells 120 [int .i64 2,.app b2 Tn 1 (ms.map str),Ea,str [],int .i64 0])]<|Sz ?_;refine aT 5 rfl rfl (pF rfl)<|aT 6 rfl rfl (pL (c:=.app _ _ _ _) rfl yb rfl)<|aL ?_ dc;refine lO 4 (lH rfl rfl (pL (c:=w) rfl Ru (eQ Nk rfl ra)) ?_);refine lO 7 (lS (H1:=HW) (F:=[(b3,.cells 120 [int .i64 2,.app b2 Tn 1 (ms.map str),Ea,str [],int .i64 0]),(p,.cells 3 [int .i64 2]),(o,.cells 64 [.atom (.slice (some ⟨b,0,none⟩) (es.length+1) cap)]),(b,.cells 74 ((es++[LV.agg [int .i64 2,w,Ea,str [],int .i64 0]]).flatMap LV.cells++spare))]) rfl (.inl rfl) rfl (dd (l₁:=[_,_,_,_]) (l₂:=HW)) dc (S.acc rfl ha rfl (Ro ms) (CA ms) (by simp only[Ua];omega) λw' H' Ah=>?_));refine Td.Xu (H':=(b3,.cells 120 [int .i64 2,.app b2 Tn 1 (ms.map str),Ea,str [],int .i64 0])::(p,.cells 3 [int .i64 2])::(o,.cells 64 [.atom (.slice (some ⟨b,0,none⟩) (es.length+1) cap)])::(b,.cells 74 ((es++[LV.agg [int .i64 2,w,Ea,str [],int .i64 0]]).flatMap LV.cells++spare))::H') ⟨[],by rw[Qb];exact dd (l₁:=H') (l₂:=[_,_,_,_])⟩ ?_;refine lO 8 (lH rfl rfl (pN rfl) ?_);refine lO 9 (lH rfl rfl (pF rfl) ?_);refine lO 10 (lS (H1:=[(b,.cells 74 ((es++[LV.agg [int .i64 2,w,Ea,str [],int .i64 0]]).flatMap LV.cells++spare))]) (F:=(b3,.cells 120 [int .i64 2,.app b2 Tn 1 (ms.map str),Ea,str [],int .i64 0])::(p,.cells 3 [int .i64 2])::(o,.cells 64 [.atom (.slice (some ⟨b,0,none⟩) (es.length+1) cap)])::H') rfl (.inl rfl) rfl (show Ec _ _ _ from pT Ig) dc (sS (off:=es.length * 5+1) (Ya:=(es++[LV.agg [int .i64 2,w',Ea,str [],int .i64 0]]).flatMap LV.cells++spare) rfl pH Ah.flat.1 rfl (Nat.ble_eq_true_of_le (show es.length * 5+1+1<=_ by rw[ua,zh];omega)) (by simp[Ah.flat.2]) (xX Nk (show 1+1<=5 by decide) rfl) ?_));refine lD zk ?_;refine ja ?_
 have Wg:jb 74 5 (.slice (some ⟨b,0,none⟩) (es.length+1) cap) (es++[LV.agg [int .i64 2,w',Ea,str [],int .i64 0]]) [(b,.cells 74 ((es++[LV.agg [int .i64 2,w',Ea,str [],int .i64 0]]).flatMap LV.cells++spare))]:=by
  have h1:(es++[LV.agg [int .i64 2,w',Ea,str [],int .i64 0]]).length=es.length+1:=by simp
  have:=jb.row (el:=74) (s:=5) (b:=b) (cap:=cap) (es:=es++[LV.agg [int .i64 2,w',Ea,str [],int .i64 0]]) (spare:=spare) (λv hv=>by
   rcases Kj hv with hv|hv;exact Nk v hv;rw[wh hv];rfl) (by rw[h1];exact hc) (by rw[h1];exact Kc)
  rwa [h1] at this
 rw[<-Od] at Ah;exact rO rfl rN (H':=(p,.cells 3 [int .i64 2])::(o,.cells 64 [.atom (.slice (some ⟨b,0,none⟩) (es.length+1) cap)])::([(b,.cells 74 ((es++[LV.agg [int .i64 2,w',Ea,str [],int .i64 0]]).flatMap LV.cells++spare))]++H')) (Ab pH (Ab Ig (Ab pH (fe Ma)))) ⟨_,_,rfl,Yd.words Wg he Ah,rfl⟩
theorem qqC(p o:Nat)(init:List Xb)(es:List LV)(v:Value)(HM HW:Heap)(w:LV)(rs:List (List Wd))(hm:jb 74 5 v (es++[LV.agg [int .i64 3,Ea,w,str [],int .i64 0]]) HM)(he:cg es init)(ha:Acc 1 w (rs.map λr=>.list (r.map str)) HW [])(hn:init.length<=1000000)(LI:rs.length<=1000000)(l:List Wd) :
  aa (KC B0 w0) 50 [.agg [int .i64 3,Ea,.list (l.map str),str [],int .i64 0],ptr p 0,ptr o 0] ((p,.cells 3 [int .i64 3])::(o,.cells 64 [.atom v])::(HM++HW))
   (AH p o (init++[⟨3,[],rs++[l],[],0⟩]) 3):=by
 have nr:=he.len;have Nk:=he.lh;have fa:(es++[LV.agg [int .i64 3,Ea,w,str [],int .i64 0]]).length=es.length+1:=by simp
 obtain⟨b,cap,spare,hv,nT,hc,Kc⟩:=hm.addr (by simp);rw[fa] at hv hc Kc;subst hv;subst nT;have zh:((es++[LV.agg [int .i64 3,Ea,w,str [],int .i64 0]]).flatMap LV.cells).length=(es.length+1) * 5:=by rw[<-fa];exact Fv hm.lh
 have grown:∀ w':LV,jb 74 5 (.slice (some ⟨b,0,none⟩) (es.length+1) cap) (es++[LV.agg [int .i64 3,Ea,w',str [],int .i64 0]]) [(b,.cells 74 ((es++[LV.agg [int .i64 3,Ea,w',str [],int .i64 0]]).flatMap LV.cells++spare))]:=λw'=>by
  have h1:(es++[LV.agg [int .i64 3,Ea,w',str [],int .i64 0]]).length=es.length+1:=by simp
  have:=jb.row (el:=74) (s:=5) (b:=b) (cap:=cap) (es:=es++[LV.agg [int .i64 3,Ea,w',str [],int .i64 0]]) (spare:=spare) (λv hv=>by
   rcases Kj hv with hv|hv;exact Nk v hv;rw[wh hv];rfl) (by rw[h1];exact hc) (by rw[h1];exact Kc)
  rwa [h1] at this
 refine cJ Tryz.func50 (n:=86) ?_;refine cW (H':=(p,.cells 3 [int .i64 3])::(o,.cells 64 [.atom (.slice (some ⟨b,0,none⟩) (es.length+1) cap)])::(b,.cells 74 ((es++[LV.agg [int .i64 3,Ea,w,str [],int .i64 0]]).flatMap LV.cells++spare))::HW) Ma ?_;refine Pc ?_;refine oS (sB (cs:=[int .i64 3,Ea,.list (l.map str),str [],int .i64 0]) rfl λb3=>?_);refine ia ?_;refine oC rfl (λh=>by cases h) λ_=>?_;refine ja ?_;refine oC rfl (λ_=>?_) (λh=>by cases h);refine ja ?_;refine Mm ?_;refine za ?_;refine ca (Pure.vb (o:=es.length * 5) rfl rfl zo zo zo)<|fj ?_;refine cD (m:=12) rfl [(b3,.cells 120 [int .i64 3,Ea,.list (l.map str),str [],int .i64 0])]<|Sz ?_;refine aT 5 rfl rfl (pF rfl)<|aT 6 rfl rfl (pL (c:=.list _) rfl yb rfl)<|aL ?_ dc;refine cm (i:=4) (j:=7) zk (lH rfl rfl (pL (c:=w) rfl Ru (eQ Nk rfl ra)) ?_) (lS (H1:=[]) (F:=(b3,.cells 120 [int .i64 3,Ea,.list (l.map str),str [],int .i64 0])::(p,.cells 3 [int .i64 3])::(o,.cells 64 [.atom (.slice (some ⟨b,0,none⟩) (es.length+1) cap)])::(b,.cells 74 ((es++[LV.agg [int .i64 3,Ea,w,str [],int .i64 0]]).flatMap LV.cells++spare))::HW) rfl (.inl rfl) rfl qb dc (sL [_] (es:=[.list (l.map str)]) rfl (rc rfl rfl Tf) rfl rfl rfl ?_));refine VB ?_;refine lO 7 (lS (H1:=[]) (F:=(b3,.cells 120 [int .i64 3,Ea,.list (l.map str),str [],int .i64 0])::(p,.cells 3 [int .i64 3])::(o,.cells 64 [.atom (.slice (some ⟨b,0,none⟩) (es.length+1) cap)])::(b,.cells 74 ((es++[LV.agg [int .i64 3,Ea,w,str [],int .i64 0]]).flatMap LV.cells++spare))::HW) rfl (.inl rfl) rfl qb dc (sL [_] (es:=[.list (l.map str)]) rfl (rc rfl rfl Tf) rfl rfl rfl ?_));refine VB ?_;refine lO 8 (lS (H1:=HW) (F:=[(b3,.cells 120 [int .i64 3,Ea,.list (l.map str),str [],int .i64 0]),(p,.cells 3 [int .i64 3]),(o,.cells 64 [.atom (.slice (some ⟨b,0,none⟩) (es.length+1) cap)]),(b,.cells 74 ((es++[LV.agg [int .i64 3,Ea,w,str [],int .i64 0]]).flatMap LV.cells++spare))]) rfl (.inl rfl) rfl (dd (l₁:=[_,_,_,_]) (l₂:=HW)) dc (S.acc (ms:=[.list (l.map str)]) rfl ha rfl (by simp[LV.cells]) rfl (by simp only[Ua,Oa,Eb];omega) λw' H' Ah=>?_));refine mU ?_;have Wg:=grown w';have e1:(rs.map λr=>LV.list (r.map str))++[LV.list (l.map str)]=(rs++[l]).map λr=>LV.list (r.map str):=by rw[Od];rfl
 rw[e1] at Ah;exact rO rfl rN (H':=(p,.cells 3 [int .i64 3])::(o,.cells 64 [.atom (.slice (some ⟨b,0,none⟩) (es.length+1) cap)])::([(b,.cells 74 ((es++[LV.agg [int .i64 3,Ea,w',str [],int .i64 0]]).flatMap LV.cells++spare))]++H')) (Ab pH (Ab Ig (Ab pH (fe Ma)))) ⟨_,_,rfl,Yd.rows Wg he Ah,rfl⟩;refine VB ?_;refine lO 4 (lH rfl rfl (pL (c:=w) rfl Ru (eQ Nk rfl ra)) ?_);refine lO 8 (lS (H1:=HW) (F:=[(b3,.cells 120 [int .i64 3,Ea,.list (l.map str),str [],int .i64 0]),(p,.cells 3 [int .i64 3]),(o,.cells 64 [.atom (.slice (some ⟨b,0,none⟩) (es.length+1) cap)]),(b,.cells 74 ((es++[LV.agg [int .i64 3,Ea,w,str [],int .i64 0]]).flatMap LV.cells++spare))]) rfl (.inl rfl) rfl (dd (l₁:=[_,_,_,_]) (l₂:=HW)) dc (S.acc (ms:=[.list (l.map str)]) rfl ha rfl (by simp[LV.cells]) rfl (by simp only[Ua,Oa,Eb];omega) λw' H' Ah=>?_));refine mU ?_;have Wg:=grown w';have e1:(rs.map λr=>LV.list (r.map str))++[LV.list (l.map str)]=(rs++[l]).map λr=>LV.list (r.map str):=by rw[Od];rfl
 rw[e1] at Ah;exact rO rfl rN (H':=(p,.cells 3 [int .i64 3])::(o,.cells 64 [.atom (.slice (some ⟨b,0,none⟩) (es.length+1) cap)])::([(b,.cells 74 ((es++[LV.agg [int .i64 3,Ea,w',str [],int .i64 0]]).flatMap LV.cells++spare))]++H')) (Ab pH (Ab Ig (Ab pH (fe Ma)))) ⟨_,_,rfl,Yd.rows Wg he Ah,rfl⟩
end Go.Proofs.YtjolancjacdeaaaGreatDoor.Rr
namespace Go.GL
theorem Env.my{e:Env}{d:Nat}{a b:LV}:(e.jd d a).jd d b=e.jd d b:=by simp only[Env.jd,Env.mk.injEq,and_true];funext i;cases Nat.beq i d <;> rfl
section
variable{C:Ctx}{n:Nat}{Q:Ob}{e:Env}{H F:Heap}
theorem ea.Vm{xa:Array Oper}{rest:List Oper}(d:Nat){el s:Nat}{v:Value}{es rh:List LV}{HM:Heap}(hm:jb el s v es HM)(hp:H.Perm (HM++F))(hd:e.s d=.atom v)(hl:rh.length=es.length)(KD:∀ v∈rh,v.cells.length=s)(xp:Ce (es.flatMap LV.cells) (rh.flatMap LV.cells))
  (h:ea C n xa Q rest (e.jd d (.list rh)) F):ea C n xa Q rest e H:=by
 cases hm with
 |nil=>obtain rfl:rh=[]:=List.length_eq_zero_iff.1 (by simpa using hl);refine ea.db (H':=F) ⟨[],by simpa using hp⟩ ?_;exact ea.sub d hd vN h
 |row hs hc Kc=>rename_i b cap spare;refine ea.GN (Ya:=rh.flatMap LV.cells++spare) (Ce.app xp (Ce.refl _)) hp ?_;have Wg:=jb.row (el:=el) (s:=s) (b:=b) (cap:=cap) (es:=rh) (spare:=spare) KD zo (by rw[hl];exact Kc);rw[hl] at Wg;refine ea.settle d Wg qb hd λv' H' ha=>?_;refine ea.db ha.xp ?_;refine ea.sub d (v:=v') (by simp[Env.jd]) ha.sub ?_;rw[Env.my];exact h
end
end Go.GL
namespace Go.Proofs.YtjolancjacdeaaaGreatDoor.Rr
open Go.GL Go.RowKit Go.Ba
attribute [local irreducible] ea Ga Ja aa Go.GL.Pure Bc Tc oc LQ Pa Td Lf
theorem rF(b:Xb):b.words.length<=bw b/\b.rows.length<=bw b:=by
 have h1:∀ l:List Wd,l.length<=(l.map λw=>w.length+1).sum:=by
  intro l;induction l with
  |nil=>simp
  |cons a l ih=>simp only[Tb,sum_cons,Oa];omega
 have h2:∀ l:List (List Wd),l.length<=(l.map λr=>(r.map λc=>c.length+3).sum+2).sum:=by
  intro l;induction l with
  |nil=>simp
  |cons a l ih=>simp only[Tb,sum_cons,Oa];omega
 have:=h1 b.words;have:=h2 b.rows;unfold bw;omega
theorem HH:∀ l:List Xb,l.length<=bws l
 |[]=>mc _
 |b::l=>by
  have:=HH l;have h:6<=bw b:=by unfold bw;omega
  simp only[bws,Tb,sum_cons,Oa] at this ⊢;omega
theorem R8{zs vs:List LV}(h:vs.length=zs.length):Zc zs 0 vs=vs:=by rw[xA _ _ _ zo];simp[h]
variable{B0:Nat}{w0:World}
theorem D9(p o:Nat)(out:List Xb)(op:Nat)(v:Value)(HD:Heap)(b:Xb)(cs:List LV)(HL:Heap)(Ug:Yd out op v HD)(hl:We b cs HL)(hn:bws out<=1000000)(hb:b.words.length<=1000000) :
  aa (KC B0 w0) 50 [.agg cs,ptr p 0,ptr o 0] ((p,.cells 3 [int .i64 op])::(o,.cells 64 [.atom v])::(HD++HL)) (AH p o (Fk out op b) b.kind):=by
 have tS:=HH out;cases hl with
 |blank=>
  rw[Qb];have:Fk out op ⟨0,[],[],[],0⟩=out:=by unfold Fk;rw[zp rfl]
  rw[this];exact qqi p o out op v HD Ug
 |head ws=>
  have:Fk out op ⟨1,ws,[],[],0⟩=out++[⟨1,ws,[],[],0⟩]:=by unfold Fk;rw[zn (by simp),zn (λh=>by have:=h.1;have:=h.2;simp only at *;omega),zn (λh=>by have:=h.1;have:=h.2;simp only at *;omega)]
  rw[this];refine aa.mono (AP p o out op v HD Ug zo 1 (.inl rfl) zo (.list (ws.map str)) ws fc rfl rfl [] 0 []) ?_;rintro r H ⟨v',es,HM,rfl,he,hm,rfl⟩;rw[Qb];exact⟨v',HM,rfl,Yd.plain hm (he.snoc rfl ⟨vR _,vR _,vN,vR _,vR _,trivial⟩) ⟨(by simp),by simp⟩,rfl⟩
 |para b2 cap ws=>
  by_cases h2:op=2;subst h2;cases Ug with
  |plain hm he Zf=>exact absurd rfl Zf.1
  |words hm he ha=>
   rename_i init es HM HW w zK;have h3:=(rF ⟨2,zK,[],[],0⟩).1;rw[PK] at hn;simp only[bws,Tb,sum_cons,List.map_nil,List.sum_nil] at hn h3;have:Fk (init++[⟨2,zK,[],[],0⟩]) 2 ⟨2,ws,[],[],0⟩=init++[⟨2,zK++ws,[],[],0⟩]:=by unfold Fk;rw[zn (by simp),zn (by simp),zp ⟨rfl,rfl⟩,gZ]
   rw[this];rw[ua] at tS;exact qpy p o init es v HM HW w zK hm he ha (by have:=HH init;unfold bws at this;omega) zo b2 cap ws hb _
  have:Fk out op ⟨2,ws,[],[],0⟩=out++[⟨2,ws,[],[],0⟩]:=by unfold Fk;rw[zn (by simp),zn (λh=>by have:=h.1;have:=h.2;simp only at *;omega),zn (λh=>by have:=h.1;have:=h.2;simp only at *;omega)]
  rw[this];refine aa.mono (AP p o out op v HD Ug zo 2 (.inr (.inl rfl)) zo (.app b2 cap 1 (ws.map str)) ws (LV.Sub.app _ _ _ _) rfl rfl [] 0 _) ?_;rintro r H ⟨v',es,HM,rfl,he,hm,rfl⟩;exact⟨v',_,rfl,Yd.words hm he Acc.row,rfl⟩
 |row l=>
  rw[Qb];by_cases h3:op=3;subst h3;cases Ug with
  |plain hm he Zf=>exact absurd rfl Zf.2
  |rows hm he ha=>
   rename_i init es HM HW w rs;have h4:=(rF ⟨3,[],rs,[],0⟩).2;rw[PK] at hn;simp only[bws,Tb,sum_cons,List.map_nil,List.sum_nil] at hn h4;have:Fk (init++[⟨3,[],rs,[],0⟩]) 3 ⟨3,[],[l],[],0⟩=init++[⟨3,[],rs++[l],[],0⟩]:=by unfold Fk;rw[zn (by simp),zp ⟨rfl,rfl⟩,gZ]
   rw[this];exact qqC p o init es v HM HW w rs hm he ha (by have:=HH init;unfold bws at this;omega) zo l
  have:Fk out op ⟨3,[],[l],[],0⟩=out++[⟨3,[],[l],[],0⟩]:=by unfold Fk;rw[zn (by simp),zn (λh=>by have:=h.1;have:=h.2;simp only at *;omega),zn (λh=>by have:=h.1;have:=h.2;simp only at *;omega)]
  rw[this];exact B7 p o out op v HD Ug zo h3 l
 |ZZ n r=>
  have:Fk out op ⟨4,[],[],r,n⟩=out++[⟨4,[],[],r,n⟩]:=by unfold Fk;rw[zn (by simp),zn (λh=>by have:=h.1;have:=h.2;simp only at *;omega),zn (λh=>by have:=h.1;have:=h.2;simp only at *;omega)]
  rw[this];refine aa.mono (AP p o out op v HD Ug zo 4 (.inr (.inr rfl)) zo Ea [] vN rfl rfl r n []) ?_;rintro r H ⟨v',es,HM,rfl,he,hm,rfl⟩;rw[Qb];exact⟨v',HM,rfl,Yd.plain hm (he.snoc rfl ⟨vR _,vN,vN,vR _,vR _,trivial⟩) ⟨(by simp),by simp⟩,rfl⟩
def VN:Except (Nat×Nat) (List Xb)->LV
 |.ok l=>.tuple [.list (l.map wg),int .i64 0,int .i64 0]
 |.error (n,e)=>.tuple [.list [],int .i64 n,int .i64 e]
theorem qqf(hG:GW B0 w0)(text:List UInt8)(hs:text.length<=100000000):aa (KC B0 w0) 19 [str text] [] (gb (VN (Ij text))):=by
 have bu:=bI 10 text;have Ul:=SC 10 text;have eb:Yc 10 text≠[]:=by obtain⟨p,ps,h⟩:=LA 10 text;rw[h];simp
 have tz:∀ q∈Yc 10 text,q.length<=text.length:=λq hq=>by
  have:∀ (l:List Wd) (p:Wd),p∈l->p.length+1<=(l.map λw=>w.length+1).sum:=by
   intro l;induction l with
   |nil=>intro p hp;cases hp
   |cons a l ih=>intro p hp;rcases Mc.1 hp with rfl|hp;simp only[Tb,sum_cons];omega;have:=ih p hp;simp only[Tb,sum_cons];omega
  have:=this _ q hq;rw[Ul] at this;omega
 have hD:Ij text=if 20000<text.length then .error (0,6) else Qn 0 [] 0 (Yc 10 text):=rfl
 refine cJ Tryz.func19 (n:=39) ?_;refine ja ?_;refine sa (λh=>?_) λh=>?_;have h2:20000<text.length:=by have:=zt h;omega
 refine Oe ?_;exact Na rfl (rC (rT (v:=Ea) rfl vN) (rC (ib rfl) (va rfl))) (by rw[hD,zp h2];rfl);have h2:¬ 20000<text.length:=by have:=zf h;omega
 rw[zn h2,fO] at hD;refine Af ?_;refine oS (yc λo=>?_);refine Nd ?_;refine oS (yc λp=>?_);refine ja ?_;refine oS (S.Ef [_,_] rfl (xF hG text 10 zo) (λv H' hh=>?_) (by rintro ch H' ⟨v,h,_⟩;cases h));obtain⟨v,hv,hm⟩:=hh;cases hv;refine ea.Eo 17 hm (by simpa using eb) qb rfl λb cap=>?_;refine ea.db (H':=[(p,.cells 3 [int .i64 0]),(o,.cells 64 [Ea])]) (fe Ma) ?_;refine ea.sub 17 (v:=.app b cap 1 ((Yc 10 text).map str)) rfl (LV.Sub.app _ _ _ _) ?_;generalize hls:Yc 10 text=ls at *;have Kn:(ls.map str).length=ls.length:=Ua _;refine oa ?_
 refine oL (λk sl H=>∃ (i:Nat) (out:List Xb) (op:Nat) (v:Value) (HD:Heap),i<=ls.length/\k=ls.length-i/\Yd out op v HD/\Nf 0 [] 0 ls=Nf i out op (ls.drop i)/\Nf 0 [] 0 (ls.take i)=.ok (out,op) /\
   sl=[(5,ptr o 0),(6,ptr p 0),(7,.atom (.func (.func 50) #[] #[.pointer (some ⟨p,0,none⟩),.pointer (some ⟨o,0,none⟩)])),(17,.list (ls.map str)),(18,int .i64 ls.length),(19,int .i64 i)]/\H=(p,.cells 3 [int .i64 op])::(o,.cells 64 [.atom v])::HD)
  ⟨_,_,_,⟨0,[],0,.slice none 0 0,[],zero_le _,rfl,Yd.plain jb.nil trivial ⟨by decide,by decide⟩,rfl,rfl,rfl,rfl⟩,Qa,kb _⟩ ?_
 rintro k sl H ⟨i,out,op,v,HD,hi,rfl,Ug,hS,hT,rfl,rfl⟩ j1 Pb;refine Nd ?_;refine sa (λhc=>?_) λhc=>?_;have wa:i<ls.length:=by have:=zt hc;omega
 have hq:=tz ls[i] (getElem_mem wa);have Dx:bws out<=0+4 * ((ls.take i).map λw=>w.length+1).sum:=CP _ _ _ _ _ _ hT
 have Hs:((ls.take i).map λw=>w.length+1).sum<=(ls.map λw=>w.length+1).sum:=by
  conv=>rhs;rw[<-List.take_append_drop i ls]
  rw[Od,List.sum_append];omega
 have jT:bws out<=1000000:=by omega
 rw[List.drop_eq_getElem_cons wa,Nf] at hS;refine ia ?_;refine ca (xR (ad:=str ls[i]) (cs:=[str ls[i]]) rfl rfl zo (Hh _ _ _ wa) rfl rfl)<|ja ?_;refine oS (S.Ef [_] rfl (qk6 hG ls[i] zo) (λv' H' hh=>?_) (by rintro ch H' ⟨cs,e,h,_⟩;cases h));obtain⟨cs,er,Gs,h5,He,hL⟩:=hh;cases Gs;refine ea.perm (H':=(p,.cells 3 [int .i64 op])::(o,.cells 64 [.atom v])::(HD++H')) (dd (l₁:=H') (l₂:=_::_::HD)) ?_;refine za ?_;refine oS (yc λjN=>?_);refine oS (sS (Ya:=cs) rfl pH rfl h5 rfl He (R8 h5) ?_);refine ja ?_;refine sa (λh=>?_) λh=>?_
 cases hl:nj ls[i] with
 |ok x=>rw[hl] at hL;exact absurd hL.1 (zf (Zw h))
 |error x=>rw[hl] at hL hS;obtain⟨rfl,_⟩:=hL;refine ia ?_;exact Na Pb (rC (rT (v:=Ea) rfl vN) (rC (ib rfl) (va rfl))) (by rw[hD,hS];rfl)
 have Y1:er=0:=zt (qt h);cases hl:nj ls[i] with
 |error x=>rw[hl] at hL;omega
 |ok x=>
  rw[hl] at hL hS;have hbx:x.words.length<=1000000:=by by_cases hx:x.kind=0;have h:=hL.2;cases h <;> simp_all;have:=LW hl hx;have:=(rF x).1;omega
  refine ia ?_;refine ca (pG (Ya:=cs) rfl yb (by rw[h5];rfl) (by rw[List.drop_zero,take_of_length_le zo]))<|oS (S.Rf (f:=50) (H1:=(p,.cells 3 [int .i64 op])::(o,.cells 64 [.atom v])::(HD++H')) (F:=[(jN,.cells 120 cs)]) [_] rfl rfl (dd (l₁:=[_]) (l₂:=_::_::(HD++H'))) (D9 p o out op v HD x cs H' Ug hL.2 jT hbx) (λv2 H2 hh=>?_) (by rintro ch H2 ⟨v2,h2,h,_⟩;cases h));obtain⟨v2,oq,hv2,ZR,rfl⟩:=hh;cases hv2;refine Mh ?_;exact⟨_,_,_,by omega,⟨i+1,_,_,v2,oq,by omega,rfl,ZR,hS,by
   rw[take_succ_eq_append_getElem wa,kW,hT];simp only[Nf,hl],rfl,rfl⟩,Qa,HSub.app _ _,Pb⟩
 have ae:i=ls.length:=by have:=zf hc;omega
 subst ae;rw[drop_length,Nf] at hS;rw[hS] at hD;obtain⟨es,HM,HW,Dm,he,rfl⟩:=Ug.view;repeat (first|refine ea.nil ?_|refine Ga.seq ?_|refine Ga.region ?_|refine Ga.exit ?_|refine Ga.skip ?_|refine qN ?_|refine Bc.exit ?_|refine Tc.hit ?_|refine Tc.normal ?_)
 refine ca (pL (c:=.atom v) rfl Ff rfl) ?_;refine ea.Vm (rh:=out.map wg) (F:=(p,.cells 3 [int .i64 op])::(o,.cells 64 [.atom v])::HW) 38 Dm (List.perm_append_comm_assoc [_,_] HM HW) rfl (by rw[Ua,he.len]) (λv hv=>by
  obtain⟨x,_,rfl⟩:=vi hv;rfl) he.sub ?_
 refine oa ?_;exact Na Pb (rC (rT (v:=.list _) rfl fc) (rC (ib rfl) (va rfl))) (by rw[hD];rfl)
attribute [local irreducible] qf rj oo Ww xm
def mC(l:List Wd)(w:Int):List Wd:=if Kr l w=0 then Lk l w.toNat else []
def F5(l:List Wd)(w:Int)(r:Lc)(H:Heap):Prop:=∃ v,r=.ret (.tuple [.atom v,int .i64 (Kr l w)])/\jb 9 1 v ((mC l w).map str) H
theorem NY{l:List Wd}{w:Int}(h:Kr l w=0):∃ n:Nat,w=n/\1<=n/\n<=200/\l.all ik=true:=by rw[BL] at h;split at h;cases h;split at h;exact⟨w.toNat,by omega,by omega,by omega,by assumption⟩;cases h
def Jh(w:Nat)(l:List Wd)(q:Nat):List Wd:=((Tg w l).take q).foldl (λout p=>Yf w p out) []
theorem TX{w:Nat}{l:List Wd}{q:Nat}(h:q<(Tg w l).length):Jh w l (q+1)=Yf w (Tg w l)[q] (Jh w l q):=by unfold Jh;rw[take_succ_eq_append_getElem h,foldl_append];rfl
theorem rX{w:Nat}(l:List Wd):∀ q,(Jh w l q).length<=q
 |0=>by simp[Jh]
 |q+1=>by
  have ih:=rX (w:=w) l q;rcases lt_or_ge q (Tg w l).length with h|h;rw[TX h];rcases List.eq_nil_or_concat (Jh w l q) with h1|⟨i,a,h1⟩;rw[h1];simp[Yf];rw[List.concat_eq_append] at h1;rw[h1,cP];rw[h1,ua,Oa,Eb] at ih;split <;> simp <;> omega
  have:Jh w l (q+1)=Jh w l q:=by unfold Jh;rw[take_of_length_le zo,take_of_length_le h]
  rw[this];omega
theorem S9{init:List Wd}{a:Wd}{spare:List LV}{x:LV}:Zc ((init++[a]).map str++spare) init.length [x]=init.map str++x::spare:=by
 rw[Od,Xc];have:=jP (init.map str) ([a].map str++spare) 0 [x];rw[Ua,Nat.add_zero] at this;rw[this];show _++(x::Zc spare 0 [])=_;have h:Zc spare 0 []=spare:=by cases spare <;> rfl
 rw[h]
theorem oY(l:List Wd)(w:Int)(hl:l.length<=100000000)(hs:∀ s∈l,s.length<=100000000)(hf:l.flatten.length<=100000000):aa (KC B0 w0) 56 [.list (l.map str),int .i64 w] [] (F5 l w):=by
 refine aa.introN Tryz.func56 rfl (n:=51) rfl rfl rfl ?_;refine Pc ?_;refine oS (sB (cs:=[int .i64 w]) rfl λb3=>?_);refine ia ?_;refine oS (sF [_,_] rfl (qnL l w hl hs) ?_);refine ja ?_;refine sa (λh=>?_) λh=>?_;have he:Kr l w≠0:=by have:=zf (Zw h);omega
 refine ia ?_;exact HA.uy rfl (rC (ib rfl) (va rfl)) Fc ⟨_,rfl,by unfold mC;rw[zn he];exact jb.nil⟩;have he:Kr l w=0:=by have:=zt (qt h);omega
 obtain⟨n,rfl,Ap,qB,He⟩:=NY he;obtain⟨YZ,pp2,pp3⟩:=zQ Ap l He;have uz:(Tg n l).length<=200000000:=by
  have:∀ q:List Wd,q.length<=mg q:=by
   intro q;induction q with
   |nil=>simp
   |cons a q ih=>rw[Gv,Oa];omega
  have:=this (Tg n l);omega
 refine Af ?_;refine oS (yc λb7=>?_);refine ja ?_;refine oS (S.Ef [_,_] rfl (qnz l n) (λv H' hh=>?_) (by rintro ch H' ⟨b,c,h,_⟩;cases h));obtain⟨b,c,hv,rfl⟩:=hh;cases hv;refine oa ?_;refine Ga.rangeFunc (g:=.tmp 18) (ps:=[19]) (La:=#[.pointer (some ⟨b,0,none⟩),.pointer (some ⟨c,0,none⟩)]) (by rfl) (Tg n l).length (uF n l) [(b7,.cells 41 [Ea]),(b3,.cells 3 [int .i64 n])] [(b,.cells 41 [.list (l.map str)]),(c,.cells 3 [int .i64 n])]
  (dd (l₁:=[_,_]) (l₂:=[_,_])) (qpn b c n l ⟨Ap,qB⟩ hl hs) (λk hk=>rfl) (by rfl)
  (λq Hq=>∃ v HM,jb 9 1 v ((Jh n l q).map str) HM/\Hq=(b7,.cells 41 [.atom v])::(b3,.cells 3 [int .i64 n])::HM)
  ⟨.slice none 0 0,[],jb.nil,rfl⟩ ?_ ?_
 rintro q Hq hq ⟨v,HM,hm,rfl⟩ j wJ TD y D o oD;have qi:j.s 3=ptr b3 0:=TD 3 _ rfl;have hj7:j.s 7=ptr b7 0:=TD 7 _ rfl;have gJ:uF n l q=[str (Tg n l)[q]]:=by unfold uF;rw[dh hq];rfl
 obtain⟨iJ,rS,_⟩:=YZ _ (getElem_mem hq);have hQ:=TX hq;have Zq:=rX (w:=n) l q;have Hn:((Jh n l q).map str).length=(Jh n l q).length:=Ua _;have Wj:∀ r∈Jh n l q,VE n r:=(AQ (w:=n) ((Tg n l).take q) (out:=[]) (λp hp=>YZ p (List.mem_of_mem_take hp)) (by simp)).1;generalize (Tg n l)[q]=p at *
 rw[gJ,<-Env.wc (e:=j) (l:=[(3,ptr b3 0),(7,ptr b7 0)]) (by
  intro p hp;simp only[Mc,not_mem_nil,or_false] at hp;rcases hp with rfl|rfl;exact qi;exact hj7)]
 refine qf.region rfl ?_;refine fj ?_;refine⟨wJ,_,rfl,λo'=>?_⟩;refine qf.block ?_;have NM:=hm.flat;rcases List.eq_nil_or_concat (Jh n l q) with h0|⟨init,last,h0⟩;rw[h0] at hm hQ;refine qf.seq ?_;refine xo ?_;refine ca (Pure.qn rfl hm)<|ca (Pure.bH (c := -1) rfl rfl rfl zo)<|fj ?_;refine qf.seq ?_;refine qf.draw (m:=15) rfl [] rfl ?_;refine aT 0 rfl rfl (pM (lv:=.atom _) rfl)<|aT 1 rfl rfl (Pure.geq rfl rfl)<|Qm ?_;refine UB ?_;refine Pa.Ic (i:=7) rfl rfl rfl rfl zk zk zk rfl<|Pa.Ic (i:=8) rfl rfl rfl rfl zk zk zk rfl<|Pa.Ic (i:=9) rfl rfl rfl rfl zk zk zk rfl<|Pa.Ic (i:=10) rfl rfl rfl rfl zk zk zk rfl<|Pa.Ic (i:=11) rfl rfl rfl rfl zk zk zk rfl<|Pa.Ic (i:=12) rfl rfl rfl rfl zk zk zk rfl<|Pa.Ic (i:=13) rfl rfl rfl rfl zk zk zk rfl<|aT 14 rfl rfl (Pure.nh (lv:=.atom _) rfl rfl)<|aL ?_ Fc;refine Zj ?_;refine qf.cond (t:=false) rfl (λh=>by cases h) λ_=>?_;refine xo ?_;refine oS (sL [_] (es:=[str p]) rfl (rc rfl rfl Tf) rfl rfl rfl<|oS (S.Xl (F:=[(y,o'),(D,oD),(b7,.cells 41 [.atom v]),(b3,.cells 3 [int .i64 n])]) rfl (by exact dd (l₁:=[_,_,_,_]) (l₂:=HM)) hm rfl (by simp[LV.cells]) rfl (by simp only[Ua,ua,Oa,Eb];omega) λv' H' Wg=>?_));refine ea.perm (H':=(y,o')::(D,oD)::(b7,.cells 41 [.atom v])::(b3,.cells 3 [int .i64 n])::H') qb ?_;refine MB ?_;refine ig ?_;exact⟨_,Ab uc (Ab uc Ma),v',H',by rw[hQ];simpa [Yf] using Wg,rfl⟩;rw[List.concat_eq_append] at h0;rw[h0] at hm hQ Hn Zq Wj;rw[cP] at hQ;obtain⟨Vt,yx,_⟩:=Wj last (by simp);rw[ua,Oa,Eb] at Hn Zq;obtain⟨bM,cap,spare,rfl,rfl,ji,Kc⟩:=hm.addr (by simp);rw[Hn] at ji Kc hm ⊢;rw[ox] at hm ⊢;refine qf.seq ?_;refine xo ?_;refine Mm ?_;refine ca (Pure.bH (c:=(init.length:Int)) rfl rfl zo zo)<|fj ?_;refine qf.seq ?_;refine qf.draw (m:=15) rfl [(y,o'),(D,oD),(b7,.cells 41 [.atom (.slice (some ⟨bM,0,none⟩) (init.length+(0+1)) cap)]),(b3,.cells 3 [int .i64 n]),(bM,.cells 9 ((init++[last]).map str++spare))] rfl ?_;refine aT 0 rfl rfl (pM (lv:=.atom _) rfl)<|aT 1 rfl rfl (Pure.CT rfl rfl zo)<|Qm ?_;refine Pa.Ao 3 rfl rfl rfl rfl (pL (c:=.atom _) rfl Hr rfl)<|Pa.Ao 4 rfl rfl rfl rfl (pM (lv:=.atom _) rfl)<|Pa.Ao 5 rfl rfl rfl rfl (Pure.vb (o:=init.length) rfl rfl zo zo zo) ?_
 refine Pa.Ao 6 rfl rfl rfl rfl (pL (c:=str last) rfl FE (by
  rw[List.getElem?_append_left (by simp),List.getElem?_map,List.getElem?_append_right (mc _),sub_self];rfl)) ?_
 refine Pa.Ao 7 rfl rfl rfl rfl (Pure.jv rfl)<|Pa.Ao 8 rfl rfl rfl rfl (Pure.add rfl rfl zo)<|Pa.Ao 9 rfl rfl rfl rfl (pM (lv:=.atom _) rfl)<|Pa.Ao 10 rfl rfl rfl rfl (Pure.jv rfl)<|Pa.Ao 11 rfl rfl rfl rfl (Pure.add rfl rfl zo)<|Pa.Ao 12 rfl rfl rfl rfl (pL (c:=.atom _) rfl Ru rfl)<|Pa.Ao 13 rfl rfl rfl rfl (Pure.leq rfl rfl)<|aT 14 rfl rfl (Pure.Gi (lv:=.atom _) rfl rfl)<|aL ?_ Ma;refine Zj ?_;refine qf.cond rfl (λh=>?_) λh=>?_;have hle:last.length+1+p.length<=n:=by have:=zt h;omega
 rw[zp hle] at hQ;refine xo ?_;refine ca (Pure.vb (o:=init.length) rfl rfl zo zo zo) ?_;refine ca (pL (c:=str last) rfl FE (by
  rw[List.getElem?_append_left (by simp),List.getElem?_map,List.getElem?_append_right (mc _),sub_self];rfl)) ?_
 refine za ?_;refine ca (Pure.vb (o:=init.length) rfl rfl zo zo zo)<|oS (sS (Ya:=init.map str++str (last++([32]++p))::spare) rfl EE rfl rfl (Nat.ble_eq_true_of_le (show init.length+1<=_ by simp)) rfl S9 ?_);refine ig ?_;have I1:jb 9 1 (.slice (some ⟨bM,0,none⟩) (init.length+(0+1)) cap) ((init++[last++32::p]).map str) [(bM,.cells 9 ((init++[last++32::p]).map str++spare))]:=jb.pd (Ro _) (ox _) (by simp) ji zo;have e1:(init++[last++32::p]).map str++spare=init.map str++str (last++([32]++p))::spare:=by simp
 rw[e1] at I1;exact⟨_,Ab uc (Ab uc ⟨[],by rw[Qb];exact(dd (l₁:=[_]) (l₂:=[_,_]))⟩),_,_,by rw[hQ];exact I1,rfl⟩;have hle:¬ last.length+1+p.length<=n:=by have:=zf h;omega
 rw[zn hle] at hQ;refine xo ?_;refine oS (sL [_] (es:=[str p]) rfl (rc rfl rfl Tf) rfl rfl rfl<|oS (S.Xl (F:=[(y,o'),(D,oD),(b7,.cells 41 [.atom (.slice (some ⟨bM,0,none⟩) (init.length+(0+1)) cap)]),(b3,.cells 3 [int .i64 n])]) rfl (by exact dd (l₁:=[_,_,_,_]) (l₂:=[_])) hm rfl (by simp[LV.cells]) rfl (by simp only[Ua,ua,Oa,Eb];omega) λv' H' Wg=>?_));refine ea.perm (H':=(y,o')::(D,oD)::(b7,.cells 41 [.atom (.slice (some ⟨bM,0,none⟩) (init.length+(0+1)) cap)])::(b3,.cells 3 [int .i64 n])::H') qb ?_;refine MB ?_;refine ig ?_;exact⟨_,Ab uc (Ab uc Ma),v',H',by rw[hQ];simpa [Yf] using Wg,rfl⟩;rintro D H' ⟨v,HM,hm,rfl⟩;refine ia ?_;refine ca (pL (c:=.atom v) rfl Ff rfl)<|qh ?_
 exact HA.Ag rfl _ (pH) (rC (ib rfl) (va rfl)) ⟨_,by
  show((b7,.cells 41 [.atom v])::(b3,.cells 3 [int .i64 n])::(HM++_)).Perm _;exact List.perm_append_comm_assoc [_,_] HM _⟩ ⟨v,by rw[he];rfl,by
  unfold mC;rw[zp he];have:Jh n l (Tg n l).length=Lk l n:=by unfold Jh Lk;rw[take_length]
  rw[this] at hm;exact hm⟩
def JE(l:List Wd)(w:Int):List Wd:=if Kr l w=0 then BK l w.toNat else []
def P6(l:List Wd)(w:Int)(r:Lc)(H:Heap):Prop:=∃ v,r=.ret (.tuple [.atom v,int .i64 (Kr l w)])/\jb 9 1 v ((JE l w).map str) H
theorem vZ(l:List Wd)(s:Wd):Zr (l++[s])=max (Zr l) s.length:=by unfold Zr;rw[foldl_append];rfl
theorem aM{n:Nat}:∀ l:List Wd,(∀ s∈l,s.length<=n)->Zr l<=n:=by
 intro l;induction h:l.length generalizing l with
 |zero=>intro _;rw[List.length_eq_zero_iff.1 h];exact zero_le _
 |succ k ih=>intro hl;rcases List.eq_nil_or_concat l with rfl|⟨i,a,rfl⟩;simp at h;rw[List.concat_eq_append] at *;rw[vZ];have h1:=ih i (by simpa using h) λs hs=>hl s (List.mem_append_left _ hs);have h2:=hl a (by simp);omega
theorem ql7(l:List Wd)(w:Int)(hl:l.length<=100000000)(hs:∀ s∈l,s.length<=100000000)(hf:l.flatten.length<=100000000):aa (KC B0 w0) 54 [.list (l.map str),int .i64 w] [] (P6 l w):=by
 refine cJ Tryz.func54 (n:=41) ?_;refine ia ?_;refine oS (S.Ef [_,_] rfl (oY l w hl hs hf) (λv H' hh=>?_) (by rintro ch H' ⟨v,h,_⟩;cases h));obtain⟨v,hv,hm⟩:=hh;cases hv;rw[Qb];refine ja ?_;refine oB 19 rfl (λh=>?_) λh=>?_;have he:Kr l w≠0:=by have:=zf (Zw h);omega
 refine oa ?_;refine oC rfl (λ_=>?_) (λh=>by cases h);refine ia ?_;exact rR rfl (rC (ib rfl) (va rfl)) Fc ⟨_,rfl,by unfold JE;rw[zn he];exact jb.nil⟩;have he:Kr l w=0:=by have:=zt (qt h);omega
 obtain⟨n,rfl,Ap,qB,He⟩:=NY he;have hH:JE l n=if Lk l n=[] then [] else Lk l n++[List.replicate (Zr (Lk l n)) 61]:=by unfold JE;rw[zp he];rfl
 have hR:mC l n=Lk l n:=by unfold mC;rw[zp he];rfl
 obtain⟨E3,wp2,wp3⟩:=yQ Ap He;have bu:(Lk l n).length<=200000000:=by
  have:∀ q:List Wd,q.length<=mg q:=by
   intro q;induction q with
   |nil=>simp
   |cons a q ih=>rw[Gv,Oa];omega
  have:=this (Lk l n);omega
 have hlg:∀ i,Zr ((Lk l n).take i)<=n:=λi=>aM _ λs hs=>(E3 s (List.mem_of_mem_take hs)).2.1;rw[hR] at hm;generalize Lk l n=ls at *;have Kn:(ls.map str).length=ls.length:=Ua _;refine Dg ?_;refine ca (Pure.qn rfl hm)<|oa ?_;refine sa (λh=>?_) λh=>?_;have h0:ls=[]:=List.length_eq_zero_iff.1 (by have:=zt h;omega);refine ia ?_;exact rR rfl (rC (ib rfl) (va rfl)) Fc ⟨_,rfl,by rw[hH,zp h0];exact jb.nil⟩
 have h0:ls≠[]:=λh0=>by rw[h0] at h;cases h
 rw[zn h0] at hH;obtain⟨b,cap,spare,rfl,rfl,hc,Kc⟩:=hm.addr (by simpa using h0);rw[Kn] at hc Kc hm ⊢;rw[ox] at hm ⊢;refine ia ?_;refine Mm ?_;refine oa ?_;refine oL (λk sl H=>∃ i:Nat,i<=ls.length/\k=ls.length-i/\sl=[(6,.atom (.slice (some ⟨b,0,none⟩) ls.length cap)),(7,int .i64 (Kr l n)),(8,int .i64 (Zr (ls.take i))),(25,.atom (.slice (some ⟨b,0,none⟩) ls.length cap)),(26,int .i64 ls.length),(27,int .i64 i)]/\H=[(b,.cells 9 (ls.map str++spare))])
  ⟨_,_,_,⟨0,zero_le _,rfl,rfl,rfl⟩,Qa,kb _⟩ ?_
 rintro k sl H ⟨i,hi,rfl,rfl,rfl⟩ j1 Pb;refine Nd ?_;refine sa (λhc=>?_) λhc=>?_;have wa:i<ls.length:=by have:=zt hc;omega
 refine Af ?_;refine ca (Pure.vb (o:=i) rfl rfl zo zo zo) ?_;refine ca (pL (c:=str ls[i]) rfl yb (by
  rw[List.getElem?_append_left (by rw[Ua];exact wa),List.getElem?_map,dh wa];rfl)) ?_
 refine ja ?_;refine ca (Pure.vf (Zr (ls.take i)) (ls[i].length) rfl rfl rfl rfl)<|ia ?_;exact⟨_,_,_,by omega,⟨i+1,by omega,rfl,rfl,rfl⟩,⟨rfl,rfl,bf (by rw[take_succ_eq_append_getElem wa,vZ]),rfl,rfl,bf zo,trivial⟩,kb _,Pb⟩;have ae:i=ls.length:=by have:=zf hc;omega
 subst ae;have ES:=hlg ls.length;rw[take_length] at ES ⊢;refine ia ?_;refine oS (sF [_,_] rfl (RQ 61 (Zr ls) zo)<|oS (sL [_] (es:=[str (List.replicate (Zr ls) 61)]) rfl (rc rfl rfl Tf) rfl rfl rfl ?_));refine oS (S.Xl (F:=[]) rfl (by rw[Qb]) hm rfl (by simp[LV.cells]) rfl (by simp only[Ua,Oa,Eb];omega) λv' H' Wg=>?_);refine qh ?_;exact rR Pb (rC (ib rfl) (va rfl)) Ma ⟨v',by rw[he];rfl,by rw[hH,Od];exact Wg⟩
end Go.Proofs.YtjolancjacdeaaaGreatDoor.Rr
namespace Go.Ba
open Go.Lib
def Te:Nat->List Wd->List (Nat×Wd)
 |_,[]=>[]
 |i,c::r=>(i,c)::Te (i+1) r
def af(rows:List (List Wd)):List (Nat×Wd):=rows.flatMap (Te 0)
def jo(ws:List Nat)(p:Nat×Wd):List Nat:=if p.1=ws.length then ws++[max 1 p.2.length] else ws.set p.1 (max ((ws[p.1]?).getD 0) p.2.length)
theorem mQ:∀ (r:List Wd) (k:Nat) (ws:List Nat),k<=ws.length->(Te k r).foldl jo ws=ws.take k++Ph (ws.drop k) r
 |[],k,ws,h=>by
  have:∀ l:List Nat,Ph l []=l:=λl=>by cases l <;> rfl
  rw[Te,List.foldl_nil,this,List.take_append_drop]
 |c::r,k,ws,h=>by
  rw[Te,foldl_cons];by_cases hk:k=ws.length
  ·subst hk;have h1:jo ws (ws.length,c)=ws++[max 1 c.length]:=by unfold jo;rw[zp rfl]
   rw[h1,mQ r (ws.length+1) _ (by simp),drop_length,take_length,Ph,take_of_length_le (by simp),List.drop_eq_nil_of_le (by simp),Xc];try rfl
  have wa:k<ws.length:=by omega
  have h1:jo ws (k,c)=ws.set k (max ws[k] c.length):=by unfold jo;rw[zn hk];simp only[dh wa,getD_some]
  rw[h1,mQ r (k+1) _ (by rw[length_set];omega),List.drop_eq_getElem_cons wa,Ph];have h2:(ws.set k (max ws[k] c.length)).take (k+1)=ws.take k++[max ws[k] c.length]:=by rw[take_succ_eq_append_getElem (by rw[length_set];exact wa),List.getElem_set_self,List.take_set_of_le (mc _)]
  have h3:(ws.set k (max ws[k] c.length)).drop (k+1)=ws.drop (k+1):=by rw[List.drop_set_of_lt (by omega)]
  rw[h2,h3,Xc];try rfl
theorem yX:∀ (rows:List (List Wd)) (ws:List Nat),(af rows).foldl jo ws=rows.foldl Ph ws
 |[],ws=>rfl
 |r::rows,ws=>by have h:af (r::rows)=Te 0 r++af rows:=flatMap_cons;rw[h,foldl_append,mQ r 0 ws (zero_le _),List.take_zero,nil_append,List.drop_zero,yX rows,foldl_cons]
theorem iQ:∀ (ws:List Nat) (r:List Wd),(Ph ws r).length=max ws.length r.length
 |ws,[]=>by cases ws <;> simp[Ph]
 |[],c::r=>by rw[Ph,Oa,iQ [] r];simp
 |w::ws,c::r=>by rw[Ph,Oa,iQ ws r,Oa,Oa];omega
def wi(rows:List (List Wd))(q:Nat):List Nat:=((af rows).take q).foldl jo []
theorem UX{rows:List (List Wd)}{q:Nat}(h:q<(af rows).length):wi rows (q+1)=jo (wi rows q) (af rows)[q]:=by unfold wi;rw[take_succ_eq_append_getElem h,foldl_append];try rfl
theorem Q4:∀ (rows:List (List Wd)) (ws:List Nat) (q:Nat) (h:q<(af rows).length),(af rows)[q].1<=(((af rows).take q).foldl jo ws).length:=by
 have row:∀ (r:List Wd) (k:Nat) (ws:List Nat) (q:Nat) (h:q<(Te k r).length),k<=ws.length->(Te k r)[q].1<=(((Te k r).take q).foldl jo ws).length:=by
  intro r;induction r with
  |nil=>intro k ws q h;simp[Te] at h
  |cons c r ih=>
   intro k ws q h hk;cases q with
   |zero=>simpa [Te] using hk
   |succ q=>
    have h1:k+1<=(jo ws (k,c)).length:=by unfold jo;split;rw[ua];simp only[Oa,Eb];omega;rw[length_set];rename_i hn;simp only at hn;omega
    have:=ih (k+1) (jo ws (k,c)) q (by simpa [Te] using h) h1;simpa [Te] using this
 intro rows;induction rows with
 |nil=>intro ws q h;simp[af] at h
 |cons r rows ih=>intro ws q h;have hc:af (r::rows)=Te 0 r++af rows:=flatMap_cons;rw[hc] at h;simp only[hc];rcases lt_or_ge q (Te 0 r).length with hq|hq;rw[List.getElem_append_left hq,List.take_append_of_le_length (by omega)];exact row r 0 ws q hq (zero_le _);rw[List.getElem_append_right hq,List.take_append,take_of_length_le hq,foldl_append];exact ih _ (q-(Te 0 r).length) (by rw[ua] at h;omega)
end Go.Ba
namespace Go.Proofs.YtjolancjacdeaaaGreatDoor.Rr
open Go.GL Go.RowKit Go.Ba
variable{spare:List LV}{ws:List Nat}{x:Nat}
attribute [local irreducible] ea Ga Ja aa Go.GL.Pure Bc Tc oc LQ Pa Td Lf qf rj oo Ww xm
variable{B0:Nat}{w0:World}
def Jy(rows:List (List Wd)):LV:=.list (rows.map λr=>.list (r.map str))
theorem qnf(rows:List (List Wd)):aa (KC B0 w0) 184 [Jy rows] [] (λr H=>∃ b:Nat,r=.ret (.atom (.func (.func 235) #[] #[.pointer (some ⟨b,0,none⟩)]))/\H=[(b,.cells 72 [Jy rows])]):=by refine cJ Tryz.func184 (n:=4) ?_;refine Pc ?_;refine oS (sB (cs:=[Jy rows]) rfl λb=>?_);refine ja ?_;exact rR rfl (va rfl) Ma ⟨b,rfl,rfl⟩
def nF(rows:List (List Wd))(k:Nat):List LV:=[int .i64 ((((af rows)[k]?).getD (0,[])).1:Nat),str (((af rows)[k]?).getD (0,[])).2]
theorem O5{rows:List (List Wd)}{rest:List (Nat×Wd)}{p:Nat×Wd}{k:Nat}(h:(af rows).drop k=p::rest):nF rows k=[int .i64 (p.1:Nat),str p.2]/\k<(af rows).length/\(af rows).drop (k+1)=rest:=by
 have h1:(af rows)[k]? = some p:=by have:=congrArg (λq=>q[0]?) h;simpa using this
 refine⟨by unfold nF;rw[h1];rfl,(List.getElem?_eq_some_iff.1 h1).1,?_⟩;rw[<-drop_drop,h];rfl
theorem qpX(b:Nat)(rows:List (List Wd))(hl:rows.length<=100000000)(hs:∀ r∈rows,r.length<=100000000):Ww (KC B0 w0) 235 [ptr b 0] [(b,.cells 72 [Jy rows])] (af rows).length (nF rows):=by
 unfold Ww;intro y J hY H0 h0;have Kn:(rows.map λr=>LV.list (r.map str)).length=rows.length:=Ua _;refine cJ Tryz.func235 (n:=27) ?_;refine Ga.perm (H':=(b,.cells 72 [.list (rows.map λr=>.list (r.map str))])::H0) (dd (l₁:=H0) (l₂:=[_])) ?_;refine ja ?_
 refine oL (λk ls H=>∃ (i q:Nat) (Hq:Heap),i<=rows.length/\k=rows.length-i/\q<=(af rows).length/\(af rows).drop q=af (rows.drop i)/\J q Hq/\ls=[(0,.atom (.func (.yield y) #[] #[])),(1,ptr b 0),(7,.list (rows.map λr=>.list (r.map str))),(8,int .i64 rows.length),(9,int .i64 i)]/\H=(b,.cells 72 [.list (rows.map λr=>.list (r.map str))])::Hq)
  ⟨_,_,_,⟨0,0,H0,zero_le _,rfl,zero_le _,rfl,h0,rfl,rfl⟩,Qa,kb _⟩ ?_
 rintro k ls H ⟨i,q,Hq,hi,rfl,Zq,Ad,hJ,rfl,rfl⟩ j1 Pb;refine Nd ?_;refine sa (λhc=>?_) λhc=>?_;have wa:i<rows.length:=by have:=zt hc;omega
 have Mk:=hs _ (getElem_mem wa);have Th:af (rows.drop i)=Te 0 rows[i]++af (rows.drop (i+1)):=by rw[List.drop_eq_getElem_cons wa];exact flatMap_cons
 rw[Th] at Ad;have hg:(rows.map λr=>LV.list (r.map str))[((i:Nat):Int).toNat]? = some (.list (rows[i].map str)):=Hh _ _ _ wa;generalize X0:rows[i]=r at *;have hra:(r.map str).length=r.length:=Ua _;refine Af ?_;refine ca (xR (ad:=.list (r.map str)) (cs:=[.list (r.map str)]) rfl rfl zo hg rfl rfl)<|ja ?_
 refine oL (λk ls H=>∃ (x q:Nat) (Hq:Heap),x<=r.length/\k=r.length-x/\q<=(af rows).length/\(af rows).drop q=Te x (r.drop x)++af (rows.drop (i+1))/\J q Hq/\ls=[(0,.atom (.func (.yield y) #[] #[])),(1,ptr b 0),(7,.list (rows.map λr=>.list (r.map str))),(8,int .i64 rows.length),(9,int .i64 i),(13,.list (r.map str)),(14,int .i64 r.length),(15,int .i64 x)]/\H=(b,.cells 72 [.list (rows.map λr=>.list (r.map str))])::Hq)
  ⟨_,_,_,⟨0,q,Hq,zero_le _,rfl,Zq,Ad,hJ,rfl,rfl⟩,Qa,kb _⟩ ?_
 clear hJ Ad Zq;rintro k ls H ⟨x,q,Hq,hx,rfl,Zq,Ad,hJ,rfl,rfl⟩ j2 Ub;refine Nd ?_;refine sa (λhc=>?_) λhc=>?_;have Tl:x<r.length:=by have:=zt hc;omega
 rw[List.drop_eq_getElem_cons Tl,Te,cons_append] at Ad;obtain⟨p1,p2,p3⟩:=O5 Ad;have aB:=hY q Hq p2 hJ;rw[p1] at aB;refine ia ?_;refine ca (xR (ad:=str r[x]) (cs:=[str r[x]]) rfl rfl zo (Hh _ _ _ Tl) rfl rfl)<|ca (pO (c:=str r[x]) rfl rfl)<|oa ?_;refine Ga.Dk ?_;refine za ?_;refine rj.yield (K:=λH'=>∃ H1,H'=H1++[(b,.cells 72 [.list (rows.map λr:List Wd=>LV.list (r.map str))])]/\J (q+1) H1) (H:=(b,.cells 72 [.list (rows.map λr:List Wd=>LV.list (r.map str))])::Hq) (args:=[_,_]) (Wb:=[int .i64 (x:Nat),str r[x]]) rfl rfl (xm.frame (H:=Hq) (F:=[(b,.cells 72 [.list (rows.map λr:List Wd=>LV.list (r.map str))])]) (dd (l₁:=[_]) (l₂:=Hq)) (xm.mono aB λH1 h1=>⟨H1,rfl,h1⟩)) rfl ?_;rintro H' ⟨H1,rfl,jE⟩;refine za ?_;refine rj.nil ?_;refine qN ?_;refine cW (H':=(b,.cells 72 [.list (rows.map λr=>.list (r.map str))])::H1) ⟨[],by rw[Qb];exact dd (l₁:=H1) (l₂:=[_])⟩ ?_;refine oC rfl (λji=>by cases ji) λji=>?_;refine ia ?_;exact⟨_,_,_,by omega,⟨x+1,q+1,H1,by omega,rfl,by omega,p3,jE,rfl,rfl⟩,Qa,kb _,Ub⟩;have Tl:x=r.length:=by have:=zf hc;omega
 subst Tl;rw[drop_length,Te,nil_append] at Ad;refine ia ?_;exact⟨_,_,_,by omega,⟨i+1,q,Hq,by omega,rfl,Zq,Ad,hJ,rfl,rfl⟩,Qa,kb _,Ub.trans Pb⟩;have ae:i=rows.length:=by have:=zf hc;omega
 subst ae;rw[drop_length] at Ad;have hq:(af rows).length<=q:=by have:=congrArg List.length Ad;rw[List.length_drop] at this;have h0:(af ([]:List (List Wd))).length=0:=rfl;omega
 obtain rfl:q=(af rows).length:=by omega
 refine oa ?_;exact rO Pb rN ⟨[],by rw[Qb];exact dd (l₁:=[_]) (l₂:=Hq)⟩ ⟨⟨_,rfl⟩,Hq,rfl,hJ⟩
theorem AW(l:List Nat):∀ v∈l.map λn:Nat=>int .i64 n,v.cells.length=1:=λv hv=>by obtain⟨n,_,rfl⟩:=vi hv;rfl
theorem eM:∀ l:List Nat,(l.map λn:Nat=>int .i64 n).flatMap LV.cells=l.map λn:Nat=>int .i64 n
 |[]=>rfl
 |a::l=>by rw[Tb,flatMap_cons,eM l];rfl
def Sg(l:List Nat):List LV:=l.map λn:Nat=>int .i64 n
theorem pW(rows:List (List Wd)):∀ q,(wi rows q).length<=q
 |0=>by simp[wi]
 |q+1=>by
  have ih:=pW rows q;rcases lt_or_ge q (af rows).length with h|h;rw[UX h];unfold jo;split;rw[ua];simp only[Oa,Eb];omega;rw[length_set];omega;have:wi rows (q+1)=wi rows q:=by unfold wi;rw[take_of_length_le zo,take_of_length_le h]
  rw[this];omega
theorem FL{l:List LV}{v:LV}(h:x<l.length):Zc l x [v]=l.set x v:=by rw[xA _ _ _ (by show x+1<=_;omega),List.set_eq_take_append_cons_drop,zp h,Xc];rfl
theorem PW{n:Nat}(h:x<ws.length):Zc (Sg ws++spare) x [int .i64 n]=Sg (ws.set x n)++spare:=by have hl:(Sg ws).length=ws.length:=Ua _;rw[FL (by rw[ua];omega),List.set_append_left _ _ zo];unfold Sg;rw[List.map_set]
theorem jb.CI{el b m cap:Nat}(hm:ws.length=m)(hc:m<=cap)(hl:m+spare.length=cap):jb el 1 (.slice (some ⟨b,0,none⟩) m cap) (Sg ws) [(b,.cells el (Sg ws++spare))]:=
 jb.pd (AW ws) (eM ws) (by unfold Sg;rw[Ua,hm]) hc hl
theorem RW(h:x<ws.length):(Sg ws++spare)[x]? = some (int .i64 (ws[x]:Nat)):=by have hl:(Sg ws).length=ws.length:=Ua _;rw[List.getElem?_append_left zo];unfold Sg;rw[List.getElem?_map,dh h];rfl
theorem qng(rows:List (List Wd))(hl:rows.length<=100000000)(hs:∀ r∈rows,r.length<=100000000)(hc:(af rows).length<=100000000)(Qf:∀ p∈af rows,p.2.length<=100000000):aa (KC B0 w0) 114 [Jy rows] [] (gb (.list (Sg (Yr rows)))):=by
 refine aa.introN Tryz.func114 rfl (n:=28) rfl rfl rfl ?_;refine Xj ?_;refine oS (yc λb3=>?_);refine ia ?_;refine oS (S.Ef [_] rfl (qnf rows) (λv H' hh=>?_) (by rintro ch H' ⟨b,h,_⟩;cases h));obtain⟨b,hv,rfl⟩:=hh;cases hv;refine oa ?_;refine Ga.rangeFunc (g:=.tmp 7) (ps:=[8,9]) (La:=#[.pointer (some ⟨b,0,none⟩)]) (by rfl) (af rows).length (nF rows) [(b3,.cells 195 [Ea])] [(b,.cells 72 [Jy rows])]
  (dd (l₁:=[_]) (l₂:=[_])) (qpX b rows hl hs) (λk hk=>rfl) (by rfl)
  (λq Hq=>∃ v HM,jb 3 1 v (Sg (wi rows q)) HM/\Hq=(b3,.cells 195 [.atom v])::HM)
  ⟨.slice none 0 0,[],jb.nil,rfl⟩ ?_ ?_
 ·rintro q Hq hq ⟨v,HM,hm,rfl⟩ j wJ TD y D o oD;have qi:j.s 3=ptr b3 0:=TD 3 _ rfl
  have gJ:nF rows q=[int .i64 ((af rows)[q].1:Nat),str (af rows)[q].2]:=by unfold nF;rw[dh hq];rfl
  have hQ:=UX hq;have eT:(af rows)[q].1<=(wi rows q).length:=Q4 rows [] q hq;have Zq:=pW rows q;have ji:=Qf _ (getElem_mem hq);generalize (af rows)[q]=p at *;obtain⟨x,cw⟩:=p;simp only at eT ji gJ;generalize wi rows q=ws at *;have Hn:(Sg ws).length=ws.length:=Ua _;rw[gJ,<-Env.wc (e:=j) (l:=[(3,ptr b3 0)]) (by
   intro p hp;simp only[Mc,not_mem_nil,or_false] at hp;subst hp;exact qi)]
  refine qf.seq ?_;refine qf.region rfl ?_;refine fj ?_;refine qf.region rfl ?_;refine fj ?_;refine⟨wJ,_,rfl,λo'=>?_⟩;refine qf.block ?_;refine qf.seq ?_;refine qf.seq ?_;refine xo ?_;refine ca (Pure.qn rfl hm)<|oa ?_;refine qf.cond rfl (λh=>?_) λh=>?_;have AM:x=ws.length:=by have:=zt h;omega
  refine xo ?_;refine oS (sL [_] (es:=[int .i64 1]) rfl (rc rfl rfl Tf) rfl rfl rfl<|oS (S.Xl (F:=[(y,o'),(D,oD),(b3,.cells 195 [.atom v])]) rfl (by exact dd (l₁:=[_,_,_]) (l₂:=HM)) hm rfl (by simp[LV.cells]) rfl (by simp only[Oa,Eb];omega) λv' H' Wg=>?_));have e1:Sg ws++[int .i64 1]=Sg (ws++[1]):=by unfold Sg;rw[Od];rfl
  have yS:(Sg (ws++[1])).length=ws.length+1:=by unfold Sg;simp
  rw[e1] at Wg;obtain⟨bM,cap,spare,rfl,rfl,sw,Kc⟩:=Wg.addr (by unfold Sg;simp);rw[yS] at sw Kc ⊢;unfold Sg;rw[eM];refine ea.perm (H':=(y,o')::(D,oD)::(b3,.cells 195 [.atom v])::[(bM,.cells 3 (Sg (ws++[1])++spare))]) qb ?_;refine oS (sS (Ya:=[.atom (.slice (some ⟨bM,0,none⟩) (ws.length+1) cap)]) rfl Ig rfl rfl rfl rfl rfl ?_);refine ea.perm (H':=(y,o')::(D,oD)::(b3,.cells 195 [.atom (.slice (some ⟨bM,0,none⟩) (ws.length+1) cap)])::[(bM,.cells 3 (Sg (ws++[1])++spare))]) (by exact List.perm_append_comm_assoc [_] [_,_] [_]) ?_;refine ig ?_;have hx:x<(ws++[1]).length:=by simp;omega
  refine qf.draw (m:=11) rfl [(y,o'),(D,oD),(b3,.cells 195 [.atom (.slice (some ⟨bM,0,none⟩) (ws.length+1) cap)])] rfl ?_;refine OG ?_;refine lO 5 (lH rfl rfl (pL (c:=int .i64 ((ws++[1])[x]'hx:Nat)) rfl Ru (RW hx)) ?_);refine lO 8 (lH rfl rfl (Pure.vf ((ws++[1])[x]'hx) cw.length rfl rfl rfl rfl) ?_);refine lO 9 (lH rfl rfl (Pure.vb (o:=x) rfl rfl zo zo zo) ?_);refine lO 10 (lS (H1:=[(bM,.cells 3 (Sg (ws++[1])++spare))]) (F:=[(y,o'),(D,oD),(b3,.cells 195 [.atom (.slice (some ⟨bM,0,none⟩) (ws.length+1) cap)])]) rfl (.inl rfl) rfl (dd (l₁:=[_,_,_]) (l₂:=[_])) Ma (sS (off:=x) (Ya:=Sg ((ws++[1]).set x (max ((ws++[1])[x]'hx) cw.length))++spare) rfl pH rfl rfl (Nat.ble_eq_true_of_le (show x+1<=_ by rw[ua];unfold Sg;rw[Ua];omega)) rfl (PW hx) ?_));refine Zj ?_;exact⟨_,⟨[],by
   rw[Qb];exact(dd (l₁:=[_]) (l₂:=[_,_,_]))⟩,_,_,by
   rw[hQ];have e2:jo ws (x,cw)=(ws++[1]).set x (max ((ws++[1])[x]'hx) cw.length):=by unfold jo;rw[zp AM];subst AM;simp
   rw[e2];exact jb.CI (by simp) sw zo,rfl⟩
  have AM:x≠ws.length:=by have:=zf h;omega
  have hx:x<ws.length:=by omega
  obtain⟨bM,cap,spare,rfl,rfl,sw,Kc⟩:=hm.addr (by
   intro h0;have:=congrArg List.length h0;rw[Hn,Eb] at this;omega)
  rw[Hn] at sw Kc ⊢;unfold Sg;rw[eM];refine qf.skip ?_;refine qf.draw (m:=11) rfl [(y,o'),(D,oD),(b3,.cells 195 [.atom (.slice (some ⟨bM,0,none⟩) ws.length cap)])] rfl ?_;refine OG ?_;refine lO 5 (lH rfl rfl (pL (c:=int .i64 ((ws)[x]'hx:Nat)) rfl Ru (RW hx)) ?_);refine lO 8 (lH rfl rfl (Pure.vf ((ws)[x]'hx) cw.length rfl rfl rfl rfl) ?_);refine lO 9 (lH rfl rfl (Pure.vb (o:=x) rfl rfl zo zo zo) ?_);refine lO 10 (lS (H1:=[(bM,.cells 3 (Sg (ws)++spare))]) (F:=[(y,o'),(D,oD),(b3,.cells 195 [.atom (.slice (some ⟨bM,0,none⟩) ws.length cap)])]) rfl (.inl rfl) rfl (dd (l₁:=[_,_,_]) (l₂:=[_])) Ma (sS (off:=x) (Ya:=Sg ((ws).set x (max ((ws)[x]'hx) cw.length))++spare) rfl pH rfl rfl (Nat.ble_eq_true_of_le (show x+1<=_ by rw[ua];unfold Sg;rw[Ua];omega)) rfl (PW hx) ?_));refine Zj ?_;exact⟨_,⟨[],by
   rw[Qb];exact(dd (l₁:=[_]) (l₂:=[_,_,_]))⟩,_,_,by
   rw[hQ];have e2:jo ws (x,cw)=ws.set x (max (ws[x]'hx) cw.length):=by unfold jo;rw[zn AM];simp only[dh hx,getD_some]
   rw[e2];exact jb.CI (by simp) sw zo,rfl⟩
 rintro D H' ⟨v,HM,hm,rfl⟩;refine ia ?_;refine ca (pL (c:=.atom v) rfl Ff rfl)<|ea.Vm (rh:=Sg (wi rows (af rows).length)) (F:=(D,.obj (.deferred (some [])))::(b3,.cells 195 [.atom v])::[(b,.cells 72 [Jy rows])]) 27 hm (List.perm_append_comm_assoc [_,_] HM _) rfl rfl (AW _) (Ce.refl _) ?_;refine oa ?_;exact HA.Ag rfl _ pH (rC (rT (v:=.list _) rfl fc) rN) Fc ⟨by
  have:wi rows (af rows).length=Yr rows:=by unfold wi Yr;rw[take_length,yX]
  rw[this];rfl,rfl⟩
end Go.Proofs.YtjolancjacdeaaaGreatDoor.Rr
namespace Go.Proofs.YtjolancjacdeaaaGreatDoor.Rr
open Go.GL Go.RowKit Go.Ba
def BH(b:Nat)(l:List UInt8)(H:Heap):Prop:=∃ p v Hv,(p=LV.atom (.pointer none)∨p=ptr b 0)/\Ee 5 v l Hv/\H=(b,.cells 71 [p,.atom v])::Hv
theorem LO:Lays.n240 Tryz.prog Tryz.Vd:={ Tryz.yh with }
section
variable{B0:Nat}{w0:World}
theorem zI(b:Nat)(p v:LV)(hp:p=LV.atom (.pointer none)∨p=ptr b 0):aa (KC B0 w0) 61 [ptr b 0] [(b,.cells 71 [p,v])]
  (λr H'=>(∃ x,r=.ret (.atom x))/\H'=[(b,.cells 71 [ptr b 0,v])]):=λxs w L hv hH=>by
 simp only[na] at hv;obtain⟨y,ys,rfl,hy,rfl⟩:=hv;simp only[Wa] at hy;subst hy;obtain⟨Jd,Rd,hl,zs,tc,zc⟩:=hH.Gb _ (Ll rfl);simp only at Jd Rd hl tc zc;have hz:=zc;simp only[na] at hz;obtain⟨a,QT,rfl,ha,c,PT,rfl,hc,rfl⟩:=hz;rcases hp with rfl|rfl;exact kU;exact xG
attribute [local irreducible] ea Ga Ja aa Go.GL.Pure Bc Tc oc LQ Pa Td Lf
theorem ZC(b:Nat)(l m:List UInt8)(H:Heap)(hB:BH b l H)(fa:l.length+m.length<=10000000000):aa (KC B0 w0) 21 [ptr b 0,str m] H (λr H'=>(∃ x,r=.ret x)/\BH b (l++m) H'):=by obtain⟨p,v,Hv,hp,Ta,rfl⟩:=hB;refine cJ Tryz.func21 (n:=19) ?_;refine fg ?_;refine oS (S.Bb (H1:=[(b,_)]) (F:=Hv) [_] rfl qb (zI b p (.atom v) hp) (λx H' h=>?_) λch H' h=>?_);exact jU;obtain⟨⟨x',Kh⟩,_⟩:=h;cases Kh
end
open Go Go.Shelf Go.RowKit
section
variable{P:Program}{ρ:Ren}
set_option maxHeartbeats 4000000 in
set_option maxRecDepth 100000 in
theorem iR(L:Lays.n169 P ρ)(X:Builder.Extra P ρ)(b g:Nat)(p:Value)(l:List UInt8)(cur:Array Value)(w:World)(NJ:w.heap[b]? = some (.cells #[p,.slice (some ⟨g,0,none⟩) l.length cur.size] (ρ.t 72) (0,0)))
  (hg:w.heap[g]? = some (.cells cur (ρ.t 5) (0,0))) (h0:l≠[]) (hn:l.length<=cur.size) (OJ:l.length<=9223372036854775807) (Sh:∀ (j:Nat) (x:UInt8),l[j]? = some x->cur[j]? = some (.int .u8 x.toNat)) :
  Calls P (ρ.f 169) #[.pointer (some ⟨b,0,none⟩)] w λe w'=>e=.returned (.string ⟨l.toArray⟩)/\w'=w.drew.freeze ⟨g,0,none⟩ l.length:=by
 have Ju:l.length≠0:=by simpa using h0
 have c1:w.drew.cell? ⟨b,1,none⟩=some (.slice (some ⟨g,0,none⟩) l.length cur.size):=by have:w.drew.heap[b]? = some (.cells #[p,.slice (some ⟨g,0,none⟩) l.length cur.size] (ρ.t 72) (0,0)):=NJ;rw[Lib.cell_of_heap this];rfl
 have hSD:(Builtin.unsafeSliceData_ #[(ρ.t 37)] (ρ.t 127) #[.slice (some ⟨g,0,none⟩) l.length cur.size]).run P w.drew=.ok (.pointer (some ⟨g,0,none⟩)) w.drew:=
  Lib.run_unsafeSliceData_row _ _ _ _ _ _ Ia
 have hUS:(Builtin.unsafeString_ #[(ρ.t 127),(ρ.t 3)] (ρ.t 9) #[.pointer (some ⟨g,0,none⟩),.int .i64 l.length]).run P w.drew=.ok (.string ⟨l.toArray⟩) (w.drew.freeze ⟨g,0,none⟩ l.length):=by refine JG ?_;intro j x hx;have Cz:w.drew.heap[g]? = some (.cells cur (ρ.t 5) (0,0)):=hg;have:=Sh j x hx;rw[Go.GL.re];simp[World.cell?,Cz,this]
 have mixed:=L.mixed;have t72:=L.t72;have a72:=L.a72;have z72:=L.z72;have v72:=L.v72;have I3:=run_underlying L.t72;have t70:=L.t70;have a70:=L.a70;have z70:=L.z70;have v70:=L.v70;have J3:=run_underlying L.t70;have t37:=L.t37;have a37:=L.a37;have z37:=L.z37;have v37:=L.v37;have K3:=run_underlying L.t37;have t127:=L.t127;have a127:=L.a127;have z127:=L.z127;have v127:=L.v127;have CN:=run_underlying L.t127;have t3:=L.t3;have a3:=L.a3;have z3:=L.z3;have v3:=L.v3;have u3:=run_underlying L.t3;have t9:=L.t9;have a9:=L.a9;have z9:=L.z9;have v9:=L.v9;have u9:=run_underlying L.t9;have t5:=X.t5;have a5:=X.a5;have z5:=X.z5;have v5:=X.v5;have u5:=run_underlying X.t5
 go_enter L.f169,Body.n169_ntmps ρ
 go_wp2
 go_region_o
 all_goals (go_wp2;go_ret;exact⟨rfl,rfl⟩)
end
open Go.GL Go.Ba
theorem GH:Lays.n169 Tryz.prog Tryz.Vd:={ Tryz.yh with }
variable{B0:Nat}{w0:World}
theorem GP{C:Ctx}{w:World}{L:Live}{H:Heap}(hH:Ca C w L H){g n:Nat}(hm:g∈keys H)(hb:C.B0<=g):Fr (keys H) w L (w.drew.freeze ⟨g,0,none⟩ n) L []/\Ca C (w.drew.freeze ⟨g,0,none⟩ n) L []:=by
 have tw:∀ c,c≠g->(w.drew.freeze ⟨g,0,none⟩ n).heap[c]? = w.heap[c]? := λc hc=>by unfold World.freeze;split;rfl;simp only[Array.getElem?_modify];rw[zn (Ne.symm hc)];rfl
 have ld:(w.drew.freeze ⟨g,0,none⟩ n).heap.size=w.heap.size:=by unfold World.freeze;split;rfl;simp
 have XI:∀ c,(w.drew.freeze ⟨g,0,none⟩ n).shape? c=w.shape? c:=λc=>by by_cases hc:c=g;exact uG;exact Wy (tw c hc)
 have fT:∀ c i,(w.drew.freeze ⟨g,0,none⟩ n).cell? ⟨c,i,none⟩=w.cell? ⟨c,i,none⟩:=λc i=>by by_cases hc:c=g;exact tG;exact cell_of_heap (tw c hc) i
 have Tt:(w.drew.freeze ⟨g,0,none⟩ n).os=w.os/\(w.drew.freeze ⟨g,0,none⟩ n).tape=w.tape/\(w.drew.freeze ⟨g,0,none⟩ n).output=w.output:=by unfold World.freeze;split <;> exact⟨rfl,rfl,rfl⟩
 exact⟨⟨Tt.1,Tt.2.1,Tt.2.2,⟨Nat.le_of_eq ld.symm,λc _=>XI c,λc i _=>fT c i,λ_=>mc _⟩,λc _ hc=>tw c λh=>hc (h▸hm),λ_ _ _=>rfl,by simp⟩,
  ⟨hH.base.trans ⟨Tt.1,Tt.2.1,Tt.2.2,Nat.le_of_eq ld.symm,λc hc=>tw c zo⟩,hH.ng,by rw[ld];exact hH.b0,λc hc=>hH.wf c (by rw[ld] at hc;exact hc),List.nodup_nil,by simp⟩⟩
theorem FF(b:Nat)(l:List UInt8)(H:Heap)(hB:BH b l H)(fa:l.length<=10000000000):aa (KC B0 w0) 23 [ptr b 0] H (gb (str l)):=λxs w L hv hH=>by
 obtain⟨p,v,Hv,hp,Ta,rfl⟩:=hB;simp only[na] at hv;obtain⟨y,ys,rfl,hy,rfl⟩:=hv;simp only[Wa] at hy;subst hy;obtain⟨Jd,Rd,hl,zs,tc,zc⟩:=hH.Gb _ rf;simp only at Jd Rd hl tc zc;simp only[na] at zc;obtain⟨a,QT,rfl,ha,c,PT,rfl,hc,rfl⟩:=zc;simp only[Wa] at hc;subst hc;cases Ta with
 |nil=>
  refine(Any.Builder_String_nil (P:=Tryz.prog) GH Tryz.ub w.heap.size b a w tc).mono λe w' he=>?_;obtain⟨rfl,hb⟩:=he;obtain⟨h1,h2⟩:=QH (hH.sub (List.nil_sublist _)) hb
  exact⟨str [],[],L,h1.wide (by simp),h2,xc,rfl,rfl⟩
 |row h0 h1 h2=>
  rename_i g xs;obtain⟨VD,CJ,VS,ws,Gu,KR⟩:=hH.Gb _ (Sc _ (Ll rfl));simp only at VD CJ VS Gu;have:=aD KR;subst this;have Sh:∀ (j:Nat) (x:UInt8),l[j]? = some x->ws.toArray[j]? = some (Value.int .u8 x.toNat):=λj x hx=>by
   have hj:(Jb l)[j]? = some (Value.int .u8 x.toNat):=by simp[Jb,hx]
   rw[<-h2,List.getElem?_take] at hj;split at hj;simpa using hj;cases hj
  refine(iR (P:=Tryz.prog) GH Tryz.ub b g a l ws.toArray w tc Gu h0 (by simpa using h1) zo Sh).mono λe w' he=>?_;obtain⟨rfl,rfl⟩:=he;obtain⟨f1,f2⟩:=GP (n:=l.length) hH (g:=g) (by simp) VD;exact⟨str l,[],L,f1,f2,xc,rfl,rfl⟩
end Go.Proofs.YtjolancjacdeaaaGreatDoor.Rr
namespace Go.Ba
open Go.Lib
def aA(w:Nat)(c:Wd):Wd:=32::(c++List.replicate (w-c.length) 32++[32,124])
theorem aR(w:Nat)(ws:List Nat)(row:List Wd):Il (w::ws) row=aA w ((row[0]?).getD [])++Il ws (row.drop 1):=by
 cases row with
 |nil=>simp[Il,aA]
 |cons c r=>simp[Il,aA]
theorem IZ:∀ (ws:List Nat) (w:Nat) (row:List Wd),Il (ws++[w]) row=Il ws row++aA w ((row[ws.length]?).getD [])
 |[],w,row=>by rw[nil_append,aR];simp[Il]
 |v::ws,w,row=>by rw[cons_append,aR,IZ ws w,aR,Xc,List.getElem?_drop,Oa,Nat.add_comm 1]
theorem uL:∀ (ws:List Nat) (r:List Wd) (k:Nat),(ws[k]?).getD 0<=((Ph ws r)[k]?).getD 0/\((r[k]?).getD []).length<=((Ph ws r)[k]?).getD 0
 |ws,[],k=>by cases ws <;> simp[Ph]
 |[],c::r,0=>by simp[Ph];omega
 |[],c::r,k+1=>by have:=uL [] r k;simpa [Ph] using this
 |w::ws,c::r,0=>by simp[Ph];omega
 |w::ws,c::r,k+1=>by have:=uL ws r k;simpa [Ph] using this
theorem qrM{rows:List (List Wd)}{r:List Wd}(h:r∈rows)(k:Nat):((r[k]?).getD []).length<=((Yr rows)[k]?).getD 0:=by
 have mono:∀ (l:List (List Wd)) (ws:List Nat),(ws[k]?).getD 0<=((l.foldl Ph ws)[k]?).getD 0:=by
  intro l;induction l with
  |nil=>intro ws;exact mc _
  |cons a l ih=>intro ws;rw[foldl_cons];exact Uf (uL ws a k).1 (ih _)
 have:∀ (l:List (List Wd)) (ws:List Nat),r∈l->((r[k]?).getD []).length<=((l.foldl Ph ws)[k]?).getD 0:=by
  intro l;induction l with
  |nil=>intro ws h;cases h
  |cons a l ih=>intro ws h;rw[foldl_cons];rcases Mc.1 h with rfl|h;exact Uf (uL ws r k).2 (mono l _);exact ih _ h
 exact this rows [] h
end Go.Ba
namespace Go.Proofs.YtjolancjacdeaaaGreatDoor.Rr
open Go.GL Go.RowKit Go.Ba
attribute [local irreducible] ea Ga Ja aa Go.GL.Pure Bc Tc oc LQ Pa Td Lf
variable{B0:Nat}{w0:World}
theorem fR(b:Nat)(l:List UInt8)(c:UInt8)(H:Heap)(hB:BH b l H)(fa:l.length<=9000000000):aa (KC B0 w0) 101 [ptr b 0,int .u8 c.toNat] H (λr H'=>(∃ x,r=.ret x)/\BH b (l++[c]) H'):=by
 obtain⟨p,v,Hv,hp,Ta,rfl⟩:=hB;refine cJ Tryz.func101 (n:=17) ?_;refine fg ?_;refine oS (S.Bb (H1:=[(b,_)]) (F:=Hv) [_] rfl qb (zI b p (.atom v) hp) (λx H' h=>?_) λch H' h=>?_);obtain⟨⟨x',Kh⟩,rfl⟩:=h;cases Kh;refine ia ?_;refine oS (sL [_] (es:=[int .u8 c.toNat]) rfl (rc rfl rfl Tf) rfl rfl rfl<|oS (S.Sw (q:=(b,.cells 71 [ptr b 0,.atom v])) (l:=l) (m:=[c]) rfl Ta rfl (by simp) (by simp only[Oa,Eb];omega) λv' H' Ra=>?_));refine oa ?_;have Ac:=Ra;generalize l++[c]=lm at Ra Ac ⊢
 cases Ra with
 |nil=>refine ja ?_;exact rR rfl (va rfl) Ma ⟨⟨_,rfl⟩,ptr b 0,_,_,.inr rfl,Ac,rfl⟩
 |row h0 h1 h2=>refine ja ?_;exact rR rfl (va rfl) Ma ⟨⟨_,rfl⟩,ptr b 0,_,_,.inr rfl,Ac,rfl⟩
 obtain⟨⟨x',Kh⟩,_⟩:=h;cases Kh
theorem qqH(b:Nat)(l:List UInt8)(H:Heap)(hB:BH b l H):aa (KC B0 w0) 22 [ptr b 0] H (λr H'=>r=.ret (int .i64 l.length)/\H'=H):=by obtain⟨p,v,Hv,hp,Ta,rfl⟩:=hB;refine cJ Tryz.func22 (n:=8) ?_;refine ia ?_;refine ca (Pure.mK rfl Ta)<|qh ?_;exact rR rfl (va rfl) Ma ⟨rfl,rfl⟩
theorem qp9(rows:List (List Wd))(hl:rows.length<=10000000)(hs:∀ r∈rows,r.length<=100000000)(hc:(af rows).length<=100000000)(Qf:∀ p∈af rows,p.2.length<=100000)(Rh:∀ r∈rows,∀ c∈r,c.length<=100000)(JR:(Yr rows).length<=30000)(hww:∀ n∈Yr rows,n<=100000):aa (KC B0 w0) 58 [Jy rows] [] (gb (.list ((pC rows).map str))):=by
 have hW:=qng (B0:=B0) (w0:=w0) rows zo hs hc (λp hp=>by have:=Qf p hp;omega);have Fm:=λr (hr:r∈rows) k=>qrM hr k;have hT:pC rows=rows.map (uA (Yr rows)):=rfl;rw[hT];generalize Yr rows=ws at *;have QF:(Sg ws).length=ws.length:=Ua _;have Kn:(rows.map λr=>LV.list (r.map str)).length=rows.length:=Ua _;refine cJ Tryz.func58 (n:=52) ?_;refine ia ?_;refine oS (sF [_] rfl hW ?_);unfold Jy;refine ia ?_
 refine oL (λk sl H=>∃ (i:Nat) (v:LV),i<=rows.length/\k=rows.length-i/\Acc 1 v (((rows.take i).map (uA ws)).map str) H []/\sl=[(3,.list (Sg ws)),(4,v),(13,.list (rows.map λr=>.list (r.map str))),(14,int .i64 rows.length),(15,int .i64 i)])
  ⟨_,_,_,⟨0,Ea,zero_le _,rfl,Acc.nil,rfl⟩,Qa,kb _⟩ ?_
 rintro k sl H ⟨i,v,hi,rfl,Ta,rfl⟩ j1 Pb;refine Nd ?_;refine sa (λhc=>?_) λhc=>?_;have wa:i<rows.length:=by have:=zt hc;omega
 have bJ:rows[i]∈rows:=getElem_mem wa;have WS:=Fm _ bJ;have eS:=Rh _ bJ;have rk:=hs _ bJ;have Hs:((rows.take (i+1)).map (uA ws)).map str=((rows.take i).map (uA ws)).map str++[str (uA ws rows[i])]:=by rw[take_succ_eq_append_getElem wa,Od,Od];rfl
 have hg:(rows.map λr=>LV.list (r.map str))[((i:Nat):Int).toNat]? = some (.list (rows[i].map str)):=Hh _ _ _ wa;generalize rows[i]=row at *;have hra:(row.map str).length=row.length:=Ua _;refine Af ?_;refine ca (xR (ad:=.list (row.map str)) (cs:=[.list (row.map str)]) rfl rfl zo hg rfl rfl)<|ja ?_;refine oS (yc λb7=>?_);refine Nd ?_;refine oS (S.Bb (H1:=[(b7,_)]) (F:=H) [_,_] rfl qb (fR b7 [] 124 _ ⟨_,_,[],.inl rfl,Ee.nil,rfl⟩ (by simp)) (λx H' h=>?_) (by rintro ch H' ⟨⟨x,h⟩,_⟩;cases h));obtain⟨⟨x',Kh⟩,hB⟩:=h;cases Kh;refine ia ?_
 refine oL (λk sl H2=>∃ (x:Nat) (HB:Heap),x<=ws.length/\k=ws.length-x/\(Il (ws.take x) row).length<=x * 100003/\BH b7 (124::Il (ws.take x) row) HB/\sl=[(3,.list (Sg ws)),(4,v),(6,.list (row.map str)),(7,ptr b7 0),(13,.list (rows.map λr=>.list (r.map str))),(14,int .i64 rows.length),(15,int .i64 i),(20,.list (Sg ws)),(21,int .i64 ws.length),(22,int .i64 x)]/\H2=HB++H)
  ⟨_,_,_,⟨0,H',zero_le _,rfl,by simp[Il],hB,rfl,rfl⟩,Qa,kb _⟩ ?_
 rintro k sl H2 ⟨x,HB,hx,rfl,Fw,Iz,rfl,rfl⟩ j2 Ub;refine Nd ?_;refine sa (λhc=>?_) λhc=>?_;have Tl:x<ws.length:=by have:=zt hc;omega
 have hwx:=hww _ (getElem_mem Tl);have hgx:((row[x]?).getD []).length<=ws[x]:=by have:=WS x;rwa [dh Tl] at this
 have T0:Il (ws.take (x+1)) row=Il (ws.take x) row++aA ws[x] ((row[x]?).getD []):=by rw[take_succ_eq_append_getElem Tl,IZ,length_take,Nat.min_eq_left zo]
 have Cm:=Fw;have htn:(Il (ws.take (x+1)) row).length<=(x+1) * 100003:=by
  have h4:(aA ws[x] ((row[x]?).getD [])).length=ws[x]+3:=by unfold aA;simp only[Oa,ua,length_replicate,Eb];omega
  rw[T0,ua];omega
 have Xv:x * 100003<=30000 * 100003:=mul_le_mul_right _ zo;refine ia ?_;refine ca (xR (ad:=int .i64 (ws[x]:Nat)) (cs:=[int .i64 (ws[x]:Nat)]) rfl rfl zo (Hh (λn:Nat=>int .i64 n) ws x Tl) rfl rfl)<|ja ?_;refine cC [(3,.list (Sg ws)),(4,v),(6,.list (row.map str)),(7,ptr b7 0),(13,.list (rows.map λr=>.list (r.map str))),(14,int .i64 rows.length),(15,int .i64 i),(20,.list (Sg ws)),(21,int .i64 ws.length),(22,int .i64 x),(9,int .i64 (ws[x]:Nat)),(10,str ((row[x]?).getD []))] ?_ λj3 qi=>?_;refine sa (λh=>?_) λh=>?_;have ED:x<row.length:=by have:=zt h;omega
 refine ia ?_;refine ca (xR (ad:=str row[x]) (cs:=[str row[x]]) rfl rfl zo (Hh _ _ _ ED) rfl rfl)<|za ?_;exact⟨⟨rfl,rfl,rfl,rfl,rfl,rfl,rfl,rfl,rfl,rfl,rfl,uC (by rw[dh ED];rfl),trivial⟩,rfl,rfl⟩;have ED:¬ x<row.length:=by have:=zf h;omega
 refine oa ?_;exact⟨⟨rfl,rfl,rfl,rfl,rfl,rfl,rfl,rfl,rfl,rfl,rfl,uC (by rw[List.getElem?_eq_none zo];rfl),trivial⟩,rfl,rfl⟩;have dT:aA ws[x] ((row[x]?).getD [])=32::(((row[x]?).getD [])++List.replicate (ws[x]-((row[x]?).getD []).length) 32++[32,124]):=rfl;generalize (row[x]?).getD []=cw at *;generalize ws[x]=wx at *;refine ja ?_;refine ea.sub 40 (v:=int .i64 ((wx:Int)-(cw.length:Int))) (v':=int .i64 ((wx-cw.length:Nat):Int)) rfl (by rw[show(wx:Int)-(cw.length:Int)=((wx-cw.length:Nat):Int) by omega];exact vR _) ?_;refine oS (sF [_,_] rfl (RQ 32 (wx-cw.length) zo)<|ca (Pure.Fo rfl rfl (by simp only[ua,Oa,Eb,length_replicate];omega))<|ca (Pure.Fo rfl rfl (by simp only[ua,Oa,Eb,length_replicate];omega))<|oS (S.Bb (H1:=HB) (F:=H) [_,_] rfl qb (ZC b7 _ ([32]++cw++List.replicate (wx-cw.length) 32++[32,124]) HB Iz (by simp only[ua,Oa,Eb,length_replicate];omega)) (λy H3 h=>?_) (by rintro ch H3 ⟨⟨x,h⟩,_⟩;cases h)));obtain⟨⟨y',nz⟩,pE⟩:=h;cases nz;refine Mh ?_;exact⟨_,_,_,by omega,⟨x+1,H3,by omega,rfl,htn,by
  rw[T0,dT];simpa using pE,rfl,rfl⟩,Qa,kb _,qi.trans Ub⟩
 have Tl:x=ws.length:=by have:=zf hc;omega
 subst Tl;rw[take_length] at Iz Fw;have Xv:ws.length * 100003<=30000 * 100003:=mul_le_mul_right _ zo;have St:(124::Il ws row).length<=10000000000:=by rw[Oa];omega
 refine ia ?_;refine eh ?_;refine oS (S.Bb (H1:=HB) (F:=H) [_] rfl qb (FF b7 _ HB Iz St) (λy H3 h=>?_) (by rintro ch H3 ⟨h,_⟩;cases h));obtain⟨hy,rfl⟩:=h;cases hy;refine oS (sL [_] (es:=[str (uA ws row)]) rfl (rc rfl rfl Tf) rfl rfl rfl<|oS (S.acc (F:=[]) rfl Ta rfl (by simp[LV.cells]) rfl (by simp only[Ua,length_take,Oa,Eb];omega) λv' H' Ra=>?_));rw[<-Hs] at Ra;refine Wh ?_;refine Mh ?_;exact⟨_,_,_,by omega,⟨i+1,v',by omega,rfl,Ra,rfl⟩,Qa,kb _,Ub.trans Pb⟩;have ae:i=rows.length:=by have:=zf hc;omega
 subst ae;rw[take_length] at Ta;refine Ga.sub (d:=4) (v:=v) rfl Ta.sub ?_;refine ia ?_;exact Na Pb (rC (rT (v:=.list _) rfl fc) rN) rfl
end Go.Proofs.YtjolancjacdeaaaGreatDoor.Rr
namespace Go.GL
open Go.RowKit
variable{a b:Int}{t u:TypeId}
section
variable{C:Ctx}{e:Env}{H:Heap}{dst:Option Nat}{ty:TypeId}{la:String}{ma:Array Edge}{g:Option (Nat×Bool)}{x y:Operand}{k:IntKind}
theorem Pure.BD{s d:TypeId}{k0:IntKind} [hs:xg C.P s k0] [hd:Xi C.P d]{n:Int}{l:List UInt8}(hx:e.ev x=int k n)(hl:Utf8.encode n=⟨l.toArray⟩):Pure C ⟨dst,.convert s d x,ty,la,ma,g⟩ e H (str l):=
 .Ka λρ _ _ h=>⟨_,xc,λw'=>by
  have h3:execOp ρ ⟨dst,.convert s d x,ty,la,ma,g⟩=(do Pure.pure (.value (<-convert s d (ρ x)))):=rfl;rw[h3,Cb h hx];simp[convert,ed hs.zd,ed hd.zd,Conv.intToString,hl]⟩
theorem Pure.oR(hx:e.ev x=int k a)(hy:e.ev y=int k b):Pure C ⟨dst,.call { callee:=.builtin .max,args:=#[x,y],argTypes:=#[t,u] },ty,la,ma,g⟩ e H (int k (if a<b then b else a)):=
 .Ka λρ _ _ h=>⟨_,xc,λw'=>by
  have h0:∀ (cs:Array Bool) (args:Array Value),builtin .max #[t,u] ty cs args=(do Pure.pure (.value (<-Builtin.max_ #[t,u] ty args))):=λ_ _=>rfl;rw[Pl,h0]
  simp[Builtin.max_,Builtin.max2,Cb h hx,Cb h hy]⟩
theorem Pure.qR{c:Int}(hx:e.ev x=int k a)(hy:e.ev y=int k b)(hc:(if a<b then b else a)=c):Pure C ⟨dst,.call { callee:=.builtin .max,args:=#[x,y],argTypes:=#[t,u] },ty,la,ma,g⟩ e H (int k c):=hc▸Pure.oR hx hy
theorem Pure.nR{c:Int}(hx:e.ev x=int k a)(hy:e.ev y=int k b)(hc:(if b<a then b else a)=c):Pure C ⟨dst,.call { callee:=.builtin .min,args:=#[x,y],argTypes:=#[t,u] },ty,la,ma,g⟩ e H (int k c):=hc▸Pure.GI hx hy
end
theorem F8:Utf8.encode 46=⟨#[46]⟩:=by rfl
theorem qrF:Utf8.encode 35=⟨#[35]⟩:=by rfl
end Go.GL
namespace Go.Ba
open Go.Lib
theorem qpf{last:UInt8}{s:Wd}(eb:s≠[]):cq last s=match s.dropWhile Kk with
  |[]=>none
  |c::r=>match Bg 99999 (s.takeWhile Kk) with
   |none=>none
   |some n=>if c=last then none else (cq c r).map ((n,c)::·):=by
 unfold cq;have Qd:=List.length_pos_iff.2 eb;obtain⟨f,hf⟩:∃ f,s.length=f+1:=⟨s.length-1,by omega⟩;rw[hf,tm,zn eb];have e1:(λc:UInt8=>decide (c≠46/\c≠35))=Kk:=rfl;rw[e1]
 cases hd:s.dropWhile Kk with
 |nil=>rfl
 |cons c r=>
  have hl:=congrArg List.length (List.takeWhile_append_dropWhile (p:=Kk) (l:=s));rw[hd,ua,Oa] at hl;simp only;cases Bg 99999 (s.takeWhile Kk) with
  |none=>rfl
  |some n=>simp only;split;rfl;rw[FP f r.length c r (by omega) (mc _)];try cases tm r.length c r <;> rfl
theorem F7{s r:Wd}{c:UInt8}(h:s.dropWhile Kk=c::r):c=46∨c=35:=by have:=List.head?_dropWhile_not Kk s;rw[h] at this;simp only[List.head?_cons] at this;unfold Kk at this;rw[decide_eq_false_iff_not] at this;by_cases YJ:c=46;exact .inl YJ;exact .inr (Classical.not_not.1 λtE=>this ⟨YJ,tE⟩)
theorem Z'{w:Wd}(h:5<w.length):Bg 99999 w=none:=by
 cases hp:Bg 99999 w with
 |none=>rfl
 |some n=>obtain⟨h1,h2,rfl⟩:=(kP (mc _) _ n).1 hp;rw[decDigits_length] at h;have:=mI 4 n Ia;omega
end Go.Ba
namespace Go.Proofs.YtjolancjacdeaaaGreatDoor.Rr
open Go.GL Go.RowKit Go.Ba
attribute [local irreducible] ea Ga Ja aa Go.GL.Pure Bc Tc oc LQ Pa Td Lf
def dV(o:Option (List (Nat×UInt8))):LV:=match o with
 |some l=>.tuple [str ((ym l).take 40000),int .i64 (Jf l),bool true]
 |none=>.tuple [str [],int .i64 0,bool false]
theorem I5{c:UInt8}(h:c=46∨c=35):Utf8.encode (c.toNat:Int)=⟨[c].toArray⟩:=by rcases h with rfl|rfl;exact F8;exact qrF
variable{B0:Nat}{w0:World}
theorem qld(s:List UInt8)(hs:s.length<=100000000)(ha:∀ c∈s,c.toNat<128):aa (KC B0 w0) 185 [str s,str [46,35]] [] (gb (int .i64 (Go.Lib.indexAny s [46,35]))):=
 aa.ye (vs:=[.string ⟨s.toArray⟩,.string ⟨#[46,35]⟩]) λw hw=>Tryz.strings_IndexAny_laid ⟨s.toArray⟩ ⟨#[46,35]⟩ w (by show s.toArray.size<_;simp;omega) ra (λj b hj=>ha b (List.mem_of_getElem? hj)) (λj b hj=>by
  have:=List.mem_of_getElem? hj;simp only[Mc,not_mem_nil,or_false] at this;rcases this with rfl|rfl <;> decide)
theorem qn1(hG:GW B0 w0)(s0:List UInt8)(hs:s0.length<=100000)(ha:∀ c∈s0,c.toNat<128):aa (KC B0 w0) 115 [str s0] [] (gb (dV (cq 0 s0))):=by
 refine cJ Tryz.func115 (n:=74) ?_;refine Xj ?_;refine oS (yc λb5=>?_);refine ia ?_;refine oL (λk sl H=>∃ (s:Wd) (last:UInt8) (l0:List (Nat×UInt8)),k=s.length/\s.length<=s0.length/\(∀ c∈s,c.toNat<128)/\Jf l0<=99999 * (s0.length-s.length)/\cq 0 s0=(cq last s).map (l0++·)/\BH b5 ((ym l0).take 40000) H/\sl=[(0,str s),(5,ptr b5 0),(6,int .i64 (Jf l0)),(7,int .u8 last.toNat)])
  ⟨_,_,_,⟨s0,0,[],rfl,mc _,ha,zero_le _,by cases cq 0 s0 <;> simp,⟨_,_,[],.inl rfl,Ee.nil,rfl⟩,rfl⟩,Qa,kb _⟩ ?_
 rintro k sl H ⟨s,last,l0,rfl,Mk,W0,Rh,hR,hB,rfl⟩ j1 Pb;refine ja ?_;refine sa (λhc=>?_) λhc=>?_;have eb:s≠[]:=zf (Zw hc);have hI:=qld (B0:=B0) (w0:=w0) s zo W0;rw[BZ] at hI;have Hd:=qpf (last:=last) eb;have RF:=List.takeWhile_append_dropWhile (p:=Kk) (l:=s)
 cases hd:s.dropWhile Kk with
 |nil=>rw[hd] at hI Hd;rw[zp rfl] at hI;rw[Hd] at hR;refine ia ?_;refine oS (sF [_,_] rfl hI ?_);refine ia ?_;refine oC rfl (λ_=>?_) (λh=>by cases h);refine Hj ?_;exact Na Pb (rC (ib rfl) (rC (ib rfl) (va rfl))) (by rw[hR];rfl)
 |cons c r=>
  rw[hd] at hI Hd RF;rw[zn (by simp)] at hI;have bS:=F7 hd;generalize s.takeWhile Kk=num at *;simp only at Hd;have JD:s.length=num.length+(r.length+1):=by rw[<-RF];simp
  refine ia ?_;refine oS (sF [_,_] rfl hI ?_);refine ja ?_;refine sa (λh=>?_) λh=>?_;have h5:5<num.length:=by have:=zt h;omega
  rw[Z' h5] at Hd;rw[Hd] at hR;refine Hj ?_;exact Na Pb (rC (ib rfl) (rC (ib rfl) (va rfl))) (by rw[hR];rfl);have h5:¬ 5<num.length:=by have:=zf h;omega
  have pg:s.take num.length=num:=by rw[<-RF,List.take_left]
  have R1:s[((num.length:Nat):Int).toNat]? = some c:=by rw[Int.toNat_natCast,<-RF,List.getElem?_append_right (mc _),sub_self];rfl
  refine ia ?_;refine ca (Pure.Ze (m:=num) (i:=0) rfl rfl ⟨_,rfl⟩ zo zo zo (by rw[Int.toNat_natCast];exact pg))<|oS (S.ff [_] rfl (MX hG num zo) ?_);rintro lv (⟨v,hv,rfl⟩|⟨Iu,v,t,p,rfl⟩);have Qd:Bg 99999 num=if Go.Lib.itoa v=num/\1<=v/\v<=99999 then some v.toNat else none:=by unfold Bg;rw[hv];rfl
  have OI:=Go.Lib.atoiAll_bounds hv;refine oa ?_;refine Pm ?_;refine LQ.Up 34 rfl (λh=>?_) λh=>?_;have h1:v<1:=zt h;rw[zn (λh=>by omega)] at Qd;rw[Qd] at Hd;rw[Hd] at hR;refine za ?_;refine oC rfl (λ_=>?_) (λh=>by cases h);refine Hj ?_;exact Na Pb (rC (ib rfl) (rC (ib rfl) (va rfl))) (by rw[hR];rfl);have h1:¬ v<1:=zf h;refine za ?_;refine LQ.Up 38 rfl (λh=>?_) λh=>?_;have h2:99999<v:=zt h;rw[zn (λh=>by omega)] at Qd;rw[Qd] at Hd;rw[Hd] at hR;refine za ?_;refine oC rfl (λ_=>?_) (λh=>by cases h);refine Hj ?_;exact Na Pb (rC (ib rfl) (rC (ib rfl) (va rfl))) (by rw[hR];rfl);have h2:¬ 99999<v:=zf h;refine Oi ?_;refine LQ.call (v:=.string ⟨(Go.Lib.itoa v).toArray⟩) (aa.mono (Iv hG v OI.1 OI.2) λr H h=>h.1) rfl ?_;refine Oi ?_;refine qP (Pure.Ze (m:=num) (i:=0) rfl rfl ⟨_,rfl⟩ zo zo zo (by rw[Int.toNat_natCast];exact pg)) rfl ?_;refine za ?_;refine LQ.Up 46 rfl (λh=>?_) λh=>?_;have h3:¬ Go.Lib.itoa v=num:=zf (Zw h);rw[zn (λh=>h3 h.1)] at Qd;rw[Qd] at Hd;rw[Hd] at hR;refine za ?_;refine oC rfl (λ_=>?_) (λh=>by cases h);refine Hj ?_;exact Na Pb (rC (ib rfl) (rC (ib rfl) (va rfl))) (by rw[hR];rfl);have h3:Go.Lib.itoa v=num:=zt (qt h);rw[zp ⟨h3,by omega,by omega⟩] at Qd;rw[Qd] at Hd;simp only at Hd;obtain⟨m,rfl⟩:∃ m:Nat,v=m:=⟨v.toNat,by omega⟩;rw[Int.toNat_natCast] at Hd;refine Oi ?_;refine qP (pI (c:=c) rfl rfl zo R1) rfl ?_;refine za ?_;refine sa (λh=>?_) λh=>?_
  have Qf:c=last:=by have:=zt h;exact UInt8.toNat.inj zo
  rw[zp Qf] at Hd;rw[Hd] at hR;refine Hj ?_;exact Na Pb (rC (ib rfl) (rC (ib rfl) (va rfl))) (by rw[hR];rfl);have Qf:¬ c=last:=λQf=>zf h (by rw[Qf]);rw[zn Qf] at Hd;rw[Hd] at hR;refine ia ?_;refine ca (pI (c:=c) rfl rfl zo R1)<|fg ?_;have hAl:=cR l0
  have Dz:(ym (l0++[(m,c)])).take 40000=(ym l0).take 40000++List.replicate (min m (40000-Jf l0)) c:=by
   rw[qmO];have e1:ym [(m,c)]=List.replicate m c:=by simp[ym]
   rw[e1,List.take_append,List.take_replicate,hAl,Nat.min_comm]
  have sz:Jf (l0++[(m,c)])=Jf l0+m:=by rw[qpB];simp[Jf]
  have Cm:((ym l0).take 40000).length<=40000:=by rw[length_take];omega
  refine ca (Pure.BD (l:=[c]) rfl (I5 bS))<|za ?_;refine ca (Pure.qR (c:=((40000-Jf l0:Nat):Int)) rfl rfl (by split <;> omega))<|ca (Pure.nR (c:=((min m (40000-Jf l0):Nat):Int)) rfl rfl (by split <;> omega))<|oS (sF [_,_] rfl (RQ c (min m (40000-Jf l0)) zo) ?_);refine oS (S.Bb (H1:=H) (F:=[]) [_,_] rfl (by rw[Qb]) (ZC b5 _ (List.replicate (min m (40000-Jf l0)) c) H hB (by rw[length_replicate];omega)) (λy H3 h=>?_) (by rintro ch H3 ⟨⟨x,h⟩,_⟩;cases h));obtain⟨⟨y',nz⟩,pE⟩:=h;cases nz;rw[Qb,<-Dz] at *;refine ia ?_;refine ca (Pure.Ze (m:=r) (i:=(num.length:Int)+1) rfl ⟨_,rfl⟩ rfl zo zo zo (by
   rw[Int.toNat_natCast,take_length,<-RF,show((num.length:Int)+1).toNat=num.length+1 by omega,<-drop_drop,List.drop_left];rfl)) ?_
  refine oa ?_;exact⟨_,_,_,by omega,⟨r,c,l0++[(m,c)],rfl,by omega,λx hx=>W0 x (by rw[<-RF];exact List.mem_append_right _ (Sc _ hx)),by rw[sz];omega,by
   rw[hR];cases cq c r <;> simp,pE,rfl⟩,⟨rfl,rfl,bf (by rw[sz];omega),rfl,trivial⟩,kb _,Pb⟩
  have Qd:Bg 99999 num=none:=by unfold Bg;split;rename_i v hv;exact absurd hv (Iu v);rfl
  rw[Qd] at Hd;rw[Hd] at hR;refine oa ?_;refine Pm ?_;refine oC rfl (λ_=>?_) (λh=>by cases h);refine Hj ?_;exact Na Pb (rC (ib rfl) (rC (ib rfl) (va rfl))) (by rw[hR];rfl)
 have eb:s=[]:=zt (qt hc);subst eb;rw[aQ] at hR;have Cm:((ym l0).take 40000).length<=40000:=by rw[length_take];omega
 refine ia ?_;refine oS (S.Bb (H1:=H) (F:=[]) [_] rfl (by rw[Qb]) (FF b5 _ H hB zo) (λy H3 h=>?_) (by rintro ch H3 ⟨h,_⟩;cases h));obtain⟨hy,rfl⟩:=h;cases hy;refine oa ?_;exact Na Pb (rC (ib rfl) (rC (ib rfl) (va rfl))) (by rw[hR];simp[dV,Ge])
end Go.Proofs.YtjolancjacdeaaaGreatDoor.Rr
namespace Go.Ba
open Go.Lib
theorem DY(w:Nat):∀ (n:Nat) (s:Wd),Qo w (n+1) s=Qo w n s++[(s.drop (n * w)).take w]
 |0,s=>by simp[Qo]
 |n+1,s=>by have ih:=DY w n (s.drop w);rw[Qo,ih,Qo,cons_append,drop_drop,show w+n * w=(n+1) * w by rw[Nat.succ_mul];omega]
theorem qqo(runs:Wd)(w:Nat):zA runs w=if w<1∨200<w then .error 2 else match cq 0 runs with
  |none=>.error 3
  |some l=>if Jf l=0∨Jf l % w≠0 then .error 4 else if 200<Jf l / w then .error 6 else .ok (Qo w (Jf l / w) (ym l)):=rfl
end Go.Ba
namespace Go.Proofs.YtjolancjacdeaaaGreatDoor.Rr
open Go.GL Go.RowKit Go.Ba
attribute [local irreducible] ea Ga Ja aa Go.GL.Pure Bc Tc oc LQ Pa Td Lf
def wy:Except Nat (List Wd)->LV
 |.ok rows=>.tuple [.list (rows.map str),int .i64 0]
 |.error e=>.tuple [.list [],int .i64 e]
variable{B0:Nat}{w0:World}
theorem qmY(hG:GW B0 w0)(runs:List UInt8)(w:Nat)(hs:runs.length<=100000)(ha:∀ c∈runs,c.toNat<128)(Rh:∀ l,cq 0 runs=some l->Jf l<=100000000000)(hw:w<=1000000000):aa (KC B0 w0) 60 [str runs,int .i64 w] [] (gb (wy (zA runs w))):=by
 have hE:=qqo runs w;have hD:=qn1 (B0:=B0) (w0:=w0) hG runs hs ha;refine cJ Tryz.func60 (n:=56) ?_;refine ia ?_;refine oB 13 rfl (λh1=>?_) λh1=>?_;rw[zp (.inl (by have:=zt h1;omega))] at hE;refine oa ?_;refine oC rfl (λ_=>?_) (λh=>by cases h);refine Oe ?_;exact Na rfl (rC (rT (v:=Ea) rfl vN) (va rfl)) (by rw[hE];rfl);have g1:=zf h1;refine za ?_;refine sa (λh=>?_) λh=>?_;rw[zp (.inr (by have:=zt h;omega))] at hE;refine Oe ?_;exact Na rfl (rC (rT (v:=Ea) rfl vN) (va rfl)) (by rw[hE];rfl);have g2:=zf h;rw[zn zo] at hE;refine ia ?_;refine oS (sF [_] rfl hD ?_)
 cases hR:cq 0 runs with
 |none=>rw[hR] at hE;refine ja ?_;refine oC rfl (λ_=>?_) (λh=>by cases h);refine Hj ?_;exact Na rfl (rC (rT (v:=Ea) rfl vN) (va rfl)) (by rw[hE];rfl)
 |some l=>
  rw[hR] at hE;simp only at hE;have eS:=Rh l hR;have hdm:=Nat.div_add_mod (Jf l) w;have hcm:=Int.natCast_emod (Jf l) w;have Fp:=Int.natCast_ediv (Jf l) w;have Qf:=cR l;refine ja ?_;refine oC rfl (λh=>by cases h) λ_=>?_;refine ia ?_;refine oB 29 rfl (λh=>?_) λh=>?_;rw[zp (.inl (by have:=zt h;omega))] at hE;refine oa ?_;refine oC rfl (λ_=>?_) (λh=>by cases h);refine Hj ?_;exact Na rfl (rC (rT (v:=Ea) rfl vN) (va rfl)) (by rw[hE];rfl);have g3:Jf l≠0:=by have:=zf h;omega
  refine Dg ?_;refine ca (Pure.rem rfl rfl zo zo)<|za ?_;refine sa (λh=>?_) λh=>?_;have g4:Jf l % w≠0:=by have:=zf (Zw h);omega
  rw[zp (.inr g4)] at hE;refine Hj ?_;exact Na rfl (rC (rT (v:=Ea) rfl vN) (va rfl)) (by rw[hE];rfl);have g4:Jf l % w=0:=by have:=zt (qt h);omega
  rw[zn zo] at hE;refine Dc ?_;refine ca (Pure.quo rfl rfl zo zo zo)<|za ?_;refine sa (λh=>?_) λh=>?_;rw[zp (by have:=zt h;omega)] at hE;refine Hj ?_;exact Na rfl (rC (rT (v:=Ea) rfl vN) (va rfl)) (by rw[hE];rfl);have g5:¬ 200<Jf l / w:=by have:=zf h;omega
  rw[zn g5] at hE;have hmul:w * (Jf l / w)<=200 * 200:=Nat.mul_le_mul zo zo;have Cj:(ym l).take 40000=ym l:=take_of_length_le zo;rw[Cj];have St:Jf l=(Jf l / w) * w:=by rw[Nat.mul_comm];omega
  generalize Jf l / w=n at *;generalize ym l=cells at *;refine ia ?_;refine oL (λk sl H=>∃ (i:Nat) (v:LV),i<=n/\k=n-i/\Acc 1 v ((Qo w i cells).map str) H []/\sl=[(1,int .i64 w),(6,str cells),(7,int .i64 (Jf l)),(9,v),(10,int .i64 ((i * w:Nat):Int))])
   ⟨_,_,_,⟨0,Ea,zero_le _,rfl,Acc.nil,rfl⟩,⟨rfl,rfl,rfl,rfl,bf (by simp),trivial⟩,kb _⟩ ?_
  rintro k sl H ⟨i,v,hi,rfl,Ta,rfl⟩ j1 Pb;have qo:(i+1) * w=i * w+w:=Nat.succ_mul i w;refine ia ?_;refine sa (λhc=>?_) λhc=>?_
  have wa:i<n:=by have:=zt hc;rcases lt_or_ge i n with h|h;exact h;have:=mul_le_mul_right w h;omega
  have hle:(i+1) * w<=n * w:=mul_le_mul_right w wa;have rk:=DY w i cells;refine Af ?_;refine eh ?_;refine oa ?_;refine ca (Pure.Ze (m:=(cells.drop (i * w)).take w) (i:=((i * w:Nat):Int)) rfl ⟨_,rfl⟩ ⟨_,rfl⟩ zo zo zo (by
   rw[show(((i * w:Nat):Int)+(w:Int)).toNat=i * w+w by omega,Int.toNat_natCast,List.drop_take,show i * w+w-i * w=w by omega])) ?_
  refine oS (sL [_] (es:=[str ((cells.drop (i * w)).take w)]) rfl (rc rfl rfl Tf) rfl rfl rfl<|oS (S.acc (F:=[]) rfl Ta rfl (by simp[LV.cells]) rfl (by simp only[Ua,aZ,Oa,Eb];omega) λv' H' Ra=>?_));have e1:(Qo w i cells).map str++[str ((cells.drop (i * w)).take w)]=(Qo w (i+1) cells).map str:=by rw[rk,Od];rfl
  rw[e1] at Ra;refine Wh ?_;refine ia ?_;exact⟨_,_,_,by omega,⟨i+1,v',by omega,rfl,Ra,rfl⟩,Qa,kb _,Pb⟩;have ae:i=n:=by have:=zf hc;rcases lt_or_ge i n with h|h;have:=mul_le_mul_right w (show i+1<=n from h);omega;omega
  subst ae;refine Ga.sub (d:=9) (v:=v) rfl Ta.sub ?_;refine ia ?_;exact Na Pb (rC (rT (v:=.list _) rfl fc) (va rfl)) (by rw[hE];rfl)
end Go.Proofs.YtjolancjacdeaaaGreatDoor.Rr
namespace Go.Ba
open Go.Lib
structure Bl(b:Xb):Prop where
 ZJ:fA b
 bw:bw b<=100000
 Oh:∀ r∈b.rows,3 * r.length<=90000
 asc:∀ c∈b.runs,c.toNat<128
theorem zC{A:Type}(f:A->Nat):∀ {l:List A} {a:A},a∈l->f a<=(l.map f).sum
 |b::l,a,h=>by rcases Mc.1 h with rfl|h;simp only[Tb,sum_cons];omega;have:=zC f h;simp only[Tb,sum_cons];omega
theorem zW:∀ (r:List Wd) (i:Nat),(Te i r).length=r.length
 |[],_=>rfl
 |c::r,i=>by rw[Te,Oa,zW r,Oa]
theorem uW:∀ (r:List Wd) (i:Nat) (p:Nat×Wd),p∈Te i r->p.2∈r
 |[],_,p,h=>by cases h
 |c::r,i,p,h=>by rw[Te] at h;rcases Mc.1 h with rfl|h;exact List.mem_cons_self;exact Sc _ (uW r (i+1) p h)
theorem Y9{rows:List (List Wd)}{p:Nat×Wd}(h:p∈af rows):∃ r∈rows,p.2∈r:=by unfold af at h;obtain⟨r,hr,hp⟩:=List.mem_flatMap.1 h;exact⟨r,hr,uW r 0 p hp⟩
theorem qr2:∀ (k:Nat) (last:UInt8) (s:Wd) (l:List (Nat×UInt8)),s.length<=k->cq last s=some l->Jf l<=99999 * s.length:=by
 intro k;induction k with
 |zero=>intro last s l hs h;have:s=[]:=List.length_eq_zero_iff.1 Ia;subst this;rw[aQ] at h;cases h;simp[Jf]
 |succ k ih=>
  intro last s l hs h;by_cases eb:s=[];subst eb;rw[aQ] at h;cases h;simp[Jf];obtain⟨n,c,r,l',k1,k2,k3,k4,k5,k6,k7⟩:=(qqF eb).1 h;have hl:=congrArg List.length k1;simp only[ua,Oa] at hl;have:=ih c r l' Ia k6;rw[k7];have e1:Jf ((n,c)::l')=n+Jf l':=by simp[Jf]
  rw[e1];omega
theorem M6{m:Nat}(hm:1<=m):∀ (rows:List (List Wd)) (ws:List Nat),(∀ n∈ws,n<=m)->(∀ r∈rows,∀ c∈r,c.length<=m)->∀ n∈rows.foldl Ph ws,n<=m:=by
 have one:∀ (ws:List Nat) (r:List Wd),(∀ n∈ws,n<=m)->(∀ c∈r,c.length<=m)->∀ n∈Ph ws r,n<=m:=by
  intro ws r;induction r generalizing ws with
  |nil=>intro h _ n hn;cases ws <;> exact h n hn
  |cons c r ih=>
   intro h hr n hn;cases ws with
   |nil=>rw[Ph] at hn;rcases Mc.1 hn with rfl|hn;have:=hr c (by simp);omega;exact ih [] (by simp) (λx hx=>hr x (Sc _ hx)) n hn
   |cons w ws=>rw[Ph] at hn;rcases Mc.1 hn with rfl|hn;have:=hr c (by simp);have:=h w (by simp);omega;exact ih ws (λx hx=>h x (Sc _ hx)) (λx hx=>hr x (Sc _ hx)) n hn
 intro rows;induction rows with
 |nil=>intro ws h _;exact h
 |cons r rows ih=>intro ws h hr;rw[foldl_cons];exact ih _ (one ws r h (hr r (by simp))) λx hx=>hr x (Sc _ hx)
theorem L6{m:Nat}:∀ (rows:List (List Wd)) (ws:List Nat),ws.length<=m->(∀ r∈rows,r.length<=m)->(rows.foldl Ph ws).length<=m:=by
 intro rows;induction rows with
 |nil=>intro ws h _;exact h
 |cons r rows ih=>intro ws h hr;rw[foldl_cons];refine ih _ ?_ λx hx=>hr x (Sc _ hx);rw[iQ];have:=hr r (by simp);omega
theorem EO:∀ l:List Wd,l.flatten.length<=(l.map λw=>w.length+1).sum
 |[]=>mc _
 |a::l=>by have:=EO l;rw[List.flatten_cons,ua,Tb,sum_cons];omega
end Go.Ba
namespace Go.Proofs.YtjolancjacdeaaaGreatDoor.Rr
open Go.GL Go.RowKit Go.Ba
attribute [local irreducible] ea Ga Ja aa Go.GL.Pure Bc Tc oc LQ Pa Td Lf
variable{B0:Nat}{w0:World}
theorem x7(b1 w:Nat)(b:Xb)(hb:Bl b)(hw:1<=w/\w<=200)(hk:b.kind=1):aa (KC B0 w0) 53 [wg b,ptr b1 0] [(b1,.cells 3 [int .i64 w])] (λr H=>r=.ret (wy (Dl w b))/\H=[(b1,.cells 3 [int .i64 w])]):=by
 have hR:Dl w b=if b.words.all ik=true then .ok (BK b.words w) else .error 1:=by unfold Dl;rw[zp hk]
 have Dx:=hb.bw;have JR:=(rF b).1;have LI:∀ s∈b.words,s.length<=100000000:=λs hs=>by have:=zC (λw:Wd=>w.length+1) hs;unfold bw at Dx;omega
 have zh:=EO b.words;have hH:=ql7 (B0:=B0) (w0:=w0) b.words w zo LI (by unfold bw at Dx;omega);have hE:Kr b.words w=if b.words.all ik=true then 0 else 1:=by rw[BL,zn zo]
 unfold wg Cq;refine cJ Tryz.func53 (n:=11) ?_;refine Pc ?_;refine oS (sB (cs:=Cq b) rfl λb2=>?_);unfold Cq;refine ja ?_;refine oS (S.Ef [_,_] rfl hH (λv H' hh=>?_) (by rintro ch H' ⟨v,h,_⟩;cases h));obtain⟨v,hv,hm⟩:=hh;cases hv;refine ca (Pure.extract (c:=.atom v) rfl rfl)<|ea.Vm (rh:=(JE b.words w).map str) 9 hm qb rfl rfl (Ro _) (Ce.refl _) ?_;refine oa ?_
 exact rR rfl (rC (rT (v:=.list _) rfl fc) (va rfl)) (fe Ma) ⟨by
  rw[hR];unfold JE;rw[hE];split <;> rfl,rfl⟩
theorem B8(b1 w:Nat)(b:Xb)(hb:Bl b)(hw:1<=w/\w<=200)(hk:b.kind=2):aa (KC B0 w0) 55 [wg b,ptr b1 0] [(b1,.cells 3 [int .i64 w])] (λr H=>r=.ret (wy (Dl w b))/\H=[(b1,.cells 3 [int .i64 w])]):=by
 have hR:Dl w b=if b.words.all ik=true then .ok (Lk b.words w) else .error 1:=by unfold Dl;rw[zn zo,zp hk]
 have Dx:=hb.bw;have JR:=(rF b).1;have LI:∀ s∈b.words,s.length<=100000000:=λs hs=>by have:=zC (λw:Wd=>w.length+1) hs;unfold bw at Dx;omega
 have zh:=EO b.words;have hH:=oY (B0:=B0) (w0:=w0) b.words w zo LI (by unfold bw at Dx;omega);have hE:Kr b.words w=if b.words.all ik=true then 0 else 1:=by rw[BL,zn zo]
 unfold wg Cq;refine cJ Tryz.func55 (n:=11) ?_;refine Pc ?_;refine oS (sB (cs:=Cq b) rfl λb2=>?_);unfold Cq;refine ja ?_;refine oS (S.Ef [_,_] rfl hH (λv H' hh=>?_) (by rintro ch H' ⟨v,h,_⟩;cases h));obtain⟨v,hv,hm⟩:=hh;cases hv;refine ca (Pure.extract (c:=.atom v) rfl rfl)<|ea.Vm (rh:=(mC b.words w).map str) 9 hm qb rfl rfl (Ro _) (Ce.refl _) ?_;refine oa ?_
 exact rR rfl (rC (rT (v:=.list _) rfl fc) (va rfl)) (fe Ma) ⟨by
  rw[hR];unfold mC;rw[hE];split <;> rfl,rfl⟩
theorem E7(w:Nat)(b:Xb)(hb:Bl b)(hk:b.kind=3):aa (KC B0 w0) 57 [wg b] [] (gb (wy (Dl w b))):=by
 have hR:Dl w b=.ok (pC b.rows):=by unfold Dl;rw[zn zo,zn zo,zp hk]
 have Dx:=hb.bw;have JR:=(rF b).2;have Bj:(b.rows.map λr=>(r.map λc=>c.length+3).sum+2).sum<=100000:=by unfold bw at Dx;omega
 have Wq:∀ r∈b.rows,(r.map λc=>c.length+3).sum+2<=100000:=λr hr=>Uf (zC (λr:List Wd=>(r.map λc=>c.length+3).sum+2) hr) Bj
 have aE:∀ r∈b.rows,∀ c∈r,c.length<=100000:=λr hr c hc=>by have h1:=Wq r hr;have h2:=zC (λc:Wd=>c.length+3) hc;omega
 have Qf:(af b.rows).length<=100000:=by
  have h1:∀ l:List Wd,l.length<=(l.map λc=>c.length+3).sum:=by
   intro l;induction l with
   |nil=>simp
   |cons a l ih=>simp only[Tb,sum_cons,Oa];omega
  have h2:∀ rows:List (List Wd),(af rows).length<=(rows.map λr=>(r.map λc=>c.length+3).sum+2).sum:=by
   intro rows;induction rows with
   |nil=>simp[af]
   |cons r rows ih=>have hc:af (r::rows)=Te 0 r++af rows:=flatMap_cons;rw[hc,ua,zW,Tb,sum_cons];have:=h1 r;omega
  exact Uf (h2 _) Bj
 have hL:=qp9 (B0:=B0) (w0:=w0) b.rows zo (λr hr=>by have:=hb.Oh r hr;omega) zo (λp hp=>by
  obtain⟨r,hr,hp⟩:=Y9 hp;exact aE r hr _ hp) aE (L6 _ _ (zero_le _) λr hr=>by have:=hb.Oh r hr;omega) (M6 zo _ _ (by simp) aE)
 unfold wg Cq;refine cJ Tryz.func57 (n:=7) ?_;refine Pc ?_;refine oS (sB (cs:=Cq b) rfl λb2=>?_);unfold Cq;refine ja ?_;refine oS (sF [_] rfl hL ?_);refine oa ?_;exact Na rfl (rC (rT (v:=.list _) rfl fc) (va rfl)) (by rw[hR];rfl)
theorem x8(hG:GW B0 w0)(w:Nat)(b:Xb)(hb:Bl b)(hk:b.kind=4):aa (KC B0 w0) 59 [wg b] [] (gb (wy (Dl w b))):=by
 have hR:Dl w b=zA b.runs b.width:=by unfold Dl;rw[zn zo,zn zo,zn zo]
 have Dx:=hb.bw;have hwd:b.width<=200:=by rcases hb.ZJ with h|h|h|h;omega;omega;omega;exact h.2.2.1
 have TF:b.runs.length<=100000:=by unfold bw at Dx;omega
 have hE:=qmY (B0:=B0) (w0:=w0) hG b.runs b.width TF hb.asc (λl hl=>by
  have:=qr2 _ 0 b.runs l (mc _) hl;omega) zo
 rw[hR];unfold wg Cq;refine cJ Tryz.func59 (n:=11) ?_;refine Pc ?_;refine oS (sB (cs:=Cq b) rfl λb2=>?_);unfold Cq;refine ia ?_;refine oS (sF [_,_] rfl hE ?_)
 cases zA b.runs b.width with
 |error e=>refine za ?_;exact Na rfl (rC (rT (v:=.list _) rfl fc) (va rfl)) rfl
 |ok rows=>refine za ?_;exact Na rfl (rC (rT (v:=.list _) rfl fc) (va rfl)) rfl
def fq(b1:Nat):Array MapEntry:=#[{ key:=.int .i64 1,val:=.func (.func 53) #[] #[.pointer (some ⟨b1,0,none⟩)],born:=0 },{ key:=.int .i64 2,val:=.func (.func 55) #[] #[.pointer (some ⟨b1,0,none⟩)],born:=1 },
 { key:=.int .i64 3,val:=.func (.func 57) #[] #[],born:=2 },{ key:=.int .i64 4,val:=.func (.func 59) #[] #[],born:=3 }]
theorem qq5(w:Nat):aa (KC B0 w0) 20 [int .i64 w] [] (λr H=>∃ b1 m:Nat,r=.ret (.atom (.map (some m)))/\H=[(m,.obj (.map (fq b1) 4)),(b1,.cells 3 [int .i64 w])]):=by refine cJ Tryz.func20 (n:=7) ?_;refine Pc ?_;refine oS (sB (cs:=[int .i64 w]) rfl λb1=>?_);refine Xj ?_;refine oS (S.makeMap λm=>?_);refine za ?_;refine Zx ?_;refine za ?_;refine Zx ?_;refine Zx ?_;refine Zx ?_;refine oa ?_;exact rR rfl (va rfl) Ma ⟨b1,m,rfl,rfl⟩
end Go.Proofs.YtjolancjacdeaaaGreatDoor.Rr
