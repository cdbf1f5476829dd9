import Derived.Test.YtafdodhkoihlhaaGreatDoorCards
import Derived.Test.YtafdodhkoihlhaaGreatDoorTie
import Derived.Deep.DeepHandedRow
import Derived.Lib.SmallJoins
import Derived.Test.YtafdodhkoihlhaaGreatDoorBRowLE11
set_option linter.unusedVariables false
set_option linter.unusedSimpArgs false
set_option maxRecDepth 100000
set_option maxHeartbeats 0
open Go.GL (zk)
open List (nil_append getElem_mem flatMap_cons getD_eq_getElem?_getD getElem_map)
open Nat (mod_lt)
namespace Go.Proofs.Y.Lb
open Go.GL Go.RowKit Go.ia
open Go.ia.Wi.Wc.Q
def TR:List (Pr×Int×Int):=[(⟨[],[⟨Lb.Nd,512⟩,⟨Lb.ve,256⟩],[Lb.Bd]⟩,0,0),(⟨[],[],[Lb.mg]⟩,0,0),(⟨[],[],[Lb.ng]⟩,0,0)]
theorem W4:C5.map Di=TR:=zk
def qBi:List (Pr×Int×Int):=[(⟨[],[],[Lb.Vr]⟩,0,0)]
theorem ER:nL.map Di=qBi:=zk
def qob:List (Pr×Int×Int):=[(⟨[],[⟨Lb.yf,836⟩,⟨Lb.xk,418⟩,⟨Lb.Mg,1676⟩,⟨Lb.Ac,52⟩],[Lb.Ur]⟩,0,0),(⟨[],[],[Lb.Av]⟩,0,0),(⟨[],[],[Lb.Rr]⟩,0,0),(⟨[],[],[Lb.jz]⟩,0,0)]
theorem quk:Xp.map Di=qob:=zk
def SR:List (Pr×Int×Int):=[(⟨[Lb.yk],[⟨Lb.cq,8⟩,⟨Lb.rj,9⟩,⟨Lb.rl,9⟩,⟨Lb.bq,9⟩,⟨Lb.cm,8⟩],[Lb.po]⟩,0,0),(⟨[],[],[Lb.Tr]⟩,0,0),(⟨[],[],[Lb.qq]⟩,0,0),(⟨[],[],[Lb.qo]⟩,0,0),(⟨[],[],[Lb.vv]⟩,0,0)]
theorem V4:B5.map Di=SR:=zk
def qvh:List (Pr×Int×Int):=[(⟨[Lb.gj,Lb.Hi,Lb.Cn],[⟨Lb.ij,40000⟩,⟨Lb.ai,48000⟩],[Lb.gE]⟩,0,0),(⟨[],[],[Lb.Sr]⟩,0,0),(⟨[],[],[Lb.rq]⟩,0,0),(⟨[],[],[Lb.iz]⟩,0,0),(⟨[],[],[Lb.iE]⟩,0,0),(⟨[],[],[Lb.yv]⟩,0,0),(⟨[],[],[Lb.fE]⟩,0,0),(⟨[],[],[Lb.wv]⟩,0,0)]
theorem qzh:Rw.map Di=qvh:=zk
def qop:List (Pr×Int×Int):=[(⟨[],[⟨Lb.jh,28⟩,⟨Lb.Pc,16⟩,⟨Lb.ag,16⟩],[Lb.Nb]⟩,0,0)]
theorem qtk:Yp.map Di=qop:=zk
def qht:List (Pr×Int×Int):=[(⟨[],[],[Er.xe]⟩,0,0)]
theorem qmf:dj.map Di=qht:=zk
noncomputable def Qt:List (List UInt8):=C5++nL++Xp++B5++Rw++Yp++dj
theorem qqh:∀ l:List (List UInt8),dX l=(l.map Di).foldr (λr q=>r.1.app q) Ts
 |[]=>rfl
 |p::l=>by rw[yd,List.foldr_cons,<-qqh l];rfl
theorem qz8{l:List (List UInt8)}(h:((l.map Di).all λr=>decide (r.2.2=0))=true):∀ p∈l,(Di p).2.2=0:=λp hp=>zt (List.all_eq_true.1 h _ (jl ⟨p,hp,rfl⟩))
theorem U':Qt.map Di=TR++qBi++qob++SR++qvh++qop++qht:=by unfold Qt;rw[Te,Te,Te,Te,Te,Te,W4,ER,quk,V4,qzh,qtk,qmf]
theorem qBh:dX Qt=Er.P:=by rw[qqh,U'];rfl
abbrev NO:List (List UInt8):=[[103,102],[99,114,99],[118,105,116,101,114,98,105],[114,115],[102,114,97,109,101],[101,114,97,115,117,114,101],[101,114,97,115,117,114,101,109,97,105,110]]
theorem qAY:xh NO []=(ah Qt,0):=by unfold Qt;rw[xh,PR,zn λh=>h rfl,xh,qxS,zn λh=>h rfl,xh,qrI,zn λh=>h rfl,xh,NR,zn λh=>h rfl,xh,qv1,zn λh=>h rfl,xh,qrA,zn λh=>h rfl,xh,qkT,zn λh=>h rfl,xh];rw[LK,LK,LK,LK,LK,LK,<-ZP,<-qA5,<-qsj,<-YP,<-qwg,<-qr1,<-qk3,nil_append]
theorem qxv:Di (ah Qt)=(Er.P,0,0):=by have h1:∀ p∈Qt,(Di p).2.2=0:=qz8 (by rw[U'];rfl);have h2:(ah Qt).length<=20000:=zt zk;rw[qnG Qt h1 h2,qBh]
theorem qzr:IH Er.P 3000=true:=zk
theorem qzE:∃ code,WA NO code/\∀ (l:List Nat) (n r:Nat),Er.hd l 0=n->Er.hd l 1=r->n<=16->r<256->(∀ v∈l,v<256)->2+29 * n<=l.length->∃ K,runM 10000000 (Ew code 10000 l)=(0,Er.Zj (Lb.Ux Lb.od Lb.oc (Er.tk l n) (Er.ll n) (Er.Tl l n) r n Er.z0 n) 28,K):=by
 have hb:∀ (l:List Nat) (n:Nat),(∀ v∈l,v<256)->2+29 * n<=l.length->∀ p,p<2+29 * n->Er.hd l p<256:=λl n hl hn p hp=>by unfold Er.hd;rw[List.drop_eq_getElem_cons zo];exact hl _ (getElem_mem _)
 obtain⟨f0,h0,_⟩:=qt2 (Er.kz [0,0] 0 0 rfl rfl ea ea (hb [0,0] 0 ea ea) 2000000 (Pb _));obtain⟨code,h1,h2⟩:=qBO qzr (names:=NO) ea qAY qxv (i0:=[0,0]) ea ⟨f0,h0⟩;refine⟨code,h1,λl n r hn hr yx wO hl ma=>?_⟩;obtain⟨K,hK⟩:=h2 l (λv hv=>by have:=hl v hv;omega) 2000000 _ (qt2 (Er.kz l n r hn hr yx wO (hb l n hl ma) 2000000 (Pb _)));exact⟨K,hK 10000000 ea⟩
open Go.ia.Wi.Wc.Q.Er (hd tk ll Tl z0 Zj jg qA9 yQ)
open Go.ia.Wi.Wc.Q.Lb (Ux od oc)
variable{i:Nat}
abbrev Sh:Type:=Int×List UInt8
def tC(s:Sh):LV:=.agg [int .i64 s.1,str s.2]
def tu(s:Sh):List Nat:=s.1.toNat::Ms s.2
def jm(l:List Sh)(r:Nat):List Nat:=[l.length,r]++l.flatMap tu
structure mr(l:List Sh):Prop where
 ix:∀ s∈l,0<=s.1/\s.1<15
 ln:∀ s∈l,s.2.length=28
 nd:(l.map (·.1)).Nodup
theorem AZ{s:Sh}(h:s.2.length=28):(tu s).length=29:=by unfold tu;rw[Ma,show(Ms s.2).length=s.2.length from Mb _,h]
theorem qm2:∀ (l:List Sh),(∀ s∈l,s.2.length=28)->∀ i (hi:i<l.length) t,t<29->((l.flatMap tu).drop (29 * i+t)).headD 4294967295=(tu l[i]).getD t 0
 |s::l,h,0,hi,t,ht=>by have hl:=AZ (h s Qe);rw[flatMap_cons,List.drop_append_of_le_length zo];show((tu s).drop (29 * 0+t)++_).headD _=(tu s).getD t 0;rw[show 29 * 0+t=t by omega,List.drop_eq_getElem_cons zo,getD_eq_getElem?_getD,Yh zo];try rfl
 |s::l,h,i+1,hi,t,ht=>by have hl:=AZ (h s Qe);rw[flatMap_cons,List.drop_append,List.drop_eq_nil_of_le zo,nil_append,hl,show 29 * (i+1)+t-29=29 * i+t by omega];exact qm2 l (λs hs=>h s (Oc _ hs)) i (by simpa using hi) t ht
theorem qyK{l:List Sh}(h:mr l)(r:Nat)(hi:i<l.length){t:Nat}(ht:t<29):hd (jm l r) (2+29 * i+t)=(tu l[i]).getD t 0:=by unfold hd jm;rw[List.drop_append,List.drop_eq_nil_of_le (by simp only[Ma,qc];omega),nil_append];simp only[Ma,qc];rw[show 2+29 * i+t-(0+1+1)=29 * i+t by omega];exact qm2 l h.ln i hi t ht
theorem R0:∀ l:List Sh,(∀ s∈l,s.2.length=28)->(l.flatMap tu).length=29 * l.length
 |[],_=>rfl
 |s::l,h=>by rw[flatMap_cons,Ga,AZ (h s Qe),R0 l λs hs=>h s (Oc _ hs),Ma];omega
theorem qth{l:List Sh}(h:mr l)(r:Nat):(jm l r).length=2+29 * l.length:=by unfold jm;rw[Ga,R0 l h.ln];try rfl
theorem U9{l:List Sh}(h:mr l){r:Nat}(hr:r<256)(hn:l.length<256):∀ v∈jm l r,v<256:=λv hv=>by unfold jm at hv;rcases xj hv with hv|hv;rcases Dc.1 hv with rfl|hv;exact hn;rw[aj hv];exact hr;obtain⟨s,hs,hv⟩:=List.mem_flatMap.1 hv;rcases Dc.1 hv with rfl|hv;have:=h.ix s hs;omega;exact U0 _ v hv
def sC(l:List Sh)(i:Nat):Nat:=(l.getD i (0,[])).1.toNat % 15
def UF(l:List Sh)(i k:Nat):Nat:=((l.getD i (0,[])).2.getD k 0).toNat
theorem gV{l:List Sh}(h:mr l)(hi:i<l.length):sC l i=l[i].1.toNat:=by unfold sC;rw[getD_eq_getElem?_getD,Yh hi];have:=h.ix l[i] (getElem_mem hi);show l[i].1.toNat % 15=_;omega
theorem T9{l:List Sh}(hi:i<l.length)(k:Nat):UF l i k=(l[i].2.getD k 0).toNat:=by unfold UF;rw[getD_eq_getElem?_getD (l:=l),Yh hi];try rfl
theorem qBR(l:List Sh)(i:Nat):sC l i<15:=mod_lt _ ea
theorem qBL(l:List Sh)(i k:Nat):UF l i k<256:=(UInt8.toNat_lt _)
theorem qxU{l:List Sh}(h:mr l):∀ i j,i<l.length->j<l.length->j≠i->sC l i≠sC l j:=λi j hi hj xb e=>by
 rw[gV h hi,gV h hj] at e;have h1:=h.ix l[i] (getElem_mem hi);have h2:=h.ix l[j] (getElem_mem hj);have e2:l[i].1=l[j].1:=by omega
 have hp:=List.pairwise_iff_getElem.1 h.nd;rcases Nat.lt_or_gt_of_ne xb with g|g;have:=hp j i (by rw[Mb];exact hj) (by rw[Mb];exact hi) g;rw[getElem_map,getElem_map] at this;exact this e2.symm;have:=hp i j (by rw[Mb];exact hi) (by rw[Mb];exact hj) g;rw[getElem_map,getElem_map] at this;exact this e2
theorem qAs{l:List Sh}(h:mr l):l.map tC=Pv (sC l) (UF l) l.length:=by
 refine List.ext_getElem (by unfold Pv;rw[Mb,Mb,List.length_range]) λi h1 h2=>?_;have hi:i<l.length:=by simpa using h1
 have e0:(Pv (sC l) (UF l) l.length)[i]=Ez (sC l i) (dB (UF l) i):=by simp only[Pv,getElem_map,List.getElem_range]
 rw[getElem_map,e0];have h1:=h.ix l[i] (getElem_mem hi);have h2:=h.ln l[i] (getElem_mem hi);unfold tC Ez;rw[gV h hi,Int.toNat_of_nonneg h1.1];have e:dB (UF l) i=l[i].2:=by unfold dB;refine List.ext_getElem (by rw[Mb,List.length_range,h2]) λk h3 h4=>?_;simp only[getElem_map,List.getElem_range];rw[T9 hi,getD_eq_getElem?_getD,Yh h4];show UInt8.ofNat (l[i].2[k]).toNat=_;exact UInt8.ofNat_toNat
 rw[e]
theorem quZ{si uY:Nat->Nat}{D D':Nat->Nat->Nat}{x n k:Nat}(h1:∀ i,i<n->si i=uY i)(h2:∀ i,i<n->D i k=D' i k):∀ m,m<=n->jg si D x n k m=jg uY D' x n k m:=by
 have hw:∀ i,i<n->∀ j,j<=n->Go.ia.Wi.Wc.Q.Er.wT si x i j=Go.ia.Wi.Wc.Q.Er.wT uY x i j:=λi hi j=>by
  induction j with
  |zero=>exact λ_=>rfl
  |succ j ih=>intro hj;unfold Go.ia.Wi.Wc.Q.Er.wT;rw[ih zo,h1 j zo,h1 i hi]
 intro m;induction m with
 |zero=>exact λ_=>rfl
 |succ m ih=>intro hm;unfold jg;rw[ih zo,hw m zo n (Pb _),h2 m zo]
theorem qlf(bl:Nat->Nat):∀ n,Zj bl n=(List.range n).map λk=>UInt8.ofNat (bl k)
 |0=>rfl
 |n+1=>by show Zj bl n++_=_;rw[qlf bl n,List.range_succ,Te];try rfl
theorem qBX{l:List Sh}(h:mr l)(h8:l.length<=8){r:Nat}(hr:r<15):Zj (Ux od oc (tk (jm l r) l.length) (ll l.length) (Tl (jm l r) l.length) r l.length z0 l.length) 28=(List.range 28).map λk=>UInt8.ofNat (jg (sC l) (UF l) r l.length k l.length):=by
 rw[qlf];refine List.map_congr_left λk hk=>?_;have hk:=List.mem_range.1 hk;have ma:=qth h r
 have hb:∀ p,p<2+29 * l.length->hd (jm l r) p<256:=λp hp=>by unfold hd;rw[List.drop_eq_getElem_cons zo];exact U9 h zo zo _ (getElem_mem _)
 have h0:∀ i,i<l.length->hd (jm l r) (2+29 * i)=sC l i:=λi hi=>by have:=qyK h r hi (t:=0) ea;rw[Nat.add_zero] at this;rw[this,gV h hi];try rfl
 rw[qA9 (jm l r) l.length r k zo hk zo hb λi j hi hj xb=>by
  rw[h0 i hi,h0 j hj];exact qxU h i j hi hj xb]
 congr 1;refine quZ (λi hi=>?_) (λi hi=>?_) _ (Pb _);rw[yQ _ _ _ hi,h0 i hi];have:=qyK h r hi (t:=1+k) zo;show hd (jm l r) (3+29 * i+k)=_;rw[show 3+29 * i+k=2+29 * i+(1+k) by omega,this,T9 hi];unfold tu Ms;rw[show 1+k=k+1 by omega,List.getD_cons_succ,getD_eq_getElem?_getD,List.getElem?_map,getD_eq_getElem?_getD];have h2:=h.ln l[i] (getElem_mem hi);rw[Yh zo];try rfl
end Go.Proofs.Y.Lb
namespace Go.GL
open Go.RowKit
variable{b ka:Nat}{el kt t:TypeId}{kd:IntKind}{n:Int}
def fN(es:Array MapEntry)(L:List Int):Prop:=es.toList.map (λe=>(e.key,e.val))=L.map λn=>(Value.int .i64 n,Value.bool true)
theorem OW(kd:IntKind)(n:Int):∀ (l:List MapEntry) (L:List Int),l.map (λe=>(e.key,e.val))=L.map (λn=>(Value.int .i64 n,Value.bool true))->∀ i,(n∈L->∃ j,Instr.findNow (.int kd) (.int .i64 n) l i=some (some (j,.bool true)))/\(n ∉ L->Instr.findNow (.int kd) (.int .i64 n) l i=some none)
 |[],[],_,i=>⟨λh=>(List.not_mem_nil h).elim,λ_=>rfl⟩
 |[],_::_,h,_=>by cases h
 |_::_,[],h,_=>by cases h
 |e::l,m::L,h,i=>by
  rw[yd,yd,List.cons.injEq,Prod.mk.injEq] at h;obtain⟨⟨h1,h2⟩,h3⟩:=h;have ih:=OW kd n l L h3 (i+1);have hs:Instr.sameNow (.int kd) (.int .i64 n) e.key=some (n == m):=by rw[h1];simp[Instr.sameNow]
  rw[Instr.findNow,hs];by_cases g:n=m;have gb:(n == m)=true:=by rw[g];exact beq_self_eq_true m
  rw[gb];exact⟨λ_=>⟨i,by rw[h2]⟩,λhn=>absurd (by rw[g];exact List.mem_cons_self ..) hn⟩;have gb:(n == m)=false:=by simp[g]
  rw[gb];refine⟨λhm=>ih.1 ?_,λhn=>ih.2 λhm=>hn (Oc _ hm)⟩;rcases Dc.1 hm with e1|e1;exact absurd e1 g;exact e1
section
variable{C:Ctx}{e:Env}{H:Heap}{dst:Option Nat}{ty:TypeId}{ra:String}{ua:Array Edge}{g:Option (Nat×Bool)}{K:LV->Heap->Prop}{X:List PanicEntry->Heap->Prop}{x y:Operand}
theorem S.NL(ht:C.P.underlying t=some (.map kt el))(Vf:C.P.underlying kt=some (.int kd)){es:Array MapEntry}{L:List Int}{F:Heap}{m z:Operand}(hm:e.ev m=.atom (.map (some b)))(hx:e.ev x=int .i64 n)(hz:e.ev z=bool true)
  (hp:xd (b,.obj (.map es ka)) H F) (hs:fN es L) (hn:n ∉ L) (hk:∀ Am mc,fN Am (L++[n])->K (.atom undef) ((b,.obj (.map Am mc))::F)):ab C ⟨dst,.mapUpdate t m x z,ty,ra,ua,g⟩ e H K X:=
 λρ w L' h hH=>(S.di (dst:=dst) (ty:=ty) (ra:=ra) (ua:=ua) (g:=g) (X:=X) (K:=K) ht Vf hm hx hz hp ((OW kd n es.toList L hs 0).2 hn) rfl (hk _ _ (by
  unfold fN at hs ⊢;rw[Array.toList_push,Te,hs,Te];rfl))) ρ w L' h hH
theorem Pure.ML(ht:C.P.underlying t=some (.map kt el))(Vf:C.P.underlying kt=some (.int kd)){es:Array MapEntry}{L:List Int}(hm:e.ev x=.atom (.map (some b)))(hx:e.ev y=int .i64 n)
  (hb:(b,ja.obj (.map es ka))∈H) (hs:fN es L) (hn:n∈L):Pure C ⟨dst,.lookup t x y false,ty,ra,ua,g⟩ e H (bool true):=by
 obtain⟨j,hj⟩:=(OW kd n es.toList L hs 0).1 hn;exact Pure.QG ht Vf hm hx hb hj
theorem Pure.ZG(ht:C.P.underlying t=some (.map kt el))(Vf:C.P.underlying kt=some (.int kd)){es:Array MapEntry}{L:List Int}(hz:∀ w,(zeroValue el).run C.P w=.ok (.bool false) w)(hm:e.ev x=.atom (.map (some b)))(hx:e.ev y=int .i64 n)
  (hb:(b,ja.obj (.map es ka))∈H) (hs:fN es L) (hn:n ∉ L):Pure C ⟨dst,.lookup t x y false,ty,ra,ua,g⟩ e H (bool false):=λρ w L' h hH=>by
 obtain⟨_,_,_,Kd,_⟩:=hH.Bc _ hb;simp only at Kd;refine⟨.bool false,Ld,λw' ha=>?_⟩;have hw:w'.heap[b]? = some (.map es ka):=(ha.1 _ hb).trans Kd;have h3:execOp ρ ⟨dst,.lookup t x y false,ty,ra,ua,g⟩=(do Pure.pure (.value (<-Instr.lookup t (ρ x) (ρ y) false))):=rfl;have hg:(getObj b).run C.P w'=.ok (.map es ka) w':=by simp only[getObj,Sem.run,hw]
 rw[h3,nc h hm,nc h hx];have xJ:(Instr.findKey kt (.int .i64 n) es.toList).run C.P w'=.ok none w':=by simp only[Instr.findKey,Lc,Fe Vf,jd,(OW kd n es.toList L hs 0).2 hn,Xd]
 have hc:=DR (P:=C.P) (n:=n) (k:=.i64) Vf;simp only[Instr.lookup,Lc,Fe ht,jd,hg,Xd,hc,xJ,hz];rfl
end
end Go.GL
namespace Go.Proofs.Y.Lb
open Go.GL Go.RowKit Go.ia
open nj (u32 Vq rB)
open Go.ia.Wi.Wc.Q.Er (hd tk ll Tl z0 Zj jg)
open Go.ia.Wi.Wc.Q.Lb (Ux od oc)
theorem qxM{l:List Sh}{i:Nat}(hi:i<l.length)(n r:Nat):(([n,r]++(l.take (i+1)).flatMap tu).map u32:List LV)=([n,r]++(l.take i).flatMap tu).map u32++[u32 l[i].1.toNat]++(Ms l[i].2).map u32:=by rw[List.take_succ_eq_append_getElem hi,List.flatMap_append,flatMap_cons,List.flatMap_nil,ue,<-Yc,Te,Yc];rfl
theorem qsD:∀ l:List Nat,((l.map u32).flatMap LV.cells).all Vs=true
 |[]=>rfl
 |a::l=>by rw[yd,flatMap_cons,List.all_append,qsD l];rfl
attribute [local irreducible] Ea kb ab ca Go.GL.Pure Ie pf ke LQ Rb oi Nj LS
variable{B0:Nat}{w0:World}
theorem qiX(hG:Pp.GW B0 w0)(l:List Sh)(r:Nat)(wO:r<256):ca (KC B0 w0) 3 [.list (l.map tC),b8 r] [] (Ub (bool true)):=by
 have TD:=qrz (B0:=B0) (w0:=w0) hG;have ma:(l.map tC).length=l.length:=Mb _;have mu:∀ i (hi:i<l.length),(l.map tC)[((i:Nat):Int).toNat]? = some (tC l[i]):=λi hi=>by rw[Int.toNat_natCast,List.getElem?_map,Yh hi];rfl
 have Tf:mr l->0<l.length->l.length<=8->∃ (want:List UInt8) (K:Nat),ca (KC B0 w0) 7 [.list (l.map tC),int .i64 l.length,int .i64 (r % 15:Nat)] [] (Ub (.tuple [str want,int .i64 0]))/\ca (KC B0 w0) 8 [.list (([l.length,r % 15]++l.flatMap tu).map u32),int .i64 (10000000:Nat),.list (NO.map str)] [] (Ub (.agg [str want,int .i64 0,int .i64 (K:Nat)])):=λh h0 h8=>by have nH:r % 15<15:=mod_lt _ ea;obtain⟨code,p1,p2⟩:=qzE;have Ka:=U9 h (show r % 15<256 by omega) (show l.length<256 by omega);obtain⟨K,hK⟩:=p2 (jm l (r % 15)) l.length (r % 15) rfl rfl zo zo Ka (by rw[qth h];exact Pb _);rw[qBX h h8 nH] at hK;have hx:=qAE hG p1 (Ia:=jm l (r % 15)) (λv hv=>by have:=Ka v hv;omega) (N:=10000000) ea ea hK;have hb:=qm5 (B0:=B0) (w0:=w0) (sC l) (qBR l) (UF l) (qBL l) l.length h0 zo (qxU h) (r % 15) zo;rw[<-qAs h] at hb;exact⟨_,K,hb,hx⟩
 have EO:=λ(i:Nat) (hi:i<l.length) (h28:l[i].2.length=28)=>qiR (B0:=B0) (w0:=w0) l[i].2 zo;have nH:(r:Int).tmod 15=((r % 15:Nat):Int):=rfl;have Tm:r % 15<15:=mod_lt _ ea;generalize hR:r % 15=R at Tf nH Tm;generalize l.map tC=cj at *;have er:IntKind.i64.wrap (r:Int)=(r:Int):=cA zo;unfold b8;refine jb Tryz.func3 rfl (n:=97) rfl rfl rfl ?_;refine Ep ?_;refine oS (sF [] rfl TD ?_);refine Ra ?_;refine oC rfl (λhc=>by cases hc) λ_=>?_;refine xa ?_;refine oB 18 rfl (λ_=>?_) λh1=>?_;refine Aa ?_;refine oC rfl (λ_=>?_) (λh=>by cases h);refine Ak ?_;exact qb rfl (eb rfl) rfl
 have h8:cj.length<=8:=by have h:¬ ((cj.length:Nat):Int) > 8:=zf h1;omega
 refine Aa ?_;refine Oa (λ_=>?_) λh2=>?_;refine Ak ?_;exact qb rfl (eb rfl) rfl
 have h0:0<cj.length:=by have h:¬ ((cj.length:Nat):Int)=0:=zf h2;omega
 have e1:IntKind.u32.wrap ((cj.length:Nat):Int)=((l.length:Nat):Int):=by rw[Vq];omega
 have e2:IntKind.u32.wrap ((R:Nat):Int)=((R:Nat):Int):=by rw[Vq];omega
 have eL:([int .u32 (IntKind.u32.wrap ((cj.length:Nat):Int)),int .u32 (IntKind.u32.wrap ((R:Nat):Int))]:List LV)=([l.length,R]:List Nat).map u32:=by rw[e1,e2];rfl
 refine xa ?_;refine qa (Pure.to (Pure.kK (k:=.i64) (a:=(r:Int)) (b:=15) (qf er) rfl ea) (qf nH))<|xa ?_;refine oS (S.tA (s:=1) (es:=([l.length,R]:List Nat).map u32) [_,_] (by exact eL) (Qd rfl rfl (Qd rfl rfl pj)) rfl rfl rfl λb1=>?_);refine xa ?_;refine oS (S.makeMap λbm=>?_);refine wa ?_
 refine oL (λq sl H=>∃ (i:Nat) (v:LV) (HA:Heap) (es:Array MapEntry) (ka:Nat),i<=l.length/\q=l.length-i/\Acc 1 v (([l.length,R]++(l.take i).flatMap tu).map u32) HA []/\fN es ((l.take i).map (·.1))/\mr (l.take i)/\sl=[(0,.list cj),(5,int .i64 (R:Nat)),(6,v),(7,.atom (.map (some bm))),(33,.list cj),(34,int .i64 cj.length),(35,int .i64 i)]/\H=(bm,.obj (.map es ka))::HA)
  ⟨_,_,_,⟨0,.app b1 2 1 (([l.length,R]:List Nat).map u32),[(b1,.row 2)],#[],0,Nat.zero_le _,rfl,Acc.row,rfl,⟨λs h=>by simp at h,λs h=>by simp at h,List.nodup_nil⟩,rfl,rfl⟩,Kb,bc _⟩ ?_
 rintro q sl H ⟨i,v,HA,es,ka,hi,rfl,Eb,yt,Kc,rfl,rfl⟩ j1 Me;refine wh ?_;refine Oa (λhc=>?_) λhc=>?_
 ·have Ka:i<l.length:=by
   have h:(i:Int)<((cj.length:Nat):Int):=zt hc;omega
  have hg:=mu i Ka;have HX:=EO i Ka;have hT:=qxM Ka l.length R;have dv:(l.take (i+1)).map (·.1)=(l.take i).map (·.1)++[l[i].1]:=by rw[List.take_succ_eq_append_getElem Ka,Te];rfl
  have jq:0<=l[i].1->l[i].1<15->l[i].2.length=28->l[i].1 ∉ (l.take i).map (·.1)->mr (l.take (i+1)):=λh1 h2 h3 h4=>by rw[List.take_succ_eq_append_getElem Ka];refine⟨λs hs=>?_,λs hs=>?_,?_⟩;rcases xj hs with hs|hs;exact Kc.ix s hs;rw[aj hs];exact⟨h1,h2⟩;rcases xj hs with hs|hs;exact Kc.ln s hs;rw[aj hs];exact h3;rw[Te];refine List.nodup_append.2 ⟨Kc.nd,by simp,λa ha b hb=>?_⟩;intro e;rw[aj hb] at e;have e:a=l[i].1:=e;rw[e] at ha;exact h4 ha
  have Y7:(([l.length,R]++(l.take i).flatMap tu).map u32).length<=1000:=by rw[Mb,Ga,R0 _ Kc.ln,List.length_take];simp only[Ma,qc];omega
  generalize l[i]=sh at *;obtain⟨ix,da⟩:=sh;simp only at HX hT dv jq;generalize ([l.length,R]++(l.take i).flatMap tu).map u32=A at Eb hT Y7;generalize (l.take i).map (·.1)=L at yt dv jq;refine Zi ?_;refine qa (xR (es:=cj) (Ud:=tC (ix,da)) (cs:=[int .i64 ix,str da]) rfl rfl zo hg rfl rfl)<|Ra ?_;refine oS (Sd λb9=>?_);refine xa ?_;refine oB 42 rfl (λ_=>?_) λcH=>?_;rotate_left
  have cH:0<=ix:=by have h:¬ ix<0:=zf cH;omega
  refine Ra ?_;refine oB 47 rfl (λ_=>?_) λKd=>?_;rotate_left
  have Kd:ix<15:=by have h:¬ ix ≥ 15:=zf Kd;omega
  refine Ra ?_;refine oB 53 rfl (λ_=>?_) λme=>?_;rotate_left
  have me:da.length=28:=by refine Decidable.byContradiction λh=>?_;rw[decide_eq_false (show ¬ ((da.length:Nat):Int)=28 by omega)] at me;cases me
  refine Aa ?_;by_cases Uy:ix∈L;refine qa (Pure.ML (kt:=3) (el:=4) (kd:=.i64) zk zk rfl rfl Xh yt Uy)<|Aa ?_;refine oC rfl (λ_=>?_) (λh=>by cases h);refine wa ?_;exact qb Me (eb rfl) rfl;refine qa (Pure.ZG (kt:=3) (el:=4) (kd:=.i64) zk zk (λw=>rfl) rfl rfl Xh yt Uy)<|Aa ?_;refine oC rfl (λh=>by cases h) λ_=>?_;have oH:=jq cH Kd me Uy;have HX:=HX me
  have e3:int .u32 (IntKind.u32.wrap ix)=u32 ix.toNat:=by unfold u32;rw[Vq];congr 1;omega
  refine wa ?_;refine oS (S.NL (kt:=3) (el:=4) (kd:=.i64) zk zk rfl rfl rfl Vd yt Uy λAm mc kJ=>?_);rw[<-dv] at kJ;obtain⟨M,hM⟩:∃ M:Nat×ja,M=(bm,.obj (.map Am mc)):=⟨_,rfl⟩;have bF:∀ X:Heap,HSub [(b9,ja.cells 28 [int .i64 ix,str da])] (X++[M,(b9,ja.cells 28 [int .i64 ix,str da])]):=λX=>⟨X++[M],by simpa using (Lh (l₁:=X++[M]) (l₂:=[(b9,ja.cells 28 [int .i64 ix,str da])]))⟩;rw[<-hM];refine Ad ?_;refine cD (m:=11) rfl [(b9,.cells 28 [int .i64 ix,str da])]<|aT 0 rfl rfl (Cc (lv:=v) rfl)<|aT 1 rfl rfl (pF rfl)<|aT 2 rfl rfl (pL (c:=int .i64 ix) rfl xc rfl)<|aT 3 rfl rfl (Pure.to (Pure.nE rfl) e3)<|aT 6 rfl rfl (pF rfl)<|aT 7 rfl rfl (pL (c:=str da) rfl xc rfl)<|aL ?_ ⟨M::HA,yq _ _ _⟩;refine lO 4 (lS (H1:=[]) (F:=M::(b9,ja.cells 28 [int .i64 ix,str da])::HA) rfl (.inl rfl) rfl dc ⟨M::HA,yq _ _ _⟩ (sL [_] (es:=[u32 ix.toNat]) rfl (Qd rfl rfl pj) rfl rfl rfl ?_));refine lO 5 (lS (H1:=HA) (F:=[M,(b9,ja.cells 28 [int .i64 ix,str da])]) rfl (.inl rfl) rfl (Lh (l₁:=[M,(b9,ja.cells 28 [int .i64 ix,str da])]) (l₂:=HA)) (bF []) (S.acc (F:=[]) rfl Eb rfl (by simp[LV.cells,u32]) rfl (by simp only[Ma,qc];omega) λv1 H1 Ch=>?_));refine lO 8 (lS (H1:=[]) (F:=H1++[M,(b9,ja.cells 28 [int .i64 ix,str da])]) rfl (.inl rfl) rfl dc (bF H1) (sF [_] rfl HX ?_))
  refine lO 9 (lS (H1:=H1) (F:=[M,(b9,ja.cells 28 [int .i64 ix,str da])]) rfl (.inl rfl) rfl dc (bF []) (S.acc (F:=[]) rfl Ch rfl (λw hw=>by
   obtain⟨y,_,rfl⟩:=Ni hw;rfl) (qsD _) (by simp only[Ga,Ma,qc,Mb,Ms];omega) λv2 H2 ud=>?_))
  refine lO 10 (Nj.pure rfl rfl (bF H2) (pA (lv:=v2) rfl) ?_);refine lD zk ?_;refine zm ?_;refine⟨_,_,_,by omega,⟨i+1,v2,H2,Am,mc,by omega,rfl,by rw[hT];exact ud,kJ,oH,rfl,rfl⟩,Kb,⟨[(b9,ja.cells 28 [int .i64 ix,str da])],?_⟩,Me⟩;rw[<-hM];simp;all_goals
   refine Aa ?_;refine oC rfl (λ_=>?_) (λh=>by cases h);refine wa ?_;exact qb Me (eb rfl) rfl
 have Wg:i=l.length:=by have h:¬ (i:Int)<((cj.length:Nat):Int):=zf hc;omega
 subst Wg;rw[List.take_length] at Eb Kc;obtain⟨want,K,hb,hx⟩:=Tf Kc zo zo;rw[<-ma] at hb;generalize ([l.length,R]++l.flatMap tu).map u32=ins at Eb hx;refine kb.sub (d:=6) (v:=v) rfl Eb.sub ?_;refine wa ?_;refine oS (sF [_,_,_] rfl hb ?_);refine wa ?_;refine oS (sL (s:=1) (es:=NO.map str) [_,_,_,_,_,_,_] rfl (Zv NO) rfl rfl rfl<|oS (sF [_,_,_] rfl hx ?_));refine oS (Sd λb4=>?_);refine xa ?_;exact qb Me (eb rfl) (Re (Dg rfl))
end Go.Proofs.Y.Lb
namespace Go.Proofs.YtafdodhkoihlhaaGreatDoor
open Go.Proofs.Y
open Go.ChangeShapes Go.WideShapes Go.ChangeAt Go.RowKit
variable{W:World}
theorem own:ownKnob Tryz.prog.godebug=none:=zk
def nO : List (String × DataW Unit) := [("math/bits.deBruijn32tab", Rows.laid_math_bits_deBruijn32tab), ("math/bits.deBruijn64tab", Rows.laid_math_bits_deBruijn64tab), ("internal/strconv.uint64pow10", Rows.laid_internal_strconv_uint64pow10), ("strconv.ErrRange", Rows.laid_strconv_ErrRange), ("strconv.ErrSyntax", Rows.laid_strconv_ErrSyntax)]
theorem qrj(hs:W.ShapedOpen Tryz.prog):8<=W.heap.size:=by
 have h0:(((begin Tryz.prog (λ_ _=>0) default).world.heap[7]?).bind Obj.row?).isSome=true:=by kernel_rfl
 obtain⟨⟨zero,t'⟩,HJ⟩:=zR h0;obtain⟨cs,h1,_⟩:=hs.1 7 zero t' (qg zk) HJ;have:=(Array.getElem?_eq_some_iff.1 h1).1;omega
theorem qlJ(h:laidMetH Tryz.prog nO W)(hs:W.ShapedOpen Tryz.prog):GW 8 W/\8<=W.heap.size:=by
 have h0:laidMet Tryz.prog nO W:=h;have hp : laidMet Tryz.prog [("internal/strconv.uint64pow10", Rows.laid_internal_strconv_uint64pow10)] W := h0.filter (fun x => x.1 == "internal/strconv.uint64pow10");have he : laidMet Tryz.prog [("strconv.ErrRange", Rows.laid_strconv_ErrRange)] W := h0.filter (fun x => x.1 == "strconv.ErrRange");obtain⟨ps,⟨g,t,cs,Ba,p,q,hg,ht,gx,hd,_,_⟩,_⟩:=he;have bz : Tryz.prog.globalNamed "strconv.ErrRange" = some 2 := by kernel_rfl
 obtain rfl:=Option.some.inj (bz.symm.trans hg);have D6:(Tryz.prog.globals[2]?).map (·.type)=some 99:=by kernel_rfl
 obtain rfl:=Option.some.inj (D6.symm.trans ht);obtain⟨ms,GB⟩:∃ ms,Tryz.prog.underlying 99=some (.interface ms):=(inferInstance:Go.GL.Hh Tryz.prog 99).af;refine⟨⟨?_,?_,Pb _⟩,qrj hs⟩;exact Lib.tabIs_of_head (g:=3) (t:=282) (e:=229) (n:=20) (rest:=[]) zk zk zk zk zk zk hp;obtain⟨_,u,v,dz,_,_⟩:=iface_of_trod GB hd;refine⟨u,v,?_⟩;rw[gx];congr 1;exact Array.ext' (by simpa using dz)
theorem qAo{L:Go.GL.Live}(h8:8<=W.heap.size)(h2:∀ b,W.heap.size<=b->L b=0):Go.GL.Ta (KC 8 W) W L []:=
 ⟨Below.refl _ _,trivial,h8,h2,List.nodup_nil,by simp⟩
theorem qzl{f:FuncId}{args:List Go.GL.LV}{vs:List Value}{L:Go.GL.Live}(h:Go.GL.ca (KC 8 W) f args [] (Go.GL.Ub (Go.GL.bool true)))(hr:Go.GL.oa W L args vs)(hR:Go.GL.Ta (KC 8 W) W L []):Calls Tryz.prog f vs.toArray W λe W'=>e=.returned (.bool true)/\Below W.heap.size W W':=by
 refine(h vs W L hr hR).mono ?_;intro e W' he;cases e with
 |returned v=>obtain⟨lv,H',L',h1,h2,h3,h4,_⟩:=he;injection h4 with h4;subst h4;simp only[Go.GL.Fb] at h3;subst h3;exact⟨rfl,h1.os,h1.tape,h1.output,h1.ext.size,λk hk=>h1.block k hk (by simp[Go.GL.keys])⟩
 |panicked ch=>obtain⟨H',L',h1,h2,h3,_⟩:=he;cases h3
 |outgrown=>exact he.elim
theorem qmd{H:Type}{enc:TypeId×Value->H}{P:Program}{f:Func}{s:ChangeSpec}{apart fresh handsOn again:Bool}{W':World}{args:Array Value}{v:Value}{ds gs:List (DataW H)}{before pa pv:List MemPlace}
  (hW:DataW.Whole enc P f.params.toList s.vars apart W args.toList ds gs before)
  (uS:∀ (b:Nat) (sp:Nat->Bool) (hd:Bool),DataW.TrodAll enc P W' b sp hd f.resultTypes.toList (v.resultList f.resultTypes.size) (s.fn H (ds++gs)).results [])
  (mv:∀ sp:Nat->Bool,(∀ p∈before,sp p.block=true)->DataW.TrodAll enc P W' 0 sp true f.params.toList args.toList (s.fn H (ds++gs)).args pa)
  (eJ:∀ sp:Nat->Bool,(∀ p∈before,sp p.block=true)->DataW.TrodVars enc P W' sp s.vars (s.fn H (ds++gs)).vars pv)
  (jo:before=pa++pv) (hb:Below W.heap.size W W')
  (Kc:∀ (j:Nat) (t:TypeId) (r:Value),f.resultTypes[j]? = some t->(v.resultList f.resultTypes.size)[j]? = some r->Value.okWide P W' .any 0 t r) :
  s.post enc P f apart fresh handsOn again W args v W':=by
 have hold:∀ p∈before,(λb=>decide (b<W.heap.size)) p.block=true:=λp hp=>by simpa using hW.lt p hp
 have Ka:=hW.lt;refine⟨ds,gs,before,[],pa,pv,hW,uS _ _ _,mv _ hold,eJ _ hold,World.keptBut_mono (λp hp=>⟨hp,?_⟩) (hb.frame (·∈before)),λ_=>?_⟩;rw[jo,List.mem_append] at hp;exact Or.inr hp;obtain⟨_,_,_,_,_,hz,hn⟩:=hW;refine⟨Kc,_,_,([]++pa)++pv,⟨[]++pa,pv,trodAll_append (mv _ λ_ _=>rfl) (uS _ _ _),eJ _ λ_ _=>rfl,rfl,?_,?_⟩,?_⟩;intro b off hp;have jr:MemPlace.cell b off∈before:=by rw[jo];simpa using hp
 rw[hb.frozen (p:=⟨b,off,none⟩) (Ka _ jr)];exact hz b off jr;intro ha;have:=hn ha;rw[jo] at this;simpa using this;intro p hp _;rw[jo];simpa using hp
noncomputable def low:Nat:=(World.holding Tryz.prog default ⟨#[],#[],[]⟩).heap.size
def CL : List (String × DataW Unit) := [("math/bits.deBruijn32tab", Rows.laid_math_bits_deBruijn32tab), ("math/bits.deBruijn64tab", Rows.laid_math_bits_deBruijn64tab), ("internal/strconv.uint64pow10", Rows.laid_internal_strconv_uint64pow10), ("unicode/utf8.acceptRanges", Rows.laid_unicode_utf8_acceptRanges), ("strconv.ErrRange", Rows.laid_strconv_ErrRange), ("strconv.ErrSyntax", Rows.laid_strconv_ErrSyntax), ("unicode/utf8.first", Rows.laid_unicode_utf8_first)]
theorem qA4(h:laidMetH Tryz.prog CL W):laidMetH Tryz.prog nO W:=by have h0:laidMet Tryz.prog CL W:=h;exact (show laidMet Tryz.prog nO W from h0.filter (fun x => !(x.1 == "unicode/utf8.acceptRanges") && !(x.1 == "unicode/utf8.first")))
noncomputable def xl(os:Os):World:=
 let w0:=World.holding Tryz.prog os ⟨#[.cells #[.string ⟨#[118,97,108,117,101,32,111,117,116,32,111,102,32,114,97,110,103,101]⟩] 296,.cells #[.string ⟨#[105,110,118,97,108,105,100,32,115,121,110,116,97,120]⟩] 296],#[],[]⟩
 let put (h:Array Obj) (g:Nat) (cs:Array Value):Array Obj:=h.modify g fun
  |.cells _ t frozen=>.cells cs t frozen
  |o=>o
 { w0 with heap:=put (put (put (put (put (put (put w0.heap 6 #[.int .u8 0,.int .u8 1,.int .u8 28,.int .u8 2,.int .u8 29,.int .u8 14,.int .u8 24,.int .u8 3,.int .u8 30,.int .u8 22,.int .u8 20,.int .u8 15,.int .u8 25,.int .u8 17,.int .u8 4,.int .u8 8,.int .u8 31,.int .u8 27,.int .u8 13,.int .u8 23,.int .u8 21,.int .u8 19,.int .u8 16,.int .u8 7,.int .u8 26,.int .u8 12,.int .u8 18,.int .u8 6,.int .u8 11,.int .u8 5,.int .u8 10,.int .u8 9]) 7 #[.int .u8 0,.int .u8 1,.int .u8 56,.int .u8 2,.int .u8 57,.int .u8 49,.int .u8 28,.int .u8 3,.int .u8 61,.int .u8 58,.int .u8 42,.int .u8 50,.int .u8 38,.int .u8 29,.int .u8 17,.int .u8 4,.int .u8 62,.int .u8 47,.int .u8 59,.int .u8 36,.int .u8 45,.int .u8 43,.int .u8 51,.int .u8 22,.int .u8 53,.int .u8 39,.int .u8 33,.int .u8 30,.int .u8 24,.int .u8 18,.int .u8 12,.int .u8 5,.int .u8 63,.int .u8 55,.int .u8 48,.int .u8 27,.int .u8 60,.int .u8 41,.int .u8 37,.int .u8 16,.int .u8 46,.int .u8 35,.int .u8 44,.int .u8 21,.int .u8 52,.int .u8 32,.int .u8 23,.int .u8 11,.int .u8 54,.int .u8 26,.int .u8 40,.int .u8 15,.int .u8 34,.int .u8 20,.int .u8 31,.int .u8 10,.int .u8 25,.int .u8 14,.int .u8 19,.int .u8 9,.int .u8 13,.int .u8 8,.int .u8 7,.int .u8 6]) 3 #[.int .u64 1,.int .u64 10,.int .u64 100,.int .u64 1000,.int .u64 10000,.int .u64 100000,.int .u64 1000000,.int .u64 10000000,.int .u64 100000000,.int .u64 1000000000,.int .u64 10000000000,.int .u64 100000000000,.int .u64 1000000000000,.int .u64 10000000000000,.int .u64 100000000000000,.int .u64 1000000000000000,.int .u64 10000000000000000,.int .u64 100000000000000000,.int .u64 1000000000000000000,.int .u64 10000000000000000000]) 5 #[.int .u8 128,.int .u8 191,.int .u8 160,.int .u8 191,.int .u8 128,.int .u8 159,.int .u8 144,.int .u8 191,.int .u8 128,.int .u8 143,.int .u8 0,.int .u8 0,.int .u8 0,.int .u8 0,.int .u8 0,.int .u8 0,.int .u8 0,.int .u8 0,.int .u8 0,.int .u8 0,.int .u8 0,.int .u8 0,.int .u8 0,.int .u8 0,.int .u8 0,.int .u8 0,.int .u8 0,.int .u8 0,.int .u8 0,.int .u8 0,.int .u8 0,.int .u8 0]) 4 (Go.Pinned.utf8FirstZ.map λn:Nat=>Value.int .u8 (n:Int)).toArray) 2 #[.iface 294 (.pointer (some ⟨low,0,none⟩))]) 1 #[.iface 294 (.pointer (some ⟨low+1,0,none⟩))] }
theorem qvn(os:Os)(args:Array Value):laidMet Tryz.prog CL ((xl os).forCall (λ_ _=>0) ⟨#[],args,[]⟩).memory:=
 laidMet_of_run' 8 zk zk
theorem qzR:laidOutB Tryz.prog=true:=zk
def qqH(W:World)(g:Nat)(t:TypeId)(n:Nat)(ts:List TypeId):Prop:=∃ cs,W.heap[g]? = some (.cells cs t)/\cs.size=n/\∀ i v,cs[i]? = some v->∃ u k n,ts[i % ts.length]? = some u/\Tryz.prog.underlying u=some (.int k)/\v=.int k n
theorem quq(hs:W.ShapedOpen Tryz.prog)(g:Nat)(t:TypeId)(n:Nat)(ts:List TypeId)(hg:decide (g<Tryz.prog.globals.size)=true)(h0:(((begin Tryz.prog (λ_ _=>0) default).world.heap[g]?).bind Obj.row?).map (λr=>(r.1.size,r.2))=some (n,t))(hb:Tryz.prog.buildable t=true)(hc:Tryz.prog.cellTypes Tryz.prog.depth t=some ts)
  (Tf:(ts.all λu=>match Tryz.prog.underlying u with|some (.int _)=>true|_=>false)=true):qqH W g t n ts:=by
 obtain⟨⟨zero,t'⟩,HJ,h1⟩:=Option.map_eq_some_iff.1 h0;simp only[Prod.mk.injEq] at h1;obtain⟨rfl,rfl⟩:=h1;obtain⟨cs,h1,h2,h3⟩:=hs.1 g zero _ (qg hg) HJ;obtain⟨ts',e1,e2,e3⟩:=h3 hb;obtain rfl:=Option.some.inj (hc.symm.trans e1);refine⟨cs,h1,h2,λi v hv=>?_⟩;obtain⟨u,hu,Kc⟩:=e3 i v hv;have:=List.all_eq_true.1 Tf u (List.mem_of_getElem? hu);unfold Cell.ok at Kc;split at this
 rename_i k hk;rw[hk] at Kc;cases v <;> simp only at Kc
 rename_i k' n;exact⟨u,k,n,hu,hk,by rw[Kc.1]⟩;cases this
theorem qAZ(hs:W.ShapedOpen Tryz.prog):qqH W 0 3 1 [3]:=quq hs 0 3 1 [3] zk zk zk zk zk
theorem qBt(hs:W.ShapedOpen Tryz.prog):As.GM W:=by
 obtain⟨cs,h1,h2,h3⟩:=qAZ hs;have h4:0<cs.size:=by omega
 obtain⟨u,k,n,e1,e2,e3⟩:=h3 0 cs[0] (by simp[h4]);have e4:u=3:=by simpa using e1.symm
 subst e4;have e5:Tryz.prog.underlying 3=some (.int .i64):=Tryz.underlying3;rw[e5] at e2;cases e2;exact⟨n,by simp[World.cell?,h1,h4,e3]⟩
open Go.ChangeShapes Go.WideShapes Go.ChangeAt Go.RowKit Go.Deep Go.Joins
