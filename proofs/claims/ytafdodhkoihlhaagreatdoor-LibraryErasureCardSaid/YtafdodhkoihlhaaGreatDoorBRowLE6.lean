import Derived.Shelf.Strings.OnBuilder
import Derived.Shelf.Strings.Trim
import Derived.Shelf.Small.Wraps
import Derived.Shelf.Utf8.RuneCount
import Derived.Shelf.Strconv.Itoa3
import Derived.Shelf.Strconv.ToError
import Derived.Shelf.Strconv.ParseUint10Any
import Derived.Shelf.Strconv.ToErrorRange
import Derived.Shelf.Strconv.ParseUint10At
import Derived.Shelf.Pu.ErrVarParseUint
import Derived.Shelf.Strings.Shaped
import Derived.Shelf.Strings.SplitShaped
import Derived.Shelf.Strings.Runes
import Derived.Shelf.Strings.AsciiSet
import Derived.Shelf.Strings.Explode
import Derived.Shelf.Unicode.DecodeLast
import Derived.Shelf.Strings.BuilderCap
import Derived.Shelf.Slices.Turned
import Derived.Shelf.Slices.Clone
import Derived.Shelf.SlicesE.Clone
import Derived.Lib.AppendIntMem
import Derived.WalkSmall
import Derived.Test.YtafdodhkoihlhaaGreatDoorBRowLE5
set_option linter.unusedVariables false
set_option linter.unusedSimpArgs false
set_option maxRecDepth 100000
set_option maxHeartbeats 0
open Go.GL (zk)
open List (getD_eq_getElem?_getD all_cons drop_one length_drop)
open Nat (zero_le zero_add mod_eq_of_lt lt_irrefl mod_le mod_lt)
namespace Go.ia.Wi.Wc.Q
open Go.Lib
variable{K num v:Nat}{X:List Nm}{n name op:Nm}{vs:List Nat}{x:Ex}
theorem _root_.Go.ia.Wi.Wc.Op.mono{P:Pr}{f:yb}{s s':IS}{K1:Nat}(h:Op P f op num name vs s K v s')(hk:K<=K1):Op P f op num name vs s K1 v s':=by obtain⟨k,h1,h2⟩:=h;exact⟨k,by omega,h2⟩
section
variable{P:Pr}{X:List Nm}{κ:Ks}{Φ:OJ}{f:yb}
theorem qBV(hΦ:oh P X κ Φ){t:Tt}(hd:xi X t.v=true):∀ q,QF Φ f op num name vs t=q->nk q.2.2 ->
  (∀ s,∃ s',Op P f op num name vs (put s t) (if op=tg then (look name κ).getD 0 else 0) q.1 (put s' q.2.1)/\Fr X s s')/\xi X q.2.1.v=true:=by
 intro q hq h;unfold QF at hq;simp only[TT,QT] at hq;by_cases h1:op=Af;rw[zp h1] at hq;subst hq h1;exact⟨λs=>⟨s,(Op.pure rfl).mono (zero_le _),Fr.refl _ _⟩,hd⟩;rw[zn h1] at hq
 by_cases h2:op=bg
 ·rw[zp h2] at hq;subst h2
  cases hl:look (jc f name) t.v with
  |none=>rw[hl] at hq;subst hq;exact h.1.elim
  |some x=>rw[hl] at hq;subst hq;refine⟨λs=>⟨s,?_,Fr.refl _ _⟩,hd⟩;have hp:Op P f bg num name vs (put s t) 0 ((put s t).sc (jc f name)) (put s t):=Op.pure rfl;rw[show(put s t).sc (jc f name)=x by show(look (jc f name) t.v).getD _=x;rw[hl];try rfl] at hp;exact hp.mono (zero_le _)
 rw[zn h2] at hq;by_cases h3:op=Vj
 ·rw[zp h3] at hq;subst h3
  cases hl:look name t.a with
  |none=>rw[hl] at hq;subst hq;exact h.1.elim
  |some p=>
   rw[hl] at hq;subst hq;refine⟨λs=>⟨s,?_,Fr.refl _ _⟩,hd⟩;have Ka:vs.headD 0<p.1:=qg h.1;have ha:=qyD (s:=s) hl
   have hp:Op P f Vj num name vs (put s t) 0 (((put s t).ar name).getD (vs.headD 0) 0) (put s t):=Op.pure (by
    show decide (vs.headD 0<((put s t).ar name).length)=true;rw[ha,Mb,List.length_range];exact Dg Ka)
   rw[show((put s t).ar name).getD (vs.headD 0) 0=p.2 (vs.headD 0) by
    rw[ha,getD_eq_getElem?_getD,List.getElem?_map,List.getElem?_range Ka];try rfl] at hp
   exact hp.mono (zero_le _)
 rw[zn h3] at hq;by_cases h4:op=Ng;rw[zp h4] at hq;subst hq h4;exact⟨λs=>⟨s,(Op.pure rfl).mono (zero_le _),Fr.refl _ _⟩,hd⟩;rw[zn h4] at hq
 by_cases h5:op=yg;rw[zp h5] at hq;subst hq h5;exact⟨λs=>⟨s,(Op.pure rfl).mono (zero_le _),Fr.refl _ _⟩,hd⟩;rw[zn h5] at hq
 by_cases h6:op=tg;rw[zp h6] at hq;subst h6;by_cases n1:name=[105,110];rw[zp n1] at hq;subst n1;cases vs with
 |nil=>subst hq;exact⟨λs=>⟨s,Op.Ia.mono (zero_le _),Fr.refl _ _⟩,hd⟩
 |cons a l=>subst hq;exact h.1.elim
 rw[zn n1] at hq;by_cases n2:name=[111,117,116];rw[zp n2] at hq;subst n2;cases vs with
 |nil=>subst hq;exact h.1.elim
 |cons a l=>
  cases l with
  |nil=>subst hq;exact⟨λs=>⟨s,Op.out.mono (zero_le _),Fr.refl _ _⟩,hd⟩
  |cons b l=>subst hq;exact h.1.elim
 rw[zn n2] at hq;cases hl:look name Φ with
 |none=>rw[hl] at hq;subst hq;exact h.1.elim
 |some e=>rw[hl] at hq;subst hq;obtain⟨_,_,g⟩:=hΦ name e hl;obtain⟨g1,g2⟩:=g f vs t hd h;refine⟨λs=>?_,g2⟩;rw[zp rfl];exact g1 num s
 rw[zn h6] at hq;subst hq;refine⟨λs=>⟨s,?_,Fr.refl _ _⟩,hd⟩
 have hb:Ij op (vs.headD 0) (vs.tail.headD 0)=some (bin op (vs.headD 0) (vs.tail.headD 0)):=qwY λhdv=>by simp only at h;rw[zp hdv] at h;exact qg h.1
 have hp:Op P f op num name vs (put s t) 0 (HP f (put s t) op num name vs) (put s t):=Op.pure (by
  unfold KG;rw[zn h1,zn h2,zn h3,zn h4,zn h5,zn h6,hb];rfl)
 unfold HP at hp;rw[zn h1,zn h2,zn h3,zn h4,zn h5,hb] at hp;exact hp.mono (zero_le _)
theorem TY(k:Nat)(n:Nm)(t:Tt):(xE Φ f (.mk Af k n []) t).1=k/\(xE Φ f (.mk Af k n []) t).2.1=t:=by rw[xE,an];exact⟨rfl,rfl⟩
theorem pZ(h:jX x=true):∃ n,x=.mk Af (Uv x) n []:=by obtain⟨o,k,n,l⟩:=x;have h':(decide (o=Af) && l.isEmpty)=true:=h;rw[Ed,List.isEmpty_iff] at h';exact⟨n,by rw[qg h'.1,h'.2];try rfl⟩
theorem qwF{args:List Ex}{t:Tt}(h:tK op name args (an Φ f args t).2.1=true):nk (QF Φ f op num name (an Φ f args t).1 (an Φ f args t).2.1).2.2:=by
 unfold tK at h;split at h
 ·rename_i x
  rw[Ed,Ed] at h;have ho:=qg h.1.1;obtain⟨n,hx⟩:=pZ h.1.2;have h3:=h.2;subst ho;have e1:(an Φ f [x] t).1=[Uv x]:=by rw[an];simp only;rw[an,hx,(TY _ n t).1];try rfl
  revert h3;generalize (an Φ f [x] t).2.1=t1;intro h3;rw[e1]
  cases hl:look name t1.a with
  |none=>rw[hl] at h3;cases h3
  |some p=>
   rw[hl] at h3;have:QF Φ f Vj num name [Uv x] t1=(match look name t1.a with
    |some p=>(p.2 (Uv x),t1,[decide (Uv x<p.1)=true])
    |none=>(0,t1,[False])):=rfl
   rw[this,hl];exact⟨h3,trivial⟩
 ·rename_i x y
  rw[Ed,Ed] at h;have ho:=qg h.1.1;obtain⟨n,hy⟩:=pZ h.1.2;have h3:=h.2;have e1:(an Φ f [x,y] t).1=[(xE Φ f x t).1,Uv y]:=by rw[an];simp only;rw[an];simp only;rw[an,hy,(TY _ n _).1];try rfl
  generalize (an Φ f [x,y] t).2.1=t1;rw[e1];unfold QF;rw[zn ho.1,zn ho.2.1,zn ho.2.2.1,zn ho.2.2.2.1,zn ho.2.2.2.2.1,zn ho.2.2.2.2.2];show nk (if JH op=true then [decide (Uv y≠0)=true] else []);split;exact⟨h3,trivial⟩;trivial
 cases h
mutual
theorem aV(hΦ:oh P X κ Φ):∀ (x:Ex) (t:Tt),xi X t.v=true->nk (xE Φ f x t).2.2->(∀ s,∃ s',Ev P f x (put s t) (cX κ x) (xE Φ f x t).1 (put s' (xE Φ f x t).2.1)/\Fr X s s')/\xi X (xE Φ f x t).2.1.v=true
 |.mk op num name args,t,hd,h=>by
  rw[xE] at h ⊢;simp only at h ⊢;obtain⟨ha,hb⟩:=LC h;obtain⟨h1,h2⟩:=O9 hΦ args t hd ha;have hc:nk (QF Φ f op num name (an Φ f args t).1 (an Φ f args t).2.1).2.2:=by by_cases hl:tK op name args (an Φ f args t).2.1=true;exact qwF hl;rw[zn hl] at hb;exact hb
  obtain⟨g1,g2⟩:=qBV (f:=f) hΦ h2 _ rfl hc;refine⟨λs=>?_,g2⟩;obtain⟨s1,a1,a2⟩:=h1 s;obtain⟨s2,b1,b2⟩:=g1 s1;refine⟨s2,?_,a2.trans b2⟩;rw[cX];exact Ev.mk a1 b1
theorem O9(hΦ:oh P X κ Φ):∀ (l:List Ex) (t:Tt),xi X t.v=true->nk (an Φ f l t).2.2->(∀ s,∃ s',vq P f l (put s t) (jU κ l) (an Φ f l t).1 (put s' (an Φ f l t).2.1)/\Fr X s s')/\xi X (an Φ f l t).2.1.v=true
 |[],t,hd,_=>by rw[an,jU];exact⟨λs=>⟨s,vq.nil,Fr.refl _ _⟩,hd⟩
 |x::l,t,hd,h=>by rw[an] at h ⊢;simp only at h ⊢;obtain⟨ha,hb⟩:=LC h;obtain⟨h1,h2⟩:=aV hΦ x t hd ha;obtain⟨g1,g2⟩:=O9 hΦ l _ h2 hb;refine⟨λs=>?_,g2⟩;obtain⟨s1,a1,a2⟩:=h1 s;obtain⟨s2,b1,b2⟩:=g1 s1;refine⟨s2,?_,a2.trans b2⟩;rw[jU];exact vq.cons a1 b1
end
mutual
theorem BP(hΦ:oh P X κ Φ):∀ (a:Sm) (t:Tt),xi X t.v=true->nk (xS Φ f a t).2->Sx P X f a t (cS κ a) none (xS Φ f a t).1/\xi X (xS Φ f a t).1.v=true
 |.mk kind name ix val th el,t,hd,h=>by
  rw[xS.eq_def] at h ⊢;simp only at h ⊢;rw[cS];cases val with
  |nil=>exact h.1.elim
  |cons x vr=>
   simp only at h ⊢;have hx:=aV (f:=f) hΦ x t hd;generalize xE Φ f x t=r at h hx ⊢;rw[show(x::vr).headD default=x from rfl];by_cases k1:kind=1
   ·subst k1;rw[zp rfl] at h ⊢;obtain⟨ha,hb⟩:=LC h;obtain⟨h1,h2⟩:=hx ha;refine⟨λs=>?_,quF _ _ h2⟩;obtain⟨s1,a1,a2⟩:=h1 s;refine⟨s1,?_,a2⟩
    have xb:look (jc f name) r.2.1.v≠none:=by intro e;rw[e] at hb;exact hb.1
    have q:=St.pz (P:=P) (f:=f) (name:=name) (ix:=ix) (vr:=vr) (th:=th) (el:=el) a1;have e:Yf (put s1 r.2.1) (jc f name) r.1=put s1 { r.2.1 with v:=rep (jc f name) r.1 r.2.1.v }:=by
     refine mG (λj=>?_) (λ_=>rfl) rfl rfl rfl;show(if j=jc f name then r.1 else (look j r.2.1.v).getD (s1.sc j))=(look j (rep (jc f name) r.1 r.2.1.v)).getD (s1.sc j);rw[D0 _ _ _ _ xb];by_cases hj:j=jc f name
     ·rw[zp hj,zp hj.symm];try rfl
     rw[zn hj,zn (λe=>hj e.symm)]
    rw[e] at q;exact q.mono (by show 8+cX κ x<=8+cX κ x+_;omega)
   rw[zn k1] at h ⊢;by_cases k2:kind=2;subst k2;rw[zp rfl] at h ⊢;rw[zp rfl];cases ix with
   |nil=>exact h.1.elim
   |cons y yr=>
    simp only at h ⊢;have hy:=aV (f:=f) hΦ y r.2.1;have TS:tK Vj name [y] (xE Φ f y r.2.1).2.1=true->∀ p,look name (xE Φ f y r.2.1).2.1.a=some p->(xE Φ f y r.2.1).1<p.1:=by
     intro e p hp;have e':(decide (Vj=Vj) && jX y && (match look name (xE Φ f y r.2.1).2.1.a with
      |some p=>decide (Uv y<p.1)
      |none=>false))=true:=e
     rw[Ed,Ed,hp] at e';obtain⟨n,hn⟩:=pZ e'.1.2;rw[hn,(TY _ n _).1];exact qg e'.2
    generalize xE Φ f y r.2.1=q at h hy TS ⊢;cases hl:look name q.2.1.a with
    |none=>rw[hl] at h;exact h.1.elim
    |some p=>
     rw[hl] at h;simp only at h ⊢;obtain⟨AH,hc⟩:=LC h;obtain⟨ha,hb⟩:=LC AH;obtain⟨h1,h2⟩:=hx ha;obtain⟨g1,g2⟩:=hy h2 hb;refine⟨λs=>?_,g2⟩;obtain⟨s1,a1,a2⟩:=h1 s;obtain⟨s2,b1,b2⟩:=g1 s1;refine⟨s2,?_,a2.trans b2⟩
     have Ka:q.1<p.1:=by by_cases Ka:tK Vj name [y] q.2.1=true;exact TS Ka p hl;rw[zn Ka] at hc;exact qg hc.1
     have z:=St.elem (P:=P) (f:=f) (name:=name) (yr:=yr) (xr:=vr) (th:=th) (el:=el) a1 b1 (by rw[qyD hl,Mb,List.length_range];exact Ka);have e:EY (put s2 q.2.1) name q.1 r.1=put s2 { q.2.1 with a:=rep name (p.1,ik p.2 q.1 r.1) q.2.1.a }:=by rw[qxl s2 q.2.1 name p.1 p.2 q.1 r.1 hl];refine mG (λ_=>rfl) (λj=>?_) rfl rfl rfl;show qz (look j (Rd name _ q.2.1.a)) _=qz (look j (rep name _ q.2.1.a)) _;rw[MQ,D0 _ _ _ _ (by rw[hl];exact λe=>by cases e)]
     rw[e] at z;exact z.mono (by show 9+cX κ x+cX κ y<=9+cX κ x+cX κ y;omega)
   rw[zn k2] at h ⊢;rw[zn k2];by_cases k6:kind=6;subst k6;rw[zp rfl] at h ⊢;obtain⟨h1,h2⟩:=hx h;refine⟨λs=>?_,h2⟩;obtain⟨s1,a1,a2⟩:=h1 s;exact⟨s1,(St.exp a1).mono (by show 8+cX κ x<=8+cX κ x+_;omega),a2⟩;rw[zn k6] at h ⊢
   by_cases k3:kind=3
   ·subst k3;rw[zp rfl] at h ⊢;rw[zp rfl];obtain⟨Z7,hp⟩:=LC h;obtain⟨AH,hc⟩:=LC Z7;obtain⟨ha,hb⟩:=LC AH;obtain⟨h1,h2⟩:=hx ha
    have CS:yn Φ th=true/\yn Φ el=true:=by by_cases e:(yn Φ th && yn Φ el)=true;exact(Ed _ _▸e:yn Φ th=true/\yn Φ el=true);rw[zn e] at hp;exact hp.1.elim
    have a1:=(pU (f:=f) th r.2.1 CS.1).sub (λk hk=>List.mem_append_left (Bf f el).1 hk) λk hk=>List.mem_append_left (Bf f el).2 hk;have a2:=(pU (f:=f) el r.2.1 CS.2).sub (λk hk=>List.mem_append_right (Bf f th).1 hk) λk hk=>List.mem_append_right (Bf f th).2 hk;have b1:=Vh.trans RV.trans (Vh.symm RV.symm a1.1) a2.1;have b2:=Vh.trans RA.trans (Vh.symm RA.symm a1.2.1) a2.2.1
    by_cases hz:r.1=0
    ·obtain⟨g1,g2⟩:=fQ hΦ el r.2.1 h2 (F0 hz hc)
     have e:(⟨vl (Fz r.1) ((Bf f th).1++(Bf f el).1) (xB Φ f th r.2.1).1.v (xB Φ f el r.2.1).1.v,vl (Lp r.1) ((Bf f th).2++(Bf f el).2) (xB Φ f th r.2.1).1.a (xB Φ f el r.2.1).1.a,r.2.1.i,r.2.1.o⟩:Tt)=(xB Φ f el r.2.1).1:=by rw[bQ (se:=Fz _) (λa b _=>by rw[hz];try rfl) b1,bQ (se:=Lp _) (λa b hr=>qxV hz hr) b2,<-a2.2.2.1,<-a2.2.2.2]
     rw[e];refine⟨λs=>?_,g2⟩;obtain⟨s1,c1,c2⟩:=h1 s;obtain⟨s2,d1,d2⟩:=g1 s1;rw[hz] at c1;exact⟨s2,(St.iff c1 d1).mono ga,c2.trans d2⟩
    obtain⟨g1,g2⟩:=fQ hΦ th r.2.1 h2 (F0 hz hb);have e:(⟨vl (Fz r.1) ((Bf f th).1++(Bf f el).1) (xB Φ f th r.2.1).1.v (xB Φ f el r.2.1).1.v,vl (Lp r.1) ((Bf f th).2++(Bf f el).2) (xB Φ f th r.2.1).1.a (xB Φ f el r.2.1).1.a,r.2.1.i,r.2.1.o⟩:Tt)=(xB Φ f th r.2.1).1:=by rw[aQ (se:=Fz _) (λa b _=>KY hz) b1,aQ (se:=Lp _) (λa b _=>qs8 hz a b) b2,<-a1.2.2.1,<-a1.2.2.2]
    rw[e];refine⟨λs=>?_,g2⟩;obtain⟨s1,c1,c2⟩:=h1 s;obtain⟨s2,d1,d2⟩:=g1 s1;exact⟨s2,(St.oO c1 hz d1).mono ga,c2.trans d2⟩
   rw[zn k3] at h;exact h.1.elim
theorem fQ(hΦ:oh P X κ Φ):∀ (b:List Sm) (t:Tt),xi X t.v=true->nk (xB Φ f b t).2->Bx P X f b t (cB κ b) none (xB Φ f b t).1/\xi X (xB Φ f b t).1.v=true
 |[],t,hd,_=>by rw[xB,cB];exact⟨λs=>⟨s,Bl.nil,Fr.refl _ _⟩,hd⟩
 |a::l,t,hd,h=>by rw[xB] at h ⊢;simp only at h ⊢;obtain⟨ha,hb⟩:=LC h;obtain⟨h1,h2⟩:=BP hΦ a t hd ha;obtain⟨g1,g2⟩:=fQ hΦ l _ h2 hb;refine⟨λs=>?_,g2⟩;obtain⟨s1,a1,a2⟩:=h1 s;obtain⟨s2,b1,b2⟩:=g1 s1;refine⟨s2,?_,a2.trans b2⟩;rw[cB];exact Bl.cons a1 b1
end
def FJ(k:Int)(b:List Sm):Bool:=match b with
 |.mk k' _ _ (_::_) _ _::_=>decide (k'=k)
 |_=>false
def Dh(b:List Sm):Ex:=match b with
 |.mk _ _ _ (x::_) _ _::_=>x
 |_=>default
def qv(b:List Sm):List Sm:=match b with
 |.mk _ _ _ _ th _::_=>th
 |_=>[]
def hEl(b:List Sm):List Sm:=match b with
 |.mk _ _ _ _ _ el::_=>el
 |_=>[]
variable{b:List Sm}{t t1 t2 t':Tt}{K K1 K2:Nat}{r:Option Nat}
theorem Bx.mono(h:Bx P X f b t K r t')(hk:K<=K1):Bx P X f b t K1 r t':=λs=>by obtain⟨s',h1,h2⟩:=h s;exact⟨s',h1.mono hk,h2⟩
theorem Bx.nil:Bx P X f [] t 0 none t:=λs=>⟨s,Bl.nil,Fr.refl _ _⟩
theorem Bx.app{c:List Sm}(h:Bx P X f b t K none t1)(g:Bx P X f c t1 K1 r t'):Bx P X f (b++c) t (K+K1) r t':=λs=>by obtain⟨s1,h1,h2⟩:=h s;obtain⟨s2,g1,g2⟩:=g s1;exact⟨s2,Bl.app h1 g1,h2.trans g2⟩
theorem Bx.run(hΦ:oh P X κ Φ)(n:Nat)(t1:Tt)(l:Pf)(e:(xi X t.v,xB Φ f (b.take n) t)=(true,t1,l.map Subtype.val))(k:Bx P X f (b.drop n) t1 K r t'):Bx P X f b t (cB κ (b.take n)+K) r t':=by rw[Prod.mk.injEq,Prod.ext_iff] at e;obtain⟨e1,e2,e3⟩:=e;have h:=(fQ (f:=f) hΦ (b.take n) t e1 (by rw[e3];exact HV l)).1;rw[e2] at h;have:=Bx.app h k;rwa [List.take_append_drop] at this
theorem Bx.fin(hΦ:oh P X κ Φ)(l:Pf)(e:(xi X t.v,xB Φ f b t)=(true,t',l.map Subtype.val)):Bx P X f b t (cB κ b) none t':=by rw[Prod.mk.injEq,Prod.ext_iff] at e;obtain⟨e1,e2,e3⟩:=e;have h:=(fQ (f:=f) hΦ b t e1 (by rw[e3];exact HV l)).1;rwa [e2] at h
theorem gQ(hΦ:oh P X κ Φ)(l:Pf)(e:(xi X t.v,xE Φ f x t)=(true,v,t',l.map Subtype.val)):Ex' P X f x t (cX κ x) v t':=by rw[Prod.mk.injEq,Prod.ext_iff,Prod.ext_iff] at e;obtain⟨e1,e2,e3,e4⟩:=e;have h:=(aV (f:=f) hΦ x t e1 (by rw[e4];exact HV l)).1;rw[e2,e3] at h;exact h
theorem Bx.ret(hΦ:oh P X κ Φ){v:Nat}(l:Pf)(hb:FJ 5 b=true)(e:(xi X t.v,xE Φ f (Dh b) t)=(true,v,t',l.map Subtype.val)):Bx P X f b t (1+cX κ (Dh b)) (some v) t':=λs=>by
 obtain⟨s',h1,h2⟩:=gQ hΦ l e s;refine⟨s',?_,h2⟩;match b,hb with
 |.mk k' _ _ (x::_) _ _::_,hb=>have hk:=qg hb;subst hk;exact Bl.ret (St.ret h1)
theorem qY(el:List Sm):wS 3 el<=18:=by
 cases el with
 |nil=>decide
 |cons _ _=>exact Pb 18
theorem Bx.ZF(hΦ:oh P X κ Φ)(l:Pf)(hb:FJ 5 b=true)(e:(xi X t.v,(xE Φ f (Dh b) t).1,(xE Φ f (Dh b) t).2.2)=(true,v,l.map Subtype.val)):Bx P X f b t (1+cX κ (Dh b)) (some v) (xE Φ f (Dh b) t).2.1:=by rw[Prod.mk.injEq,Prod.mk.injEq] at e;exact Bx.ret hΦ l hb (Prod.ext e.1 (Prod.ext e.2.1 (Prod.ext rfl e.2.2)))
theorem Bx.oO(hΦ:oh P X κ Φ){v:Nat}(l:Pf)(hb:FJ 3 b=true)(e:(xi X t.v,xE Φ f (Dh b) t)=(true,v,t1,l.map Subtype.val))(hv:v≠0)(g:Bx P X f (qv b) t1 K1 none t2)(k:Bx P X f (b.drop 1) t2 K r t'):Bx P X f b t (18+cX κ (Dh b)+K1+K) r t':=λs=>by
 obtain⟨s1,h1,h2⟩:=gQ hΦ l e s;obtain⟨s2,g1,g2⟩:=g s1;obtain⟨s3,k1,k2⟩:=k s2;refine⟨s3,?_,(h2.trans g2).trans k2⟩;match b,hb with
 |.mk k' _ _ (x::_) _ el::_,hb=>have hk:=qg hb;subst hk;refine(Bl.cons (St.oO h1 hv g1) k1).mono ?_;have:=qY el;show wS 3 el+cX κ x+K1+K<=_;show wS 3 el+cX κ x+K1+K<=18+cX κ x+K1+K;omega
theorem Bx.iff(hΦ:oh P X κ Φ)(l:Pf)(hb:FJ 3 b=true){v:Nat}(e:(xi X t.v,xE Φ f (Dh b) t)=(true,v,t1,l.map Subtype.val))(hv:v=0)(g:Bx P X f (hEl b) t1 K1 none t2)(k:Bx P X f (b.drop 1) t2 K r t'):Bx P X f b t (18+cX κ (Dh b)+K1+K) r t':=λs=>by
 subst hv;obtain⟨s1,h1,h2⟩:=gQ hΦ l e s;obtain⟨s2,g1,g2⟩:=g s1;obtain⟨s3,k1,k2⟩:=k s2;refine⟨s3,?_,(h2.trans g2).trans k2⟩;match b,hb with
 |.mk k' _ _ (x::_) _ el::_,hb=>have hk:=qg hb;subst hk;refine(Bl.cons (St.iff h1 g1) k1).mono ?_;have:=qY el;show wS 3 el+cX κ x+K1+K<=18+cX κ x+K1+K;omega
theorem Bx.aS(hΦ:oh P X κ Φ){u:Nat}(l:Pf)(hb:FJ 3 b=true)(e:(xi X t.v,xE Φ f (Dh b) t)=(true,v,t1,l.map Subtype.val))(hv:v≠0)(g:Bx P X f (qv b) t1 K1 (some u) t'):Bx P X f b t (18+cX κ (Dh b)+K1) (some u) t':=λs=>by
 obtain⟨s1,h1,h2⟩:=gQ hΦ l e s;obtain⟨s2,g1,g2⟩:=g s1;refine⟨s2,?_,h2.trans g2⟩;match b,hb with
 |.mk k' _ _ (x::_) _ el::_,hb=>have hk:=qg hb;subst hk;refine(Bl.ret (St.oO h1 hv g1)).mono ?_;have:=qY el;show wS 3 el+cX κ x+K1<=18+cX κ x+K1;omega
def Cd(P:Pr)(X:List Nm)(f:yb)(x:Ex)(t:Tt)(c v:Nat):Prop:=Ex' P X f x t c v t
theorem Cd.of(hΦ:oh P X κ Φ)(l:Pf)(e:(xi X t.v,xE Φ f x t)=(true,v,t,l.map Subtype.val)):Cd P X f x t (cX κ x) v:=gQ hΦ l e
theorem Wx.loop{x:Ex}{th:List Sm}{c:Nat}(S:Nat->Tt)(n:Nat)(c0 d D:Nat->Nat)(hx:∀ i,i<=n->Cd P X f x (S i) c (c0 i))(h1:∀ i,i<n->c0 i≠0)(hs:∀ i,i<n->Bx P X f th (S i) (d i) none (S (i+1)))(hD:∀ i,i<n->d i+18+c+D (i+1)<=D i)(hw:Wx P X f x th (c0 n) (S n) (D n) r t') :
  ∀ j i,i+j=n->Wx P X f x th (c0 i) (S i) (D i) r t'
 |0,i,e=>by
  obtain rfl:i=n:=by omega
  exact hw
 |j+1,i,e=>λs=>by obtain⟨s1,g1,g2⟩:=hs i ga s;obtain⟨s2,k1,k2⟩:=hx (i+1) ga s1;obtain⟨s3,w1,w2⟩:=Wx.loop S n c0 d D hx h1 hs hD hw j (i+1) ga s2;exact⟨s3,(Wh.next (h1 i ga) g1 k1 w1).mono (hD i ga),(g2.trans k2).trans w2⟩
theorem Wx.done{x:Ex}{th:List Sm}{v:Nat}(h:v=0):Wx P X f x th v t 0 none t:=λs=>⟨s,by rw[h];exact Wh.done,Fr.refl _ _⟩
theorem Wx.mono{x:Ex}{th:List Sm}{v:Nat}(h:Wx P X f x th v t K r t')(hk:K<=K1):Wx P X f x th v t K1 r t':=λs=>by obtain⟨s',g1,g2⟩:=h s;exact⟨s',g1.mono hk,g2⟩
theorem Bx.VR{c:Nat}(S:Nat->Tt)(n:Nat)(c0 d D:Nat->Nat)(hb:FJ 4 b=true)(hx:∀ i,i<=n->Cd P X f (Dh b) (S i) c (c0 i))(h1:∀ i,i<n->c0 i≠0)(h0:c0 n=0)(hs:∀ i,i<n->Bx P X f (qv b) (S i) (d i) none (S (i+1)))(hD:∀ i,i<n->d i+18+c+D (i+1)<=D i)(k:Bx P X f (b.drop 1) (S n) K r t') :
  Bx P X f b (S 0) (8+c+D 0+K) r t':=λs=>by
 obtain⟨s1,a1,a2⟩:=hx 0 (zero_le _) s;obtain⟨s2,g1,g2⟩:=Wx.loop S n c0 d D hx h1 hs hD ((Wx.done h0).mono (zero_le _)) n 0 (zero_add _) s1;obtain⟨s3,k1,k2⟩:=k s2;refine⟨s3,?_,(a2.trans g2).trans k2⟩;match b,hb with
 |.mk k' _ _ (x::_) _ _::_,hb=>have hk:=qg hb;subst hk;exact(Bl.cons (St.nY a1 g1) k1).mono ga
theorem qzJ{n i e:Nat}(h:i<n):e+(n-(i+1)) * e<=(n-i) * e:=by
 have:n-i=(n-(i+1))+1:=by omega
 rw[this,Nat.succ_mul];omega
theorem Bx.loop{c d:Nat}(S:Nat->Tt)(n:Nat)(c0:Nat->Nat)(hb:FJ 4 b=true)(hx:∀ i,i<=n->Cd P X f (Dh b) (S i) c (c0 i))(h1:∀ i,i<n->c0 i≠0)(h0:c0 n=0)(hs:∀ i,i<n->Bx P X f (qv b) (S i) d none (S (i+1)))(k:Bx P X f (b.drop 1) (S n) K r t') :
  Bx P X f b (S 0) (8+c+n * (d+18+c)+K) r t':=
 Bx.VR S n c0 (λ_=>d) (λi=>(n-i) * (d+18+c)) hb hx h1 h0 hs (λi hi=>qzJ hi) k
theorem BG{i n:Nat}(hn:n<4294967296)(hi:i<n):td i 1=i+1:=mod_eq_of_lt ga
theorem lI{a b:Nat}(h:a<b):oy a b=1:=by unfold oy;rw[Dg h];try rfl
theorem Uj:oh P X [] []:=λname e h=>by cases h
def xA(g:yb):List Nm:=(g.params++g.locals).map (jc g)
def BE(g:yb)(z:Nm->Nat):List (Nm×Nat):=(g.params++g.locals).map λl=>(jc g l,z (jc g l))
def mL(g:yb):List Nm->List Nat->List (Nm×Nat)->List (Nm×Nat)
 |p::ps,v::vs,l=>mL g ps vs (Rd (jc g p) v l)
 |_,_,l=>l
theorem qnA(g:yb)(s:IS):∀ (ps:List Nm) (vs:List Nat) (t:Tt),Wq g ps vs (put s t)=put s { t with v:=mL g ps vs t.v }
 |[],vs,t=>by cases vs <;> rfl
 |p::ps,[],t=>rfl
 |p::ps,v::vs,t=>by rw[Wq,qzA];exact qnA g s ps vs _
theorem J0{A:Type}(k:Nm):∀ (l m:List (Nm×A)),look k (l++m)=(look k l).or (look k m)
 |[],m=>rfl
 |p::l,m=>by show(if p.1=k then some p.2 else look k (l++m))=(if p.1=k then some p.2 else look k l).or (look k m);rw[J0 k l m];try split <;> rfl
theorem VV{A:Type}{k:Nm}{x:A}:∀ {l:List (Nm×A)},look k l=some x->(k,x)∈l
 |p::l,h=>by unfold look at h;by_cases e:p.1=k;rw[zp e] at h;cases h;rw[<-e];exact List.mem_cons_self ..;rw[zn e] at h;exact Oc _ (VV h)
def sub(Y X:List Nm):Bool:=Y.all λk=>decide (k∈X)
theorem zQ{Y:List Nm}(h:sub Y X=true):∀ k∈Y,k∈X:=λk hk=>qg (List.all_eq_true.mp h k hk)
theorem Ox.of{Y:List Nm}{g:yb}(hg:Xg P name=g)(hn:(decide (name=[105,110]) || decide (name=[111,117,116]) || !sub (xA g) X || !sub Y X || !xi X t.v || !xi X t'.v)=false)
  (h:∀ z:Nm->Nat,∃ t1,Bx P Y g g.body ⟨mL g g.params vs (BE g z++t.v),t.a,t.i,t.o⟩ K r t1/\(sub ((t1.v.take (xA g).length).map (·.1)) X,t1.v.drop (xA g).length,t1.a,t1.i,t1.o)=(true,t'.v,t'.a,t'.i,t'.o)):Ox P X f name vs t K (r.getD 0) t':=λnum s=>by
 simp only[Bool.or_eq_false_iff,Bool.not_eq_false',decide_eq_false_iff_not] at hn;obtain⟨⟨⟨⟨⟨n1,n2⟩,n3⟩,n4⟩,n5⟩,n6⟩:=hn;obtain⟨t1,hB,hE⟩:=h s.sc;rw[Prod.mk.injEq,Prod.mk.injEq,Prod.mk.injEq,Prod.mk.injEq] at hE;obtain⟨hW,JT,Mt,hE3,hE4⟩:=hE;have sM:t1=⟨t1.v.take (xA g).length++t'.v,t'.a,t'.i,t'.o⟩:=by obtain⟨a,b,c,d⟩:=t1;simp only at JT Mt hE3 hE4 ⊢;rw[<-JT,List.take_append_drop,Mt,hE3,hE4]
 generalize t1.v.take (xA g).length=W at hW sM;subst sM;have e1:put s t=put s ⟨BE g s.sc++t.v,t.a,t.i,t.o⟩:=by
  refine mG (λk=>?_) (λ_=>rfl) rfl rfl rfl;show(look k t.v).getD (s.sc k)=(look k (BE g s.sc++t.v)).getD (s.sc k);rw[J0];cases hk:look k (BE g s.sc) with
  |none=>rfl
  |some x=>
   have hm:=VV hk;unfold BE at hm;rw[List.mem_map] at hm;obtain⟨l,hl,he⟩:=hm;rw[Prod.mk.injEq] at he;have F7:k∈X:=by refine zQ n3 k ?_;rw[<-he.1];exact List.mem_map.mpr ⟨l,hl,rfl⟩
   rw[JV F7 n5,<-he.2,he.1];try rfl
 obtain⟨s',h1,h2⟩:=hB s;refine⟨put s' ⟨W,[],[],[]⟩,?_,?_⟩
 ·have e2:put s' ⟨W++t'.v,t'.a,t'.i,t'.o⟩=put (put s' ⟨W,[],[],[]⟩) t':=by
   refine mG (λk=>?_) (λ_=>rfl) rfl rfl rfl;show(look k (W++t'.v)).getD (s'.sc k)=(look k t'.v).getD ((look k W).getD (s'.sc k));rw[J0];cases hk:look k W with
   |none=>rfl
   |some x=>have F7:k∈X:=zQ hW k (List.mem_map.mpr ⟨_,VV hk,rfl⟩);rw[JV F7 n6];try rfl
  rw[<-e2];refine Op.call n1 n2 ?_;rw[hg,e1,qnA];exact h1
 refine⟨λk hk=>?_,h2.2⟩;show(look k W).getD (s'.sc k)=s.sc k
 have:look k W=none:=by
  cases hl:look k W with
  |none=>rfl
  |some x=>exact absurd (zQ hW k (List.mem_map.mpr ⟨_,VV hl,rfl⟩)) hk
 rw[this];exact h2.1 k λe=>hk (zQ n4 k e)
end
theorem iu{a b:Nat}(h:Nat.ble a b=true):a<=b:=Nat.le_of_ble_eq_true h
theorem qyE{P:Pr}{e:Ph}(K:Nat)(hn:n≠[105,110]/\n≠[111,117,116])(h:∀ f vs t,xi X t.v=true->nk (e.cond vs t)->Ox P X f n vs t K (e.val vs t) (e.nx vs t)/\xi X (e.nx vs t).v=true){κ:Ks}{Φ:OJ}(k:oh P X κ Φ):oh P X ((n,K)::κ) ((n,e)::Φ):=λname e' he=>by unfold look at he;by_cases hh:n=name;rw[zp hh] at he;cases he;subst hh;refine⟨hn.1,hn.2,?_⟩;rw[look,zp rfl];exact h;rw[zn hh] at he;rw[look,zn hh];exact k name e' he
theorem quS{X:List Nm}{k:Nm}(hk:k ∉ X)(x:Nat):∀ {l:List (Nm×Nat)},xi X l=true->xi X (Rd k x l)=true
 |[],_=>by unfold Rd xi;rw[all_cons,Ed];exact⟨by rw[decide_eq_false hk];try rfl,rfl⟩
 |p::l,h=>by unfold xi at h;rw[all_cons,Ed] at h;unfold Rd xi;split;rename_i hp;rw[all_cons,Ed];exact⟨by rw[<-hp];exact h.1,h.2⟩;rw[all_cons,Ed];exact⟨h.1,quS hk x h.2⟩
theorem qqP{X:List Nm}{l:List (Nm×Nat)}(h:xi X l=true):∀ {m:List (Nm×Nat)},xi X m=true->xi X (over l m)=true
 |[],_=>h
 |p::m,g=>by unfold xi at g;rw[all_cons,Ed] at g;exact quS (λe=>by rw[Dg e] at g;cases g.1) _ (qqP h g.2)
theorem qrf{A:Type}{k:Nm}{x:A}:∀ {l:List (Nm×A)},look k l=some x->Rd k x l=l
 |[],h=>by cases h
 |p::l,h=>by unfold look at h;unfold Rd;by_cases e:p.1=k;rw[zp e] at h ⊢;cases h;rw[<-e];rw[zn e] at h ⊢;rw[qrf h]
def ZZ(vs:List Nat)(t0:Tt):=(vs,t0.v.map λp=>(p.1,some p.2),t0.a.map λp=>(p.1,some p.2),t0.i,t0.o)
def lL(vs:List Nat)(t0 Hm:Tt)(v:Nat):Ph:=⟨λ_ _=>v,λ_ t=>⟨over t.v Hm.v,over t.a Hm.a,Hm.i,Hm.o⟩,λus t=>[(us,pick t.v (t0.v.map (·.1)),pick t.a (t0.a.map (·.1)),t.i,t.o)=ZZ vs t0],false⟩
abbrev pE(vs:List Nat)(t0:Tt):{ p:Prop // p }:=⟨ZZ vs t0=ZZ vs t0,rfl⟩
theorem qt6{P:Pr}{t0 Hm:Tt}(ho:∀ f,Ox P X f n vs t0 K v Hm)(hn:(n≠[105,110]/\n≠[111,117,116])/\xi X Hm.v=true){κ:Ks}{Φ:OJ}(k:oh P X κ Φ):oh P X ((n,K)::κ) ((n,lL vs t0 Hm v)::Φ):=
 qyE K hn.1 (λf us t hd h=>by
  have h1:(us,pick t.v (t0.v.map (·.1)),pick t.a (t0.a.map (·.1)),t.i,t.o)=ZZ vs t0:=h.1;unfold ZZ at h1;rw[Prod.mk.injEq,Prod.mk.injEq,Prod.mk.injEq,Prod.mk.injEq] at h1;obtain⟨h1,h2,h3,h4,h5⟩:=h1;subst h1;exact⟨(ho f).frame hd (G2 h2) (G2 h3) h4 h5,qqP hd hn.2⟩) k
theorem Ox.sub{P:Pr}{X Y:List Nm}{f:yb}{n:Nm}{vs:List Nat}{t0 Hm:Tt}{K v:Nat}(h:Ox P X f n vs t0 K v Hm)(hs:sub X Y=true):Ox P Y f n vs t0 K v Hm:=λnum s=>by obtain⟨s',h1,h2⟩:=h num s;exact⟨s',h1,h2.sub (zQ hs)⟩
def Xx:List (Nm×Nat)->List (Nat->Nat)->List (Nm×Fa)
 |p::ns,g::fs=>(p.1,(p.2,g))::Xx ns fs
 |_,_=>[]
def uv(a:List (Nm×Fa)):List (Nm×Nat)->List (Nat->Nat)
 |[]=>[]
 |p::ns=>(match look p.1 a with
  |some q=>q.2
  |none=>λ_=>0)::uv a ns
def IU(a:List (Nm×Fa)):List (Nm×Nat)->Bool
 |[]=>true
 |p::ns=>(match look p.1 a with
  |some q=>decide (q.1=p.2)
  |none=>false) && IU a ns
theorem qqS{a:List (Nm×Fa)}:∀ {ns:List (Nm×Nat)},IU a ns=true->(∀ k x,look k (Xx ns (uv a ns))=some x->look k a=some x)/\over a (Xx ns (uv a ns))=a
 |[],_=>⟨λk x e=>(by cases e),rfl⟩
 |p::ns,h=>by
  unfold IU at h;rw[Ed] at h;obtain⟨h1,h2⟩:=qqS h.2;have h3:=h.1;have hp:look p.1 a=some (p.2,match look p.1 a with
   |some q=>q.2
   |none=>λ_=>0):=by
   cases hl:look p.1 a with
   |none=>rw[hl] at h3;cases h3
   |some q=>rw[hl] at h3;rw[<-qg h3]
  refine⟨λk x e=>?_,?_⟩;unfold uv Xx look at e
  by_cases hh:p.1=k;rw[zp hh] at e;cases e;rw[<-hh];exact hp;rw[zn hh] at e;exact h1 k x e;unfold uv Xx over;rw[h2];exact qrf hp
def y5(ns:List (Nm×Nat))(g:List Nat->List (Nat->Nat)->Nat)(c:List Nat->List (Nat->Nat)->Bool):Ph:=⟨λvs t=>g vs (uv t.a ns),λ_ t=>t,λvs t=>[(IU t.a ns && c vs (uv t.a ns))=true],true⟩
theorem qx5{P:Pr}{ns:List (Nm×Nat)}{g:List Nat->List (Nat->Nat)->Nat}{c:List Nat->List (Nat->Nat)->Bool}(hn:n≠[105,110]/\n≠[111,117,116])(h:∀ f vs fs ip op,c vs fs=true->Ox P X f n vs ⟨[],Xx ns fs,ip,op⟩ K (g vs fs) ⟨[],Xx ns fs,ip,op⟩){κ:Ks}{Φ:OJ}(k:oh P X κ Φ):oh P X ((n,K)::κ) ((n,y5 ns g c)::Φ):=
 qyE K hn (λf vs t hd hc=>by
  have hc:=hc.1;rw[Ed] at hc;obtain⟨h1,h2⟩:=qqS hc.1;have q:=(h f vs (uv t.a ns) t.i t.o hc.2).frame hd (λk x e=>by cases e) h1 rfl rfl;rw[h2] at q;exact⟨q,hd⟩) k
theorem qhQ{A:Type}(k:Nm)(c:A):∀ l:List Nm,look k (l.map λx=>(x,c))=if k∈l then some c else none
 |[]=>rfl
 |x::l=>by
  show(if x=k then some c else look k (l.map λx=>(x,c)))=_;rw[qhQ k c l]
  by_cases h:x=k;rw[zp h,zp (by rw[h];exact List.mem_cons_self ..)];rw[zn h];by_cases hm:k∈l;rw[zp hm,zp (Oc _ hm)];rw[zn hm,zn (λe=>(Dc.mp e).elim (λe=>h e.symm) hm)]
theorem qvB(P:Pr)(Ia:List Nat)(ks:List Nm):rr P Ia 0=put (rr P Ia 0) ⟨ks.map λx=>(x,0),P.ba.map λa=>(a.name,(a.size,λ_=>0)),Ia,[]⟩:=by
 refine mG (λk=>?_) (λk=>?_) rfl rfl rfl
 ·show 0=(look k (ks.map λx=>(x,0))).getD 0;rw[qhQ]
  try split <;> rfl
 have key:∀ (l:List Ar) (z:List Nat),(match l.find? λa=>decide (a.name=k) with
  |some a=>List.replicate a.size 0
  |none=>z)=qz (look k (l.map λa=>(a.name,((a.size,λ_=>0):Fa)))) z:=by
  intro l z;induction l with
  |nil=>rfl
  |cons a l ih=>rw[List.find?_cons,yd,look];by_cases h:a.name=k;rw[Dg h,zp h];show List.replicate a.size 0=(List.range a.size).map λ_=>0;rw[List.map_const',List.length_range];rw[decide_eq_false h,zn h];exact ih
 have e:=key P.ba [];show(match P.ba.find? λa=>decide (a.name=k) with
  |some a=>List.replicate a.size 0
  |none=>[])=qz _ (match P.ba.find? λa=>decide (a.name=k) with
  |some a=>List.replicate a.size 0
  |none=>[])
 rw[e];try cases look k (P.ba.map λa=>(a.name,((a.size,λ_=>0):Fa))) <;> rfl
theorem XP{P:Pr}{Ia:List Nat}{Ca:Nat}{r:Option Nat}{t':Tt}(ks:List Nm)(h:Bx P X (Tg P) (Tg P).body ⟨ks.map λx=>(x,0),P.ba.map λa=>(a.name,(a.size,λ_=>0)),Ia,[]⟩ K r t')(hk:K<=Ca):∃ Ba s2,Cg (Sg P Ba (Tg P)) (Tg P).body (rr P Ia Ca)=.ok r s2/\s2.out=t'.o:=by obtain⟨s',h1,_⟩:=h (rr P Ia 0);rw[<-qvB] at h1;obtain⟨Ba,s2,e1,e2⟩:=S9 (h1.mono hk);exact⟨Ba,s2,e1,e2⟩
end Go.ia.Wi.Wc.Q
namespace Go.ia.Wi.Wc.Q.Lb
open Go.Lib
def yk:Nm:=[102,105,120,101,100]
def gj:Nm:=[112,108,101,110]
def Hi:Nm:=[110,115,116,111,114,101]
def Cn:Nm:=[97,114,99,104,105,118,101]
def Nd:Nm:=[103,101,120,112]
def ve:Nm:=[103,108,111,103]
def yf:Nm:=[99,111,100,101,100]
def xk:Nm:=[112,108,97,105,110]
def Mg:Nm:=[99,111,115,116]
def Ac:Nm:=[119,111,114,100]
def cq:Nm:=[115,121,110]
def rj:Nm:=[108,97,109]
def rl:Nm:=[112,114,101,118]
def bq:Nm:=[116,101,109,112]
def cm:Nm:=[111,109,101,103,97]
def ij:Nm:=[112,105,101,99,101]
def ai:Nm:=[115,116,111,114,101]
def jh:Nm:=[98,108,111,99,107]
def Pc:Nm:=[115,104,97,114,101,105,110,100,101,120]
def ag:Nm:=[115,104,97,114,101,97,116]
def NI:Nm:=[103,102,116,97,98,108,101,115]
def lb:Nm:=[105]
def cr:Nm:=[120]
def Un:Nm:=[103,102,109,117,108]
def tl:Nm:=[97]
def Ui:Nm:=[98]
def Du:Nm:=[103,102,100,105,118]
def qou:Nm:=[99,114,99,98,121,116,101]
def Rm:Nm:=[99]
def Uw:Nm:=[116]
def qnq:Nm:=[101,120,116,114,97,99,116]
def Ti:Nm:=[115]
def oA:Nm:=[117]
def TQ:Nm:=[98,114,97,110,99,104]
def Po:Nm:=[100]
def qnI:Nm:=[118,105,116,101,114,98,105]
def qtG:Nm:=[105,110,110,101,114]
def Bp:Nm:=[107]
def E4:Nm:=[115,121,110,100,114,111,109,101,115]
def Jh:Nm:=[106]
def NG:Nm:=[111,107]
def qne:Nm:=[108,111,99,97,116,111,114]
def Qm:Nm:=[110]
def WC:Nm:=[108]
def ct:Nm:=[109]
def G5:Nm:=[102]
def qlg:Nm:=[101,118,97,108,117,97,116,101]
def ZE:Nm:=[118]
def qjZ:Nm:=[109,97,103,110,105,116,117,100,101]
def XC:Nm:=[101]
def qrc:Nm:=[114,101,112,97,105,114]
def iX:Nm:=[121]
def W9:Nm:=[109,97,114,107]
def qm9:Nm:=[117,110,119,101,97,118,101]
def Py:Nm:=[114]
def wL:Nm:=[112]
def qlb:Nm:=[99,104,101,99,107,115,117,109]
def qvy:Nm:=[118,97,108,105,100]
def N':Nm:=[107,101,101,112]
def qpY:Nm:=[100,101,99,111,100,101]
def M':Nm:=[115,99,97,110]
def qwQ:Nm:=[112,105,101,99,101,115]
def Ww:Nm:=[105,110]
def Qh:Nm:=[99,111,109,98,105,110,101]
def ON:List Sm:=[sA lb (eN 0),sA cr (eN 1),sW (eB [60] (eV lb) (eN 255)) [sE Nd (eV lb) (eV cr),sE Nd (eB [43] (eV lb) (eN 255)) (eV cr),sE ve (eV cr) (eV lb),sA cr (eB [42] (eV cr) (eN 2)),sI (eB [62] (eV cr) (eN 255)) [sA cr (eB [94] (eV cr) (eN 285))] [],sA lb (eB [43] (eV lb) (eN 1))]]
def Bd:yb:=⟨NI,[],[lb,cr],ON⟩
def qy4:List Sm:=[sI (eB [124,124] (eB [61,61] (eV tl) (eN 0)) (eB [61,61] (eV Ui) (eN 0))) [sR (eN 0)] [],sR (eE Nd (eB [43] (eE ve (eV tl)) (eE ve (eV Ui))))]
def mg:yb:=⟨Un,[tl,Ui],[],qy4⟩
def qzu:List Sm:=[sI (eB [61,61] (eV tl) (eN 0)) [sR (eN 0)] [],sR (eE Nd (eB [45] (eB [43] (eE ve (eV tl)) (eN 255)) (eE ve (eV Ui))))]
def ng:yb:=⟨Du,[tl,Ui],[],qzu⟩
def qtg:List Sm:=[sA Rm (eB [94] (eV Rm) (eB [42] (eV Ui) (eN 16777216))),sA lb (eN 0),sW (eB [60] (eV lb) (eN 8)) [sA Uw (eB [47] (eV Rm) (eN 2147483648)),sA Rm (eB [42] (eV Rm) (eN 2)),sI (eV Uw) [sA Rm (eB [94] (eV Rm) (eN 79764919))] [],sA lb (eB [43] (eV lb) (eN 1))],sR (eV Rm)]
def Vr:yb:=⟨qou,[Rm,Ui],[lb,Uw],qtg⟩
def qtO:List Sm:=[sA lb (eN 0),sA Ti (eN 0),sW (eB [60] (eV lb) (eN 418)) [sI (eB [124,124] (eB [62] (eE yf (eB [42] (eN 2) (eV lb))) (eN 1)) (eB [62] (eE yf (eB [43] (eB [42] (eN 2) (eV lb)) (eN 1))) (eN 1))) [sR (eN 0)] [],sA oA (eB [94] (eE yf (eB [43] (eB [42] (eN 2) (eV lb)) (eN 1))) (eB [37] (eV Ti) (eN 2))),sI (eB [33,61] (eE yf (eB [42] (eN 2) (eV lb))) (eB [94] (eB [94] (eV oA) (eB [47] (eV Ti) (eN 2))) (eB [37] (eV Ti) (eN 2)))) [sR (eN 0)] [],sE xk (eV lb) (eV oA),sA Ti (eB [43] (eB [42] (eN 2) (eV oA)) (eB [47] (eV Ti) (eN 2))),sA lb (eB [43] (eV lb) (eN 1))],sR (eB [61,61] (eV Ti) (eN 0))]
def Ur:yb:=⟨qnq,[],[lb,Ti,oA],qtO⟩
def qxB:List Sm:=[sA Po (eN 0),sA Rm (eE yf (eB [42] (eN 2) (eV lb))),sI (eB [38,38] (eB [60] (eV Rm) (eN 2)) (eB [33,61] (eV Rm) (eB [94] (eB [94] (eV oA) (eB [47] (eV Ti) (eN 2))) (eB [37] (eV Ti) (eN 2))))) [sA Po (eN 1)] [],sA Rm (eE yf (eB [43] (eB [42] (eN 2) (eV lb)) (eN 1))),sI (eB [38,38] (eB [60] (eV Rm) (eN 2)) (eB [33,61] (eV Rm) (eB [94] (eV oA) (eB [37] (eV Ti) (eN 2))))) [sA Po (eB [43] (eV Po) (eN 1))] [],sR (eV Po)]
def Av:yb:=⟨TQ,[lb,Ti,oA],[Rm,Po],qxB⟩
def qsV:List Sm:=[sE Mg (eN 1672) (eN 0),sE Mg (eN 1673) (eN 100000),sE Mg (eN 1674) (eN 100000),sE Mg (eN 1675) (eN 100000),sA lb (eN 418),sW (eB [62] (eV lb) (eN 0)) [sA lb (eB [45] (eV lb) (eN 1)),sA Ti (eN 0),sW (eB [60] (eV Ti) (eN 4)) [sA tl (eB [43] (eE Mg (eB [43] (eB [43] (eB [42] (eN 4) (eV lb)) (eN 4)) (eB [47] (eV Ti) (eN 2)))) (eC TQ [eV lb,eV Ti,eN 0])),sI (eB [60] (eV lb) (eN 416)) [sA Ui (eB [43] (eE Mg (eB [43] (eB [43] (eB [42] (eN 4) (eV lb)) (eN 6)) (eB [47] (eV Ti) (eN 2)))) (eC TQ [eV lb,eV Ti,eN 1])),sI (eB [60] (eV Ui) (eV tl)) [sA tl (eV Ui)] []] [],sE Mg (eB [43] (eB [42] (eN 4) (eV lb)) (eV Ti)) (eV tl),sA Ti (eB [43] (eV Ti) (eN 1))]],sA Ti (eN 0),sW (eB [60] (eV lb) (eN 418)) [sA oA (eN 0),sI (eB [60] (eV lb) (eN 416)) [sA tl (eB [43] (eE Mg (eB [43] (eB [43] (eB [42] (eN 4) (eV lb)) (eN 4)) (eB [47] (eV Ti) (eN 2)))) (eC TQ [eV lb,eV Ti,eN 0])),sA Ui (eB [43] (eE Mg (eB [43] (eB [43] (eB [42] (eN 4) (eV lb)) (eN 6)) (eB [47] (eV Ti) (eN 2)))) (eC TQ [eV lb,eV Ti,eN 1])),sI (eB [60] (eV Ui) (eV tl)) [sA oA (eN 1)] []] [],sE xk (eV lb) (eV oA),sA Ti (eB [43] (eB [42] (eN 2) (eV oA)) (eB [47] (eV Ti) (eN 2))),sA lb (eB [43] (eV lb) (eN 1))]]
def Rr:yb:=⟨qnI,[],[lb,Ti,tl,Ui,oA],qsV⟩
def qy1:List Sm:=[sI (eB [61,61] (eC qnq []) (eN 0)) [sX (eC qnI [])] [],sA lb (eN 0),sW (eB [60] (eV lb) (eN 52)) [sA Ui (eN 0),sA Bp (eN 0),sW (eB [60] (eV Bp) (eN 8)) [sA Ui (eB [43] (eB [42] (eN 2) (eV Ui)) (eE xk (eB [43] (eB [42] (eN 8) (eV lb)) (eV Bp)))),sA Bp (eB [43] (eV Bp) (eN 1))],sE Ac (eV lb) (eV Ui),sA lb (eB [43] (eV lb) (eN 1))]]
def jz:yb:=⟨qtG,[],[lb,Bp,Ui],qy1⟩
def qo4:List Sm:=[sA NG (eN 1),sA Jh (eN 0),sW (eB [60] (eV Jh) (eN 8)) [sA Ti (eN 0),sA lb (eN 0),sW (eB [60] (eV lb) (eN 52)) [sA Ti (eB [94] (eC Un [eV Ti,eE Nd (eV Jh)]) (eE Ac (eV lb))),sA lb (eB [43] (eV lb) (eN 1))],sE cq (eV Jh) (eV Ti),sI (eV Ti) [sA NG (eN 0)] [],sA Jh (eB [43] (eV Jh) (eN 1))],sR (eV NG)]
def po:yb:=⟨E4,[],[lb,Jh,Ti,NG],qo4⟩
def qt1:List Sm:=[sA lb (eN 0),sW (eB [60] (eV lb) (eN 9)) [sE rj (eV lb) (eN 0),sE rl (eV lb) (eN 0),sA lb (eB [43] (eV lb) (eN 1))],sE rj (eN 0) (eN 1),sE rl (eN 0) (eN 1),sA WC (eN 0),sA ct (eN 1),sA Ui (eN 1),sA Qm (eN 0),sW (eB [60] (eV Qm) (eN 8)) [sA Po (eE cq (eV Qm)),sA lb (eN 1),sW (eB [60,61] (eV lb) (eV WC)) [sA Po (eB [94] (eV Po) (eC Un [eE rj (eV lb),eE cq (eB [45] (eV Qm) (eV lb))])),sA lb (eB [43] (eV lb) (eN 1))],sI (eB [61,61] (eV Po) (eN 0)) [sA ct (eB [43] (eV ct) (eN 1))] [sA G5 (eC Du [eV Po,eV Ui]),sA lb (eN 0),sW (eB [60] (eV lb) (eN 9)) [sE bq (eV lb) (eE rj (eV lb)),sA lb (eB [43] (eV lb) (eN 1))],sA lb (eN 0),sW (eB [60] (eB [43] (eV lb) (eV ct)) (eN 9)) [sE rj (eB [43] (eV lb) (eV ct)) (eB [94] (eE rj (eB [43] (eV lb) (eV ct))) (eC Un [eV G5,eE rl (eV lb)])),sA lb (eB [43] (eV lb) (eN 1))],sI (eB [60,61] (eB [42] (eN 2) (eV WC)) (eV Qm)) [sA WC (eB [45] (eB [43] (eV Qm) (eN 1)) (eV WC)),sA Ui (eV Po),sA ct (eN 1),sA lb (eN 0),sW (eB [60] (eV lb) (eN 9)) [sE rl (eV lb) (eE bq (eV lb)),sA lb (eB [43] (eV lb) (eN 1))]] [sA ct (eB [43] (eV ct) (eN 1))]],sA Qm (eB [43] (eV Qm) (eN 1))],sR (eV WC)]
def Tr:yb:=⟨qne,[],[Qm,WC,ct,Ui,Po,G5,lb],qt1⟩
def qse:List Sm:=[sA ZE (eN 0),sA lb (eN 9),sW (eB [62] (eV lb) (eN 0)) [sA lb (eB [45] (eV lb) (eN 1)),sA ZE (eB [94] (eC Un [eV ZE,eV cr]) (eE rj (eV lb)))],sR (eV ZE)]
def qq:yb:=⟨qlg,[cr],[lb,ZE],qse⟩
def qps:List Sm:=[sA ZE (eN 0),sA lb (eN 8),sW (eB [62] (eV lb) (eN 0)) [sA lb (eB [45] (eV lb) (eN 1)),sA ZE (eB [94] (eC Un [eV ZE,eV cr]) (eE cm (eV lb)))],sA Po (eN 0),sA lb (eN 9),sW (eB [62] (eV lb) (eN 1)) [sA lb (eB [45] (eV lb) (eN 2)),sA Po (eB [94] (eC Un [eC Un [eV Po,eV cr],eV cr]) (eE rj (eV lb)))],sI (eB [61,61] (eV Po) (eN 0)) [sR (eN 0)] [],sR (eC Du [eC Un [eE Nd (eV XC),eV ZE],eV Po])]
def qo:yb:=⟨qjZ,[XC,cr],[lb,ZE,Po],qps⟩
def qw0:List Sm:=[sA yk (eN 0),sI (eC E4 []) [sR (eN 1)] [],sA WC (eC qne []),sI (eB [62] (eV WC) (eN 4)) [sR (eN 0)] [],sA lb (eN 0),sW (eB [60] (eV lb) (eN 8)) [sA Ti (eN 0),sA Bp (eN 0),sW (eB [60,61] (eV Bp) (eV lb)) [sA Ti (eB [94] (eV Ti) (eC Un [eE rj (eV Bp),eE cq (eB [45] (eV lb) (eV Bp))])),sA Bp (eB [43] (eV Bp) (eN 1))],sE cm (eV lb) (eV Ti),sA lb (eB [43] (eV lb) (eN 1))],sA XC (eN 0),sW (eB [60] (eV XC) (eN 52)) [sA cr (eE Nd (eB [45] (eN 255) (eV XC))),sI (eB [61,61] (eC qlg [eV cr]) (eN 0)) [sA iX (eC qjZ [eV XC,eV cr]),sI (eB [61,61] (eV iX) (eN 0)) [sR (eN 0)] [],sE Ac (eB [45] (eN 51) (eV XC)) (eB [94] (eE Ac (eB [45] (eN 51) (eV XC))) (eV iX)),sA yk (eB [43] (eV yk) (eN 1))] [],sA XC (eB [43] (eV XC) (eN 1))],sI (eB [33,61] (eV yk) (eV WC)) [sR (eN 0)] [],sR (eC E4 [])]
def vv:yb:=⟨qrc,[],[WC,lb,Bp,Ti,XC,cr,iX],qw0⟩
def qBl:List Sm:=[sA Po (eN 0),sA Bp (eN 0),sA ct (eN 63912),sW (eB [38,38] (eB [60] (eV Bp) (eN 16)) (eB [60] (eV Po) (eN 3))) [sI (eB [33,61] (eE ij (eB [43] (eV lb) (eV Bp))) (eB [47] (eV ct) (eN 32768))) [sA Po (eB [43] (eV Po) (eN 1))] [],sA ct (eB [37] (eB [42] (eV ct) (eN 2)) (eN 65536)),sA Bp (eB [43] (eV Bp) (eN 1))],sR (eV Po)]
def gE:yb:=⟨W9,[lb],[Bp,Po,ct],qBl⟩
def qvD:List Sm:=[sA Jh (eB [43] (eV lb) (eN 16)),sA Qm (eN 0),sA Py (eN 0),sW (eB [60] (eV Py) (eN 8)) [sA wL (eV Py),sW (eB [60] (eV wL) (eN 836)) [sI (eB [60] (eV Jh) (eV gj)) [sE yf (eV wL) (eE ij (eV Jh)),sI (eB [60] (eE ij (eV Jh)) (eN 2)) [sA Qm (eB [43] (eV Qm) (eN 1))] []] [sE yf (eV wL) (eN 2)],sA Jh (eB [43] (eV Jh) (eN 1)),sA wL (eB [43] (eV wL) (eN 8))],sA Py (eB [43] (eV Py) (eN 1))],sR (eV Qm)]
def Sr:yb:=⟨qm9,[lb],[Jh,Py,wL,Qm],qvD⟩
def qrC:List Sm:=[sA Rm (eN 4294967295),sA lb (eN 0),sW (eB [60] (eV lb) (eN 40)) [sA Rm (eC qou [eV Rm,eE Ac (eV lb)]),sA lb (eB [43] (eV lb) (eN 1))],sR (eB [61,61] (eV Rm) (eB [43] (eB [42] (eB [43] (eB [42] (eB [43] (eB [42] (eE Ac (eN 40)) (eN 256)) (eE Ac (eN 41))) (eN 256)) (eE Ac (eN 42))) (eN 256)) (eE Ac (eN 43))))]
def rq:yb:=⟨qlb,[],[lb,Rm],qrC⟩
def qzt:List Sm:=[sA Bp (eB [47] (eE Ac (eN 7)) (eN 16)),sA ct (eB [37] (eE Ac (eN 7)) (eN 16)),sI (eB [38,38] (eB [33,61] (eE Ac (eN 0)) (eN 66)) (eB [33,61] (eE Ac (eN 0)) (eN 68))) [sR (eN 0)] [],sI (eB [124,124] (eB [124,124] (eB [124,124] (eB [60] (eV Bp) (eN 1)) (eB [62] (eV Bp) (eN 8))) (eB [62] (eV ct) (eN 7))) (eB [62,61] (eE Ac (eN 1)) (eB [43] (eV Bp) (eV ct)))) [sR (eN 0)] [],sI (eB [124,124] (eB [124,124] (eB [33,61] (eE Ac (eN 2)) (eN 0)) (eB [61,61] (eE Ac (eN 3)) (eN 0))) (eB [62] (eE Ac (eN 6)) (eN 28))) [sR (eN 0)] [],sA lb (eE Ac (eN 6)),sW (eB [60] (eV lb) (eN 28)) [sI (eE Ac (eB [43] (eN 12) (eV lb))) [sR (eN 0)] [],sA lb (eB [43] (eV lb) (eN 1))],sR (eN 1)]
def iz:yb:=⟨qvy,[],[lb,Bp,ct],qzt⟩
def qAG:List Sm:=[sI (eB [33,61] (eB [43] (eB [42] (eB [43] (eB [42] (eB [43] (eB [42] (eE Ac (eN 8)) (eN 256)) (eE Ac (eN 9))) (eN 256)) (eE Ac (eN 10))) (eN 256)) (eE Ac (eN 11))) (eV Cn)) [sR (eN 0)] [],sI (eB [61,61] (eV Hi) (eN 1200)) [sR (eN 0)] [],sA lb (eN 0),sW (eB [60] (eV lb) (eN 40)) [sE ai (eB [43] (eB [42] (eN 40) (eV Hi)) (eV lb)) (eE Ac (eV lb)),sA lb (eB [43] (eV lb) (eN 1))],sA Hi (eB [43] (eV Hi) (eN 1)),sR (eN 1)]
def iE:yb:=⟨N',[],[lb],qAG⟩
def qxC:List Sm:=[sI (eB [60] (eC qm9 [eV lb]) (eN 400)) [sR (eN 0)] [],sX (eC qtG []),sI (eB [61,61] (eC qrc []) (eN 0)) [sR (eN 0)] [],sI (eB [61,61] (eC qlb []) (eN 0)) [sR (eN 0)] [],sI (eB [61,61] (eC qvy []) (eN 0)) [sR (eN 0)] [],sX (eC N' []),sR (eN 1)]
def yv:yb:=⟨qpY,[lb],[],qxC⟩
def qAD:List Sm:=[sA lb (eN 0),sW (eB [60,61] (eB [43] (eV lb) (eN 16)) (eV gj)) [sA Qm (eN 1),sI (eB [60] (eC W9 [eV lb]) (eN 3)) [sI (eC qpY [eV lb]) [sA Qm (eN 852)] []] [],sA lb (eB [43] (eV lb) (eV Qm))]]
def fE:yb:=⟨M',[],[lb,Qm],qAD⟩
def qxq:List Sm:=[sA Rm (eC Ww []),sW (eB [33,61] (eV Rm) (eN 4294967295)) [sA gj (eN 0),sW (eB [60] (eV Rm) (eN 3)) [sI (eB [60] (eV gj) (eN 40000)) [sE ij (eV gj) (eV Rm),sA gj (eB [43] (eV gj) (eN 1))] [],sA Rm (eC Ww [])],sX (eC M' []),sA Rm (eC Ww [])]]
def wv:yb:=⟨qwQ,[],[Rm],qxq⟩
def UE:List Sm:=[sA lb (eN 0),sW (eB [60] (eV lb) (eN 28)) [sE jh (eV lb) (eN 0),sA lb (eB [43] (eV lb) (eN 1))],sA lb (eN 0),sW (eB [60] (eV lb) (eV Qm)) [sA tl (eN 1),sA Ui (eN 1),sA Jh (eN 0),sW (eB [60] (eV Jh) (eV Qm)) [sI (eB [33,61] (eV Jh) (eV lb)) [sA tl (eC Un [eV tl,eB [94] (eV Py) (eE Pc (eV Jh))]),sA Ui (eC Un [eV Ui,eB [94] (eE Pc (eV lb)) (eE Pc (eV Jh))])] [],sA Jh (eB [43] (eV Jh) (eN 1))],sA Uw (eC Du [eV tl,eV Ui]),sA Jh (eN 0),sW (eB [60] (eV Jh) (eN 28)) [sE jh (eV Jh) (eB [94] (eE jh (eV Jh)) (eC Un [eV Uw,eE ai (eB [43] (eE ag (eV lb)) (eV Jh))])),sA Jh (eB [43] (eV Jh) (eN 1))],sA lb (eB [43] (eV lb) (eN 1))]]
def Nb:yb:=⟨Qh,[Py,Qm],[lb,Jh,tl,Ui,Uw],UE⟩
def jG:Nm:=[109,97,105,110]
def LR:Nm:=[111,117,116]
def aX(x:Nat):Nat:=if 127<x then (2 * x) ^^^ 285 else 2 * x
def pw:Nat->Nat
 |0=>1
 |i+1=>aX (pw i)
def bX:Nat->Nat->List Nat
 |0,_=>[]
 |n+1,x=>x::bX n (aX x)
def Yj:List Nat:=bX 255 1
theorem J':∀ (n i k:Nat),k<n->(bX n (pw i)).getD k 0=pw (i+k)
 |n+1,i,0,_=>rfl
 |n+1,i,k+1,h=>by show(bX n (pw (i+1))).getD k 0=_;rw[J' n (i+1) k (by omega)];congr 1;omega
theorem lK(k:Nat)(h:k<255):pw k=Yj.getD k 0:=by have:=J' 255 0 k h;rw[zero_add] at this;exact this.symm
theorem qA2:∀ x∈Yj,x<256/\x≠0:=by decide +kernel
theorem qAL(k:Nat)(h:k<255):pw k∈Yj:=by rw[lK k h,getD_eq_getElem?_getD,Yh (show k<Yj.length by rw[show Yj.length=255 by decide +kernel];exact h)];exact List.getElem_mem _
theorem RU(k:Nat)(h:k<255):pw k<256/\pw k≠0:=qA2 _ (qAL k h)
def nF:Nat->Nat->Nat
 |0=>λ_=>0
 |i+1=>ik (ik (nF i) i (pw i)) (i+255) (pw i)
def mF:Nat->Nat->Nat
 |0=>λ_=>0
 |i+1=>ik (mF i) (pw i) i
def lgL:List Nat:=(List.range 256).map λx=>Yj.idxOf x % 255
def lg(x:Nat):Nat:=lgL.getD x 0
def od(j:Nat):Nat:=if j<255 then Yj.getD j 0 else if j<510 then Yj.getD (j-255) 0 else 0
theorem qx2(j:Nat):∀ i,i<=255->nF i j=if j<i then pw j else if 255<=j/\j<255+i then pw (j-255) else 0
 |0,_=>by rw[zn (Nat.not_lt_zero j),zn (by omega)];try rfl
 |i+1,hi=>by show yo (decide (j=i+255)) (pw i) (yo (decide (j=i)) (pw i) (nF i j))=_;rw[Uz,Uz,qx2 j i (by omega)];by_cases e1:j=i+255;rw[zp e1,zn (by omega),zp (by omega),show j-255=i by omega];rw[zn e1];by_cases e2:j=i;rw[zp e2,zp (by omega),e2];rw[zn e2];by_cases e3:j<i;rw[zp e3,zp (by omega)];rw[zn e3,zn (show ¬j<i+1 by omega)];by_cases e4:255<=j/\j<255+i;rw[zp e4,zp (by omega)];rw[zn e4,zn (by omega)]
theorem qAB(j:Nat):nF 255 j=od j:=by rw[qx2 j 255 (Pb _)];unfold od;by_cases h1:j<255;rw[zp h1,zp h1,lK j h1];rw[zn h1,zn h1];by_cases h2:j<510;rw[zp h2,zp (by omega),lK _ (by omega)];rw[zn h2,zn (by omega)]
theorem qBP:∀ i,i<255->lg (Yj.getD i 0)=i:=by decide +kernel
theorem lQ:∀ x,x<256->x≠0->Yj.getD (lg x) 0=x/\lg x<255:=by decide +kernel
theorem qBj(i:Nat)(hi:i<=255)(x:Nat):mF i x=if x<256/\x≠0/\lg x<i then lg x else 0:=by
 induction i with
 |zero=>rw[zn (by omega)];try rfl
 |succ i ih=>
  show yo (decide (x=pw i)) i (mF i x)=_;rw[Uz,ih (by omega)];by_cases e:x=pw i;have hl:lg x=i:=by rw[e,lK i (by omega)];exact qBP i ga
  obtain⟨h1,h2⟩:=RU i ga;rw[zp e,zp ⟨e▸h1,e▸h2,by omega⟩,hl];rw[zn e];by_cases h:x<256/\x≠0/\lg x<i;rw[zp h,zp ⟨h.1,h.2.1,by omega⟩];rw[zn h,zn λg=>?_]
  by_cases hl:lg x=i;have:=(lQ x g.1 g.2.1).1;rw[hl,<-lK i (by omega)] at this;exact e this.symm;exact h ⟨g.1,g.2.1,by omega⟩
def oc(x:Nat):Nat:=if x<256/\x≠0 then lg x else 0
theorem qA0(x:Nat):mF 255 x=oc x:=by rw[qBj 255 (Pb _)];unfold oc;by_cases h:x<256/\x≠0;rw[zp h,zp ⟨h.1,h.2,(lQ x h.1 h.2).2⟩];rw[zn h,zn λg=>h ⟨g.1,g.2.1⟩]
def TG(i x:Nat)(ge gl:Nat->Nat)(ip:List Nat)(op:List UInt8):Tt:=⟨[(ky NI lb,i),(ky NI cr,x)],[(Nd,(512,ge)),(ve,(256,gl))],ip,op⟩
section
variable{P:Pr}
theorem qtR(i:Nat)(hi:i<255)(ip:List Nat)(op:List UInt8):Bx P [] Bd (qv (ON.drop 2)) (TG i (pw i) (nF i) (mF i) ip op) 300 none (TG (i+1) (pw (i+1)) (nF (i+1)) (mF (i+1)) ip op):=by
 obtain⟨hp,_⟩:=RU i hi;have e1:td i 255=i+255:=mod_eq_of_lt ga;have e2:Fz (FU (yi (pw i) 2) 255) (yj (yi (pw i) 2) 285) (yi (pw i) 2)=pw (i+1):=by
  show _=aX (pw i);have e:yi (pw i) 2=2 * pw i:=by unfold yi;omega
  unfold aX FU yj;rw[e];by_cases h:127<pw i
  ·rw[zp h,Dg (show 255<2 * pw i by omega)];try rfl
  rw[zn h,decide_eq_false (show ¬255<2 * pw i by omega)];try rfl
 have h:=Bx.mono (Bx.fin (P:=P) (X:=[]) (f:=Bd) (b:=qv (ON.drop 2)) (t:=TG i (pw i) (nF i) (mF i) ip op) (t':=TG (td i 1) (Fz (FU (yi (pw i) 2) 255) (yj (yi (pw i) 2) 285) (yi (pw i) 2)) (ik (ik (nF i) i (pw i)) (td i 255) (pw i)) (ik (mF i) (pw i) i) ip op) Uj [pb (show i<512 by omega),pb (show td i 255<512 by omega),pb (show pw i<256 from hp)] zk) (K1:=300) (iu zk);rw[BG (n:=255) ea hi,e1,e2] at h;exact h
theorem qwk(hG:Xg P NI=Bd)(g:yb)(ip:List Nat)(op:List UInt8):Ox P (xA Bd) g NI [] ⟨[],[(Nd,(512,λ_=>0)),(ve,(256,λ_=>0))],ip,op⟩ 90000 0 ⟨[],[(Nd,(512,od)),(ve,(256,oc))],ip,op⟩:=by refine Ox.of (r:=none) (Y:=[]) hG zk λz=>⟨TG 255 (pw 255) od oc ip op,?_,zk⟩;have h:=Bx.loop (P:=P) (X:=[]) (f:=Bd) (b:=ON.drop 2) (d:=300) (c:=cX [] (Dh (ON.drop 2))) (λi=>TG i (pw i) (nF i) (mF i) ip op) 255 (λi=>oy i 255) zk (λi _=>Cd.of Uj [] zk) (λi hi=>by rw[lI hi];decide) ea (λi hi=>qtR i hi ip op) (Bx.nil (f:=Bd));rw[show nF 255=od from funext qAB,show mF 255=oc from funext qA0] at h;exact(Bx.run (b:=ON) (f:=Bd) (t1:=TG 0 1 (λ_=>0) (λ_=>0) ip op) Uj 2 [] zk h).mono (iu zk)
def ym(a b:Nat):Nat:=if a=0∨b=0 then 0 else od (oc a+oc b)
def pq(a b:Nat):Nat:=if a=0 then 0 else od (oc a+255-oc b)
def Jv(ge gl:Nat->Nat):List (Nm×Fa):=[(Nd,(512,ge)),(ve,(256,gl))]
theorem qI(x:Nat):oc x<255:=by unfold oc;split;rename_i h;exact(lQ x h.1 h.2).2;decide
theorem qzx(hM:Xg P Un=mg)(f:yb)(ge gl:Nat->Nat)(a b:Nat)(ha:a<256)(hb:b<256)(hl:td (gl a) (gl b)<512)(ip:List Nat)(op:List UInt8):Ox P (xA mg) f Un [a,b] ⟨[],Jv ge gl,ip,op⟩ 200 (if a=0∨b=0 then 0 else ge (td (gl a) (gl b))) ⟨[],Jv ge gl,ip,op⟩:=by
 by_cases h:a=0∨b=0;have hv:cK (py a 0) (py b 0)≠0:=by unfold cK py sf;rcases h with h|h <;> simp[h]
 rw[zp h];exact Ox.of (r:=some 0) (Y:=[]) hM zk λz=>⟨_,Bx.mono (Bx.aS (v:=cK (py a 0) (py b 0)) (t1:=⟨[(ky Un tl,a),(ky Un Ui,b)],Jv ge gl,ip,op⟩) Uj [] zk zk hv (Bx.ZF Uj [] zk zk)) (iu zk),zk⟩
 have hv:cK (py a 0) (py b 0)=0:=by have h1:a≠0:=λe=>h (.inl e);have h2:b≠0:=λe=>h (.inr e);unfold cK py sf;simp[h1,h2]
 rw[zn h];exact Ox.of (r:=some (ge (td (gl a) (gl b)))) (Y:=[]) hM zk λz=>⟨_,Bx.mono (Bx.iff (v:=cK (py a 0) (py b 0)) (t1:=⟨[(ky Un tl,a),(ky Un Ui,b)],Jv ge gl,ip,op⟩) Uj [] zk zk hv Bx.nil (Bx.ZF Uj [pb ha,pb hb,pb hl] zk zk)) (iu zk),zk⟩
theorem qzv(hD:Xg P Du=ng)(f:yb)(ge gl:Nat->Nat)(a b:Nat)(ha:a<256)(hb:b<256)(hl:Co (td (gl a) 255) (gl b)<512)(ip:List Nat)(op:List UInt8):Ox P (xA ng) f Du [a,b] ⟨[],Jv ge gl,ip,op⟩ 200 (if a=0 then 0 else ge (Co (td (gl a) 255) (gl b))) ⟨[],Jv ge gl,ip,op⟩:=by by_cases h:a=0;rw[zp h];exact Ox.of (r:=some 0) (Y:=[]) hD zk λz=>⟨_,Bx.mono (Bx.aS (v:=py a 0) (t1:=⟨[(ky Du tl,a),(ky Du Ui,b)],Jv ge gl,ip,op⟩) Uj [] zk zk (by rw[h];decide) (Bx.ZF Uj [] zk zk)) (iu zk),zk⟩;rw[zn h];exact Ox.of (r:=some (ge (Co (td (gl a) 255) (gl b)))) (Y:=[]) hD zk λz=>⟨_,Bx.mono (Bx.iff (v:=py a 0) (t1:=⟨[(ky Du tl,a),(ky Du Ui,b)],Jv ge gl,ip,op⟩) Uj [] zk zk (by unfold py;rw[decide_eq_false h];try rfl) Bx.nil (Bx.ZF Uj [pb ha,pb hb,pb hl] zk zk)) (iu zk),zk⟩
end
def gw(ge gl:Nat->Nat)(a b:Nat):Nat:=if a=0∨b=0 then 0 else ge (td (gl a) (gl b))
def LO(ge gl:Nat->Nat)(a b:Nat):Nat:=if a=0 then 0 else ge (Co (td (gl a) 255) (gl b))
def gmG(vs:List Nat)(fs:List (Nat->Nat)):Nat:=match vs,fs with
 |[a,b],[ge,gl]=>gw ge gl a b
 |_,_=>0
def gdG(vs:List Nat)(fs:List (Nat->Nat)):Nat:=match vs,fs with
 |[a,b],[ge,gl]=>LO ge gl a b
 |_,_=>0
def F8(vs:List Nat)(fs:List (Nat->Nat)):Bool:=match vs,fs with
 |[a,b],[ge,gl]=>decide (a<256/\b<256/\td (gl a) (gl b)<512)
 |_,_=>false
def G8(vs:List Nat)(fs:List (Nat->Nat)):Bool:=match vs,fs with
 |[a,b],[ge,gl]=>decide (a<256/\b<256/\Co (td (gl a) 255) (gl b)<512)
 |_,_=>false
abbrev nsG:List (Nm×Nat):=[(Nd,512),(ve,256)]
abbrev xG:List Nm:=xA mg++xA ng
abbrev kG:Ks:=[(Un,200),(Du,200)]
abbrev phG:OJ:=[(Un,y5 nsG gmG F8),(Du,y5 nsG gdG G8)]
structure ap(ge gl:Nat->Nat):Prop where
 m:∀ a b,td (gl a) (gl b)<512
 d:∀ a b,Co (td (gl a) 255) (gl b)<512
 e:∀ x,ge x<256
theorem JY{ge gl:Nat->Nat}(h:ap ge gl)(a b:Nat):gw ge gl a b<256:=by unfold gw;split;decide;exact h.e _
theorem qx1{ge gl:Nat->Nat}(h:ap ge gl)(a b:Nat):LO ge gl a b<256:=by unfold LO;split;decide;exact h.e _
abbrev pM{ge gl:Nat->Nat}(h:ap ge gl){a b:Nat}(ha:a<256)(hb:b<256):{ p:Prop // p }:=⟨F8 [a,b] [ge,gl]=true,Dg ⟨ha,hb,h.m a b⟩⟩
abbrev pD{ge gl:Nat->Nat}(h:ap ge gl){a b:Nat}(ha:a<256)(hb:b<256):{ p:Prop // p }:=⟨G8 [a,b] [ge,gl]=true,Dg ⟨ha,hb,h.d a b⟩⟩
section
variable{P:Pr}
theorem MY(hM:Xg P Un=mg)(hD:Xg P Du=ng):oh P xG kG phG:=qx5 ea (λf vs fs ip op hc=>by
 unfold F8 at hc;split at hc;obtain⟨h1,h2,h3⟩:=qg hc;exact(qzx hM f _ _ _ _ h1 h2 h3 ip op).sub zk;cases hc) (qx5 ea (λf vs fs ip op hc=>by
 unfold G8 at hc;split at hc;obtain⟨h1,h2,h3⟩:=qg hc;exact(qzv hD f _ _ _ _ h1 h2 h3 ip op).sub zk;cases hc) Uj)
theorem Bx.dD{X:List Nm}{f:yb}{b:List Sm}{K:Nat}{r:Option Nat}{t':Tt}{c d:Nat}(m:Nat)(S:Nat->Tt)(n:Nat)(hm:n<=m)(c0:Nat->Nat)(hb:FJ 4 b=true)(hx:∀ i,i<=n->Cd P X f (Dh b) (S i) c (c0 i))(h1:∀ i,i<n->c0 i≠0)(h0:c0 n=0)(hs:∀ i,i<n->Bx P X f (qv b) (S i) d none (S (i+1)))(k:Bx P X f (b.drop 1) (S n) K r t') :
  Bx P X f b (S 0) (8+c+m * (d+18+c)+K) r t':=
 (Bx.loop S n c0 hb hx h1 h0 hs k).mono (Nat.add_le_add_right (Nat.add_le_add_left (Nat.mul_le_mul_right _ hm) _) _)
def kp(ge gl si:Nat->Nat)(r i:Nat):Nat->Nat
 |0=>1
 |j+1=>if j=i then kp ge gl si r i j else gw ge gl (kp ge gl si r i j) (yj r (si j))
def Qn(ge gl si:Nat->Nat)(i:Nat):Nat->Nat
 |0=>1
 |j+1=>if j=i then Qn ge gl si i j else gw ge gl (Qn ge gl si i j) (yj (si i) (si j))
theorem dV{ge gl:Nat->Nat}(h:ap ge gl)(si:Nat->Nat)(r i:Nat):∀ j,kp ge gl si r i j<256
 |0=>by unfold kp;decide
 |j+1=>by unfold kp;split;exact dV h si r i j;exact JY h _ _
theorem oQ{ge gl:Nat->Nat}(h:ap ge gl)(si:Nat->Nat)(i:Nat):∀ j,Qn ge gl si i j<256
 |0=>by unfold Qn;decide
 |j+1=>by unfold Qn;split;exact oQ h si i j;exact JY h _ _
def tF(ge gl si:Nat->Nat)(r n i:Nat):Nat:=LO ge gl (kp ge gl si r i n) (Qn ge gl si i n)
def Tx(ge gl st:Nat->Nat)(t o:Nat)(bl:Nat->Nat):Nat->Nat->Nat
 |0=>bl
 |k+1=>ik (Tx ge gl st t o bl k) k (yj (Tx ge gl st t o bl k k) (gw ge gl t (st (td o k))))
def tE(bl:Nat->Nat):Nat->Nat->Nat
 |0=>bl
 |k+1=>ik (tE bl k) k 0
def Ux(ge gl si sa st:Nat->Nat)(r n:Nat)(bl:Nat->Nat):Nat->Nat->Nat
 |0=>tE bl 28
 |i+1=>Tx ge gl st (tF ge gl si r n i) (sa i) (Ux ge gl si sa st r n bl i) 28
def sU(ge gl bl si sa st:Nat->Nat)(ip:List Nat)(op:List UInt8):Tt:=⟨[],[(Nd,(512,ge)),(ve,(256,gl)),(jh,(28,bl)),(Pc,(16,si)),(ag,(16,sa)),(ai,(48000,st))],ip,op⟩
def TC(r n i j a b t:Nat)(ge gl bl si sa st:Nat->Nat)(ip:List Nat)(op:List UInt8):Tt:=⟨[(ky Qh Py,r),(ky Qh Qm,n),(ky Qh lb,i),(ky Qh Jh,j),(ky Qh tl,a),(ky Qh Ui,b),(ky Qh Uw,t)],[(Nd,(512,ge)),(ve,(256,gl)),(jh,(28,bl)),(Pc,(16,si)),(ag,(16,sa)),(ai,(48000,st))],ip,op⟩
abbrev bO:List Sm:=qv (UE.drop 3)
abbrev bJ:List Sm:=qv (bO.drop 3)
abbrev bK:List Sm:=qv (bO.drop 6)
theorem qv6(r n j a b t:Nat)(ge gl bl si sa st:Nat->Nat)(ip:List Nat)(op:List UInt8)(i:Nat)(hi:i<28):Bx P xG Nb (qv (UE.drop 1)) (TC r n i j a b t ge gl (tE bl i) si sa st ip op) 100 none (TC r n (i+1) j a b t ge gl (tE bl (i+1)) si sa st ip op):=by have h:=Bx.mono (Bx.fin (P:=P) (X:=xG) (f:=Nb) (b:=qv (UE.drop 1)) (t:=TC r n i j a b t ge gl (tE bl i) si sa st ip op) (t':=TC r n (td i 1) j a b t ge gl (tE bl (i+1)) si sa st ip op) Uj [pb hi] zk) (K1:=100) (iu zk);rw[BG (n:=28) ea hi] at h;exact h
theorem qwM(hM:Xg P Un=mg)(hD:Xg P Du=ng){ge gl:Nat->Nat}(hT:ap ge gl)(r n t i:Nat)(bl si sa st:Nat->Nat)(hr:r<256)(hs:∀ k,si k<256)(hi:i<16)(ip:List Nat)(op:List UInt8)(j:Nat)(hj:j<16) :
  Bx P xG Nb bJ (TC r n i j (kp ge gl si r i j) (Qn ge gl si i j) t ge gl bl si sa st ip op) 800 none (TC r n i (j+1) (kp ge gl si r i (j+1)) (Qn ge gl si i (j+1)) t ge gl bl si sa st ip op):=by
 have ha:=dV hT si r i j;have hb:=oQ hT si i j;have hx:∀ a b,a<256->b<256->yj a b<256:=λa b h1 h2=>Nat.xor_lt_two_pow (n:=8) h1 h2;show Bx P xG Nb bJ _ 800 none (TC r n i (j+1) (if j=i then kp ge gl si r i j else gw ge gl (kp ge gl si r i j) (yj r (si j))) (if j=i then Qn ge gl si i j else gw ge gl (Qn ge gl si i j) (yj (si i) (si j))) t ge gl bl si sa st ip op);generalize kp ge gl si r i j=A at *;generalize Qn ge gl si i j=B at *
 by_cases h:j=i
 ·rw[zp h,zp h]
  have g:=Bx.mono (Bx.iff (P:=P) (X:=xG) (f:=Nb) (b:=bJ) (t:=TC r n i j A B t ge gl bl si sa st ip op) (t1:=TC r n i j A B t ge gl bl si sa st ip op) Uj [] zk (v:=CP j i) zk (by unfold CP;rw[decide_eq_false λe=>e h];try rfl) Bx.nil
   (Bx.fin (t':=TC r n i (td j 1) A B t ge gl bl si sa st ip op) Uj [] zk)) (K1:=800) (iu zk)
  rw[BG (n:=16) ea hj] at g;exact g
 rw[zn h,zn h];have g:=Bx.mono (Bx.oO (P:=P) (X:=xG) (f:=Nb) (b:=bJ) (t:=TC r n i j A B t ge gl bl si sa st ip op) (t1:=TC r n i j A B t ge gl bl si sa st ip op) Uj [] zk (v:=CP j i) zk (by unfold CP;rw[Dg h];decide)
  (Bx.fin (t':=TC r n i j (gw ge gl A (yj r (si j))) (gw ge gl B (yj (si i) (si j))) t ge gl bl si sa st ip op) (MY hM hD) [pb hj,pM hT ha (hx _ _ hr (hs j)),pb hi,pb hj,pM hT hb (hx _ _ (hs i) (hs j))] zk)
  (Bx.fin (t':=TC r n i (td j 1) (gw ge gl A (yj r (si j))) (gw ge gl B (yj (si i) (si j))) t ge gl bl si sa st ip op) Uj [] zk)) (K1:=800) (iu zk)
 rw[BG (n:=16) ea hj] at g;exact g
theorem qw6(hM:Xg P Un=mg)(hD:Xg P Du=ng){ge gl:Nat->Nat}(hT:ap ge gl)(r n i A B t:Nat)(bl si sa st:Nat->Nat)(ht:t<256)(gk:∀ k,st k<256)(hi:i<16)(ho:sa i<=40000)(ip:List Nat)(op:List UInt8)(k:Nat)(hk:k<28) :
  Bx P xG Nb bK (TC r n i k A B t ge gl (Tx ge gl st t (sa i) bl k) si sa st ip op) 400 none (TC r n i (k+1) A B t ge gl (Tx ge gl st t (sa i) bl (k+1)) si sa st ip op):=by
 have h1:td (sa i) k<48000:=by unfold td;omega
 have g:=Bx.mono (Bx.fin (P:=P) (X:=xG) (f:=Nb) (b:=bK) (t:=TC r n i k A B t ge gl (Tx ge gl st t (sa i) bl k) si sa st ip op) (t':=TC r n i (td k 1) A B t ge gl (Tx ge gl st t (sa i) bl (k+1)) si sa st ip op) (MY hM hD) [pb hk,pb hi,pb h1,pM hT ht (gk (td (sa i) k)),pb hk] zk) (K1:=400) (iu zk);rw[BG (n:=28) ea hk] at g;exact g
theorem RP{ge gl:Nat->Nat}(hT:ap ge gl)(si:Nat->Nat)(r n i:Nat):tF ge gl si r n i<256:=qx1 hT _ _
theorem qvW(hM:Xg P Un=mg)(hD:Xg P Du=ng){ge gl:Nat->Nat}(hT:ap ge gl)(r n j a b t:Nat)(hn:n<=16)(bl si sa st:Nat->Nat)(hr:r<256)(hs:∀ k,si k<256)(gk:∀ k,st k<256)(ho:∀ k,sa k<=40000)(ip:List Nat)(op:List UInt8)(i:Nat)(hi:i<n) :
  Bx P xG Nb bO (TC r n i j a b t ge gl bl si sa st ip op) 40000 none (TC r n (i+1) 28 (kp ge gl si r i n) (Qn ge gl si i n) (tF ge gl si r n i) ge gl (Tx ge gl st (tF ge gl si r n i) (sa i) bl 28) si sa st ip op):=by
 have Wg:i<16:=by omega
 have hA:=dV hT si r i n;have hB:=oQ hT si i n;have ht:=RP hT si r n i;have l1:=λj (hj:j<n)=>qwM (P:=P) hM hD hT r n t i bl si sa st hr hs Wg ip op j ga;have l2:=qw6 (P:=P) hM hD hT r n i (kp ge gl si r i n) (Qn ge gl si i n) (tF ge gl si r n i) bl si sa st ht gk Wg (ho i) ip op
 have g2:=Bx.loop (P:=P) (X:=xG) (f:=Nb) (b:=bO.drop 6) (d:=400) (c:=cX [] (Dh (bO.drop 6))) (λk=>TC r n i k (kp ge gl si r i n) (Qn ge gl si i n) (tF ge gl si r n i) ge gl (Tx ge gl st (tF ge gl si r n i) (sa i) bl k) si sa st ip op) 28 (λk=>oy k 28) zk (λk _=>Cd.of Uj [] zk) (λk hk=>by rw[lI hk];decide) ea l2
  (Bx.fin (t':=TC r n (td i 1) 28 (kp ge gl si r i n) (Qn ge gl si i n) (tF ge gl si r n i) ge gl (Tx ge gl st (tF ge gl si r n i) (sa i) bl 28) si sa st ip op) Uj [] zk)
 rw[BG (n:=16) ea Wg] at g2;generalize Tx ge gl st (tF ge gl si r n i) (sa i) bl 28=BL at g2 ⊢;have g1:=Bx.run (P:=P) (X:=xG) (f:=Nb) (b:=bO.drop 4) (t:=TC r n i n (kp ge gl si r i n) (Qn ge gl si i n) t ge gl bl si sa st ip op) (MY hM hD) 2 (TC r n i 0 (kp ge gl si r i n) (Qn ge gl si i n) (tF ge gl si r n i) ge gl bl si sa st ip op) [pD hT hA hB] zk g2;have g0:=Bx.dD (P:=P) (X:=xG) (f:=Nb) (b:=bO.drop 3) (d:=800) (c:=cX [] (Dh (bO.drop 3))) 16 (λj=>TC r n i j (kp ge gl si r i j) (Qn ge gl si i j) t ge gl bl si sa st ip op) n hn (λj=>oy j n) zk (λj _=>Cd.of Uj [] zk) (λj hj=>by rw[lI hj];decide) (by unfold oy;rw[decide_eq_false (lt_irrefl n)];try rfl) l1 g1;exact(Bx.run (b:=bO) (t:=TC r n i j a b t ge gl bl si sa st ip op) (t1:=TC r n i 0 1 1 t ge gl bl si sa st ip op) Uj 3 [] zk g0).mono (iu zk)
def cw(z:Nat)(g:Nat->Nat):Nat->Nat
 |0=>z
 |i+1=>g i
theorem qxu(hM:Xg P Un=mg)(hD:Xg P Du=ng)(hC:Xg P Qh=Nb){ge gl:Nat->Nat}(hT:ap ge gl)(r n:Nat)(hn:n<=16)(bl si sa st:Nat->Nat)(hr:r<256)(hs:∀ k,si k<256)(gk:∀ k,st k<256)(ho:∀ k,sa k<=40000)(ip:List Nat)(op:List UInt8)(f:yb) :
  Ox P (xG++xA Nb) f Qh [r,n] (sU ge gl bl si sa st ip op) 800000 0 (sU ge gl (Ux ge gl si sa st r n bl n) si sa st ip op):=by
 refine Ox.of (r:=none) (Y:=xG) hC zk λz=>?_;have lo:=λi (hi:i<n)=>qvW (P:=P) hM hD hT r n (cw (z (ky Qh Jh)) (λ_=>28) i) (cw (z (ky Qh tl)) (λi=>kp ge gl si r i n) i) (cw (z (ky Qh Ui)) (λi=>Qn ge gl si i n) i) (cw (z (ky Qh Uw)) (λi=>tF ge gl si r n i) i) hn (Ux ge gl si sa st r n bl i) si sa st hr hs gk ho ip op i hi;have lz:=qv6 (P:=P) r n (z (ky Qh Jh)) (z (ky Qh tl)) (z (ky Qh Ui)) (z (ky Qh Uw)) ge gl bl si sa st ip op;have g3:=Bx.dD (P:=P) (X:=xG) (f:=Nb) (b:=UE.drop 3) (d:=40000) (c:=cX [] (Dh (UE.drop 3))) 16 (λi=>TC r n i (cw (z (ky Qh Jh)) (λ_=>28) i) (cw (z (ky Qh tl)) (λi=>kp ge gl si r i n) i) (cw (z (ky Qh Ui)) (λi=>Qn ge gl si i n) i) (cw (z (ky Qh Uw)) (λi=>tF ge gl si r n i) i) ge gl (Ux ge gl si sa st r n bl i) si sa st ip op) n hn (λi=>oy i n) zk (λj _=>Cd.of Uj [] zk) (λj hj=>by rw[lI hj];decide) (by unfold oy;rw[decide_eq_false (lt_irrefl n)];try rfl) lo (Bx.nil (f:=Nb));generalize Ux ge gl si sa st r n bl n=BL at g3 ⊢;generalize cw (z (ky Qh Jh)) (λ_=>28) n=J at g3;generalize cw (z (ky Qh tl)) (λi=>kp ge gl si r i n) n=A at g3;generalize cw (z (ky Qh Ui)) (λi=>Qn ge gl si i n) n=B at g3;generalize cw (z (ky Qh Uw)) (λi=>tF ge gl si r n i) n=T at g3;have g2:=Bx.run (P:=P) (X:=xG) (f:=Nb) (b:=UE.drop 2) (t:=TC r n 28 (z (ky Qh Jh)) (z (ky Qh tl)) (z (ky Qh Ui)) (z (ky Qh Uw)) ge gl (tE bl 28) si sa st ip op) Uj 1 (TC r n 0 (z (ky Qh Jh)) (z (ky Qh tl)) (z (ky Qh Ui)) (z (ky Qh Uw)) ge gl (tE bl 28) si sa st ip op) [] zk g3;have g1:=Bx.loop (P:=P) (X:=xG) (f:=Nb) (b:=UE.drop 1) (d:=100) (c:=cX [] (Dh (UE.drop 1))) (λi=>TC r n i (z (ky Qh Jh)) (z (ky Qh tl)) (z (ky Qh Ui)) (z (ky Qh Uw)) ge gl (tE bl i) si sa st ip op) 28 (λi=>oy i 28) zk (λj _=>Cd.of Uj [] zk) (λj hj=>by rw[lI hj];decide) ea lz g2;exact⟨TC r n n J A B T ge gl BL si sa st ip op,(Bx.run (b:=UE) (t1:=TC r n 0 (z (ky Qh Jh)) (z (ky Qh tl)) (z (ky Qh Ui)) (z (ky Qh Uw)) ge gl bl si sa st ip op) Uj 1 [] zk g1).mono (iu zk),zk⟩
end
end Go.ia.Wi.Wc.Q.Lb
set_option maxHeartbeats 400000
namespace Go.ia.Wi.Wc.Q.Er
open Go.Lib Lb
variable{a b x:Nat}
def Tz:List Sm:=[sX (eC NI []),sA Qm (eC Ww []),sA Py (eC Ww []),sA lb (eN 0),sW (eB [60] (eV lb) (eV Qm)) [sE Pc (eV lb) (eC Ww []),sE ag (eV lb) (eB [42] (eN 28) (eV lb)),sA Jh (eN 0),sW (eB [60] (eV Jh) (eN 28)) [sE ai (eB [43] (eB [42] (eN 28) (eV lb)) (eV Jh)) (eC Ww []),sA Jh (eB [43] (eV Jh) (eN 1))],sA lb (eB [43] (eV lb) (eN 1))],sX (eC Qh [eV Py,eV Qm]),sA lb (eN 0),sW (eB [60] (eV lb) (eN 28)) [sX (eC LR [eE jh (eV lb)]),sA lb (eB [43] (eV lb) (eN 1))]]
def xe:yb:=⟨jG,[],[lb,Jh,Qm,Py],Tz⟩
def P:Pr:=⟨[yk,gj,Hi,Cn],[⟨Nd,512⟩,⟨ve,256⟩,⟨yf,836⟩,⟨xk,418⟩,⟨Mg,1676⟩,⟨Ac,52⟩,⟨cq,8⟩,⟨rj,9⟩,⟨rl,9⟩,⟨bq,9⟩,⟨cm,8⟩,⟨ij,40000⟩,⟨ai,48000⟩,⟨jh,28⟩,⟨Pc,16⟩,⟨ag,16⟩],[Bd,mg,ng,Vr,Ur,Av,Rr,jz,po,Tr,qq,qo,vv,gE,Sr,rq,iz,iE,yv,fE,wv,Nb,xe]⟩
def z0:Nat->Nat:=λ_=>0
def hd(l:List Nat)(p:Nat):Nat:=(l.drop p).headD 4294967295
def tk(l:List Nat):Nat->Nat->Nat
 |0=>z0
 |i+1=>ik (tk l i) i (hd l (2+29 * i))
def ll:Nat->Nat->Nat
 |0=>z0
 |i+1=>ik (ll i) i (yi 28 i)
def Bq(l:List Nat)(i:Nat)(st:Nat->Nat):Nat->Nat->Nat
 |0=>st
 |j+1=>ik (Bq l i st j) (td (yi 28 i) j) (hd l (3+29 * i+j))
def Tl(l:List Nat):Nat->Nat->Nat
 |0=>z0
 |i+1=>Bq l i (Tl l i) 28
def Zj(bl:Nat->Nat):Nat->List UInt8
 |0=>[]
 |i+1=>Zj bl i++[UInt8.ofNat (bl i)]
def TM(i j n r:Nat)(ge gl bl si sa st:Nat->Nat)(ip:List Nat)(op:List UInt8):Tt:=⟨[(ky jG lb,i),(ky jG Jh,j),(ky jG Qm,n),(ky jG Py,r)],[(Nd,(512,ge)),(ve,(256,gl)),(yf,(836,z0)),(xk,(418,z0)),(Mg,(1676,z0)),(Ac,(52,z0)),(cq,(8,z0)),(rj,(9,z0)),(rl,(9,z0)),(bq,(9,z0)),(cm,(8,z0)),(ij,(40000,z0)),(ai,(48000,st)),(jh,(28,bl)),(Pc,(16,si)),(ag,(16,sa))],ip,op⟩
abbrev xM:List Nm:=xG++xA Nb++xA Bd
abbrev bR:List Sm:=qv (Tz.drop 4)
theorem qxj(l:List Nat)(i n r:Nat)(ge gl bl si sa st:Nat->Nat)(hi:i<16)(j:Nat)(hj:j<28):Bx P xM xe (qv (bR.drop 3)) (TM i j n r ge gl bl si sa (Bq l i st j) (l.drop (3+29 * i+j)) []) 200 none (TM i (j+1) n r ge gl bl si sa (Bq l i st (j+1)) (l.drop (3+29 * i+(j+1))) []):=by
 have h0:yi 28 i=28 * i:=mod_eq_of_lt ga;have h1:td (yi 28 i) j<48000:=by rw[h0];exact Nat.lt_of_le_of_lt (mod_le _ _) ga
 have h:=Bx.mono (Bx.fin (P:=P) (X:=xM) (f:=xe) (b:=qv (bR.drop 3)) (t:=TM i j n r ge gl bl si sa (Bq l i st j) (l.drop (3+29 * i+j)) []) (t':=TM i (td j 1) n r ge gl bl si sa (Bq l i st (j+1)) (l.drop (3+29 * i+j)).tail []) Uj [pb h1] zk) (K1:=200) (iu zk);rw[BG (n:=28) ea hj,List.tail_drop] at h;exact h
theorem qvV(l:List Nat)(n r j:Nat)(ge gl bl:Nat->Nat)(i:Nat)(hi:i<16):Bx P xM xe bR (TM i j n r ge gl bl (tk l i) (ll i) (Tl l i) (l.drop (2+29 * i)) []) 10000 none (TM (i+1) 28 n r ge gl bl (tk l (i+1)) (ll (i+1)) (Tl l (i+1)) (l.drop (2+29 * (i+1))) []):=by
 have lj:=qxj l i n r ge gl bl (tk l (i+1)) (ll (i+1)) (Tl l i) hi;have g2:=Bx.loop (P:=P) (X:=xM) (f:=xe) (b:=bR.drop 3) (d:=200) (c:=cX [] (Dh (bR.drop 3))) (λj=>TM i j n r ge gl bl (tk l (i+1)) (ll (i+1)) (Bq l i (Tl l i) j) (l.drop (3+29 * i+j)) []) 28 (λj=>oy j 28) zk (λj _=>Cd.of Uj [] zk) (λj hj=>by rw[lI hj];decide) ea lj
  (Bx.fin (t':=TM (td i 1) 28 n r ge gl bl (tk l (i+1)) (ll (i+1)) (Tl l (i+1)) (l.drop (3+29 * i+28)) []) Uj [] zk)
 rw[BG (n:=16) ea hi,show 3+29 * i+28=2+29 * (i+1) by omega] at g2;have e:l.drop (3+29 * i+0)=(l.drop (2+29 * i)).tail:=by rw[List.tail_drop];congr 1;omega
 simp only[e] at g2;exact(Bx.run (b:=bR) (t:=TM i j n r ge gl bl (tk l i) (ll i) (Tl l i) (l.drop (2+29 * i)) []) (t1:=TM i 0 n r ge gl bl (tk l (i+1)) (ll (i+1)) (Bq l i (Tl l i) 0) (l.drop (2+29 * i)).tail []) Uj 3 [pb hi,pb hi] zk g2).mono (iu zk)
theorem qvc(n r j:Nat)(ge gl bl si sa st:Nat->Nat)(ip:List Nat)(i:Nat)(hi:i<28):Bx P xM xe (qv (Tz.drop 7)) (TM i j n r ge gl bl si sa st ip (Zj bl i)) 100 none (TM (i+1) j n r ge gl bl si sa st ip (Zj bl (i+1))):=by have h:=Bx.mono (Bx.fin (P:=P) (X:=xM) (f:=xe) (b:=qv (Tz.drop 7)) (t:=TM i j n r ge gl bl si sa st ip (Zj bl i)) (t':=TM (td i 1) j n r ge gl bl si sa st ip (Zj bl (i+1))) Uj [pb hi] zk) (K1:=100) (iu zk);rw[BG (n:=28) ea hi] at h;exact h
theorem Cz:ap od oc where
 m:=λa b=>by have h1:=qI a;have h2:=qI b;exact Nat.lt_of_le_of_lt (mod_le _ _) ga
 d:=λa b=>by have h1:=qI a;have h2:=qI b;unfold Co td;omega
 e:=λx=>by
  have key:∀ k,k<255->Yj.getD k 0<256:=λk hk=>by rw[<-lK k hk];exact(RU k hk).1
  unfold od;split;exact key _ ga;split;exact key _ ga;decide
theorem YY(l:List Nat):∀ (n:Nat),(∀ p,p<2+29 * n->hd l p<256)->∀ k,tk l n k<256
 |0,_,k=>by unfold tk z0;decide
 |n+1,h,k=>by show yo (decide (k=n)) (hd l (2+29 * n)) (tk l n k)<256;rw[Uz];split;exact h _ ga;exact YY l n (λp hp=>h p ga) k
theorem qx9(l:List Nat)(i:Nat)(st:Nat->Nat)(hs:∀ k,st k<256)(h:∀ p,p<2+29 * (i+1)->hd l p<256):∀ j,j<=28->∀ k,Bq l i st j k<256
 |0,_,k=>hs k
 |j+1,hj,k=>by show yo (decide (k=td (yi 28 i) j)) (hd l (3+29 * i+j)) (Bq l i st j k)<256;rw[Uz];split;exact h _ ga;exact qx9 l i st hs h j ga k
theorem qx7(l:List Nat):∀ (n:Nat),(∀ p,p<2+29 * n->hd l p<256)->∀ k,Tl l n k<256
 |0,_,k=>by unfold Tl z0;decide
 |n+1,h,k=>qx9 l n _ (qx7 l n λp hp=>h p ga) h 28 (Pb _) k
theorem O':∀ (n:Nat),n<=16->∀ k,ll n k<=40000
 |0,_,k=>by unfold ll z0;decide
 |n+1,hn,k=>by show yo (decide (k=n)) (yi 28 n) (ll n k)<=40000;rw[Uz];split;exact Xf (mod_le _ _) ga;exact O' n ga k
theorem qvF(l:List Nat)(n r:Nat)(hn:hd l 0=n)(hr:hd l 1=r)(yx:n<=16)(wO:r<256)(hb:∀ p,p<2+29 * n->hd l p<256):∃ t',t'.o=Zj (Ux od oc (tk l n) (ll n) (Tl l n) r n z0 n) 28/\Bx P xM xe xe.body ⟨[ky jG lb,ky jG Jh,ky jG Qm,ky jG Py].map λx=>(x,0),P.ba.map λa=>(a.name,(a.size,λ_=>0)),l,[]⟩ 2000000 none t':=by
 have hc:=qxu (P:=P) zk zk zk Cz r n yx z0 (tk l n) (ll n) (Tl l n) wO (YY l n hb) (qx7 l n hb) (O' n yx) (l.drop (2+29 * n)) [];have hg:=qwk (P:=P) zk;have li:=qvV l n r;have e0:l.headD 4294967295=n:=hn;have e1:l.tail.headD 4294967295=r:=by rw[<-hr];unfold hd;rw[drop_one]
 have e2:l.tail.tail=l.drop 2:=by rw[<-drop_one,<-drop_one,List.drop_drop]
 generalize Ux od oc (tk l n) (ll n) (Tl l n) r n z0 n=BL at hc ⊢;generalize od=ge at *;generalize oc=gl at *;have o1:oh P xM [(NI,90000)] [(NI,lL [] ⟨[],[(Nd,(512,z0)),(ve,(256,z0))],l,[]⟩ ⟨[],[(Nd,(512,ge)),(ve,(256,gl))],l,[]⟩ 0)]:=qt6 (λf=>(hg f l []).sub zk) ⟨by decide,zk⟩ Uj
 have k3:∀ (J:Nat) (SI SA ST:Nat->Nat) (ip:List Nat),Bx P xM xe (Tz.drop 7) (TM 0 J n r ge gl BL SI SA ST ip []) 10000 none (TM 28 J n r ge gl BL SI SA ST ip (Zj BL 28)):=λJ SI SA ST ip=>
  (Bx.loop (P:=P) (X:=xM) (f:=xe) (b:=Tz.drop 7) (d:=100) (c:=cX [] (Dh (Tz.drop 7))) (λi=>TM i J n r ge gl BL SI SA ST ip (Zj BL i)) 28 (λi=>oy i 28) zk (λi _=>Cd.of Uj [] zk) (λi hi=>by rw[lI hi];decide) ea (λi hi=>qvc n r J ge gl BL SI SA ST ip i hi) (Bx.nil (f:=xe))).mono (iu zk)
 have k2:∀ (J:Nat),Bx P xM xe (Tz.drop 5) (TM n J n r ge gl z0 (tk l n) (ll n) (Tl l n) (l.drop (2+29 * n)) []) 900000 none (TM 28 J n r ge gl BL (tk l n) (ll n) (Tl l n) (l.drop (2+29 * n)) (Zj BL 28)):=λJ=>by generalize tk l n=SI at *;generalize ll n=SA at *;generalize Tl l n=ST at *;generalize l.drop (2+29 * n)=ip at *;have o2:oh P xM [(Qh,800000)] [(Qh,lL [r,n] (sU ge gl z0 SI SA ST ip []) (sU ge gl BL SI SA ST ip []) 0)]:=qt6 (λf=>(hc f).sub zk) ⟨by decide,zk⟩ Uj;exact(Bx.run (b:=Tz.drop 5) (t:=TM n J n r ge gl z0 SI SA ST ip []) (t1:=TM 0 J n r ge gl BL SI SA ST ip []) o2 2 [pE [r,n] (sU ge gl z0 SI SA ST ip [])] zk (k3 J SI SA ST ip)).mono (iu zk)
 have k1:=Bx.dD (P:=P) (X:=xM) (f:=xe) (b:=Tz.drop 4) (d:=10000) (c:=cX [] (Dh (Tz.drop 4))) 16 (λi=>TM i (cw 0 (λ_=>28) i) n r ge gl z0 (tk l i) (ll i) (Tl l i) (l.drop (2+29 * i)) []) n yx (λi=>oy i n) zk (λi _=>Cd.of Uj [] zk) (λi hi=>by rw[lI hi];decide) (by unfold oy;rw[decide_eq_false (lt_irrefl n)];try rfl) (λi hi=>li (cw 0 (λ_=>28) i) ge gl z0 i ga) (k2 (cw 0 (λ_=>28) n));refine⟨TM 28 (cw 0 (λ_=>28) n) n r ge gl BL (tk l n) (ll n) (Tl l n) (l.drop (2+29 * n)) (Zj BL 28),rfl,?_⟩;have e3:l.drop (2+29 * 0)=l.tail.tail:=e2.symm;simp only[e3] at k1;have k0:=Bx.run (P:=P) (X:=xM) (f:=xe) (b:=Tz.drop 1) (t:=TM 0 0 0 0 ge gl z0 z0 z0 z0 l []) Uj 3 (TM 0 0 (l.headD 4294967295) (l.tail.headD 4294967295) ge gl z0 z0 z0 z0 l.tail.tail []) [] zk (by rw[e0,e1];exact k1);exact(Bx.run (b:=Tz) (f:=xe) (t1:=TM 0 0 0 0 ge gl z0 z0 z0 z0 l []) o1 1 [pE [] ⟨[],[(Nd,(512,z0)),(ve,(256,z0))],l,[]⟩] zk k0).mono (iu zk)
theorem kz(l:List Nat)(n r:Nat)(hn:hd l 0=n)(hr:hd l 1=r)(yx:n<=16)(wO:r<256)(hb:∀ p,p<2+29 * n->hd l p<256)(Ca:Nat)(h:2000000<=Ca):∃ Ba s2,Cg (Sg P Ba (Tg P)) (Tg P).body (rr P l Ca)=.ok none s2/\s2.out=Zj (Ux od oc (tk l n) (ll n) (Tl l n) r n z0 n) 28:=by
 have hm:Tg P=xe:=by kernel_rfl
 obtain⟨t',h2,hs⟩:=qvF l n r hn hr yx wO hb;rw[<-hm] at hs;obtain⟨Ba,s2,g1,g2⟩:=XP _ hs h;exact⟨Ba,s2,g1,g2.trans h2⟩
theorem ZY:gw od oc=ym:=by funext a b;have h1:=qI a;have h2:=qI b;have e:td (oc a) (oc b)=oc a+oc b:=mod_eq_of_lt ga;unfold gw ym;rw[e]
theorem qyF:LO od oc=pq:=by
 funext a b;have h1:=qI a;have h2:=qI b;have e:Co (td (oc a) 255) (oc b)=oc a+255-oc b:=by unfold Co td;omega
 unfold LO pq;rw[e]
def E(j:Nat):Nat:=Yj.getD (j % 255) 0
theorem Nn(j:Nat):E j<256/\E j≠0:=by unfold E;rw[<-lK _ (mod_lt _ ea)];exact RU _ (mod_lt _ ea)
theorem uA(j:Nat):lg (E j)=j % 255:=qBP _ (mod_lt _ ea)
theorem DE(h:x<256)(h0:x≠0):E (lg x)=x:=by obtain⟨h1,h2⟩:=lQ x h h0;unfold E;rw[mod_eq_of_lt h2];exact h1
theorem mQ(h:a % 255=b % 255):E a=E b:=by unfold E;rw[h]
theorem Y9{j:Nat}(h:j<510):od j=E j:=by unfold od E;by_cases h1:j<255;rw[zp h1,mod_eq_of_lt h1];rw[zn h1,zp h,show j % 255=j-255 by omega]
theorem Bw(h:x<256)(h0:x≠0):lg x<255:=(lQ x h h0).2
theorem FV(h:x<256)(h0:x≠0):oc x=lg x:=zp ⟨h,h0⟩
theorem XH(ha:a<256)(hb:b<256)(a0:a≠0)(b0:b≠0):ym a b=E (lg a+lg b):=by have h1:=Bw ha a0;have h2:=Bw hb b0;unfold ym;rw[zn (by omega),FV ha a0,FV hb b0,Y9 (by omega)]
theorem YM(ha:a<256)(hb:b<256)(a0:a≠0)(b0:b≠0):pq a b=E (lg a+255-lg b):=by have h1:=Bw ha a0;have h2:=Bw hb b0;unfold pq;rw[zn a0,FV ha a0,FV hb b0];by_cases h:lg a+255-lg b<510;rw[Y9 h];omega
theorem qK(b:Nat):ym 0 b=0:=zp (.inl rfl)
theorem wQ(a:Nat):ym a 0=0:=zp (.inr rfl)
theorem oK(b:Nat):pq 0 b=0:=zp rfl
theorem oq(a b:Nat):ym a b<256:=by rw[<-ZY];exact JY Cz a b
theorem VY(a b:Nat):pq a b<256:=by rw[<-qyF];exact qx1 Cz a b
theorem qAH(ha:a<256)(hb:b<256)(a0:a≠0)(b0:b≠0):ym a b≠0:=by rw[XH ha hb a0 b0];exact(Nn _).2
theorem qzQ{A B:Nat}(hA:A<256)(ha:a<256)(hB:B<256)(hb:b<256)(B0:B≠0)(b0:b≠0):pq (ym A a) (ym B b)=ym (pq A B) (pq a b):=by by_cases A0:A=0;subst A0;rw[qK,oK,oK,qK];by_cases a0:a=0;subst a0;rw[wQ,oK,oK,wQ];have h1:=Bw hA A0;have h2:=Bw ha a0;have h3:=Bw hB B0;have h4:=Bw hb b0;rw[XH hA ha A0 a0,XH hB hb B0 b0,YM hA hB A0 B0,YM ha hb a0 b0,YM (Nn _).1 (Nn _).1 (Nn _).2 (Nn _).2,XH (Nn _).1 (Nn _).1 (Nn _).2 (Nn _).2,uA,uA,uA,uA];exact mQ ga
theorem qqO(ha:a<256)(a0:a≠0):pq a a=1:=by have h1:=Bw ha a0;rw[YM ha ha a0 a0,mQ (b:=0) (by omega)];decide +kernel
theorem M5:lg 1=0:=by decide +kernel
theorem qAR(hb:b<256):ym 1 b=b:=by by_cases b0:b=0;rw[b0,wQ];rw[XH ea hb ea b0,M5,zero_add,DE hb b0]
theorem quj(ha:a<256)(hb:b<256)(b0:b≠0):ym (pq a b) b=a:=by by_cases a0:a=0;subst a0;rw[oK,qK];have h1:=Bw ha a0;have h2:=Bw hb b0;rw[YM ha hb a0 b0,XH (Nn _).1 hb (Nn _).2 b0,uA,mQ (b:=lg a) (by omega),DE ha a0]
theorem quM(hx:x<256)(hb:b<256)(b0:b≠0):pq (ym x b) b=x:=by by_cases x0:x=0;subst x0;rw[qK,oK];have h1:=Bw hx x0;have h2:=Bw hb b0;rw[XH hx hb x0 b0,YM (Nn _).1 hb (Nn _).2 b0,uA,mQ (b:=lg x) (by omega),DE hx x0]
def wT(si:Nat->Nat)(x i:Nat):Nat->Nat
 |0=>1
 |j+1=>if j=i then wT si x i j else ym (wT si x i j) (pq (x ^^^ si j) (si i ^^^ si j))
theorem MU(si:Nat->Nat)(x i:Nat):∀ j,wT si x i j<256
 |0=>by unfold wT;decide
 |j+1=>by unfold wT;split;exact MU si x i j;exact oq _ _
theorem x8(h1:a<256)(h2:b<256):a ^^^ b<256:=Nat.xor_lt_two_pow (n:=8) h1 h2
theorem DU(h:a≠b):a ^^^ b≠0:=λe=>h (by
 have:a ^^^ b ^^^ b=b:=by rw[e,Nat.zero_xor]
 rwa [Nat.xor_assoc,Nat.xor_self,Nat.xor_zero] at this)
theorem QP{si:Nat->Nat}{r n i:Nat}(hr:r<256)(hs:∀ k,si k<256)(hd:∀ j,j<n->j≠i->si i≠si j):∀ m,m<=n ->
  Qn od oc si i m≠0/\pq (kp od oc si r i m) (Qn od oc si i m)=wT si r i m
 |0,_=>⟨by unfold Qn;decide,by unfold kp Qn wT;exact qqO ea ea⟩
 |m+1,h=>by obtain⟨h1,h2⟩:=QP hr hs hd m ga;unfold kp Qn wT;by_cases e:m=i;rw[zp e,zp e,zp e];exact⟨h1,h2⟩;rw[zn e,zn e,zn e,ZY];have h3:=DU (hd m ga e);have h4:yj (si i) (si m)<256:=x8 (hs i) (hs m);refine⟨qAH (oQ Cz si i m) h4 h1 h3,?_⟩;rw[qzQ (dV Cz si r i m) (show yj r (si m)<256 from x8 hr (hs m)) (oQ Cz si i m) h4 h1 h3,h2];try rfl
theorem qAv{si:Nat->Nat}{n i m:Nat}(hs:∀ k,si k<256)(hm:m<n)(hd:∀ j,j<n->j≠i->si i≠si j):(m≠i->wT si (si m) i n=0)/\(m=i->wT si (si m) i n=1):=by
 constructor;intro e;have key:∀ k,m<k->wT si (si m) i k=0:=by
  intro k;induction k with
  |zero=>intro h;omega
  |succ k ih=>intro h;unfold wT;by_cases e1:k=i;rw[zp e1];exact ih ga;rw[zn e1];by_cases e2:k=m;rw[e2,Nat.xor_self,oK,wQ];rw[ih (by omega),qK]
 exact key n hm;intro e;subst e;have key:∀ k,k<=n->wT si (si m) m k=1:=by
  intro k;induction k with
  |zero=>intro _;rfl
  |succ k ih=>intro h;unfold wT;by_cases e1:k=m;rw[zp e1];exact ih ga;rw[zn e1,ih (by omega),qqO (x8 (hs m) (hs k)) (DU (hd k (by omega) e1)),qAR ea]
 exact key n (Pb _)
def jg(si:Nat->Nat)(D:Nat->Nat->Nat)(x n k:Nat):Nat->Nat
 |0=>0
 |i+1=>jg si D x n k i ^^^ ym (wT si x i n) (D i k)
theorem qq2{si:Nat->Nat}{D:Nat->Nat->Nat}{n m k:Nat}(hs:∀ k,si k<256)(hm:m<n)(hd:∀ i j,i<n->j<n->j≠i->si i≠si j)(hD:∀ i k,D i k<256):jg si D (si m) n k n=D m k:=by
 have key:∀ i,i<=n->jg si D (si m) n k i=if m<i then D m k else 0:=by
  intro i;induction i with
  |zero=>intro _;rfl
  |succ i ih=>intro h;unfold jg;rw[ih (by omega)];obtain⟨h1,h2⟩:=qAv (n:=n) (i:=i) hs hm (λj hj=>hd i j ga hj);by_cases e:m=i;rw[h2 e,qAR (hD _ _),zn (by omega),zp (by omega),Nat.zero_xor,e];rw[h1 e,qK,Nat.xor_zero];by_cases g:m<i;rw[zp g,zp (by omega)];rw[zn g,zn (by omega)]
 rw[key n (Pb _),zp hm]
theorem yQ(l:List Nat)(k:Nat):∀ n,k<n->tk l n k=hd l (2+29 * k)
 |n+1,h=>by show yo (decide (k=n)) (hd l (2+29 * n)) (tk l n k)=_;rw[Uz];split;rename_i e;rw[e];exact yQ l k n ga
theorem C'(k:Nat):∀ n,k<n->n<=16->ll n k=28 * k
 |n+1,h,hn=>by show yo (decide (k=n)) (yi 28 n) (ll n k)=_;rw[Uz];split;rename_i e;rw[e];exact mod_eq_of_lt ga;exact C' k n ga ga
theorem M9(l:List Nat)(i:Nat)(st:Nat->Nat)(p:Nat)(hi:i<16):∀ j,j<=28->Bq l i st j p=if 28 * i<=p/\p<28 * i+j then hd l (3+29 * i+(p-28 * i)) else st p
 |0,_=>by rw[zn (by omega)];try rfl
 |j+1,h=>by have e0:yi 28 i=28 * i:=mod_eq_of_lt ga;have e1:td (28 * i) j=28 * i+j:=mod_eq_of_lt ga;show yo (decide (p=td (yi 28 i) j)) (hd l (3+29 * i+j)) (Bq l i st j p)=_;rw[Uz,e0,e1,M9 l i st p hi j (by omega)];by_cases e:p=28 * i+j;rw[zp e,zp (by omega)];congr 1;omega;rw[zn e];by_cases g:28 * i<=p/\p<28 * i+j;rw[zp g,zp (by omega)];rw[zn g,zn (by omega)]
theorem V9(l:List Nat)(i j:Nat)(hj:j<28):∀ n,i<n->n<=16->Tl l n (28 * i+j)=hd l (3+29 * i+j)
 |n+1,h,hn=>by show Bq l n (Tl l n) 28 (28 * i+j)=_;rw[M9 l n _ _ (by omega) 28 (Pb _)];by_cases e:i=n;subst e;rw[zp (by omega),show 28 * i+j-28 * i=j by omega];rw[zn (by omega)];exact V9 l i j hj n ga ga
theorem cZ(ge gl st:Nat->Nat)(t o:Nat)(bl:Nat->Nat)(k:Nat):∀ m,Tx ge gl st t o bl m k=if k<m then yj (bl k) (gw ge gl t (st (td o k))) else bl k
 |0=>by rw[zn (Nat.not_lt_zero k)];try rfl
 |m+1=>by show yo (decide (k=m)) (yj (Tx ge gl st t o bl m m) (gw ge gl t (st (td o m)))) (Tx ge gl st t o bl m k)=_;rw[Uz];by_cases e:k=m;rw[zp e,zp (by omega),e,cZ ge gl st t o bl m m,zn (lt_irrefl m)];rw[zn e,cZ ge gl st t o bl k m];by_cases g:k<m;rw[zp g,zp (by omega)];rw[zn g,zn (by omega)]
theorem qyB(bl:Nat->Nat)(k:Nat):∀ m,k<m->tE bl m k=0
 |m+1,h=>by show yo (decide (k=m)) 0 (tE bl m k)=0;rw[Uz];split;rfl;exact qyB bl k m ga
theorem qA9(l:List Nat)(n r k:Nat)(hn:n<=16)(hk:k<28)(hr:r<256)(hb:∀ p,p<2+29 * n->hd l p<256)(Ix:∀ i j,i<n->j<n->j≠i->hd l (2+29 * i)≠hd l (2+29 * j)) :
  Ux od oc (tk l n) (ll n) (Tl l n) r n z0 n k=jg (tk l n) (λi k=>hd l (3+29 * i+k)) r n k n:=by
 have hs:=YY l n hb;have key:∀ i,i<=n->Ux od oc (tk l n) (ll n) (Tl l n) r n z0 i k=jg (tk l n) (λi k=>hd l (3+29 * i+k)) r n k i:=by
  intro i;induction i with
  |zero=>intro _;exact qyB _ _ 28 hk
  |succ i ih=>
   intro h;have e1:td (ll n i) k=28 * i+k:=by rw[C' i n (by omega) hn];exact mod_eq_of_lt ga
   have e2:tF od oc (tk l n) r n i=wT (tk l n) r i n:=by have:=(QP (n:=n) (i:=i) hr hs (λj hj e=>by rw[yQ l i n (by omega),yQ l j n hj];exact Ix i j ga hj e) n (Pb _)).2;unfold tF;rw[qyF];exact this
   show Tx od oc (Tl l n) (tF od oc (tk l n) r n i) (ll n i) (Ux od oc (tk l n) (ll n) (Tl l n) r n z0 i) 28 k=_;rw[cZ,zp hk,ih (by omega),e1,V9 l i k hk n (by omega) hn,ZY,e2];try rfl
 exact key n (Pb _)
def eK(a b out k:Nat):Nat:=match Nat.beq (Nat.land (Nat.shiftRight b k) 1) 1 with
 |true=>Nat.xor out (Nat.shiftLeft a k)
 |false=>out
def Az(a b:Nat):Nat->Nat
 |0=>0
 |k+1=>eK a b (Az a b k) k
def LP(out k:Nat):Nat:=match Nat.beq (Nat.land (Nat.shiftRight out k) 1) 1 with
 |true=>Nat.xor out (Nat.shiftLeft 285 (Nat.sub k 8))
 |false=>out
def Ov(out:Nat):Nat->Nat
 |0=>out
 |m+1=>LP (Ov out m) (Nat.sub 14 m)
def fG(a b:Nat):Nat:=Ov (Az a b 8) 7
def wC(a:Nat):List Nat->List Nat->Bool
 |b::l,c::m=>(match Nat.beq (fG a b) c with
  |true=>wC a l m
  |false=>false)
 |_,_=>true
def OU:Nat->List Nat->Bool
 |0,_=>true
 |n+1,l=>match l with
  |a::t=>(match wC a Yj l with
   |true=>OU n (t++[a])
   |false=>false)
  |[]=>true
theorem qy3:OU 255 Yj=true:=by decide +kernel
theorem qua{a:Nat}:∀ {l m:List Nat},wC a l m=true->∀ j,j<l.length->j<m.length->fG a (l.getD j 0)=m.getD j 0
 |b::l,c::m,h,0,_,_=>by unfold wC at h;split at h;rename_i e;exact Nat.eq_of_beq_eq_true e;cases h
 |b::l,c::m,h,j+1,h1,h2=>by unfold wC at h;split at h;exact qua h j (Nat.lt_of_succ_lt_succ h1) (Nat.lt_of_succ_lt_succ h2);cases h
theorem qre:∀ (n i:Nat) (l:List Nat),l.length=255->(∀ j,j<255->l.getD j 0=E (i+j))->OU n l=true->∀ k,k<n->∀ j,j<255->fG (E (i+k)) (E j)=E (i+k+j)
 |n+1,i,a::t,hl,hE,h,k,hk,j,hj=>by
  unfold OU at h;simp only at h;split at h;rename_i e;match k with
  |0=>
   have h1:=qua e j (by rw[show Yj.length=255 by decide +kernel];exact hj) ga;have h2:a=E i:=hE 0 ea;rw[hE j hj,h2] at h1;have h3:Yj.getD j 0=E j:=by unfold E;rw[mod_eq_of_lt hj]
   rw[h3] at h1;exact h1
  |k+1=>
   have ht:t.length=254:=by simpa using hl
   have h1:=qre n (i+1) (t++[a]) (by simp;omega) (λj hj=>?_) h k ga j hj;rw[show i+(k+1)=i+1+k by omega];exact h1;by_cases g:j<254;have h3:=hE (j+1) ga;rw[List.getD_cons_succ] at h3;rw[getD_eq_getElem?_getD,List.getElem?_append_left (by omega),<-getD_eq_getElem?_getD,h3];congr 1;omega;have e1:j=254:=by omega
   have h2:a=E i:=hE 0 ea;rw[getD_eq_getElem?_getD,List.getElem?_append_right (by omega),ht,e1,h2];exact mQ (a:=i) ga
  cases h
theorem qyR:∀ b,b<256->fG 0 b=0:=by decide +kernel
theorem S1(ha:a<256)(hb:b<256):fG a b=ym a b:=by
 by_cases a0:a=0;subst a0;rw[qyR b hb,qK];by_cases b0:b=0;subst b0;rw[wQ];have h:∀ k,Az a 0 k=0:=λk=>by
  induction k with
  |zero=>rfl
  |succ k ih=>show eK a 0 (Az a 0 k) k=0;rw[ih];unfold eK;rw[show Nat.shiftRight 0 k=0 from Nat.zero_shiftRight k]
 unfold fG;rw[h];decide +kernel;have h1:=qre 255 0 Yj (by decide +kernel) (λj hj=>by unfold E;rw[zero_add,mod_eq_of_lt hj]) qy3 (lg a) (Bw ha a0) (lg b) (Bw hb b0);rw[zero_add,DE ha a0,DE hb b0] at h1;rw[h1,XH ha hb a0 b0]
end Go.ia.Wi.Wc.Q.Er
namespace Go.Proofs
theorem zy{P:Prop}(h:P:=by constructor <;> first|(intros;kernel_rfl)|decide|(constructor <;> first|(intros;kernel_rfl)|decide|(constructor <;> first|(intros;kernel_rfl)|decide))):P:=h
def Tryz.bi:Go.Shelf.Ren:=⟨fun|156=>53|165=>94|166=>42|169=>43|240=>73|241=>161|276=>132|277=>206|n=>n,fun|31=>42|9=>9|3=>3|4=>4|0=>0|20=>20|72=>97|76=>100|70=>95|37=>39|75=>99|127=>153|164=>203|5=>5|80=>102|n=>n,fun|n=>n⟩
theorem Tryz.Cp:Go.Proofs.Lays.n156 Tryz.prog Tryz.bi:=zy
theorem Tryz.Jc:Builder.Extra Tryz.prog Tryz.bi:=zy
open Go.RowKit in
theorem Tryz.strings_Join_none(a:Option Addr)(c:Nat)(sep:ByteArray)(w:World) :
  Calls Tryz.prog 53 #[.slice a 0 c,.string sep] w λe w'=>e=.returned (.string ⟨#[]⟩)/\w'=w:=Any.strings_Join_none Tryz.Cp Tryz.Jc a c sep w
open Go.RowKit in
theorem Tryz.strings_Join(bk o c:Nat)(xs:List ByteArray)(sep:ByteArray)(w:World)(Ht:∀ (j:Nat) x,xs[j]? = some x->w.cell? ⟨bk,o+j,none⟩=some (.string x))(W7:bk<w.heap.size)(hN:xs.length<=140737488355328)(ri:xs.length<=c)(ma:(Lib.join (xs.map (·.data.toList)) sep.data.toList).length<=140737488355328) :
  Calls Tryz.prog 53 #[.slice (some ⟨bk,o,none⟩) xs.length c,.string sep] w λe w'=>e=.returned (.string ⟨(Lib.join (xs.map (·.data.toList)) sep.data.toList).toArray⟩)/\Below w.heap.size w w':=Any.strings_Join Tryz.Cp Tryz.Jc bk o c xs sep w Ht W7 hN ri ma
def Tryz.Ou:Go.Shelf.Ren:=⟨fun|160=>174|232=>212|231=>211|227=>213|234=>215|233=>214|236=>217|235=>216|228=>237|271=>239|151=>238|197=>235|120=>262|152=>261|260=>260|137=>273|119=>274|224=>223|225=>222|217=>221|266=>250|n=>n,fun|9=>9|4=>4|3=>3|5=>5|117=>243|116=>242|0=>0|124=>246|21=>21|105=>255|46=>249|119=>289|139=>292|138=>291|n=>n,fun|3=>4|4=>5|n=>n⟩
theorem Tryz.Ry:Go.Proofs.Lays.n160 Tryz.prog Tryz.Ou:=zy
def Tryz.Uu:Go.Shelf.Ren:=⟨fun|103=>162|210=>207|206=>193|n=>n,fun|9=>9|4=>4|24=>61|3=>3|n=>n,fun|n=>n⟩
theorem Tryz.YG:Go.Proofs.Lays.n103 Tryz.prog Tryz.Uu:=zy
open Go.RowKit in
theorem Tryz.strings_CutPrefix(s p:ByteArray)(w:World) :
  Calls Tryz.prog 162 #[.string s,.string p] w λe w'=>e=.returned (.tuple #[.string ⟨(Lib.trimPrefix s.data.toList p.data.toList).toArray⟩,.bool (Lib.hasPrefix s.data.toList p.data.toList)])/\w'=w:=Any.strings_CutPrefix Tryz.YG s p w
def Tryz.Tu:Go.Shelf.Ren:=⟨fun|104=>172|211=>210|207=>236|n=>n,fun|9=>9|4=>4|24=>61|3=>3|n=>n,fun|n=>n⟩
theorem Tryz.XG:Go.Proofs.Lays.n104 Tryz.prog Tryz.Tu:=zy
open Go.RowKit in
theorem Tryz.strings_CutSuffix(s p:ByteArray)(w:World)(hs:s.size<=9223372036854775807) :
  Calls Tryz.prog 172 #[.string s,.string p] w λe w'=>e=.returned (.tuple #[.string ⟨(Lib.trimSuffix s.data.toList p.data.toList).toArray⟩,.bool (Lib.hasSuffix s.data.toList p.data.toList)])/\w'=w:=Any.strings_CutSuffix Tryz.XG s p w hs
def Tryz.Nu:Go.Shelf.Ren:=⟨fun|283=>246|n=>n,fun|3=>3|9=>9|4=>4|n=>n,fun|n=>n⟩
theorem Tryz.SG:Go.Proofs.Lays.n283 Tryz.prog Tryz.Nu:=zy
open Go.Lib in
theorem Tryz.internal_strconv_small(i:Nat)(h:i<100)(w:World) :
  Calls Tryz.prog 246 #[.int .i64 i] w λe w'=>e=.returned (.string ⟨(Lib.decDigits i).toArray⟩)/\w'=w:=Any.internal_strconv_small Tryz.SG i h w
def Tryz.pt:Go.Shelf.Ren:=⟨fun|284=>247|129=>266|317=>265|318=>267|n=>n,fun|53=>229|3=>3|212=>282|0=>0|4=>4|46=>249|5=>5|9=>9|n=>n,fun|17=>3|n=>n⟩
theorem Tryz.gD:Go.Proofs.LaysM.n284 Tryz.prog Tryz.pt:=zy
open Go.Lib in
theorem Tryz.internal_strconv_numDigits (u : Nat) (h1 : 1 ≤ u) (h2 : u < 18446744073709551616) (w : World) (tD : Lib.TabIs Tryz.prog w "internal/strconv.uint64pow10" .u64 Lib.pow10Tab) :
  Calls Tryz.prog 247 #[.int .u64 u] w λe w'=>e=.returned (.int .i64 (Lib.nDigits u))/\w'=w:=Any.internal_strconv_numDigits Tryz.gD u h1 h2 w tD
def Tryz.Mu:Go.Shelf.Ren:=⟨fun|285=>248|n=>n,fun|37=>39|53=>229|3=>3|4=>4|51=>24|9=>9|5=>5|0=>0|n=>n,fun|n=>n⟩
theorem Tryz.RG:Go.Proofs.Lays.n285 Tryz.prog Tryz.Mu:=zy
open Go.RowKit Go.Sort Go.Lib in
theorem Tryz.internal_strconv_formatBase10(UX off cap:Nat)(u:Nat)(d:Array UInt8)(w:World)(hH:Holds (λ(b:UInt8)=>Value.int .u8 (b.toNat:Int)) w UX off d)(hu:u<10 ^ d.size)(rD:u<18446744073709551616)(ae:d.size<4611686018427387904) :
  Calls Tryz.prog 248 #[.slice (some ⟨UX,off,none⟩) d.size cap,.int .u64 u] w λe w'=>
   e=.returned (.tuple #[])/\∃ (n v':Nat) (dk:Array UInt8),w'=(putRow (λ(b:UInt8)=>Value.int .u8 (b.toNat:Int)) w UX off dk).drewN n/\FmtInv d.size u 0 v' dk:=Any.internal_strconv_formatBase10 Tryz.RG UX off cap u d w hH hu rD ae
def Tryz.qt:Go.Shelf.Ren:=⟨fun|171=>157|243=>202|246=>232|283=>246|284=>247|285=>248|286=>249|129=>266|317=>265|318=>267|319=>268|320=>269|337=>275|338=>276|n=>n,fun|3=>3|9=>9|2=>2|4=>4|171=>263|0=>0|53=>229|37=>39|5=>5|173=>266|212=>282|51=>24|20=>20|213=>283|46=>249|232=>298|233=>299|n=>n,fun|17=>3|18=>6|19=>7|n=>n⟩
theorem Tryz.iD:Go.Proofs.LaysM.n171 Tryz.prog Tryz.qt:=zy
open Go.RowKit Go.Sort Go.Lib in
theorem Tryz.strconv_Itoa (n : Int) (h0 : -9223372036854775808 ≤ n) (h1 : n ≤ 9223372036854775807) (w : World) (tD : Lib.TabIs Tryz.prog w "internal/strconv.uint64pow10" .u64 Lib.pow10Tab) :
  Calls Tryz.prog 157 #[.int .i64 n] w λe w'=>e=.returned (.string ⟨(Lib.itoa n).toArray⟩)/\∃ k os,w'=grow (w.drewN k) os:=Any.strconv_Itoa Tryz.iD n h0 h1 w tD
def Tryz.ot:Go.Shelf.Ren:=⟨fun|14=>194|16=>218|17=>219|19=>240|20=>241|21=>242|22=>243|23=>244|24=>245|25=>263|27=>157|26=>264|28=>202|29=>232|30=>246|31=>247|32=>248|33=>249|35=>266|34=>265|36=>267|37=>268|38=>269|39=>275|40=>276|n=>n,fun|9=>9|3=>3|22=>229|24=>99|25=>230|4=>4|34=>258|5=>5|36=>249|37=>39|0=>0|39=>260|21=>21|44=>279|47=>153|50=>296|48=>294|2=>2|52=>263|55=>266|59=>282|60=>24|20=>20|61=>283|65=>298|66=>299|67=>102|n=>n,fun|0=>1|1=>2|2=>3|3=>6|4=>7|n=>n⟩
theorem Tryz.fq:Go.Proofs.LaysPu.n14 Tryz.prog Tryz.ot:=zy
open Go.RowKit in
theorem Tryz.strconv_ParseUint_10_at32_ok(s:ByteArray)(u7:s.size<=9223372036854775806)(u:Nat)(h:Lib.parseUintB 32 s.data.toList=.ok u)(w:World) :
  Calls Tryz.prog 194 #[.string s,.int .i64 10,.int .i64 32] w λe w'=>e=.returned (.tuple #[.int .u64 u,.nilIface])/\(w'=w∨w'=Lib.bytesWorld w 5 s):=Any.strconv_ParseUint_10_at32_ok Tryz.fq s u7 u h w
open Go.RowKit in
theorem Tryz.strconv_ParseUint_10_at32_syntax_var (s : ByteArray) (uH : s.size ≤ 281474976710656) (h : (∀ u, Lib.parseUintB 32 s.data.toList ≠ .ok u) ∧ Lib.parseUintB 32 s.data.toList ≠ .range) (tp : TypeId) (p : Value) (w : World) (gx : w.var? Tryz.prog "strconv.ErrSyntax" = some #[.iface tp p]) :
  Calls Tryz.prog 194 #[.string s,.int .i64 10,.int .i64 32] w λe w'=>∃ N,e=.returned (.tuple #[.int .u64 0,.iface 260 (.pointer (some ⟨N,0,none⟩))])/\w.heap.size<=N/\w'.heap[N]? = some (.cells #[.string ⟨#[80,97,114,115,101,85,105,110,116]⟩,.string s,.iface tp p] 279 (0,0))/\Below w.heap.size w w':=by
 refine Any.strconv_ParseUint_10_at32_syntax_var Tryz.fq s uH ?_ tp p w gx;cases hq:Lib.parseUintB 32 s.data.toList with
 |ok u=>exact absurd hq (h.1 u)
 |range=>exact absurd hq h.2
 |_=>rfl
open Go.RowKit in
theorem Tryz.strconv_ParseUint_10_at32_range_var (s : ByteArray) (uH : s.size ≤ 281474976710656) (h : Lib.parseUintB 32 s.data.toList = .range) (tp : TypeId) (p : Value) (w : World) (gx : w.var? Tryz.prog "strconv.ErrRange" = some #[.iface tp p]) :
  Calls Tryz.prog 194 #[.string s,.int .i64 10,.int .i64 32] w λe w'=>∃ N,e=.returned (.tuple #[.int .u64 4294967295,.iface 260 (.pointer (some ⟨N,0,none⟩))])/\w.heap.size<=N/\w'.heap[N]? = some (.cells #[.string ⟨#[80,97,114,115,101,85,105,110,116]⟩,.string s,.iface tp p] 279 (0,0))/\Below w.heap.size w w':=Any.strconv_ParseUint_10_at32_range_var Tryz.fq s uH h tp p w gx
def Tryz.Ru:Go.Shelf.Ren:=⟨fun|145=>106|220=>171|219=>198|217=>221|225=>222|224=>223|267=>224|266=>250|314=>251|n=>n,fun|9=>9|4=>4|59=>195|3=>3|5=>5|46=>249|146=>268|51=>24|n=>n,fun|1=>0|n=>n⟩
theorem Tryz.VG:Go.Proofs.Lays.n145 Tryz.prog Tryz.Ru:=zy
open Go.RowKit Go.Lib in
theorem Tryz.strings_Cut(s sep:ByteArray)(m:Int)(w:World)(hs:s.size<4294967281)(hm:w.cell? ⟨0,0,none⟩=some (.int .i64 m)) :
  Calls Tryz.prog 106 #[.string s,.string sep] w λe w'=>e=.returned (.tuple #[.string ⟨(Lib.cut s.data.toList sep.data.toList).1.toArray⟩,.string ⟨(Lib.cut s.data.toList sep.data.toList).2.1.toArray⟩,.bool (Lib.cut s.data.toList sep.data.toList).2.2])/\∃ n,w'=w.drewN n:=Any.strings_Cut Tryz.VG s sep m w hs hm
def Tryz.Su:Go.Shelf.Ren:=⟨fun|138=>76|195=>143|218=>144|143=>145|219=>198|217=>221|225=>222|224=>223|267=>224|266=>250|314=>251|n=>n,fun|9=>9|3=>3|4=>4|5=>5|0=>0|46=>249|146=>268|51=>24|n=>n,fun|1=>0|n=>n⟩
theorem Tryz.WG:Go.Proofs.Lays.n138 Tryz.prog Tryz.Su:=zy
open Go.RowKit Go.Lib in
theorem Tryz.strings_Count_one(s:ByteArray)(c:UInt8)(w:World) :
  Calls Tryz.prog 76 #[.string s,.string ⟨#[c]⟩] w λe w'=>e=.returned (.int .i64 (Lib.countByte s.data.toList c))/\w'=w:=Any.strings_Count_one Tryz.WG s c w
def Tryz.ax:Go.Shelf.Ren:=⟨fun|99=>133|206=>193|n=>n,fun|9=>9|4=>4|3=>3|n=>n,fun|n=>n⟩
theorem Tryz.DL:Go.Proofs.Lays.n99 Tryz.prog Tryz.ax:=zy
open Go.RowKit Go.Lib in
theorem Tryz.strings_HasPrefix(s p:ByteArray)(w:World) :
  Calls Tryz.prog 133 #[.string s,.string p] w λe w'=>e=.returned (.bool (Lib.hasPrefix s.data.toList p.data.toList))/\w'=w:=Any.strings_HasPrefix Tryz.DL s p w
def Tryz.Qu:Go.Shelf.Ren:=⟨fun|146=>105|221=>170|268=>209|138=>76|143=>145|195=>143|197=>235|218=>144|219=>198|260=>260|217=>221|225=>222|224=>223|267=>224|266=>250|314=>251|n=>n,fun|9=>9|31=>42|3=>3|4=>4|0=>0|105=>255|21=>21|5=>5|46=>249|119=>289|139=>292|138=>291|146=>268|51=>24|n=>n,fun|1=>0|3=>4|4=>5|n=>n⟩
theorem Tryz.UG:Go.Proofs.Lays.n146 Tryz.prog Tryz.Qu:=zy
open Go.RowKit Go.Lib in
theorem Tryz.strings_Split(s sep:ByteArray)(m:Int)(w:World)(hs:s.size<4294967281)(hm:w.cell? ⟨0,0,none⟩=some (.int .i64 m))(h1:1<=sep.size) :
  Calls Tryz.prog 105 #[.string s,.string sep] w λe w'=>
   e=.returned (.slice (some ⟨w.heap.size,0,none⟩) (Lib.countB s sep+1) (Lib.countB s sep+1))/\w'=w.alloc (.cells ((Lib.splitB sep 0 (Lib.countB s sep) s).map Value.string).toArray 9):=Any.strings_Split Tryz.UG zk s sep m w hs hm h1
end Go.Proofs
namespace Go.Proofs.Y
open Go.GL Go.RowKit Go.ia
attribute [local irreducible] Ea kb ab ca Go.GL.Pure Ie pf ke
variable{B0:Nat}{w0:World}
theorem DN{f:FuncId} [Wb Tryz.prog f](p:UInt8->Bool)(hp:∀ c:UInt8,ca (KC B0 w0) f [int .u8 c.toNat] [] (Ub (bool (p c))))(s:List UInt8)(hs:s.length<=1000000000) :
  ca (KC B0 w0) 134 [str s,.atom (.func (.func f) #[] #[])] [] (Ub (str (s.takeWhile p))):=by
 refine jb Tryz.func134 rfl (n:=22) rfl rfl rfl ?_;refine wa ?_;refine oL (λk l H=>∃ m:Nat,k=s.length-m/\l=[(0,str s),(1,.atom (.func (.func f) #[] #[])),(5,int .i64 m)]/\H=[]/\m<=s.length/\s.takeWhile p=s.take m++(s.drop m).takeWhile p)
  ⟨_,_,_,⟨0,rfl,rfl,rfl,by omega,by simp⟩,Kb,bc _⟩ ?_
 rintro k l H ⟨m,rfl,rfl,rfl,hm,hI⟩ j hj;refine xa ?_;refine oB 10 rfl (λht=>?_) λht=>?_;have Ka:m<s.length:=by simpa using ht
 refine Aa ?_;refine qa (pI (c:=s[m]) rfl rfl zo (by simp))<|Ea.want rfl rfl ?_;refine oS (S.qF [_] rfl rfl (hp s[m]) ?_);refine Aa ?_;refine Oa (λhc=>?_) λhc=>?_;refine wa ?_;exact⟨_,_,_,by omega,⟨m+1,rfl,rfl,rfl,by omega,(qgJ Ka hI).1 (by simpa using hc)⟩,Kb,bc _,hj⟩;refine wa ?_;refine qa (Pure.kl (i:=0) (j:=m) rfl rfl ⟨_,rfl⟩ zo zo zo)<|Ad ?_
 exact qb hj (eb rfl) (by
  rw[(qgJ Ka hI).2 (by simpa using hc)];simp[Oh])
 have ku:s.length<=m:=by simpa using ht
 refine Aa ?_;refine Oa (λhc=>?_) λhc=>?_;cases hc;refine wa ?_;refine qa (Pure.kl (i:=0) (j:=m) rfl rfl ⟨_,rfl⟩ zo zo zo)<|Ad ?_
 exact qb hj (eb rfl) (by
  rw[qmm ku hI];simp[Oh])
theorem qgF(s p:List UInt8):ca (KC B0 w0) 133 [str s,str p] [] (Ub (bool (p.isPrefixOf s))):=
 ca.dn (vs:=[.string ⟨s.toArray⟩,.string ⟨p.toArray⟩]) λw _=>(Go.Proofs.Tryz.strings_HasPrefix _ _ w).mono λe w' he=>by obtain⟨h1,h2⟩:=he;subst h2;exact⟨by simpa [Go.Lib.hasPrefix] using h1,Below.refl _ _⟩
theorem quH(s:List UInt8)(hs:s.length<=1000000000):ca (KC B0 w0) 74 [str s] [] (Ub (int .i64 (Lo s))):=by refine jb Tryz.func74 rfl (n:=11) rfl rfl rfl ?_;refine cl ?_;refine oS (sF [_,_] rfl (qgF s [47,47]) ?_);refine Ad ?_;refine Oa (λhc=>?_) λhc=>?_;refine Yd ?_;refine oS (sF [_,_] rfl (DN xY qrM s hs) ?_);refine Ra ?_;exact qb rfl (eb rfl) (by simp only[Oh,Lo,hc,if_true]);refine wa ?_;refine oS (sF [_,_] rfl (DN vB qsk s hs) ?_);refine Ra ?_;exact qb rfl (eb rfl) (by simp only[Oh,Lo,hc,Il,if_false])
end Go.Proofs.Y
namespace Go.Proofs.Y
open Go Go.Shelf Go.RowKit Go.Sort Go.Lib
set_option maxHeartbeats 6400000
theorem qkm (u : Nat) (rD : u < 18446744073709551616) (w : World) (tD : Lib.TabIs Tryz.prog w "internal/strconv.uint64pow10" .u64 Lib.pow10Tab) :
  Calls Tryz.prog 220 #[.int .u64 u,.int .i64 10] w λe w'=>e=.returned (.string ⟨(Lib.decDigits u).toArray⟩)/\Below w.heap.size w w':=by
 have mixed:Tryz.prog.follows .mixedOrders=true:=by kernel_rfl
 have t3:=Tryz.underlying3;have a3:=Tryz.isAgg3;have z3:=Tryz.sizeOf3;have v3:=Tryz.zeroValue3;have t9:=Tryz.underlying9;have a9:=Tryz.isAgg9;have z9:=Tryz.sizeOf9;have v9:=Tryz.zeroValue9;have t4:=Tryz.underlying4;have a4:=Tryz.isAgg4;have z4:=Tryz.sizeOf4;have v4:=Tryz.zeroValue4;have t142:=Tryz.underlying263;have aaz:=Tryz.isAgg263;have aaf:=Tryz.sizeOf263;have aag:=Tryz.zeroValue263;have t0:=Tryz.underlying0;have a0:=Tryz.isAgg0;have z0:=Tryz.sizeOf0;have v0:=Tryz.zeroValue0;have t119:=Tryz.underlying229;have a119:=Tryz.isAgg229;have z119:=Tryz.sizeOf229;have aah:=Tryz.zeroValue229;have t85:=Tryz.underlying39;have a85:=Tryz.isAgg39;have z85:=Tryz.sizeOf39;have v85:=Tryz.zeroValue39;have t5:=Tryz.underlying5;have a5:=Tryz.isAgg5;have z5:=Tryz.sizeOf5;have v5:=Tryz.zeroValue5;have aay:∀ args w,(callFunc 246 args).run Tryz.prog w=.ok (.enter 246 args) w:=enters_of Tryz.func246 zk rfl;have aax:∀ args w,(callFunc 247 args).run Tryz.prog w=.ok (.enter 247 args) w:=enters_of Tryz.func247 zk rfl;have aaw:∀ args w,(callFunc 248 args).run Tryz.prog w=.ok (.enter 248 args) w:=enters_of Tryz.func248 zk rfl;by_cases hs:u<100
 go_enter Tryz.func220,Tryz.ntmps220
 go_wp2_with (go_at_fn (246);refine(Tryz.internal_strconv_small u hs _).mono ?_;rintro e w' ⟨rfl,rfl⟩)
 go_ret
 exact⟨rfl,Below.refl _ _⟩;have hu1:1<=u:=by omega
 have aab:Lib.nDigits u<=20:=by have:=Lib.numDigits_eq u hu1 rD;split at this <;> omega
 have TD:Tryz.prog.arrayLen 263=24:=by simp[Program.arrayLen,Tryz.underlying263]
 have gr:∀ W,(Instr.sliceAt 263 (.pointer (some ⟨w.heap.size,0,none⟩)) none (some (.int .i64 (Lib.nDigits u:Int))) none).run Tryz.prog W=.ok (.slice (some ⟨w.heap.size,0,none⟩) (Lib.nDigits u) 24) W:=λW=>by
  rw[run_sliceAt_array_h W 263 ⟨w.heap.size,0,none⟩ (by simp[Program.arrayLen,Program.elem,Tryz.underlying263]) .i64 (Lib.nDigits u:Int) (by omega) (by rw[TD];omega)]
  go_simp
 have XD:=Lib.holds_zero0 w 263 (Lib.nDigits u) ga;have dT:=Tryz.internal_strconv_formatBase10 w.heap.size 0 24 u (Array.replicate (Lib.nDigits u) 0) (w.alloc (.cells Lib.zeros24 263)) XD (by rw[Array.size_replicate];exact Lib.lt_pow_nDigits u) rD (by rw[Array.size_replicate];omega);rw[Array.size_replicate] at dT;have HH0:=Lib.hid XD;clear XD TD
 go_enter Tryz.func220,Tryz.ntmps220
 go_wp2_with (first
  |(go_at_fn (247);refine(Tryz.internal_strconv_numDigits u hu1 rD _ (Lib.tabIs_alloc tD _)).mono ?_;rintro e w' ⟨rfl,rfl⟩))
 go_at_fn (248)
 refine dT.mono ?_;rintro e w' ⟨rfl,k,v',dk,rfl,hF⟩;have hcv:(convert 39 9 (.slice (some ⟨w.heap.size,0,none⟩) (Lib.nDigits u) 24)).run Tryz.prog ((putRow (λ(b:UInt8)=>Value.int .u8 (b.toNat:Int)) (w.alloc (.cells Lib.zeros24 263)) w.heap.size 0 dk).drewN k)=.ok (.string ⟨(Lib.decDigits u).toArray⟩) ((putRow (λ(b:UInt8)=>Value.int .u8 (b.toNat:Int)) (w.alloc (.cells Lib.zeros24 263)) w.heap.size 0 dk).drewN k):=by
  have h:=run_convert_bytes_back (P:=Tryz.prog) ((putRow (λ(b:UInt8)=>Value.int .u8 (b.toNat:Int)) (w.alloc (.cells Lib.zeros24 263)) w.heap.size 0 dk).drewN k) 39 9 5 ⟨w.heap.size,0,none⟩ 24 (Lib.decDigits u) Tryz.underlying39 Tryz.underlying5 Tryz.underlying9 (λj hj=>by
   rw[Lib.row_is_numeral hF j hj,Lib.add_plain,World.cell?_drewN];exact cell?_putRow (λ(b:UInt8)=>Value.int .u8 (b.toNat:Int)) _ w.heap.size 0 _ dk HH0.out (by rw[hF.size,Array.size_replicate]) j (by rw[hF.size];rw[Lib.decDigits_length] at hj;exact hj))
  rw[Lib.decDigits_length] at h;exact h
 go_wp2
 go_ret
 refine⟨rfl,?_⟩;obtain⟨os,eo⟩:=Lib.fin_at w (.cells Lib.zeros24 263) dk k 0;rw[eo];exact Lib.below_grow _ w (Pb _) k os
open Go.GL Go.RowKit Go.ia
variable{T:List Tok}{i n op sb:Nat}{rs:List ResultVar}
attribute [local irreducible] Ea kb ab ca Go.GL.Pure Ie pf ke
structure GW(B0:Nat)(w0:World):Prop where
 HR : Go.Lib.TabIs Tryz.prog w0 "internal/strconv.uint64pow10" .u64 Go.Lib.pow10Tab
 jE : ∃ tp p, w0.var? Tryz.prog "strconv.ErrRange" = some #[.iface tp p]
 VX:8<=B0
variable{B0:Nat}{w0:World}
theorem GW.I9 (h : GW B0 w0) {w : World} (hb : Below B0 w0 w) : Go.Lib.TabIs Tryz.prog w "internal/strconv.uint64pow10" .u64 Go.Lib.pow10Tab := by
 have hg : Tryz.prog.globalNamed "internal/strconv.uint64pow10" = some 3 := by kernel_rfl
 exact var?_below hb hg (Nat.lt_of_lt_of_le ea h.VX) h.HR
theorem GW.err (h : GW B0 w0) {w : World} (hb : Below B0 w0 w) : ∃ tp p, w.var? Tryz.prog "strconv.ErrRange" = some #[.iface tp p] := by
 have hg : Tryz.prog.globalNamed "strconv.ErrRange" = some 2 := by kernel_rfl
 obtain⟨tp,p,hv⟩:=h.jE;exact⟨tp,p,var?_below hb hg (Nat.lt_of_lt_of_le ea h.VX) hv⟩
theorem KI(hG:GW B0 w0)(u:Nat)(hu:u<=9223372036854775807):ca (KC B0 w0) 157 [int .i64 u] [] (Ub (str (Go.Lib.decDigits u))):=
 ca.dn (vs:=[.int .i64 u]) λw hw=>(Go.Proofs.Tryz.strconv_Itoa u zo zo w (hG.I9 hw)).mono λe w' he=>by obtain⟨h1,k,os,h2⟩:=he;rw[Go.Lib.itoa_nonneg] at h1;exact⟨h1,by rw[h2];exact Go.Lib.below_grow _ w (Pb _) k os⟩
theorem He(hG:GW B0 w0)(u:Nat)(hu:u<18446744073709551616):ca (KC B0 w0) 195 [int .u64 u,int .i64 10] [] (Ub (str (Go.Lib.decDigits u))):=by refine jb Tryz.func195 rfl (n:=8) rfl rfl rfl ?_;refine cl ?_;refine oS (sF [_,_] rfl (ca.dn (vs:=[.int .u64 u,.int .i64 10]) λw hw=>qkm u hu w (hG.I9 hw)) ?_);refine Ad ?_;exact qb rfl (eb rfl) rfl
theorem qi3(s:List UInt8)(hs:s.length<=1000000000)(u:Nat)(h:Go.Lib.parseUintB 32 s=.ok u) :
  ca (KC B0 w0) 194 [str s,int .i64 10,int .i64 32] [] (Ub (.tuple [int .u64 u,.atom .nilIface])):=by
 refine ca.mono (ca.uh (vs:=[.string ⟨s.toArray⟩,.int .i64 10,.int .i64 32]) (p:=λus=>us=[.int .u64 u,.nilIface]) λw hw=>?_) ?_;refine(Go.Proofs.Tryz.strconv_ParseUint_10_at32_ok ⟨s.toArray⟩ ?_ u (by simpa using h) w).mono λe w' he=>⟨_,he.1,rfl,?_⟩;show s.toArray.size<=_
 simp;omega;rcases he.2 with h2|h2;rw[h2];exact Below.refl _ _;rw[h2];exact⟨rfl,rfl,rfl,by rw[Go.Lib.bytesWorld_size];omega,λk hk=>Go.Lib.bytesWorld_at_old w 5 _ k hk⟩;rintro r H ⟨v,rfl,⟨us,rfl,rfl⟩,rfl⟩;exact⟨rfl,rfl⟩
theorem qkP(hG:GW B0 w0)(s:List UInt8)(hs:s.length<=1000000000)(h:Go.Lib.parseUintB 32 s=.range) :
  ca (KC B0 w0) 194 [str s,int .i64 10,int .i64 32] [] (wy λlv=>∃ v t p,lv=.tuple [int .u64 v,.atom (.iface t p)]):=by
 refine ca.mono (ca.uh (vs:=[.string ⟨s.toArray⟩,.int .i64 10,.int .i64 32]) (p:=λus=>∃ v t p,us=[.int .u64 v,.iface t p]) λw hw=>?_) ?_;obtain⟨tp,p,hv⟩:=hG.err hw;refine(Go.Proofs.Tryz.strconv_ParseUint_10_at32_range_var ⟨s.toArray⟩ ?_ (by simpa using h) tp p w hv).mono λe w' he=>?_;show s.toArray.size<=_
 simp;omega;obtain⟨N,h1,_,_,h4⟩:=he;exact⟨_,h1,⟨_,_,_,rfl⟩,h4⟩;rintro r H ⟨v,rfl,⟨us,⟨a,t,p,rfl⟩,rfl⟩,rfl⟩;exact⟨_,rfl,⟨a,t,p,rfl⟩,rfl⟩
theorem qi7(s:List UInt8):ca (KC B0 w0) 76 [str s,str [10]] [] (Ub (int .i64 (s.count 10))):=
 ca.dn (vs:=[.string ⟨s.toArray⟩,.string ⟨#[10]⟩]) λw _=>(Go.Proofs.Tryz.strings_Count_one _ _ w).mono λe w' he=>by obtain⟨h1,h2⟩:=he;subst h2;exact⟨by simpa [Go.Lib.countByte] using h1,Below.refl _ _⟩
def Bu(t:Tok):LV:=.agg [int .i64 t.kind,str t.text,int .i64 t.line]
def vV(r:Zx):LV:=.tuple [Bu r.1,int .i64 r.2.1,int .i64 r.2.2]
theorem Zv(l:List (List UInt8)):uB 1 (l.map str):=λv hv=>by obtain⟨x,_,rfl⟩:=Ni hv;exact⟨rfl,rfl⟩
theorem qhK:ca (KC B0 w0) 197 [] [] (Ub (.list (PE.map str))):=by refine jb Tryz.func197 rfl (n:=2) rfl rfl rfl ?_;refine Ep ?_;refine oS (sL [_,_,_,_,_,_,_,_] rfl (Zv PE) rfl rfl rfl ?_);refine Ra ?_;exact qb rfl (rC (rT (v:=.list _) rfl ie) rN) rfl
theorem qrO:ca (KC B0 w0) 142 [] [] (Ub (.list (Kl.map str))):=by refine jb Tryz.func142 rfl (n:=2) rfl rfl rfl ?_;refine Ep ?_;refine oS (sL [_,_,_,_,_,_,_,_,_,_,_,_,_,_,_,_,_,_,_,_,_,_,_,_] rfl (Zv Kl) rfl rfl rfl ?_);refine Ra ?_;exact qb rfl (rC (rT (v:=.list _) rfl ie) rN) rfl
theorem qr9(l:List (List UInt8))(x:List UInt8)(hl:l.length<=1000000000):ca (KC B0 w0) 199 [.list (l.map str),str x] [] (wy λlv=>∃ n:Int,lv=int .i64 n/\decide (0<=n)=l.contains x):=by
 refine jb Tryz.func199 rfl (n:=19) rfl rfl rfl ?_;refine wa ?_;refine oL (λk ls H=>∃ m:Nat,k=l.length-m/\ls=[(0,.list (l.map str)),(1,str x),(7,int .i64 (l.map str).length),(8,int .i64 m)]/\H=[]/\m<=l.length/\l.contains x=(l.drop m).contains x)
  ⟨_,_,_,⟨0,rfl,rfl,rfl,by omega,by simp⟩,Kb,bc _⟩ ?_
 rintro k ls H ⟨m,rfl,rfl,rfl,hm,hI⟩ j hj;refine wh ?_;refine Oa (λhc=>?_) λhc=>?_;have Ka:m<l.length:=by simpa using hc
 refine wa ?_;refine qa (xR (Ud:=str l[m]) rfl rfl zo (by simp) rfl rfl)<|Ra ?_;refine Oa (λhe=>?_) λhe=>?_;refine wa ?_;have hx:x=l[m]:=by simpa using he
 exact Iy hj (eb rfl) ⟨m,rfl,by
  rw[hx,Dg zo];simp⟩
 refine wa ?_;have hx:¬ x=l[m]:=by simpa using he
 exact⟨_,_,_,by omega,⟨m+1,rfl,rfl,rfl,by omega,by
  rw[hI,List.drop_eq_getElem_cons Ka,List.contains_cons];simp[hx]⟩,Kb,bc _,hj⟩
 have ku:l.length<=m:=by simpa using hc
 refine wa ?_;exact Iy hj (eb rfl) ⟨-1,rfl,by
  rw[hI,List.drop_eq_nil_of_le ku];rfl⟩
theorem XW(l:List (List UInt8))(x:List UInt8)(hl:l.length<=1000000000):ca (KC B0 w0) 146 [.list (l.map str),str x] [] (Ub (bool (l.contains x))):=by refine jb Tryz.func146 rfl (n:=9) rfl rfl rfl ?_;refine wa ?_;refine oS (S.Ki [_,_] rfl (qr9 l x hl) ?_);rintro lv ⟨n,rfl,hn⟩;refine Ra ?_;exact qb rfl (eb rfl) (by rw[<-hn];rfl)
theorem qup(s:List UInt8)(hs:s.length<=1000000000):ca (KC B0 w0) 140 [str s] [] (Ub (vV (rI s))):=by
 refine jb Tryz.func140 rfl (n:=21) rfl rfl rfl ?_;refine Xe ?_;refine oS (Sd λb=>?_);refine cl ?_;refine oS (sF [_,_] rfl (DN Si qr2 s hs) ?_);refine xa ?_;refine Oa (λhc=>?_) λhc=>?_;refine xa ?_
 exact qb rfl (rC (rA rfl xc rfl ie) (rC (Xc rfl) (eb rfl))) (by
  rw[rI,zp (by have:=zt hc;omega)];rfl)
 refine wa ?_;refine oS (sF [] rfl qhK ?_);refine Aa ?_;refine oS (sF [_,_] rfl (XW PE (s.takeWhile Si) ea) ?_);refine Ad ?_;refine Oa (λhk=>?_) λhk=>?_;refine xa ?_
 exact qb rfl (rC (rA rfl xc rfl ie) (rC (Xc rfl) (eb rfl))) (by
  rw[rI,zn (by have:=zf hc;omega),zp hk];rfl)
 refine xa ?_;exact qb rfl (rC (rA rfl xc rfl ie) (rC (Xc rfl) (eb rfl))) (by
  rw[rI,zn (by have:=zf hc;omega),zn (by rw[hk];decide)];rfl)
theorem qiK(M:Nat)(acc:Nat)(l:List UInt8)(h:∀ c∈l,qe c=true):Go.Lib.parseUintM M acc l=.range∨∃ u,Go.Lib.parseUintM M acc l=.ok u:=by
 induction l generalizing acc with
 |nil=>exact .inr ⟨acc,rfl⟩
 |cons c r ih=>have hc:=h c List.mem_cons_self;simp only[qe,Ed,Rg,cv] at hc;rw[Go.Lib.parseUintM,zp zo];split;exact .inl rfl;split;exact .inl rfl;exact ih _ λc hc=>h c (Oc _ hc)
theorem qjd(M:Nat)(acc:Nat)(l:List UInt8)(ha:acc<=M){u:Nat}(h:Go.Lib.parseUintM M acc l=.ok u):u<=M:=by
 induction l generalizing acc with
 |nil=>simp only[Go.Lib.parseUintM,Go.Lib.NumEnd.ok.injEq] at h;omega
 |cons c r ih=>rw[Go.Lib.parseUintM] at h;split at h;split at h;cases h;split at h;cases h;exact ih _ zo h;cases h
theorem qja(s:List UInt8)(xb:s.takeWhile qe≠[]):Go.Lib.parseUintB 32 (s.takeWhile qe)=.range∨∃ u,u<18446744073709551616/\Go.Lib.parseUintB 32 (s.takeWhile qe)=.ok u:=by
 unfold Go.Lib.parseUintB;rw[zn xb];have Tf:∀ (s:List UInt8),∀ c∈s.takeWhile qe,qe c=true:=λs c hc=>by
  induction s with
  |nil=>cases hc
  |cons a r ih=>by_cases ha:qe a=true;rw[List.takeWhile_cons_of_pos ha] at hc;rcases Dc.1 hc with rfl|hc;exact ha;exact ih hc;rw[List.takeWhile_cons_of_neg ha] at hc;cases hc
 rcases qiK (2 ^ 32-1) 0 (s.takeWhile qe) (Tf s) with h|⟨u,h⟩;exact .inl h;have:=qjd _ _ _ zo h;exact .inr ⟨u,by omega,h⟩
instance:Hh Gm 99:=.of zk
theorem TN(hG:GW B0 w0)(s:List UInt8)(hs:s.length<=1000000000)(xb:s.takeWhile qe≠[]):ca (KC B0 w0) 138 [str s] [] (Ub (vV (LI s))):=by
 refine jb Tryz.func138 rfl (n:=43) rfl rfl rfl ?_;refine Xe ?_;refine oS (Sd λb=>?_);refine cl ?_;refine oS (sF [_,_] rfl (DN qe V3 s hs) ?_);refine xa ?_;refine Ea.cut [(0,str s),(2,ptr b 0),(5,str (s.takeWhile qe)),(28,bool (QE s (s.takeWhile qe).length))] ?_ λj hj=>?_;refine oB 17 rfl (λht=>?_) λht=>?_;have Ka:(s.takeWhile qe).length<s.length:=by simpa using ht
 have hw:QE s (s.takeWhile qe).length=(Ml s[(s.takeWhile qe).length] || decide (cv s[(s.takeWhile qe).length]=95)):=by rw[QE,Yh Ka]
 refine Aa ?_;refine qa (pI (c:=s[(s.takeWhile qe).length]) rfl rfl zo (by simp))<|Ea.want rfl rfl ?_;refine oS (sF [_] rfl (I4 _) ?_);refine Aa ?_;refine oB 22 rfl (λhl=>?_) λhl=>?_;refine Aa ?_;exact⟨⟨rfl,rfl,rfl,Re (by rw[hw,hl];rfl),trivial⟩,rfl,rfl⟩;refine Aa ?_;refine qa (pI (c:=s[(s.takeWhile qe).length]) rfl rfl zo (by simp))<|Aa ?_;exact⟨⟨rfl,rfl,rfl,Re (by rw[hw,hl];rfl),trivial⟩,rfl,rfl⟩;have ku:s.length<=(s.takeWhile qe).length:=by simpa using ht
 refine Ra ?_;exact⟨⟨rfl,rfl,rfl,Re (by rw[QE,List.getElem?_eq_none ku]),trivial⟩,rfl,rfl⟩
 skip
 refine Oa (λhc=>?_) λhc=>?_;refine xa ?_
 exact qb hj (rC (rA rfl xc rfl ie) (rC (Xc rfl) (eb rfl))) (by
  rw[LI,zp hc];rfl)
 refine wa ?_;rcases qja s xb with hp|⟨u,hu,hp⟩;refine oS (S.Ki [_,_,_] rfl (qkP hG (s.takeWhile qe) (Xf (List.takeWhile_prefix qe).length_le hs) hp) ?_);rintro lv ⟨v,t,p,rfl⟩;refine xa ?_;refine Oa (λhc=>?_) λhc=>?_;refine xa ?_
 exact qb hj (rC (rA rfl xc rfl ie) (rC (Xc rfl) (eb rfl))) (by
  rw[LI,zn (by rw[‹QE s _=false›];decide),hp];rfl)
 cases hc;refine oS (sF [_,_,_] rfl (qi3 (s.takeWhile qe) (Xf (List.takeWhile_prefix qe).length_le hs) u hp) ?_);refine xa ?_;refine Oa (λhc=>?_) λhc=>?_;cases hc;refine wa ?_;refine oS (sF [_,_] rfl (He hG u hu) ?_);refine Ra ?_
 exact qb hj (rC (rA rfl xc rfl ie) (rC (Xc rfl) (eb rfl))) (by
  rw[LI,zn (by rw[‹QE s _=false›];decide),hp];rfl)
theorem qot(hG:GW B0 w0)(s:List UInt8)(hs:s.length<=1000000000):ca (KC B0 w0) 141 [str s] [] (Ub (vV (FG s))):=by
 by_cases h3:s.length<3;have hl:FG s=Jo 3:=by
  match s,h3 with
  |[],_=>rfl
  |[_],_=>rfl
  |[_,_],_=>rfl
 refine jb Tryz.func141 rfl (n:=39) rfl rfl rfl ?_;refine Xe ?_;refine oS (Sd λb=>?_);refine xa ?_;refine oB 8 rfl (λht=>?_) λht=>?_;refine Aa ?_;refine Oa (λhc=>?_) λhc=>?_;refine xa ?_;exact qb rfl (rC (rA rfl xc rfl ie) (rC (Xc rfl) (eb rfl))) (by rw[hl];rfl);cases hc;exact absurd (zf ht) zo
 match s,h3 with
 |[],h=>exact absurd (by simp) h
 |[_],h=>exact absurd (by simp) h
 |[_,_],h=>exact absurd (by simp) h
 |x::c1::c2::r,h=>
  refine jb Tryz.func141 rfl (n:=39) rfl rfl rfl ?_;refine Xe ?_;refine oS (Sd λb=>?_);refine xa ?_;refine Ea.cut [(0,str (x::c1::c2::r)),(2,ptr b 0),(32,bool ((!decide (cv c2=39)) || decide (cv c1<32) || decide (126<cv c1) || decide (cv c1=39) || decide (cv c1=92)))] ?_ λj hj=>?_
  ·refine oB 8 rfl (λht=>?_) λht0=>?_;exact absurd (zt ht) (by simp only[Ma];omega)
   skip
   refine qa (pI (c:=c2) rfl rfl ea rfl)<|Ra ?_;refine oB 13 rfl (λht=>?_) λrX=>?_;refine Aa ?_;exact⟨⟨rfl,rfl,Re (by rw[ht];rfl),trivial⟩,rfl,rfl⟩;refine GF ?_;refine Aa ?_;refine oB 18 rfl (λht=>?_) λiH=>?_;refine Aa ?_;exact⟨⟨rfl,rfl,Re (by rw[rX,ht];rfl),trivial⟩,rfl,rfl⟩;refine GF ?_;refine Ra ?_;refine oB 23 rfl (λht=>?_) λQL=>?_;refine Aa ?_;exact⟨⟨rfl,rfl,Re (by rw[rX,iH,ht];rfl),trivial⟩,rfl,rfl⟩;refine GF ?_;refine Aa ?_;refine oB 28 rfl (λht=>?_) λht4=>?_;refine Aa ?_;exact⟨⟨rfl,rfl,Re (by rw[rX,iH,QL,ht];rfl),trivial⟩,rfl,rfl⟩;refine GF ?_;refine Aa ?_;exact⟨⟨rfl,rfl,Re (by rw[rX,iH,QL,ht4];rfl),trivial⟩,rfl,rfl⟩
  skip
  refine Oa (λhc=>?_) λhc=>?_;refine xa ?_;exact qb hj (rC (rA rfl xc rfl ie) (rC (Xc rfl) (eb rfl))) (by rw[FG,zp hc];rfl);refine wa ?_;refine qa (pI (c:=c1) rfl rfl ea rfl)<|qa (Pure.nE rfl) ?_;have hw:IntKind.i64.wrap (c1.toNat:Int)=((c1.toNat:Nat):Int):=cA (by have:=c1.toNat_lt;omega);rw[hw];refine oS (sF [_] rfl (KI hG c1.toNat (by have:=c1.toNat_lt;omega)) ?_);refine Ra ?_;exact qb hj (rC (rA rfl xc rfl ie) (rC (Xc rfl) (eb rfl))) (by rw[FG,zn (by rw[hc];decide)];rfl)
theorem qrW(hG:GW B0 w0)(s:List UInt8)(hs:s.length<=1000000000)(xb:s≠[]):ca (KC B0 w0) 75 [str s] [] (Ub (vV (eh s))):=by
 match s,xb with
 |c::r,_=>
  refine jb Tryz.func75 rfl (n:=49) rfl rfl rfl ?_;refine Xe ?_;refine oS (Sd λb=>?_);refine wa ?_;refine qa (pI (c:=c) rfl rfl ea rfl)<|oS (sF [_] rfl (V3 c) ?_);refine Ad ?_;refine Oa (λhc=>?_) λhc=>?_;refine Yd ?_;refine oS (sF [_] rfl (TN hG (c::r) hs (by rw[List.takeWhile_cons_of_pos hc];simp)) ?_);refine Ra ?_;exact qb rfl (rC (rA rfl xc rfl ie) (rC (Xc rfl) (eb rfl))) (by simp only[eh,hc,if_true];rfl);refine Yd ?_;refine qa (pI (c:=c) rfl rfl ea rfl)<|oS (sF [_] rfl (I4 c) ?_);refine Ad ?_;refine Oa (λhl=>?_) λhl=>?_;refine Yd ?_;refine oS (sF [_] rfl (qup (c::r) hs) ?_);refine Ra ?_;exact qb rfl (rC (rA rfl xc rfl ie) (rC (Xc rfl) (eb rfl))) (by simp only[eh,hc,hl,if_true,Il,if_false];rfl);refine Yd ?_;refine qa (pI (c:=c) rfl rfl ea rfl)<|Aa ?_;refine Oa (λhq=>?_) λhq=>?_;refine Yd ?_;refine oS (sF [_] rfl (qot hG (c::r) hs) ?_);refine Ra ?_;exact qb rfl (rC (rA rfl xc rfl ie) (rC (Xc rfl) (eb rfl))) (by simp only[eh,hc,hl,Il,if_false];rw[zp hq];rfl);have iS:eh (c::r)=FK (c::r):=by simp only[eh,hc,hl,Il,if_false];rw[zn (by rw[hq];decide)]
  refine wa ?_;refine oS (sF [] rfl qrO ?_);refine Aa ?_;refine oL (λk ls H=>∃ m:Nat,k=Kl.length-m/\ls=[(0,str (c::r)),(2,ptr b 0),(34,.list (Kl.map str)),(35,int .i64 24),(36,int .i64 m)]/\H=[(b,.cells 156 [int .i64 0,str [],int .i64 0])]/\m<=24/\Kl.find? (λx=>x.isPrefixOf (c::r))=(Kl.drop m).find? (λx=>x.isPrefixOf (c::r)))
   ⟨_,_,_,⟨0,rfl,rfl,rfl,by omega,by simp⟩,Kb,bc _⟩ ?_
  rintro k ls H ⟨m,rfl,rfl,rfl,hm,hI⟩ j hj;have h24:Kl.length=24:=rfl;refine wh ?_;refine Oa (λht=>?_) λht=>?_;have Ka:m<Kl.length:=by have:=zt ht;omega
  refine Zi ?_;refine qa (xR (Ud:=str Kl[m]) rfl rfl zo (by simp) rfl rfl)<|xa ?_;refine oS (sF [_,_] rfl (qgF (c::r) Kl[m]) ?_);refine Ad ?_;refine Oa (λhp=>?_) λhp=>?_;refine xa ?_
  exact qb hj (rC (rA rfl xc rfl ie) (rC (Xc rfl) (eb rfl))) (by
   rw[iS,FK,hI,List.drop_eq_getElem_cons Ka,List.find?_cons_of_pos (by simpa using hp)];rfl)
  refine wa ?_;exact⟨_,_,_,by omega,⟨m+1,rfl,rfl,rfl,by omega,by
   rw[hI,List.drop_eq_getElem_cons Ka,List.find?_cons_of_neg (by rw[hp];decide)]⟩,Kb,bc _,hj⟩
  have ku:Kl.length<=m:=by have:=zf ht;omega
  refine xa ?_;exact qb hj (rC (rA rfl xc rfl ie) (rC (Xc rfl) (eb rfl))) (by
   rw[iS,FK,hI,List.drop_eq_nil_of_le ku];rfl)
def aA(s:List UInt8):Except (Int×Int) (List Tok):=if 60000<s.length then .error (0,6) else Ke s.length s 1
def jV:Except (Int×Int) (List Tok)->LV
 |.ok T=>.tuple [.list (T.map Bu),int .i64 0,int .i64 0]
 |.error (l,e)=>.tuple [.list [],int .i64 l,int .i64 e]
theorem qr4{A B D:Type}(f:A->B)(h:B->D)(r:Except (Int×Int) A):(r.map f).map h=r.map (λx=>h (f x)):=by cases r <;> rfl
theorem qrl(hG:GW B0 w0)(s:List UInt8):ca (KC B0 w0) 44 [str s] [] (Ub (jV (aA s))):=by
 refine jb Tryz.func44 rfl (n:=49) rfl rfl rfl ?_;refine xa ?_;refine Oa (λhc=>?_) λhc=>?_;refine Ak ?_
 exact qb rfl (rC (rT (v:=fc) rfl vN) (rC (Xc rfl) (eb rfl))) (by
  rw[aA,zp (by have:=zt hc;omega)];rfl)
 have ma:s.length<=60000:=by have:=zf hc;omega
 refine wa ?_;refine oL (λk ls H=>∃ (v:LV) (out:List Tok) (rest:List UInt8) (line:Int) (Ba:Nat),k=rest.length/\ls=[(5,v),(6,int .i64 line),(7,str rest)]/\Acc 3 v (out.map Bu) H [] /\
   rest.length<=Ba/\0<=line/\line+rest.length<=60001/\out.length+rest.length<=60000/\Ke s.length s 1=(Ke Ba rest line).map (out++·))
  ⟨_,_,_,⟨fc,[],s,1,s.length,rfl,rfl,Acc.nil,by omega,by omega,by omega,by simp;omega,by cases Ke s.length s 1 <;> rfl⟩,Kb,bc _⟩ ?_
 rintro k ls H ⟨v,out,rest,line,Ba,rfl,rfl,Eb,hf,LB,EA,ho,hI⟩ j hj;refine xa ?_;refine Oa (λxb=>?_) λxb=>?_;have iq:rest≠[]:=by simpa using xb
 obtain⟨f,rfl⟩:∃ f,Ba=f+1:=⟨Ba-1,by
  have:0<rest.length:=List.length_pos_iff.2 iq;omega⟩
 rw[Ke,zn iq] at hI;have hsk:=qli rest;refine wa ?_;refine oS (sF [_] rfl (quH rest zo) ?_);refine wa ?_;refine Oa (λhz=>?_) λhz=>?_;have aH:Lo rest=0:=by have:=zt hz;omega
 rw[zp aH] at hI;refine Yd ?_;refine oS (sF [_] rfl (qrW hG rest zo iq) ?_);refine Ra ?_;refine oS (Sd λb=>?_);refine xa ?_;refine Oa (λhe=>?_) λhe=>?_;have Na:(eh rest).2.2≠0:=by simpa using he
 rw[zp Na] at hI;refine wa ?_;exact qb hj (rC (rT (v:=fc) rfl vN) (rC (Xc rfl) (eb rfl))) (by
  rw[aA,zn zo,hI];rfl)
 have Na:(eh rest).2.2=0:=by simpa using he
 rw[zn (by simpa using Na)] at hI;obtain⟨kH,bF⟩:=M4 rest Na;refine xa ?_;refine qu ?_;refine Ra ?_;refine Kj ?_;refine Ea.Yb (Yg ob) ?_;refine oS (S.acc rfl Eb rfl (by simp;rfl) rfl (by simp;omega) λv' H' Ob=>?_);refine Ql ?_;refine cl ?_;refine qa (Pure.kl (i:=0) (j:=(eh rest).2.1) rfl rfl ⟨_,rfl⟩ zo zo zo)<|oS (sF [_,_] rfl (qi7 _) ?_);have gM:(List.drop (Int.toNat 0) (List.take ((eh rest).2.1:Int).toNat rest)).count 10<=(eh rest).2.1:=Xf List.count_le_length (by simp;omega);refine wa ?_;refine qa (Pure.kl (i:=(eh rest).2.1) (j:=rest.length) rfl ⟨_,rfl⟩ rfl zo zo zo)<|Aa ?_
 have ud:Acc 3 v' ((out++[{ (eh rest).1 with line:=line }]).map Bu) H' []:=by rw[Te];exact Ob
 exact⟨_,_,_,by simp only[length_drop];omega,⟨v',out++[{ (eh rest).1 with line:=line }],rest.drop (eh rest).2.1,line+((rest.take (eh rest).2.1).count 10:Nat),f,rfl,rfl,ud,
  by simp only[length_drop];omega,by omega,by simp only[length_drop];simp at gM;omega,by simp only[length_drop,Ga,List.length_singleton];omega,by
   rw[hI,qr4];congr 1;funext x;simp⟩,⟨rfl,qf (by simp),vQ (by simp),trivial⟩,bc _,hj⟩
 have aH:¬ Lo rest=0:=by have:=zf hz;omega
 rw[zn aH] at hI;refine wa ?_;refine qa (Pure.kl (i:=0) (j:=Lo rest) rfl rfl ⟨_,rfl⟩ zo zo zo)<|oS (sF [_,_] rfl (qi7 _) ?_);have gM:(List.drop (Int.toNat 0) (List.take (Lo rest:Int).toNat rest)).count 10<=Lo rest:=Xf List.count_le_length (by simp;omega);refine wa ?_;refine qa (Pure.kl (i:=Lo rest) (j:=rest.length) rfl ⟨_,rfl⟩ rfl zo zo zo)<|Aa ?_;exact⟨_,_,_,by simp only[length_drop];omega,⟨v,out,rest.drop (Lo rest),line+((rest.take (Lo rest)).count 10:Nat),f,rfl,rfl,Eb,
   by simp only[length_drop];omega,by omega,by simp only[length_drop];simp at gM;omega,by simp only[length_drop];omega,hI⟩,⟨rfl,qf (by simp),vQ (by simp),trivial⟩,bc _,hj⟩
 have iq:rest=[]:=by simpa using xb
 refine wa ?_;refine gC ?_;exact qb hj (rC (rT (v:=v) rfl Eb.sub) (rC (Xc rfl) (eb rfl))) (by
  rw[aA,zn zo,hI,iq];cases Ba <;> simp[Ke,Except.map,jV,Oh])
attribute [local irreducible] LQ Rb oi Nj
@[reducible] def Hb(sb:Nat)(T:List Tok)(i op:Nat):Nat×ja:=(sb,.cells 111 [.list (T.map Bu),int .i64 i,int .i64 op])
def mO(l e:Int):List PanicEntry:=[{ v:=.iface 107 (.agg #[.int .i64 l,.int .i64 e]),recovered:=false }]
def Ho{A:Type}(sb:Nat)(T:List Tok)(enc:A->LV)(Eo:pk A)(r:Pe)(H:Heap):Prop:=match Eo with
 |.ok v i op=>r=.ret (enc v)/\H=[Hb sb T i op]
 |.err l e=>r=.panic (mO l e)/\∃ i op:Nat,H=[Hb sb T i op]
def NA:Unit->LV:=λ_=>.tuple []
theorem Mo{A:Type}(f:A->LV)(l:List A)(i:Nat)(h:i<l.length):(l.map f)[((i:Nat):Int).toNat]? = some (f l[i]):=by rw[Int.toNat_natCast,List.getElem?_map,Yh h];rfl
theorem Cu(sb:Nat)(T:List Tok)(i op:Nat)(xs:List (List UInt8))(hT:T.length<=100000)(hi:i<=1000000)(hx:xs.length<=1000) :
  ca (KC B0 w0) 77 [ptr sb 0,.list (xs.map str)] [Hb sb T i op] (λr H=>r=.ret (bool (Ja T i xs))/\H=[Hb sb T i op]):=by
 refine jb Tryz.func77 rfl (n:=40) rfl rfl rfl ?_;refine Ep ?_;refine ZB [(0,ptr sb 0),(1,.list (xs.map str)),(15,bool (decide (T.length<=i)))] ?_ λj hj=>?_;refine Tq ?_;exact⟨⟨rfl,rfl,Re (by rw[decide_eq_decide];simp),trivial⟩,rfl,rfl⟩
 skip
 refine Oa (λhc=>?_) λhc=>?_;refine Ak ?_;exact rR hj (eb rfl) ob ⟨by rw[Ja,List.getElem?_eq_none (zt hc)];rfl,rfl⟩;have Ka:i<T.length:=by have:=zf hc;omega
 refine Aa ?_;refine cD (m:=12) rfl [Hb sb T i op]<|JM ?_;refine aT 3 rfl rfl (pL (c:=.list _) rfl xc rfl)<|aT 4 rfl rfl (Cc (lv:=.atom _) rfl)<|aT 5 rfl rfl (pN rfl)<|aT 6 rfl rfl (pF rfl)<|aT 7 rfl rfl (pL (c:=.atom _) rfl xc rfl)<|Rb.take (i:=8) ob rfl zk zk zk rfl (xR (Ud:=Bu T[i]) (cs:=[_,_,_]) rfl rfl zo (Mo _ _ _ Ka) rfl rfl)<|aT 9 rfl rfl (pR (Zb:=[_,_,_]) rfl rfl rfl)<|aL ?_ ob;refine lO 10 (lS (H1:=[]) (F:=[Hb sb T i op]) rfl (.inl rfl) rfl dc ob (Sd λb=>?_));refine lO 11 (lS (H1:=[(b,_)]) (F:=[Hb sb T i op]) rfl (.inl rfl) rfl dc ob (sS (Zb:=[_,_,_]) rfl pH rfl rfl rfl rfl rfl ?_));refine lD zk ?_;refine wa ?_;have xt:Ja T i xs=((decide (T[i].kind=3) || decide (T[i].kind=4)) && xs.contains T[i].text):=by rw[Ja,Yh Ka]
 rw[xt];refine oB 29 rfl (λh3=>?_) λh3=>?_;refine Aa ?_;refine oS (sF [_,_] rfl (XW xs T[i].text zo) ?_);refine Aa ?_;exact rR hj (eb rfl) (Yg ob) ⟨by rw[h3];rfl,rfl⟩;refine Aa ?_;refine oB 34 rfl (λh4=>?_) λh4=>?_;refine Aa ?_;refine oS (sF [_,_] rfl (XW xs T[i].text zo) ?_);refine Aa ?_;exact rR hj (eb rfl) (Yg ob) ⟨by rw[h3,h4];rfl,rfl⟩;refine Aa ?_;exact rR hj (eb rfl) (Yg ob) ⟨by rw[h3,h4];rfl,rfl⟩
section steps
variable{C:Ctx}{e:Env}{H:Heap}{dst:Option Nat}{ty:TypeId}{ra:String}{ua:Array Edge}{g:Option (Nat×Bool)}{K:LV->Heap->Prop}{X:List PanicEntry->Heap->Prop}
theorem sH{f:FuncId} [Wb C.P f](args:List Operand){nh:Array TypeId}{av:List LV}{lv:LV}{p p':Nat×ja}{F:Heap}(has:args.map e.ev=av)(hp:xd p H F)(hc:ca C f av [p] λr H=>r=.ret lv/\H=[p'])(hk:K lv (p'::F)) :
  ab C ⟨dst,.call { callee:=.value (.func f),args:=args.toArray,argTypes:=nh },ty,ra,ua,g⟩ e H K X:=
 S.MJ args has hp hc (by rintro v H' ⟨h,rfl⟩;cases h;exact hk) (by rintro ch H' ⟨h,_⟩;cases h)
theorem sP{A:Type}{enc:A->LV}{Eo:pk A}{f:FuncId} [Wb C.P f](args:List Operand){nh:Array TypeId}{av:List LV}{F:Heap}(has:args.map e.ev=av)(hp:xd (Hb sb T i op) H F)
  (hc:ca C f av [Hb sb T i op] (Ho sb T enc Eo)) (hk:∀ v i' La,Eo=.ok v i' La->K (enc v) (Hb sb T i' La::F)) (hx:∀ l er i' La,Eo=.err l er->X (mO l er) (Hb sb T i' La::F)) :
  ab C ⟨dst,.call { callee:=.value (.func f),args:=args.toArray,argTypes:=nh },ty,ra,ua,g⟩ e H K X:=by
 refine S.MJ args has hp hc ?_ ?_;intro v H' h;cases hr:Eo with
 |ok u i' La=>rw[hr] at h;obtain⟨h1,rfl⟩:=h;cases h1;exact hk _ _ _ hr
 |err l er=>rw[hr] at h;obtain⟨h1,_⟩:=h;cases h1
 intro ch H' h;cases hr:Eo with
 |ok u i' La=>rw[hr] at h;obtain⟨h1,_⟩:=h;cases h1
 |err l er=>rw[hr] at h;obtain⟨h1,i',La,rfl⟩:=h;cases h1;exact hx _ _ _ _ hr
theorem Of{A:Type}{enc:A->LV}{Eo:pk A}{vs:List LV}{v:A}(hd:e.ds=[])(h:tn C n e H rs vs)(hr:Eo=.ok v i op)(hv:Oh vs=enc v)(hH:HSub [Hb sb T i op] H) :
  ke C n rs (Ho sb T enc Eo) .ret e H:=rR hd h hH (by rw[hr];exact⟨by rw[hv],rfl⟩)
theorem Z4{A:Type}{enc:A->LV}{Eo:pk A}{vs:List LV}{v:A}(hd:e.ds=[])(h:tn C n e H rs vs)(hr:Eo=.ok v i op)(hv:Oh vs=enc v)(hH:HSub [Hb sb T i op] H) :
  ke C n rs (Ho sb T enc Eo) .normal e H:=rO hd h hH (by rw[hr];exact⟨by rw[hv],rfl⟩)
theorem Mc{A:Type}{enc:A->LV}{Eo:pk A}{l er:Int}(hd:e.ds=[])(hr:Eo=.err l er)(hH:HSub [Hb sb T i op] H) :
  ke C n rs (Ho sb T enc Eo) (.panic (mO l er)) e H:=ke.panic hd hH (by rw[hr];exact⟨rfl,i,op,rfl⟩)
end steps
variable{B0:Nat}{w0:World}
theorem jR{A:Type}(enc:A->LV)(sb:Nat)(T:List Tok)(i op:Nat)(er:Int)(hT:T.length<=100000)(hi:i<=1000000) :
  ca (KC B0 w0) 82 [ptr sb 0,int .i64 er] [Hb sb T i op] (Ho sb T enc (.err (LN T i) er)):=by
 have IB:(T.map Bu).length=T.length:=Mb _;refine jb Tryz.func82 rfl (n:=31) rfl rfl rfl ?_;refine xa ?_;refine ZB [(0,ptr sb 0),(1,int .i64 er),(4,int .i64 (LN T i))] ?_ λj hj=>?_;refine Oa (λhc=>?_) λhc=>?_;have AA:0<T.length:=by have:=zt hc;simp at this;omega
 have OS:min i (T.length-1)<T.length:=by omega
 have hmv:(if ((T.map Bu).length:Int)-1<(i:Int) then ((T.map Bu).length:Int)-1 else (i:Int))=((min i (T.length-1):Nat):Int):=by rw[Mb];split <;> omega
 refine Tq ?_;refine qP (xR (n:=((min i (T.length-1):Nat):Int)) (Ud:=Bu T[min i (T.length-1)]) (cs:=[_,_,_]) rfl (congrArg (int .i64) hmv) zo (Mo _ _ _ OS) rfl rfl) rfl ?_;refine Ra ?_;exact⟨⟨rfl,rfl,qf (by rw[LN,Yh OS]),trivial⟩,rfl,rfl⟩;have hz:T=[]:=by have:=zf hc;exact List.length_eq_zero_iff.1 zo
 refine Aa ?_;exact⟨⟨rfl,rfl,qf (by rw[LN,hz];rfl),trivial⟩,rfl,rfl⟩;refine xa ?_;refine oS (ab.panic rfl λe' Na=>?_);exact Mc (Na.trans hj) rfl ob
theorem XE(sb:Nat)(T:List Tok)(i op:Nat)(x:List UInt8)(hT:T.length<=100000)(hi:i<=1000000) :
  ca (KC B0 w0) 79 [ptr sb 0,str x] [Hb sb T i op] (λr H=>r=.ret (bool (Ja T i [x]))/\H=[Hb sb T (if Ja T i [x] then i+1 else i) op]):=by
 refine jb Tryz.func79 rfl (n:=17) rfl rfl rfl ?_;refine cl ?_;refine Kj ?_;refine oS (sH [_,_] rfl pH (Cu sb T i op [x] hT hi (by simp)) ?_);refine Ra ?_;refine Oa (λhc=>?_) λhc=>?_;have h:Ja T i [x]=false:=by simpa using hc
 refine Ak ?_;exact rR rfl (eb rfl) ob ⟨by rw[h];rfl,by rw[h];rfl⟩;have h:Ja T i [x]=true:=by simpa using hc
 refine xa ?_;exact rR rfl (eb rfl) ob ⟨by rw[h];rfl,by rw[h];rfl⟩
theorem TK(sb:Nat)(T:List Tok)(i op:Nat)(x:List UInt8)(hT:T.length<=100000)(hi:i<=1000000) :
  ca (KC B0 w0) 148 [ptr sb 0,str x] [Hb sb T i op] (Ho sb T NA (Sn T x i op)):=by
 refine jb Tryz.func148 rfl (n:=10) rfl rfl rfl ?_;refine Yd ?_;refine oS (sH [_,_] rfl pH (XE sb T i op x hT hi) ?_);refine Ra ?_;refine Oa (λhc=>?_) λhc=>?_;have h:Ja T i [x]=false:=by simpa using hc
 simp only[h,Il,if_false];refine Yd ?_;refine oS (sP [_,_] rfl pH (jR NA sb T i op 3 hT hi) (λ_ _ _ h=>by cases h) λl er i' La h e' Na=>?_);cases h;exact Mc (Na.trans rfl) (by rw[Sn,h,zn ea];rfl) ob;have h:Ja T i [x]=true:=by simpa using hc
 simp only[h,if_true];refine Aa ?_;exact Z4 rfl rN (by rw[Sn,h,zp rfl]) rfl ob
theorem Xn(sb:Nat)(T:List Tok)(i op:Nat)(k:Int)(hT:T.length<=100000)(hi:i<=1000000) :
  ca (KC B0 w0) 149 [ptr sb 0,int .i64 k] [Hb sb T i op] (Ho sb T str (qn T k i op)):=by
 have IB:(T.map Bu).length=T.length:=Mb _;refine jb Tryz.func149 rfl (n:=51) rfl rfl rfl ?_;refine Ep ?_;refine ZB [(0,ptr sb 0),(1,int .i64 k),(29,bool (match T[i]? with|some t=>!decide (t.kind=k)|none=>true))] ?_ λj hj=>?_;refine Tq ?_;refine LQ.NJ 15 rfl (λh=>?_) λh=>?_;have ku:T.length<=i:=by have:=zt h;omega
 refine Ra ?_;exact⟨⟨rfl,rfl,Re (by rw[List.getElem?_eq_none ku]),trivial⟩,rfl,rfl⟩;have Ka:i<T.length:=by have:=zf h;omega
 refine Ra ?_;refine qP (xR (Ud:=Bu T[i]) (cs:=[_,_,_]) rfl rfl zo (Mo _ _ _ Ka) rfl rfl) rfl ?_;refine Ra ?_;exact⟨⟨rfl,rfl,Re (by rw[Yh Ka]),trivial⟩,rfl,rfl⟩
 skip
 refine Oa (λhc=>?_) λhc=>?_
 have hs:qn T k i op=jI T i:=by
  unfold qn;cases hg:T[i]? with
  |none=>rfl
  |some t=>
   rw[hg] at hc;have:¬ t.kind=k:=by simpa using hc
   simp only;rw[zn this]
 refine Yd ?_;refine oS (sP [_,_] rfl pH (jR str sb T i op 3 hT hi) (λ_ _ _ h=>by cases h) λl er i' La h e' Na=>?_);cases h;refine Yi ?_;exact Mc (Na.trans hj) hs ob
 have Ka:i<T.length:=by rcases Nat.lt_or_ge i T.length with h|h;exact h;rw[List.getElem?_eq_none h] at hc;cases hc
 rw[Yh Ka] at hc;have hk:T[i].kind=k:=by simpa using hc
 have hs:qn T k i op=.ok T[i].text (i+1) op:=by rw[qn,Yh Ka];simp only;rw[zp hk]
 refine xa ?_;refine ZB [(0,ptr sb 0),(4,str T[i].text)] ?_ λj2 Gc=>?_;refine Tq ?_;refine qP (xR (n:=((i:Nat):Int)) (Ud:=Bu T[i]) (cs:=[_,_,_]) rfl (qf zo) zo (Mo _ _ _ Ka) rfl rfl) rfl ?_;refine Ra ?_;exact⟨Kb,rfl,rfl⟩;refine Ad ?_;exact Of (Gc.trans hj) (eb rfl) hs rfl ob
theorem DG(sb:Nat)(T:List Tok)(i op:Nat)(x:List UInt8)(hT:T.length<=100000)(hi:i<=1000000)(ho:op<=1000000) :
  ca (KC B0 w0) 150 [ptr sb 0,str x] [Hb sb T i op] (Ho sb T NA (vn T x i op)):=by
 refine jb Tryz.func150 rfl (n:=32) rfl rfl rfl ?_;refine Yd ?_;refine Kj ?_;refine oS (sH [_,_] rfl pH (Cu sb T i op [x] hT hi (by simp)) ?_);refine Ra ?_;refine Oa (λhc=>?_) λhc=>?_;have h:Ja T i [x]=false:=by simpa using hc
 refine Yd ?_;refine oS (sP [_,_] rfl pH (jR NA sb T i op 3 hT hi) (λ_ _ _ h=>by cases h) λl er i' La h' e' Na=>?_);cases h';refine Yi ?_;exact Mc (Na.trans rfl) (by rw[vn,h,zn ea];rfl) ob;have h:Ja T i [x]=true:=by simpa using hc
 refine xa ?_;refine Oa (λhd=>?_) λhd=>?_;have R7:100<=op:=by have:=zt hd;omega
 refine Yd ?_;refine oS (sP [_,_] rfl pH (jR NA sb T i op 6 hT hi) (λ_ _ _ h=>by cases h) λl er i' La h' e' Na=>?_);cases h';refine Yi ?_;exact Mc (Na.trans rfl) (by rw[vn,h,zp rfl,zp R7]) ob;have R7:¬ 100<=op:=by have:=zf hd;omega
 refine xa ?_;exact Z4 rfl rN (by rw[vn,h,zp rfl,zn R7]) rfl ob
theorem GK(sb:Nat)(T:List Tok)(i op:Nat)(x:List UInt8)(hT:T.length<=100000)(hi:i<=1000000)(ho:op<=1000000)(h1:1<=op) :
  ca (KC B0 w0) 152 [ptr sb 0,str x] [Hb sb T i op] (Ho sb T NA (Nh T x i op)):=by
 refine jb Tryz.func152 rfl (n:=14) rfl rfl rfl ?_;refine Yd ?_;refine oS (sP [_,_] rfl pH (TK sb T i op x hT hi) (λv i' La h=>?_) λl er i' La h e' Na=>?_)
 have ld:La=op:=by unfold Sn at h;split at h;cases h;rfl;cases h
 subst ld;refine xa ?_;rw[show((La:Int)-1)=((La-1:Nat):Int) by omega];exact Z4 rfl rN (by rw[Nh,h];rfl) rfl ob;refine Yi ?_;exact Mc (Na.trans rfl) (by rw[Nh,h];rfl) ob
theorem Je{A B:Type}{v:A}{f:A->Nat->Nat->OR B}:ad (some (.ok v i op)) f=f v i op:=rfl
theorem Ih{A B:Type}{l e:Int}{f:A->Nat->Nat->OR B}:ad (some (.err l e)) f=some (.err l e):=rfl
theorem ql{A B:Type}{r:OR A}{f:A->Nat->Nat->OR B}{q:pk B}(h:ad r f=some q):∃ r1,r=some r1:=by
 cases r with
 |none=>cases h
 |some r1=>exact⟨r1,rfl⟩
structure Xt(T:List Tok):Prop where
 len:T.length<=100000
 rc:∀ t∈T,t.text.length<=100000
 num:∀ t∈T,t.kind=1->∃ u,u<4294967296/\Go.Lib.parseUintB 32 t.text=.ok u
theorem qxi{n:Int}(h:0<=n/\n<=4294967295):IntKind.u32.wrap n=n:=by simp only[IntKind.wrap,IntKind.bits,IntKind.signed,wj];simp;omega
theorem CG{k:Int}{i' La:Nat}{s:List UInt8}(h:qn T k i op=.ok s i' La):i'=i+1/\La=op/\∃ t,T[i]? = some t/\t.kind=k/\t.text=s:=by unfold qn at h;split at h;rename_i t ht;split at h;rename_i hk;cases h;exact⟨rfl,rfl,t,ht,hk,rfl⟩;cases h;cases h
def qp9(l:List (List UInt8)):LV:=.list (l.map str)
def I8(n:Nat):LV:=int .u32 n
def cG(B0:Nat)(w0:World)(sb:Nat)(T:List Tok)(f:Nat):Prop:=
 ∀ i op r,i<=T.length->op<=100->Dd T f 0 i op=some r->ca (KC B0 w0) 225 [ptr sb 0] [Hb sb T i op] (Ho sb T Ab r)
theorem qiV(hG:GW B0 w0)(sb:Nat)(T:List Tok)(hT:Xt T)(i op:Nat)(hi:i<=1000000):ca (KC B0 w0) 151 [ptr sb 0] [Hb sb T i op] (Ho sb T I8 (My T i op)):=by
 have hl:=hT.len;refine jb Tryz.func151 rfl (n:=13) rfl rfl rfl ?_;refine cl ?_;refine oS (sP [_,_] rfl pH (Xn sb T i op 1 hl hi) (λs i1 yc h1=>?_) λl er i1 yc h1 e' Na=>?_);obtain⟨rfl,rfl,t,ht,hk,rfl⟩:=CG h1;have pi:=List.mem_of_getElem? ht;obtain⟨u,hu,hp⟩:=hT.num t pi hk;have htx:=hT.rc t pi;have hn:Uv t.text=u:=by rw[Uv,hp]
 have hw:IntKind.u32.wrap (u:Int)=(u:Int):=qxi zo;refine oS (sF [_,_,_] rfl (qi3 t.text zo u hp) ?_);refine xa ?_;exact Of (v:=Uv t.text) rfl (eb rfl) (by rw[My,h1];rfl) (by rw[hn];exact qf hw) ob;refine Yi ?_;exact Mc (Na.trans rfl) (by rw[My,h1];rfl) ob
theorem qjG(sb:Nat)(T:List Tok)(hT:Xt T)(f i op:Nat)(r:pk (List (List UInt8)))(hi:i<=T.length)(hr:Hy T f i op=some r) :
  ca (KC B0 w0) 147 [ptr sb 0] [Hb sb T i op] (Ho sb T qp9 r):=by
 have hl:=hT.len;rw[Hy] at hr;refine jb Tryz.func147 rfl (n:=15) rfl rfl rfl ?_;refine cl ?_;refine oS (sP [_,_] rfl pH (Xn sb T i op 2 hl zo) (λs i1 yc h1=>?_) λl er i1 yc h1 e' Na=>?_);rw[h1,Je] at hr
 have NB:i1<=T.length:=by have:=CB T 2 i op;rw[h1] at this;exact this.2.2.1 hi
 refine oS (S.tA [_] rfl (Qd rfl rfl pj) rfl rfl rfl λb=>?_);refine Ra ?_
 refine oL (λk ls H=>∃ (v:LV) (l:List (List UInt8)) (i2:Nat) (Ha:Heap),ls=[(0,ptr sb 0),(3,v)]/\H=Hb sb T i2 yc::Ha/\Acc 1 v (l.map str) Ha []/\i2<=T.length/\l.length<=i2+1/\Nq T k l i2 yc=some r)
  ⟨f,_,Hb sb T i1 yc::[(b,.row 1)],⟨.app b 1 1 [str s],[s],i1,_,rfl,rfl,Acc.row,NB,by simp,hr⟩,Kb,Fc Vd ob⟩ ?_
 rintro k ls H ⟨v,l,i2,Ha,rfl,rfl,Eb,Dx,fF,hI⟩ j hj;obtain⟨k,rfl⟩:∃ k',k=k'+1:=by
  cases k with
  |zero=>rw[Nq] at hI;cases hI
  |succ k=>exact⟨k,rfl⟩
 rw[Nq] at hI;refine Yd ?_;refine oS (sH [_,_] rfl pH (XE sb T i2 yc [44] hl zo) ?_);refine Ad ?_;refine Oa (λhc=>?_) λhc=>?_;have Ka:=Wj hc;rw[zp hc] at hI;simp only[hc,if_true];refine Zi ?_;refine Cs ?_;refine oS (sP [_,_] rfl pH (Xn sb T (i2+1) yc 2 hl zo) (λs2 i3 wg h3=>?_) λl er i3 wg h3 e' Na=>?_);rw[h3,Je] at hI;obtain⟨rfl,rfl,t,ht,_,_⟩:=CG h3;have:=wK ht;refine Kj ?_;refine oS (S.Yx rfl Eb rfl (by simp;rfl) rfl (by simp;omega) λv' H' Ob=>?_);refine Ql ?_;refine Aa ?_;exact⟨k,_,_,by omega,⟨v',l++[s2],i2+1+1,H',rfl,rfl,by rw[Te];exact Ob,by omega,by simp;omega,hI⟩,Kb,bc _,hj⟩;rw[h3,Ih] at hI;refine Zd ?_;exact Mc (Na.trans hj) (by cases hI;rfl) Gd;have Xo:Ja T i2 [[44]]=false:=hc;rw[zn (by rw[Xo];decide)] at hI;simp only[Xo,Il,if_false];refine wa ?_;refine gC ?_;exact Of (v:=l) hj (rC (rT (v:=v) rfl Eb.sub) rN) (by cases hI;rfl) rfl Gd;exact AF
theorem S3(sb:Nat)(T:List Tok)(hT:Xt T)(f:Nat)(hE:cG B0 w0 sb T f)(i op:Nat)(r:pk Ex)(hi:i<=T.length)(ho:op<=100)(hr:Ap T (f+1) i op=some r) :
  ca (KC B0 w0) 257 [ptr sb 0] [Hb sb T i op] (Ho sb T Ab r):=by
 have hl:=hT.len;rw[Ap] at hr;refine jb Tryz.func257 rfl (n:=11) rfl rfl rfl ?_;refine Xe ?_;refine oS (Sd λb=>?_);refine Xi ?_;refine oS (sP [_,_] rfl Vd (DG sb T i op [91] hl zo zo) (λv i1 yc h1=>?_) λl er i1 yc h1 e' Na=>?_);rw[h1,Je] at hr;obtain⟨rfl,rfl,vx,NB⟩:=Pw h1;refine Xi ?_;obtain⟨r1,Ae⟩:=ql hr;refine oS (sP [_] rfl pH (hE _ _ r1 zo zo Ae) (λv i2 xg h2=>?_) λl er i2 xg h2 e' Na=>?_);rw[Ae,h2,Je] at hr;obtain⟨g1,_,g3,rfl⟩:=(Ky T f).1 0 _ _ _ (Ae.trans (congrArg some h2));have g4:=g3 zo;refine oS (Sd λb2=>?_);refine xa ?_;refine oS (sP [_,_] rfl Vd (GK sb T i2 (op+1) [93] hl zo zo zo) (λu i3 wg h3=>?_) λl er i3 wg h3 e' Na=>?_);rw[h3,Je] at hr;refine xa ?_;exact Of rfl (rC (rA rfl xc rfl ie) rN) (by cases hr;rfl) rfl (Yg Gd);rw[h3,Ih] at hr;refine Yi ?_;exact Mc (Na.trans rfl) (by cases hr;rfl) Gd;rw[Ae,h2,Ih] at hr;refine Yi ?_;exact Mc (Na.trans rfl) (by cases hr;rfl) Gd;exact AF
def aU(l:List Ex):LV:=.list (l.map Ab)
theorem qni(sb:Nat)(T:List Tok)(hT:Xt T)(f:Nat)(hE:∀ g,g<f->cG B0 w0 sb T g)(i op:Nat)(r:pk (List Ex))(hi:i<=T.length)(ho:op<=100)(hr:Sp T f i op=some r) :
  ca (KC B0 w0) 256 [ptr sb 0] [Hb sb T i op] (Ho sb T aU r):=by
 have hl:=hT.len;obtain⟨f,rfl⟩:∃ g,f=g+1:=by
  cases f with
  |zero=>rw[Sp] at hr;cases hr
  |succ g=>exact⟨g,rfl⟩
 rw[Sp] at hr;refine jb Tryz.func256 rfl (n:=23) rfl rfl rfl ?_;refine cl ?_;refine oS (sP [_,_] rfl pH (DG sb T i op [40] hl zo zo) (λv i1 yc h1=>?_) λl er i1 yc h1 e' Na=>?_);rw[h1,Je] at hr;obtain⟨rfl,rfl,vx,NB⟩:=Pw h1;refine wa ?_;obtain⟨r1,Ae⟩:=ql hr
 refine oL (λk ls H=>∃ (v:LV) (l:List Ex) (i2:Nat) (Ha:Heap),k<=f/\ls=[(0,ptr sb 0),(3,v)]/\H=Hb sb T i2 (op+1)::Ha/\Acc 4 v (l.map Ab) Ha []/\i2<=T.length/\l.length<=i2+1/\Yn T k l i2 (op+1)=some r1)
  ⟨f,_,Hb sb T (i+1) (op+1)::[],⟨fc,[],i+1,_,Pb _,rfl,rfl,Acc.nil,by omega,by simp,Ae⟩,Kb,bc _⟩ ?_
 rintro k ls H ⟨v,l,i2,Ha,D7,rfl,rfl,Eb,Dx,fF,hI⟩ j hj;obtain⟨k,rfl⟩:∃ k',k=k'+1:=by
  cases k with
  |zero=>rw[Yn] at hI;cases hI
  |succ k=>exact⟨k,rfl⟩
 rw[Yn] at hI;refine Yd ?_;refine Kj ?_;refine oS (sH [_,_] rfl pH (Cu sb T i2 (op+1) [[41]] hl zo (by simp)) ?_);refine Ra ?_;refine Oa (λhc=>?_) λhc=>?_;have Xo:Ja T i2 [[41]]=false:=by simpa using hc
 rw[zn (by rw[Xo];decide)] at hI;refine Zi ?_;refine qu ?_;refine qa (Pure.Ro Eb.elems)<|Ra ?_;refine Oa (λhd=>?_) λhd=>?_
 have LB:¬ l=[]:=by rintro rfl;have:=zt hd;simp at this
 rw[zn LB] at hI;refine Yd ?_;refine oS (sP [_,_] rfl pH (TK sb T i2 (op+1) [44] hl zo) (λu i3 wg h3=>?_) λl er i3 wg h3 e' Na=>?_);rw[h3,Je] at hI
 obtain⟨q1,q2,q3,rfl⟩:i2<=i3/\(true=true->i2<i3)/\(i2<=T.length->i3<=T.length)/\wg=op+1:=by have:=Mw T [44] i2 (op+1);rw[h3] at this;exact this
 have q4:=q3 Dx;refine wh ?_;refine Cs ?_;obtain⟨r2,De⟩:=ql hI;refine oS (sP [_] rfl pH (hE k zo _ _ r2 zo zo De) (λe2 i4 Zn h4=>?_) λl er i4 Zn h4 e' Na=>?_);exact w9;rw[De,h4,Ih] at hI;rw[Ae] at hr;cases hI;rw[Ih] at hr;refine Zd ?_;exact Mc (Na.trans hj) (by cases hr;rfl) Gd;rw[h3,Ih] at hI;rw[Ae] at hr;cases hI;rw[Ih] at hr;refine Zd ?_;exact Mc (Na.trans hj) (by cases hr;rfl) Gd
 have LB:l=[]:=by have:=zf hd;simp at this;exact this
 rw[zp LB,Je] at hI;refine Zi ?_;refine Cs ?_;obtain⟨r2,De⟩:=ql hI;refine oS (sP [_] rfl pH (hE k zo _ _ r2 zo zo De) (λe2 i4 Zn h4=>?_) λl er i4 Zn h4 e' Na=>?_);exact w9;rw[De,h4,Ih] at hI;rw[Ae] at hr;cases hI;rw[Ih] at hr;refine Zd ?_;exact Mc (Na.trans hj) (by cases hr;rfl) Gd;have Xo:Ja T i2 [[41]]=true:=by simpa using hc
 rw[zp Xo] at hI;refine wa ?_;rw[Ae] at hr;cases hI;rw[Je] at hr;refine oS (sP [_,_] rfl pH (GK sb T i2 (op+1) [41] hl zo zo zo) (λu i3 wg h3=>?_) λl er i3 wg h3 e' Na=>?_);rw[h3,Je] at hr;refine wh ?_;refine gC ?_;exact Of (v:=l) hj (rC (rT (v:=v) rfl Eb.sub) rN) (by cases hr;rfl) rfl Gd;rw[h3,Ih] at hr;refine Yi ?_;exact Mc (Na.trans hj) (by cases hr;rfl) Gd;exact AF
theorem qjO(sb:Nat)(T:List Tok)(hT:Xt T)(f:Nat)(hE:∀ g,g<f->cG B0 w0 sb T g)(i op:Nat)(r:pk Ex)(hi:i<=T.length)(ho:op<=100)(hr:Ap T f i op=some r) :
  ca (KC B0 w0) 257 [ptr sb 0] [Hb sb T i op] (Ho sb T Ab r):=by
 cases f with
 |zero=>rw[Ap] at hr;cases hr
 |succ f=>exact S3 sb T hT f (hE f zo) i op r hi ho hr
theorem qvu(hG:GW B0 w0)(sb:Nat)(T:List Tok)(hT:Xt T)(f:Nat)(hE:∀ g,g<f->cG B0 w0 sb T g)(i op:Nat)(r:pk Ex)(hi:i<=T.length)(ho:op<=100)(hr:Cq T f i op=some r) :
  ca (KC B0 w0) 270 [ptr sb 0] [Hb sb T i op] (Ho sb T Ab r):=by
 have hl:=hT.len;have IB:(T.map Bu).length=T.length:=Mb _;obtain⟨f,rfl⟩:∃ g,f=g+1:=by
  cases f with
  |zero=>rw[Cq] at hr;cases hr
  |succ g=>exact⟨g,rfl⟩
 rw[Cq] at hr;refine jb Tryz.func270 rfl (n:=63) rfl rfl rfl ?_;refine Xe ?_;refine oS (Sd λb=>?_);refine Xi ?_;refine Kj ?_;refine oS (sH [_,_] rfl Vd (Cu sb T i op [[40]] hl zo (by simp)) ?_);refine Ad ?_;refine Oa (λhp=>?_) λhp=>?_;rw[zp hp] at hr;refine Yd ?_;refine oS (sP [_,_] rfl pH (DG sb T i op [40] hl zo zo) (λv i1 yc h1=>?_) λl er i1 yc h1 e' Na=>?_);rw[h1,Je] at hr;obtain⟨rfl,rfl,vx,NB⟩:=Pw h1;refine Xi ?_;obtain⟨r1,Ae⟩:=ql hr;refine oS (sP [_] rfl pH (hE f zo _ _ r1 zo zo Ae) (λv i2 xg h2=>?_) λl er i2 xg h2 e' Na=>?_);rw[Ae,h2,Je] at hr;obtain⟨g1,_,g3,rfl⟩:=(Ky T f).1 0 _ _ _ (Ae.trans (congrArg some h2));have g4:=g3 zo;refine oS (Sd λb2=>?_);refine xa ?_;refine oS (sP [_,_] rfl Vd (GK sb T i2 (op+1) [41] hl zo zo zo) (λu i3 wg h3=>?_) λl er i3 wg h3 e' Na=>?_);rw[h3,Je] at hr;refine xa ?_;exact Of rfl (rC (rA rfl xc rfl ie) rN) (by cases hr;rfl) rfl (Yg Gd);rw[h3,Ih] at hr;refine Yi ?_;exact Mc (Na.trans rfl) (by cases hr;rfl) Gd;rw[Ae,h2,Ih] at hr;refine Yi ?_;exact Mc (Na.trans rfl) (by cases hr;rfl) Gd;exact AF;have jr:Ja T i [[40]]=false:=hp;rw[zn (by rw[jr];decide)] at hr;refine Aa ?_;refine ZB [(0,ptr sb 0),(2,ptr b 0),(38,bool (decide (vK T i=1)))] ?_ λj hj=>?_;refine Tq ?_;refine LQ.NJ 25 rfl (λh=>?_) λh=>?_;have Ka:i<T.length:=by have:=zt h;omega
 refine Ra ?_;refine qP (xR (Ud:=Bu T[i]) (cs:=[_,_,_]) rfl rfl zo (Mo _ _ _ Ka) rfl rfl) rfl ?_;refine Ra ?_;exact⟨⟨rfl,rfl,Re (by rw[vK,Yh Ka]),trivial⟩,rfl,rfl⟩;have ku:T.length<=i:=by have:=zf h;omega
 refine Ra ?_;exact⟨⟨rfl,rfl,Re (by rw[vK,List.getElem?_eq_none ku];rfl),trivial⟩,rfl,rfl⟩
 skip
 refine Oa (λhk=>?_) λhk=>?_;rw[zp (zt hk)] at hr;refine Yd ?_;refine oS (sP [_] rfl pH (qiV hG sb T hT i op zo) (λn i1 yc h1=>?_) λl er i1 yc h1 e' Na=>?_);rw[h1,Je] at hr;refine Ra ?_;exact Of (v:=.mk Af n [] []) hj (rC (rA (k:=4) rfl xc rfl (vA (bs:=[_,_,_,.list []]) ⟨vR _,vR _,vR _,vN,trivial⟩)) rN) (by cases hr;rfl) (by rw[GC];rfl) (Fc Vd sd);rw[h1,Ih] at hr;refine Yi ?_;exact Mc (Na.trans hj) (by cases hr;rfl) Gd;rw[zn (zf hk)] at hr;refine wa ?_;refine oS (sP [_,_] rfl pH (Xn sb T i op 2 hl zo) (λs i1 yc h1=>?_) λl er i1 yc h1 e' Na=>?_);rw[h1,Je] at hr;obtain⟨rfl,rfl,t,ht,_,_⟩:=CG h1;have:=wK ht;refine wa ?_;refine Kj ?_;refine oS (sH [_,_] rfl pH (Cu sb T (i+1) yc [[91]] hl zo (by simp)) ?_);refine Ad ?_;refine Oa (λhx=>?_) λhx=>?_;rw[zp hx] at hr;obtain⟨r1,Ae⟩:=ql hr;refine Yd ?_;refine oS (sP [_] rfl pH (qjO sb T hT f (λg hg=>hE g zo) (i+1) yc r1 zo zo Ae) (λe2 i2 xg h2=>?_) λl er i2 xg h2 e' Na=>?_);rw[Ae,h2,Je] at hr;refine Kj ?_;refine Ra ?_;exact Of (v:=.mk Vj 0 s [e2]) hj (rC (rA rfl xc rfl ie) rN) (by cases hr;rfl) (by rw[GC];rfl) (Fc Vd sd);exact CF;have To:Ja T (i+1) [[91]]=false:=hx;rw[zn (by rw[To];decide)] at hr;refine Yd ?_;refine Kj ?_;refine oS (sH [_,_] rfl pH (Cu sb T (i+1) yc [[40]] hl zo (by simp)) ?_);refine Ad ?_;refine Oa (λhy=>?_) λhy=>?_;rw[zp hy] at hr;obtain⟨r1,Ae⟩:=ql hr;refine Yd ?_;refine oS (sP [_] rfl pH (qni sb T hT f (λg hg=>hE g zo) (i+1) yc r1 zo zo Ae) (λe2 i2 xg h2=>?_) λl er i2 xg h2 e' Na=>?_);rw[Ae,h2,Je] at hr;refine Ra ?_;exact Of (v:=.mk tg 0 s e2) hj (rC (rA rfl xc rfl ie) rN) (by cases hr;rfl) (by rw[GC];rfl) (Fc Vd sd);exact CF;have hy':Ja T (i+1) [[40]]=false:=hy;rw[zn (by rw[hy'];decide)] at hr;refine xa ?_;exact Of (v:=.mk bg 0 s []) hj (rC (rA (k:=4) rfl xc rfl (vA (bs:=[_,_,_,.list []]) ⟨vR _,vR _,vR _,vN,trivial⟩)) rN) (by cases hr;rfl) (by rw[GC];rfl) (Fc Vd sd);rw[h1,Ih] at hr;refine Yi ?_;exact Mc (Na.trans hj) (by cases hr;rfl) Gd
