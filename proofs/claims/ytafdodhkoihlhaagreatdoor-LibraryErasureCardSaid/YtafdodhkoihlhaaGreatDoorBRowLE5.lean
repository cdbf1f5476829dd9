import Derived.Test.YtafdodhkoihlhaaGreatDoorProg
import Derived.Test.YtafdodhkoihlhaaGreatDoorBRowLE4
set_option linter.unusedVariables false
set_option linter.unusedSimpArgs false
set_option maxRecDepth 100000
set_option maxHeartbeats 0
open Go.GL (zk)
open List (mem_append_right mem_append_left all_cons)
open Nat (add_assoc lt_succ_self)
open Option (getD_some)
namespace Go.ia.Wi
open Go.Lib
theorem BV{all:List Wd}:∀ (l:List (Wd×Nat)) (met:List Wd),(met++Jb (l.map (·.1))).Nodup->(∀ w∈l.map (·.1),Hp all w)->(Ye all met l).2=0
 |[],met,_,_=>rfl
 |(w,ln)::r,met,hn,hk=>by
  rw[yd,GG] at hn;have h0:=hk w (by simp);have hr:=λx hx=>hk x (by rw[yd];exact Oc _ hx);unfold Hp at h0;rw[Ye]
  cases hd:ya w with
  |some x=>
   rw[hd] at hn;simp only at hn ⊢;have hx:x ∉ met:=λhm=>(On hn).2.2 x hm x (by simp) rfl;rw[zn hx]
   exact BV r (met++[x]) (by rw[Yc];exact hn) hr
  |none=>
   rw[hd] at hn h0;simp only[List.nil_append] at hn h0 ⊢;cases hf:Va w with
   |some x=>rw[hf] at h0;simp only at h0 ⊢;rw[zp h0];exact BV r met hn hr
   |none=>rw[hf] at h0;simp only at h0 ⊢;rw[zp h0];exact BV r met hn hr
theorem qtM{src x:Wd}{og:Int}{ub:List (Wd×Nat)}(h:Th src og=.ok (x,ub)):yu (vk src)/\x.length<=40000:=by have h2:=(qm0 h).1;unfold Th at h;split at h;cases h;split at h;cases h;rename_i h1;exact⟨bV (Classical.not_not.1 h1),h2⟩
theorem G'{W:List Wd}(hA:yu W)(hc:∀ w∈W,Gk w){og:Int}(h0:0<=og)(h1:og<262144)(hl:ic false W<=40000) :
  Th (join W [32]) og=.ok (Vl (lp (Dq (λ_=>0) og.toNat W)) W,Dq (λ_=>0) og.toNat W)/\(Vl (lp (Dq (λ_=>0) og.toNat W)) W).length=ic false W:=by
 have hw:=KW hc;have ht:=P1 (lp (Dq (λ_=>0) og.toNat W)) W λw hw=>(hc w hw).1;refine⟨?_,ht⟩
 have he:(Ye (Jb W) [] (Tv (join W [32]))).2=0:=by refine BV _ _ ?_ ?_;rw[SK,hw];exact hA.1;rw[SK,hw];exact hA.2
 unfold Th;rw[zn (by omega),hw,zn (by rw[he];decide),zn (by rw[ht];omega)]
section
variable{P:Pr}{o:il}{t:Wd}
end
end Go.ia.Wi
namespace Go.ia.Wi.Wc
open Go.Lib
variable{P:Pr}{a:Sm}{b el th:List Sm}{ix vr:List Ex}{name:Nm}{r:Option Nat}{vs:List Nat}{x:Ex}
def UI(w:Nat)(s:IS):IR Unit:=if s.left<w then .stop 13 s else .ok () { s with left:=s.left-w }
def wN(n:Nat):Nat:=if n<10 then 2 else if n<100 then 3 else if n<1000 then 4 else if n<10000 then 5 else if n<100000 then 6 else if n<1000000 then 7 else 12
def wE(op:Nm)(num:Nat)(name:Nm)(k:Nat):Nat:=
 if op=Af then wN num
 else if op=bg then 8
 else if op=Vj then 9
 else if op=Ng then 3
 else if op=yg then 3
 else if op=tg then (if name=[105,110] then 1 else if name=[111,117,116] then 3 else 8 * k+11)
 else if op=[62] then 33
 else if op=[60,61] then 36
 else if op=[38,38] then 7
 else if op=[124,124] then 10
 else 4
def wS(kind:Int)(Bb:List Sm):Nat:=
 if kind=1 then 8
 else if kind=2 then 9
 else if kind=3 then (match Bb with
  |[]=>8
  |_::_=>18)
 else if kind=4 then 8
 else if kind=5 then 1
 else if kind=6 then 8
 else 0
def xw(c:IS->IR Nat)(b:IS->IR (Option Nat)):Nat->Nat->IS->IR (Option Nat)
 |0,v,s=>if v=0 then .ok none s else .stop 13 s
 |m+1,v,s=>if v=0 then .ok none s else (b s).bind λr s=>match r with
  |some x=>.ok (some x) s
  |none=>(UI 18 s).bind λ_ s=>(c s).bind λv s=>xw c b m v s
mutual
def so(P:Pr):Nat->yb->Ex->IS->IR Nat
 |0,_,_,s=>.stop 13 s
 |n+1,f,.mk op num name args,s=>(UI (wE op num name args.length) s).bind λ_ s=>(Nk (so P n f) args s).bind λvs s=>JG P (Sg P n) f op num name vs s
def Sg(P:Pr):Nat->yb->Sm->IS->IR (Option Nat)
 |0,_,_,s=>.stop 13 s
 |n+1,f,.mk kind name index value Ua Bb,s=>(UI (wS kind Bb) s).bind λ_ s=>
  if kind=7 then .stop 0 s else (so P n f (value.headD default) s).bind λv s=>
   if kind=1 then .ok none (Yf s (jc f name) v)
   else if kind=2 then (so P n f (index.headD default) s).bind λi s=>match (s.ar name)[i]? with
    |some _=>.ok none { s with ar:=λx=>if x=name then (s.ar name).set i v else s.ar x }
    |none=>.stop 2 s
   else if kind=5 then .ok (some v) s
   else if kind=3 then (if v≠0 then Cg (Sg P n f) Ua s else Cg (Sg P n f) Bb s)
   else if kind=4 then xw (so P n f (value.headD default)) (Cg (Sg P n f) Ua) n v s
   else .ok none s
end
def Sb{A:Type}(C:PW)(Q:A->IS->MS->Prop)(c d:Int)(m:MS)(s:IS):IR A->Prop
 |.ok v s'=>s'.left<=s.left/\∃ k:Nat,∃ m',(k:Int)<=c+((s.left:Int)-(s'.left:Int))/\Uh C k m m'/\Q v s' m'
 |.stop e s'=>lB C (d+(s.left:Int)) m e s'
variable{C:PW}
section
variable{A B:Type}{Q:A->IS->MS->Prop}{R:B->IS->MS->Prop}{c d c1 d1 c2 d2:Int}{m m1:MS}{s:IS}
theorem Sb.pre{r:IR A}{a:Nat}(h:Nf C a m m1)(g:Sb C Q c1 d1 m1 s r)(hc:a+c1<=c)(hd:a+d1<=d):Sb C Q c d m s r:=by
 obtain⟨x,hx,hs⟩:=h;cases r with
 |ok v s'=>obtain⟨h1,k,m',h2,h3,h4⟩:=g;exact⟨h1,x+k,m',by omega,hs.trans h3,h4⟩
 |stop e s'=>exact(lB.pre hs g).mono ga
theorem Sb.ok{v:A}(h:Q v s m)(hc:0<=c):Sb C Q c d m s (.ok v s):=⟨Pb _,0,m,by omega,.zero _,h⟩
theorem Sb.bind{r:IR A}{f:A->IS->IR B}(h:Sb C Q c1 d1 m s r)(hc:c1+c2<=c)(hd:d1<=d)(FA:c1+d2<=d)(hf:∀ v s' m',Q v s' m'->Sb C R c2 d2 m' s' (f v s')):Sb C R c d m s (r.bind f):=by
 cases r with
 |ok v s1=>
  obtain⟨h1,k,m',h2,h3,h4⟩:=h;have g:=hf v s1 m' h4;show Sb C R c d m s (f v s1);revert g;cases f v s1 with
  |ok w s2=>rintro⟨k1,k',m2,k2,k3,k4⟩;exact⟨by omega,k+k',m2,by omega,h3.trans k3,k4⟩
  |stop e s2=>exact λg=>(lB.pre h3 g).mono ga
 |stop e s1=>exact lB.mono (s:=s1) h ga
theorem Sb.post{r:IR A}{R:A->IS->MS->Prop}{a:Nat}(h:Sb C Q c1 d1 m s r)(hc:c1+a<=c)(hd:d1<=d)(hf:∀ v s' m',Q v s' m'->∃ m2,Nf C a m' m2/\R v s' m2):Sb C R c d m s r:=by
 cases r with
 |ok v s1=>obtain⟨h1,k,m',h2,h3,h4⟩:=h;obtain⟨m2,⟨x,hx,k1⟩,k2⟩:=hf v s1 m' h4;exact⟨h1,k+x,m2,by omega,h3.trans k1,k2⟩
 |stop e s1=>exact lB.mono h ga
theorem Sb.tick{w:Nat}{f:Unit->IS->IR A}(zg:m.out=s.out)(h:w<=s.left->Sb C Q (c+w) (d+w) m { s with left:=s.left-w } (f () { s with left:=s.left-w })):Sb C Q c d m s ((UI w s).bind f):=by
 unfold UI;split;exact⟨λhe=>(by rcases he with he|he <;> cases he),λ_=>⟨0,m,.zero _,zg⟩⟩
 rename_i h0;have k:=h ga;show Sb C Q c d m s (f () { s with left:=s.left-w })
 revert k
 cases f () { s with left:=s.left-w } with
 |ok v s1=>rintro⟨k1,k,m2,k2,k3⟩;simp only at k1 k2;exact⟨by omega,k,m2,by omega,k3⟩
 |stop e s1=>intro k;exact lB.mono k (by simp only;omega)
theorem Sb.Ca(zg:m.out=s.out):Sb C Q c d m s (.stop 13 s):=⟨λhe=>(by rcases he with he|he <;> cases he),λ_=>⟨0,m,.zero _,zg⟩⟩
theorem Sb.other{e:Int}(h:e≠0/\e≠12/\e≠13):Sb C Q c d m s (.stop e s):=⟨λhe=>(by rcases he with he|he <;> omega),λhe=>by omega⟩
theorem Sb.Be{e:Int}(hd:0<=d)(he:e=0∨e=12)(h:∃ m',Uh C 0 m m'/\Za C m'=.stop e.toNat s.out):Sb C Q c d m s (.stop e s):=by obtain⟨m',h1,h2⟩:=h;exact⟨λ_=>⟨0,m',by omega,h1,h2⟩,λNa=>by omega⟩
end
def lf(s:IS)(l:Nat):IS:={ s with left:=l }
theorem nG(s:IS)(w k l:Nat):UI w (lf s (l+(w+k)))=.ok () (lf s (l+k)):=by unfold UI lf;simp only;rw[zn (by omega),show l+(w+k)-w=l+k by omega]
section
variable(P:Pr)
def Op(f:yb)(op:Nm)(num:Nat)(name:Nm)(vs:List Nat)(s:IS)(K v:Nat)(s':IS):Prop:=∃ k,k<=K/\∃ n0,∀ n,n0<=n->∀ l,JG P (Sg P n) f op num name vs (lf s (l+k))=.ok v (lf s' l)
def Ev(f:yb)(x:Ex)(s:IS)(K v:Nat)(s':IS):Prop:=∃ k,k<=K/\∃ n0,∀ n,n0<=n->∀ l,so P n f x (lf s (l+k))=.ok v (lf s' l)
def vq(f:yb)(xs:List Ex)(s:IS)(K:Nat)(vs:List Nat)(s':IS):Prop:=∃ k,k<=K/\∃ n0,∀ n,n0<=n->∀ l,Nk (so P n f) xs (lf s (l+k))=.ok vs (lf s' l)
def St(f:yb)(a:Sm)(s:IS)(K:Nat)(r:Option Nat)(s':IS):Prop:=∃ k,k<=K/\∃ n0,∀ n,n0<=n->∀ l,Sg P n f a (lf s (l+k))=.ok r (lf s' l)
def Bl(f:yb)(b:List Sm)(s:IS)(K:Nat)(r:Option Nat)(s':IS):Prop:=∃ k,k<=K/\∃ n0,∀ n,n0<=n->∀ l,Cg (Sg P n f) b (lf s (l+k))=.ok r (lf s' l)
def Wh(f:yb)(x:Ex)(b:List Sm)(v:Nat)(s:IS)(K:Nat)(r:Option Nat)(s':IS):Prop:=∃ k,k<=K/\∃ n0,∀ n m,n0<=n->n0<=m->∀ l,xw (so P n f x) (Cg (Sg P n f) b) m v (lf s (l+k))=.ok r (lf s' l)
end
section
variable{P:Pr}{f:yb}{s s1 s2 s':IS}{K K1 K2 K3 v w:Nat}
theorem Ev.mono(h:Ev P f x s K v s')(hk:K<=K1):Ev P f x s K1 v s':=by obtain⟨k,h1,h2⟩:=h;exact⟨k,by omega,h2⟩
theorem Bl.mono(h:Bl P f b s K r s')(hk:K<=K1):Bl P f b s K1 r s':=by obtain⟨k,h1,h2⟩:=h;exact⟨k,by omega,h2⟩
theorem St.mono(h:St P f a s K r s')(hk:K<=K1):St P f a s K1 r s':=by obtain⟨k,h1,h2⟩:=h;exact⟨k,by omega,h2⟩
theorem Wh.mono(h:Wh P f x b v s K r s')(hk:K<=K1):Wh P f x b v s K1 r s':=by obtain⟨k,h1,h2⟩:=h;exact⟨k,by omega,h2⟩
theorem vq.nil:vq P f [] s 0 [] s:=⟨0,Pb _,0,λn _ l=>rfl⟩
theorem vq.cons{xs:List Ex}(h:Ev P f x s K1 v s1)(g:vq P f xs s1 K2 vs s'):vq P f (x::xs) s (K1+K2) (v::vs) s':=by
 obtain⟨k1,h1,n1,e1⟩:=h;obtain⟨k2,h2,n2,e2⟩:=g;refine⟨k1+k2,by omega,max n1 n2,λn hn l=>?_⟩;unfold Nk;rw[show l+(k1+k2)=(l+k2)+k1 by omega,e1 n (by omega) (l+k2)];show(Nk (so P n f) xs (lf s1 (l+k2))).bind _=_;rw[e2 n (by omega) l]
 try rfl
theorem Ev.mk{op:Nm}{num:Nat}{name:Nm}{args:List Ex}{vs:List Nat}(h:vq P f args s K1 vs s1)(g:Op P f op num name vs s1 K2 v s'):Ev P f (.mk op num name args) s (wE op num name args.length+K1+K2) v s':=by obtain⟨k1,h1,n1,e1⟩:=h;obtain⟨k2,h2,n2,e2⟩:=g;refine⟨wE op num name args.length+(k1+k2),by omega,max n1 n2+1,λn hn l=>?_⟩;obtain⟨m,rfl⟩:∃ m,n=m+1:=⟨n-1,by omega⟩;rw[so,nG];show(Nk (so P m f) args (lf s (l+(k1+k2)))).bind _=_;rw[show l+(k1+k2)=(l+k2)+k1 by omega,e1 m (by omega) (l+k2)];exact e2 m ga l
def HP(f:yb)(s:IS)(op:Nm)(num:Nat)(name:Nm)(vs:List Nat):Nat:=
 if op=Af then num
 else if op=bg then s.sc (jc f name)
 else if op=Vj then (s.ar name).getD (vs.headD 0) 0
 else if op=Ng then (4294967296-vs.headD 0) % 4294967296
 else if op=yg then sf (decide (vs.headD 0=0))
 else (Ij op (vs.headD 0) (vs.tail.headD 0)).getD 0
def KG(f:yb)(s:IS)(op:Nm)(name:Nm)(vs:List Nat):Bool:=
 if op=Af then true
 else if op=bg then true
 else if op=Vj then decide (vs.headD 0<(s.ar name).length)
 else if op=Ng then true
 else if op=yg then true
 else if op=tg then false
 else (Ij op (vs.headD 0) (vs.tail.headD 0)).isSome
theorem Op.pure{op:Nm}{num:Nat}(h:KG f s op name vs=true):Op P f op num name vs s 0 (HP f s op num name vs) s:=by
 refine⟨0,Pb _,0,λn _ l=>?_⟩;rw[Nat.add_zero];unfold KG at h
 by_cases h1:op=Af;subst h1;rfl;by_cases h2:op=bg;subst h2;rfl;rw[zn h1,zn h2] at h;by_cases h3:op=Vj
 ·subst h3;rw[zp rfl] at h;have Ka:=qg h
  show(match (s.ar name)[vs.headD 0]? with
   |some v=>IR.ok v (lf s l)
   |none=>.stop 2 (lf s l))=.ok ((s.ar name).getD (vs.headD 0) 0) (lf s l)
  rw[Yh Ka,List.getD_eq_getElem?_getD,Yh Ka];try rfl
 rw[zn h3] at h;by_cases h4:op=Ng;subst h4;rfl;rw[zn h4] at h;by_cases h5:op=yg;subst h5;rfl;rw[zn h5] at h;by_cases h6:op=tg;rw[zp h6] at h;cases h;rw[zn h6] at h;unfold JG HP;rw[zn h1,zn h2,zn h3,zn h4,zn h5,zn (show op≠[110,117,109] from h1),zn (show op≠[118,97,114] from h2),zn (show op≠[101,108,101,109] from h3),zn (show op≠[110,101,103] from h4),zn (show op≠[110,111,116] from h5),zn (show op≠[99,97,108,108] from h6)];cases hb:Ij op (vs.headD 0) (vs.tail.headD 0) with
 |none=>rw[hb] at h;cases h
 |some v=>rfl
theorem Op.Ia{num:Nat}:Op P f tg num [105,110] [] s 0 (s.Ia.headD 4294967295) { s with Ia:=s.Ia.tail }:=by
 refine⟨0,Pb _,0,λn _ l=>?_⟩;show Nz P (Sg P n) [105,110] [] (lf s l)=_;unfold Nz;rw[zp rfl]
 show(match s.Ia with
  |[]=>IR.ok 4294967295 (lf s l)
  |v::r=>.ok v { lf s l with Ia:=r })=_
 cases hi:s.Ia with
 |nil=>simp only[List.headD_nil,List.tail_nil];unfold lf;simp only;congr 2
 |cons a r=>rfl
theorem Op.out{num v:Nat}:Op P f tg num [111,117,116] [v] s 0 0 { s with out:=s.out++[UInt8.ofNat v] }:=by
 refine⟨0,Pb _,0,λn _ l=>?_⟩;show Nz P (Sg P n) [111,117,116] [v] (lf s l)=_;unfold Nz;rw[zn ea,zp rfl]
 try rfl
theorem qq7(g:yb):∀ (ps:List Nm) (vs:List Nat) (s:IS) (l:Nat),Wq g ps vs (lf s l)=lf (Wq g ps vs s) l
 |[],vs,s,l=>by cases vs <;> rfl
 |p::ps,[],s,l=>rfl
 |p::ps,w::vs,s,l=>by rw[Wq,Wq];exact qq7 g ps vs (Yf s (jc g p) w) l
theorem Op.call{num:Nat}(h1:name≠[105,110])(h2:name≠[111,117,116])(h:Bl P (Xg P name) (Xg P name).body (Wq (Xg P name) (Xg P name).params vs s) K r s'):Op P f tg num name vs s K (r.getD 0) s':=by
 obtain⟨k,hk,n0,e⟩:=h;refine⟨k,hk,n0,λn hn l=>?_⟩;show Nz P (Sg P n) name vs (lf s (l+k))=_;unfold Nz;rw[zn h1,zn h2,qq7,e n hn l]
 try rfl
def EY(s:IS)(name:Nm)(i v:Nat):IS:={ s with ar:=λx=>if x=name then (s.ar name).set i v else s.ar x }
theorem St.pz(h:Ev P f x s K v s1):St P f (.mk 1 name ix (x::vr) th el) s (8+K) none (Yf s1 (jc f name) v):=by
 obtain⟨k,hk,n0,e⟩:=h;refine⟨8+k,by omega,n0+1,λn hn l=>?_⟩;obtain⟨m,rfl⟩:∃ m,n=m+1:=⟨n-1,by omega⟩;rw[Sg,show wS 1 el=8 from rfl,nG];show(so P m f x (lf s (l+k))).bind _=_;rw[e m (by omega) l]
 try rfl
theorem St.elem{y:Ex}{yr xr:List Ex}{i:Nat}(h:Ev P f x s K v s1)(g:Ev P f y s1 K2 i s2)(hi:i<(s2.ar name).length):St P f (.mk 2 name (y::yr) (x::xr) th el) s (9+K+K2) none (EY s2 name i v):=by
 obtain⟨k,hk,n0,e⟩:=h;obtain⟨k2,fi,n2,e2⟩:=g;refine⟨9+(k+k2),by omega,max n0 n2+1,λn hn l=>?_⟩;obtain⟨m,rfl⟩:∃ m,n=m+1:=⟨n-1,by omega⟩;rw[Sg,show wS 2 el=9 from rfl,nG];show(so P m f x (lf s (l+(k+k2)))).bind _=_;rw[show l+(k+k2)=(l+k2)+k by omega,e m (by omega) (l+k2)];show(so P m f y (lf s1 (l+k2))).bind _=_;rw[e2 m (by omega) l]
 show(match (s2.ar name)[i]? with
  |some _=>IR.ok none _
  |none=>IR.stop 2 _)=_
 rw[Yh hi];try rfl
theorem St.ret(h:Ev P f x s K v s1):St P f (.mk 5 name ix (x::vr) th el) s (1+K) (some v) s1:=by
 obtain⟨k,hk,n0,e⟩:=h;refine⟨1+k,by omega,n0+1,λn hn l=>?_⟩;obtain⟨m,rfl⟩:∃ m,n=m+1:=⟨n-1,by omega⟩;rw[Sg,show wS 5 el=1 from rfl,nG];show(so P m f x (lf s (l+k))).bind _=_;rw[e m (by omega) l]
 try rfl
theorem St.exp(h:Ev P f x s K v s1):St P f (.mk 6 name ix (x::vr) th el) s (8+K) none s1:=by
 obtain⟨k,hk,n0,e⟩:=h;refine⟨8+k,by omega,n0+1,λn hn l=>?_⟩;obtain⟨m,rfl⟩:∃ m,n=m+1:=⟨n-1,by omega⟩;rw[Sg,show wS 6 el=8 from rfl,nG];show(so P m f x (lf s (l+k))).bind _=_;rw[e m (by omega) l]
 try rfl
theorem St.oO(h:Ev P f x s K v s1)(hv:v≠0)(g:Bl P f th s1 K2 r s2):St P f (.mk 3 name ix (x::vr) th el) s (wS 3 el+K+K2) r s2:=by obtain⟨k,hk,n0,e⟩:=h;obtain⟨k2,fi,n2,e2⟩:=g;refine⟨wS 3 el+(k+k2),by omega,max n0 n2+1,λn hn l=>?_⟩;obtain⟨m,rfl⟩:∃ m,n=m+1:=⟨n-1,by omega⟩;rw[Sg,nG];show(so P m f x (lf s (l+(k+k2)))).bind _=_;rw[show l+(k+k2)=(l+k2)+k by omega,e m (by omega) (l+k2)];show(if v≠0 then Cg (Sg P m f) th (lf s1 (l+k2)) else Cg (Sg P m f) el (lf s1 (l+k2)))=_;rw[zp hv];exact e2 m ga l
theorem St.iff(h:Ev P f x s K 0 s1)(g:Bl P f el s1 K2 r s2):St P f (.mk 3 name ix (x::vr) th el) s (wS 3 el+K+K2) r s2:=by obtain⟨k,hk,n0,e⟩:=h;obtain⟨k2,fi,n2,e2⟩:=g;refine⟨wS 3 el+(k+k2),by omega,max n0 n2+1,λn hn l=>?_⟩;obtain⟨m,rfl⟩:∃ m,n=m+1:=⟨n-1,by omega⟩;rw[Sg,nG];show(so P m f x (lf s (l+(k+k2)))).bind _=_;rw[show l+(k+k2)=(l+k2)+k by omega,e m (by omega) (l+k2)];exact e2 m ga l
theorem St.nY(h:Ev P f x s K v s1)(g:Wh P f x th v s1 K2 r s2):St P f (.mk 4 name ix (x::vr) th el) s (8+K+K2) r s2:=by obtain⟨k,hk,n0,e⟩:=h;obtain⟨k2,fi,n2,e2⟩:=g;refine⟨8+(k+k2),by omega,max n0 n2+1,λn hn l=>?_⟩;obtain⟨m,rfl⟩:∃ m,n=m+1:=⟨n-1,by omega⟩;rw[Sg,show wS 4 el=8 from rfl,nG];show(so P m f x (lf s (l+(k+k2)))).bind _=_;rw[show l+(k+k2)=(l+k2)+k by omega,e m (by omega) (l+k2)];exact e2 m m ga ga l
theorem Bl.nil:Bl P f [] s 0 none s:=⟨0,Pb _,0,λn _ l=>rfl⟩
theorem Bl.cons(h:St P f a s K1 none s1)(g:Bl P f b s1 K2 r s'):Bl P f (a::b) s (K1+K2) r s':=by obtain⟨k,hk,n0,e⟩:=h;obtain⟨k2,fi,n2,e2⟩:=g;refine⟨k+k2,by omega,max n0 n2,λn hn l=>?_⟩;unfold Cg;rw[show l+(k+k2)=(l+k2)+k by omega,e n (by omega) (l+k2)];exact e2 n ga l
theorem Bl.ret(h:St P f a s K (some v) s'):Bl P f (a::b) s K (some v) s':=by
 obtain⟨k,hk,n0,e⟩:=h;refine⟨k,hk,n0,λn hn l=>?_⟩;unfold Cg;rw[e n hn l]
 try rfl
theorem Bl.app{a:List Sm}:∀ {s:IS} {K1:Nat},Bl P f a s K1 none s1->Bl P f b s1 K2 r s'->Bl P f (a++b) s (K1+K2) r s':=by
 rintro s K1 ⟨k,hk,n0,e⟩ ⟨k2,fi,n2,e2⟩;refine⟨k+k2,by omega,max n0 n2,λn hn l=>?_⟩
 have key:∀ (a:List Sm) (s:IS),Cg (Sg P n f) (a++b) s=(Cg (Sg P n f) a s).bind λr s=>match r with
   |some v=>.ok (some v) s
   |none=>Cg (Sg P n f) b s:=by
  intro a;induction a with
  |nil=>intro s;rfl
  |cons x a ih=>
   intro s;show(Sg P n f x s).bind _=IR.bind (IR.bind (Sg P n f x s) _) _;rw[UK];congr 1;funext r s;cases r with
   |some v=>rfl
   |none=>exact ih s
 rw[key,show l+(k+k2)=(l+k2)+k by omega,e n (by omega) (l+k2)];exact e2 n ga l
theorem Wh.done:Wh P f x b 0 s 0 none s:=⟨0,Pb _,1,λn m _ hm l=>by
 obtain⟨m,rfl⟩:∃ k,m=k+1:=⟨m-1,by omega⟩;rfl⟩
theorem Wh.next(hv:v≠0)(h:Bl P f b s K1 none s1)(g:Ev P f x s1 K2 w s2)(q:Wh P f x b w s2 K3 r s'):Wh P f x b v s (K1+18+K2+K3) r s':=by obtain⟨k1,h1,n1,e1⟩:=h;obtain⟨k2,h2,n2,e2⟩:=g;obtain⟨k3,h3,n3,e3⟩:=q;refine⟨k1+(18+(k2+k3)),by omega,max n1 (max n2 n3)+1,λn m hn hm l=>?_⟩;obtain⟨m,rfl⟩:∃ k,m=k+1:=⟨m-1,by omega⟩;rw[xw,zn hv,show l+(k1+(18+(k2+k3)))=(l+(18+(k2+k3)))+k1 by omega,e1 n (by omega)];show(UI 18 (lf s1 (l+(18+(k2+k3))))).bind _=_;rw[nG];show(so P n f x (lf s1 (l+(k2+k3)))).bind _=_;rw[show l+(k2+k3)=(l+k3)+k2 by omega,e2 n (by omega)];exact e3 n m ga ga l
end
mutual
def vE(f:yb)(s:IS):Ex->Nat
 |.mk op num name args=>HP f s op num name (KM f s args)
def KM(f:yb)(s:IS):List Ex->List Nat
 |[]=>[]
 |x::l=>vE f s x::KM f s l
end
mutual
def KR(f:yb)(s:IS):Ex->Bool
 |.mk op num name args=>LG f s args && KG f s op name (KM f s args)
def LG(f:yb)(s:IS):List Ex->Bool
 |[]=>true
 |x::l=>KR f s x && LG f s l
end
mutual
def cE:Ex->Nat
 |.mk op num name args=>wE op num name args.length+kU args
def kU:List Ex->Nat
 |[]=>0
 |x::l=>cE x+kU l
end
mutual
theorem Ev.pure{P:Pr}{f:yb}{s:IS}:∀ (x:Ex),KR f s x=true->Ev P f x s (cE x) (vE f s x) s
 |.mk op num name args,h=>by rw[KR,Ed] at h;rw[cE,vE];exact(Ev.mk (vq.pure args h.1) (Op.pure h.2)).mono ga
theorem vq.pure{P:Pr}{f:yb}{s:IS}:∀ (l:List Ex),LG f s l=true->vq P f l s (kU l) (KM f s l) s
 |[],_=>by rw[kU,KM];exact vq.nil
 |x::l,h=>by rw[LG,Ed] at h;rw[kU,KM];exact vq.cons (Ev.pure x h.1) (vq.pure l h.2)
end
section
variable(f:yb)(s:IS)(n:Nat)(m:Nm)(x y:Ex)
theorem qAP:vE f s (.mk [110,117,109] n m [])=n:=rfl
theorem qBD:vE f s (.mk [118,97,114] n m [])=s.sc (jc f m):=rfl
theorem qBy:vE f s (.mk [42] n m [x,y])=vE f s x * vE f s y % 4294967296:=by show(Ij [42] (vE f s x) (vE f s y)).getD 0=_;unfold Ij;rw[zn ea,zn ea,zp rfl];exact getD_some
theorem qAC:vE f s (.mk [94] n m [x,y])=vE f s x ^^^ vE f s y:=by show(Ij [94] (vE f s x) (vE f s y)).getD 0=_;unfold Ij;rw[zn ea,zn ea,zn ea,zp rfl];exact getD_some
theorem Ev.of{f:yb}{s:IS}{v:Nat}(h:KR f s x=true)(hv:vE f s x=v):Ev P f x s (cE x) v s:=hv▸Ev.pure x h
end
theorem S9{Ia:List Nat}{Ca:Nat}{s':IS}(h:Bl P (Tg P) (Tg P).body (rr P Ia 0) Ca r s'):∃ Ba s2,Cg (Sg P Ba (Tg P)) (Tg P).body (rr P Ia Ca)=.ok r s2/\s2.out=s'.out:=by obtain⟨k,hk,n0,e⟩:=h;refine⟨n0,lf s' (Ca-k),?_,rfl⟩;have:=e n0 (Pb _) (Ca-k);rw[show Ca-k+k=Ca by omega] at this;exact this
theorem DP{n:Nat}(h:n<4294967296):(decDigits n).length+1<=wN n:=by unfold wN;split;have:=RE 0 n ga;omega;split;have:=RE 1 n ga;omega;split;have:=RE 2 n ga;omega;split;have:=RE 3 n ga;omega;split;have:=RE 4 n ga;omega;split;have:=RE 5 n ga;omega;have:=RE 9 n ga;omega
def wB(op:Nm):Nat:=if op=[62] then 33 else if op=[60,61] then 36 else 4
theorem qBH(op:Nm):1<=wB op:=by unfold wB;split;omega;split <;> omega
def ZA(X:Uf)(n:Nat):Prop:=∀ f∈X.P.funcs,∀ e i s m d c,fj e->Gf (X.ib f) e=0->X.C.Code i (Qb (X.cc f) e)->X.Vw s i d c m->d.length+Sf (X.ib f) e<=256->c.length+Hj (X.ib f) e<=64 ->
 Sb X.C (λv s' m'=>X.Vw s' (i+(Qb (X.cc f) e).length) (v::d) c m') 0 0 m s (so X.P n f e s)
def qyI(X:Uf)(n:Nat):Prop:=∀ f∈X.P.funcs,∀ name vs i s m d c,name≠[105,110]->name≠[111,117,116]->Qc (X.ib f) name vs.length=0->X.C.Code i [[38,102,95]++name,[58]]->X.Vw s i (vs.reverse++d) c m ->
 (∀ g,(X.ib f).fn name=some g->d.length+max (g.params+1) g.need<=256/\c.length+(g.depth+1)<=64) ->
 Sb X.C (λv s' m'=>X.Vw s' (i+2) (v::d) c m') (8 * vs.length+11) (8 * vs.length+11) m s (Nz X.P (Sg X.P n) name vs s)
section
variable{X:Uf}{n:Nat}
theorem qvi(hE:ZA X n){f:yb}(hf:f∈X.P.funcs):∀ (l:List Ex) i s m d c,ml l->vg (X.ib f) l=0->X.C.Code i (Ib (X.cc f) l).flatten->X.Vw s i d c m->(∀ k (h:k<l.length),d.length+k+Sf (X.ib f) l[k]<=256)->c.length+Qi (X.ib f) l<=64 ->
  Sb X.C (λvs s' m'=>vs.length=l.length/\X.Vw s' (i+(Ib (X.cc f) l).flatten.length) (vs.reverse++d) c m') 0 0 m s (Nk (so X.P n f) l s)
 |[],i,s,m,d,c,_,_,_,v,_,_=>Sb.ok ⟨rfl,v⟩ (Int.le_refl 0)
 |e::l,i,s,m,d,c,hn,he,hc,v,hd,Vo=>by rw[vg] at he;obtain⟨Vi,OB⟩:=Tc.1 he;rw[Qi] at Vo;rw[Ib,List.flatten_cons] at hc;obtain⟨ko,We⟩:=hc.app;unfold Nk;have h0:=hd 0 (by simp);simp only[List.getElem_cons_zero] at h0;refine Sb.bind (c2:=0) (d2:=0) (hE f hf e i s m d c hn.1 Vi ko v ga ga) ga (Int.le_refl _) ga λa s' m' va=>?_;refine Sb.bind (c2:=0) (d2:=0) (qvi hE hf l _ s' m' (a::d) c hn.2 OB We va (λk hk=>?_) ga) ga (Int.le_refl _) ga λvs s2 m2 hv=>?_;have:=hd (k+1) (by rw[Ma];omega);simp only[List.getElem_cons_succ] at this;rw[Ma];omega;refine Sb.ok ⟨by rw[Ma,Ma,hv.1],?_⟩ (Int.le_refl _);have:=hv.2;rw[Ib,List.flatten_cons,Ga,<-add_assoc];simpa using this
theorem qAX(hX:oe X){f:yb}(hf:f∈X.P.funcs){op:Nm}(ld:op∈Fw)(h1:op≠[33,61])(h2:op≠[38,38])(h3:op≠[124,124]){s:IS}{i a b:Nat}{d:List Nat}{c:List (List Wd)}{m:MS}(v:X.Vw s i (b::a::d) c m)(hd:d.length+3<=256∨(d.length+2<=256/\op≠[62]/\op≠[60,61]))
  {ws:List Wd} (hw:ws=(if op=[62] then Om (X.cc f) else if op=[60,61] then Om (X.cc f)++[[49],[94]] else if op=[62,61] then [[60],[49],[94]] else if op=[61,61] then [[94],[49],[60]] else [op])) (hc:X.C.Code i ws) :
  Sb X.C (λr s' m'=>X.Vw s' (i+ws.length) (r::d) c m') (wB op:Int) 0 m s (match Ij op a b with
   |some r=>.ok r s
   |none=>.stop 12 s):=by
 have FA:d.length+2<=256:=by omega
 have simple:∀ ch:UInt8,op=[ch]->tc ch->(ws=[op])->Ij op a b=Hd ch.toNat a b->Sb X.C (λr s' m'=>X.Vw s' (i+ws.length) (r::d) c m') (wB op:Int) 0 m s (match Ij op a b with
   |some r=>.ok r s
   |none=>.stop 12 s):=by
  intro ch e1 e2 e3 e4;subst e3;obtain⟨w0,_⟩:=hc.cons;rw[e1] at w0;rw[e4];cases hv:Hd ch.toNat a b with
  |some r=>obtain⟨m1,t1,v1,_⟩:=v.op w0 e2 hv ga;have:=qBH op;exact Sb.pre t1 (Sb.ok (c:=0) (d := -1) v1 (Int.le_refl 0)) ga ga
  |none=>exact Sb.Be ga (.inr rfl) (by rw[<-v.rel.out];exact PW.Sw v.here e2 w0 v.data hv)
 simp only[Fw,Dc,List.not_mem_nil,or_false] at ld;rcases ld with rfl|rfl|rfl|rfl|rfl|rfl|rfl|rfl|rfl|rfl|rfl|rfl|rfl|rfl;exact absurd rfl h3;exact absurd rfl h2
 ·-- ==
  have hw:ws=[[94],[49],[60]]:=hw;subst hw;obtain⟨w0,hc⟩:=hc.cons;obtain⟨w1,hc⟩:=hc.cons;obtain⟨w2,hc⟩:=hc.cons;obtain⟨m1,t1,v1,_⟩:=v.op (x:=a ^^^ b) w0 (by unfold tc;simp) rfl ga;obtain⟨m2,t2,v2,_⟩:=v1.Px (n:=1) w1 ea rfl (by simp only[Ma];omega);obtain⟨m3,t3,v3,_⟩:=v2.op (x:=sf (decide (a=b))) w2 (by unfold tc;simp) (by
   unfold Hd;simp only[xor_zero];unfold sf;simp) ga
  have:wB [61,61]=4:=rfl;exact Sb.pre (t1.trans (t2.trans t3)) (Sb.ok (c:=0) (d := -4) v3 (Int.le_refl 0)) ga ga
 exact absurd rfl h1
 ·exact simple 60 rfl (by unfold tc;simp) hw (by unfold Hd;rw[zn ea,zn ea,zn ea,zn ea,zn ea,zn ea,EI];try rfl)
 ·-- >
  have hw:ws=Om (X.cc f):=hw;subst hw;obtain⟨m1,t1,v1⟩:=v.fz hX hf hc (by rcases hd with h|h;omega;exact absurd rfl h.2.1);have:wB [62]=33:=rfl;exact Sb.pre t1 (Sb.ok (c:=0) (d := -33) v1 (Int.le_refl 0)) ga ga
 ·-- <=
  have hw:ws=Om (X.cc f)++[[49],[94]]:=hw;subst hw;obtain⟨ko,We⟩:=hc.app;obtain⟨m1,t1,v1⟩:=v.fz hX hf ko (by rcases hd with h|h;omega;exact absurd rfl h.2.2);have hl:(Om (X.cc f)).length=9:=rfl;rw[hl] at We;obtain⟨w1,We⟩:=We.cons;obtain⟨w2,We⟩:=We.cons;obtain⟨m2,t2,v2,_⟩:=v1.Px (n:=1) w1 ea rfl (by simp only[Ma];omega);obtain⟨m3,t3,v3,_⟩:=v2.op (x:=sf (decide (a<=b))) w2 (by unfold tc;simp) (by
   unfold Hd sf;by_cases h:b<a;simp[h,show ¬ a<=b by omega];simp[h,show a<=b by omega]) ga
  have:wB [60,61]=36:=rfl;exact Sb.pre (t1.trans (t2.trans t3)) (Sb.ok (c:=0) (d := -36) (by
   have:i+9+1+1=i+(Om (X.cc f)++[[49],[94]]).length:=rfl;exact v3.cast this) (Int.le_refl 0)) ga ga
 ·-- >=
  have hw:ws=[[60],[49],[94]]:=hw;subst hw;obtain⟨w0,hc⟩:=hc.cons;obtain⟨w1,hc⟩:=hc.cons;obtain⟨w2,hc⟩:=hc.cons;obtain⟨m1,t1,v1,_⟩:=v.op (x:=sf (decide (a<b))) w0 (by unfold tc;simp) (by unfold Hd;rw[zn ea,zn ea,zn ea,zn ea,zn ea,zn ea,EI]) ga;obtain⟨m2,t2,v2,_⟩:=v1.Px (n:=1) w1 ea rfl (by simp only[Ma];omega);obtain⟨m3,t3,v3,_⟩:=v2.op (x:=sf (decide (b<=a))) w2 (by unfold tc;simp) (by
   unfold Hd sf;by_cases h:a<b;simp[h,show ¬ b<=a by omega];simp[h,show b<=a by omega]) ga
  have:wB [62,61]=4:=rfl;exact Sb.pre (t1.trans (t2.trans t3)) (Sb.ok (c:=0) (d := -4) v3 (Int.le_refl 0)) ga ga
 exact simple 94 rfl (by unfold tc;simp) hw rfl;exact simple 43 rfl (by unfold tc;simp) hw rfl;exact simple 45 rfl (by unfold tc;simp) hw rfl;exact simple 42 rfl (by unfold tc;simp) hw rfl;exact simple 47 rfl (by unfold tc;simp) hw (by unfold Hd Ij;by_cases h:b=0 <;> simp[h]);exact simple 37 rfl (by unfold tc;simp) hw (by unfold Hd Ij;by_cases h:b=0 <;> simp[h])
end
section
variable{X:Uf}{n:Nat}
theorem qzM(hX:oe X)(hE:ZA X n)(hC:qyI X n):ZA X (n+1):=by
 intro f hf e i s m d c hn he hc v hd Vo;obtain⟨op,num,name,args⟩:=e;rw[Gf] at he;split at he
 case isFalse=>cases he
 rename_i ld;obtain⟨Vi,OB⟩:=Tc.1 he;rw[so];refine Sb.tick v.rel.out λXy=>?_;have v:=v.steps (s.left-wE op num name args.length);generalize { s with left:=s.left-wE op num name args.length }=s1 at v ⊢;clear Xy;obtain⟨lc,hn⟩:=hn;rw[Qb] at hc ⊢;rw[Sf] at hd;rw[Hj] at Vo;have Kr:c.length+Qi (X.ib f) args<=64:=by omega
 by_cases h1:op=Af
 ·subst h1
  have ha:args=[]:=List.eq_nil_of_length_eq_zero (by
   have e:ug Af=0:=rfl;rw[e] at ld;omega)
  subst ha;have hr:((Nk (so X.P n f) [] s1).bind λvs s=>JG X.P (Sg X.P n) f Af num name vs s)=.ok num s1:=rfl;rw[hr];have hw:Cr (X.cc f) Af num name (Ib (X.cc f) [])=[decDigits num]:=by rw[Ib];try rfl
  rw[hw] at hc ⊢;obtain⟨w0,_⟩:=hc.cons;have Wa:d.length<256:=by have:UC (X.ib f) Af name (zh (X.ib f) [])=1:=rfl;omega
  have hq:wE Af num name ([]:List Ex).length=wN num:=rfl;rw[hq];obtain⟨m1,t1,v1,_⟩:=v.num (k:=wN num) w0 lc (DP lc) Wa;exact Sb.pre t1 (Sb.ok (c:=0) (d:=0) v1 (Int.le_refl 0)) ga ga
 by_cases h2:op=bg
 ·subst h2
  have ha:args=[]:=List.eq_nil_of_length_eq_zero (by
   have e:ug bg=0:=rfl;rw[e] at ld;omega)
  subst ha;have hr:((Nk (so X.P n f) [] s1).bind λvs s=>JG X.P (Sg X.P n) f bg num name vs s)=.ok (s1.sc (jc f name)) s1:=rfl;rw[hr];have Ze:du (X.ib f) name=0:=OB;obtain⟨a1,a2⟩:=hX.sc f hf name Ze;have hw:Cr (X.cc f) bg num name (Ib (X.cc f) [])=[(X.cc f).sc name,[64]]:=by rw[Ib];try rfl
  rw[hw,a1] at hc;rw[hw];obtain⟨w0,hc⟩:=hc.cons;obtain⟨w1,hc⟩:=hc.cons;have Wa:d.length<256:=by have:UC (X.ib f) bg name (zh (X.ib f) [])=1:=rfl;omega
  have PS:=hX.low _ (.inl ⟨_,a2,rfl⟩);obtain⟨m1,t1,v1,e1⟩:=v.addr w0 ga Wa;obtain⟨m2,t2,v2,e2⟩:=v1.load w1 (hX.BM _ (.inl ⟨_,a2,rfl⟩)) Wa;rw[e1,v.rel.sc _ a2] at v2;have hq:wE bg num name ([]:List Ex).length=8:=rfl;rw[hq];exact Sb.pre (t1.trans t2) (Sb.ok (c:=0) (d:=0) v2 (Int.le_refl 0)) ga ga
 by_cases h3:op=Vj
 ·subst h3
  obtain⟨x,rfl⟩:∃ x,args=[x]:=nw (by
   have e:ug Vj=1:=rfl;rw[e] at ld;omega)
  rw[XQ,UK];have Ze:Xz (X.ib f) name=0:=OB;obtain⟨a1,A,hA,rfl⟩:=hX.ar f hf name Ze;have hw:Cr (X.cc f) Vj num A.name (Ib (X.cc f) [x])=(X.cc f).ar A.name::(Qb (X.cc f) x++[[43],[64]]):=by rw[Ib];try rfl
  rw[hw,a1] at hc;rw[hw];obtain⟨w0,hc⟩:=hc.cons;obtain⟨Mr,hc⟩:=hc.app;obtain⟨w1,hc⟩:=hc.cons;obtain⟨w2,hc⟩:=hc.cons;have Vg:d.length+(1+Sf (X.ib f) x)<=256:=hd;rw[vg] at Vi;rw[Qi] at Kr;have vT:∀ j,j<A.size->X.aa A.name+j<262144:=λj hj=>hX.low _ (.inr (.inr ⟨A,hA,j,hj,rfl⟩));have j8:X.aa A.name<1000000:=hX.rz A hA;obtain⟨m1,t1,v1,e1⟩:=v.addr w0 j8 ga;have hq:wE Vj num A.name [x].length=9:=rfl;rw[hq];refine Sb.pre t1 (c1:=2) (d1:=2) ?_ ga ga;refine Sb.bind (c2:=2) (d2:=2) (hE f hf x (i+1) s1 m1 (X.aa A.name::d) c hn.1 (Tc.1 Vi).1 Mr v1 (by rw[Ma];omega) ga) ga ga ga λa s' m' va=>?_
  show Sb X.C _ 2 2 m' s' (match (s'.ar A.name)[a]? with
   |some v=>.ok v s'
   |none=>.stop 2 s')
  cases hg:(s'.ar A.name)[a]? with
  |none=>exact Sb.other ea
  |some r=>
   obtain⟨Ka,hr⟩:=List.getElem?_eq_some_iff.1 hg;obtain⟨b1,b2⟩:=va.rel.ar A hA;have hb:=vT a ga;obtain⟨m2,t2,v2,e2⟩:=va.op (x:=X.aa A.name+a) w1 (by unfold tc;simp) (by
    show some ((X.aa A.name+a) % 4294967296)=_;rw[Nat.mod_eq_of_lt (by omega)]) ga
   obtain⟨m3,t3,v3,e3⟩:=v2.load w2 (hX.BM _ (.inr (.inr ⟨A,hA,a,by omega,rfl⟩))) ga;rw[e2,b2 a Ka,hr] at v3;refine Sb.pre (t2.trans t3) (Sb.ok (c:=0) (d:=0) (v3.cast ?_) (Int.le_refl 0)) ga ga;simp only[Ma,Ga,qc];omega
 by_cases h4:op=Ng
 ·subst h4
  obtain⟨x,rfl⟩:∃ x,args=[x]:=nw (by
   have e:ug Ng=1:=rfl;rw[e] at ld;omega)
  rw[XQ,UK];have hw:Cr (X.cc f) Ng num name (Ib (X.cc f) [x])=[48]::(Qb (X.cc f) x++[[45]]):=by rw[Ib];try rfl
  rw[hw] at hc ⊢;obtain⟨w0,hc⟩:=hc.cons;obtain⟨Mr,hc⟩:=hc.app;obtain⟨w1,hc⟩:=hc.cons;have Vg:d.length+(1+Sf (X.ib f) x)<=256:=hd;rw[vg] at Vi;rw[Qi] at Kr;obtain⟨m1,t1,v1,e1⟩:=v.Px (n:=0) w0 ea rfl ga;have hq:wE Ng num name [x].length=3:=rfl;rw[hq];refine Sb.pre t1 (c1:=1) (d1:=1) ?_ ga ga;refine Sb.bind (c2:=1) (d2:=1) (hE f hf x (i+1) s1 m1 (0::d) c hn.1 (Tc.1 Vi).1 Mr v1 (by rw[Ma];omega) ga) ga ga ga λa s' m' va=>?_;show Sb X.C _ 1 1 m' s' (.ok ((4294967296-a) % 4294967296) s')
  obtain⟨m2,t2,v2,e2⟩:=va.op (x:=(4294967296-a) % 4294967296) w1 (by unfold tc;simp) (by
   show some ((0+4294967296-a) % 4294967296)=_;rw[Nat.zero_add]) ga
  refine Sb.pre t2 (Sb.ok (c:=0) (d:=0) (v2.cast ?_) (Int.le_refl 0)) ga ga;simp only[Ma,Ga,qc];omega
 by_cases h5:op=yg
 ·subst h5
  obtain⟨x,rfl⟩:∃ x,args=[x]:=nw (by
   have e:ug yg=1:=rfl;rw[e] at ld;omega)
  rw[XQ,UK];have hw:Cr (X.cc f) yg num name (Ib (X.cc f) [x])=Qb (X.cc f) x++[[49],[60]]:=by rw[Ib];try rfl
  rw[hw] at hc ⊢;obtain⟨Mr,hc⟩:=hc.app;obtain⟨w0,hc⟩:=hc.cons;obtain⟨w1,hc⟩:=hc.cons;have Vg:d.length+max 2 (Sf (X.ib f) x)<=256:=hd;rw[vg] at Vi;rw[Qi] at Kr;have hq:wE yg num name [x].length=3:=rfl;rw[hq];refine Sb.bind (c2:=3) (d2:=3) (hE f hf x i s1 m d c hn.1 (Tc.1 Vi).1 Mr v ga ga) ga ga ga λa s' m' va=>?_;show Sb X.C _ 3 3 m' s' (.ok (sf (decide (a=0))) s');obtain⟨m1,t1,v1,e1⟩:=va.Px (n:=1) w0 ea rfl (by simp only[Ma];omega)
  obtain⟨m2,t2,v2,e2⟩:=v1.op (x:=sf (decide (a=0))) w1 (by unfold tc;simp) (by
   show some (if a<1 then 1 else 0)=_;rw[EI];congr 3;exact propext ⟨λh=>by omega,λh=>by omega⟩) ga
  refine Sb.pre (t1.trans t2) (Sb.ok (c:=0) (d:=0) (v2.cast ?_) (Int.le_refl 0)) ga ga;simp only[Ma,Ga,qc];omega
 by_cases h6:op=tg
 ·subst h6;have Vg:d.length+aB (X.ib f) name (zh (X.ib f) args)<=256:=hd;have hw:Cr (X.cc f) tg num name (Ib (X.cc f) args)=(Ib (X.cc f) args).flatten++(if name=[105,110] then [[44]] else if name=[111,117,116] then [[46],[48]] else [[38,102,95]++name,[58]]):=rfl;have Ze:Qc (X.ib f) name args.length=0:=OB;have BD:∀ vs s,JG X.P (Sg X.P n) f tg num name vs s=Nz X.P (Sg X.P n) name vs s:=λvs s=>rfl;rw[hw] at hc ⊢;obtain⟨T7,hc⟩:=hc.app
  by_cases k1:name=[105,110];subst k1;rw[zp rfl] at hc ⊢;have ha:args=[]:=List.eq_nil_of_length_eq_zero (by
   unfold Qc at Ze;rw[zp rfl] at Ze;split at Ze
   assumption
   cases Ze)
  subst ha;rw[Ib] at hc ⊢;obtain⟨w0,_⟩:=hc.cons;have Wa:d.length<256:=by have:aB (X.ib f) [105,110] (zh (X.ib f) [])=1:=rfl;omega
  obtain⟨m1,t1,v1⟩:=v.read w0 Wa;have hr:((Nk (so X.P n f) [] s1).bind λvs s=>JG X.P (Sg X.P n) f tg num [105,110] vs s)=.ok (s1.Ia.headD 4294967295) { s1 with Ia:=s1.Ia.tail }:=by
   show Nz X.P (Sg X.P n) [105,110] [] s1=_;unfold Nz;rw[zp rfl];cases hi:s1.Ia with
   |nil=>simp only[List.headD_nil,List.tail_nil];congr 1;cases s1;simp only at hi;subst hi;rfl
   |cons a r=>rfl
  rw[hr];have hq:wE tg num [105,110] ([]:List Ex).length=1:=rfl;rw[hq];refine Sb.pre (s:=s1) t1 (c1:=0) (d1:=0) ?_ ga ga;exact⟨Pb _,0,m1,by simp,.zero _,v1⟩;by_cases k2:name=[111,117,116];subst k2;rw[zn ea,zp rfl] at hc ⊢;obtain⟨x,rfl⟩:∃ x,args=[x]:=nw (by
   unfold Qc at Ze;rw[zn ea,zp rfl] at Ze;split at Ze
   assumption
   cases Ze)
  rw[XQ,UK];have yl:(Ib (X.cc f) [x]).flatten=Qb (X.cc f) x:=by rw[Ib,Ib];simp
  rw[yl] at hc T7 ⊢;obtain⟨w0,hc⟩:=hc.cons;obtain⟨w1,_⟩:=hc.cons;have Z6:d.length+Sf (X.ib f) x<=256:=Vg;have AA:1<=Sf (X.ib f) x:=FN _ _ (Tc.1 (by rw[vg] at Vi;exact Vi)).1;rw[vg] at Vi;rw[Qi] at Kr;have hq:wE tg num [111,117,116] [x].length=3:=rfl;rw[hq];refine Sb.bind (c2:=3) (d2:=3) (hE f hf x i s1 m d c hn.1 (Tc.1 Vi).1 T7 v ga ga) ga ga ga λa s' m' va=>?_;show Sb X.C _ 3 3 m' s' (.ok 0 { s' with out:=s'.out++[UInt8.ofNat a] })
  obtain⟨m1,t1,v1⟩:=va.write w0;obtain⟨m2,t2,v2,_⟩:=v1.Px (n:=0) w1 ea rfl ga;refine Sb.pre (s:=s') (t1.trans t2) (c1:=0) (d1:=0) ?_ ga ga;refine⟨Pb _,0,m2,by simp,.zero _,v2.cast ?_⟩;simp only[Ma,Ga,qc];omega;rw[zn k1,zn k2] at hc ⊢;have BJ:aB (X.ib f) name (zh (X.ib f) args)=match (X.ib f).fn name with
    |some g=>Mz 0 (zh (X.ib f) args) (max (g.params+1) g.need)
    |none=>0:=by unfold aB;rw[zn k1,zn k2];try rfl
  have It:Qv (X.ib f) tg name=match (X.ib f).fn name with
    |some g=>g.depth+1
    |none=>0:=by unfold Qv;rw[zp ⟨rfl,k1,k2⟩];try rfl
  obtain⟨g,hg⟩:∃ g,(X.ib f).fn name=some g:=by
   cases hq:(X.ib f).fn name with
   |some g=>exact⟨g,rfl⟩
   |none=>unfold Qc at Ze;rw[zn k1,zn k2,hq] at Ze;simp only at Ze;split at Ze <;> cases Ze
  rw[hg] at BJ It;simp only at BJ It;obtain⟨q1,q2⟩:=qmX (zh (X.ib f) args) 0 (max (g.params+1) g.need) (256-d.length) ga;obtain⟨r1,r2⟩:=qlu (X.ib f) args;have hq:wE tg num name args.length=8 * args.length+11:=by show(if name=[105,110] then 1 else if name=[111,117,116] then 3 else 8 * args.length+11)=_;rw[zn k1,zn k2]
  rw[hq];refine Sb.bind (c2:=8 * args.length+11) (d2:=8 * args.length+11) (qvi hE hf args i s1 m d c hn Vi T7 v (λk hk=>?_) Kr) ga ga ga λvs s' m' hv=>?_;have:=q2 k ga;rw[r2 k hk (by omega)] at this;have OD:d.length<=256:=by omega
  omega;rw[BD];obtain⟨fJ,hv2⟩:=hv;rw[<-fJ];have:=hC f hf name vs _ s' m' d c k1 k2 (by rw[fJ];exact Ze) hc hv2 (λg' bz=>by
   rw[hg] at bz;cases bz;have OD:d.length<=256:=by omega
   exact⟨by omega,by omega⟩)
  refine Sb.post (a:=0) this ga (Int.le_refl _) λr s2 m2 h=>⟨m2,.refl _,h.cast ?_⟩;rw[Ga];simp only[Ma,qc];omega
 have BD:ug op=2/\args.length=2:=by unfold ug at ld ⊢;simp only[h1,h2,h3,h4,h5,h6,or_self,if_false] at ld ⊢;split at ld;rename_i hb;exact⟨zp hb,by rcases ld with h|h <;> omega⟩;rcases ld with h|h <;> omega
 obtain⟨gv,_⟩:=qqz BD.1;obtain⟨x,y,rfl⟩:∃ x y,args=[x,y]:=by
  have h:=BD.2;match args,h with
  |[x,y],_=>exact⟨x,y,rfl⟩
 rw[qw4,UK];simp only[UK];have lT:∀ a b s,(IR.ok [a,b] s).bind (λvs s=>JG X.P (Sg X.P n) f op num name vs s)=match Ij op a b with
   |some r=>.ok r s
   |none=>.stop 12 s:=λa b s=>qzI X.P (Sg X.P n) f gv num name a b s
 simp only[lT];have FB:=hn.1;have zX:=hn.2.1;rw[vg,vg] at Vi;obtain⟨Vi,Ze⟩:=Tc.1 Vi;obtain⟨Ze,_⟩:=Tc.1 Ze;rw[Qi,Qi] at Kr;have sO:Ib (X.cc f) [x,y]=[Qb (X.cc f) x,Qb (X.cc f) y]:=by rw[Ib,Ib,Ib]
 have Ir:zh (X.ib f) [x,y]=[Sf (X.ib f) x,Sf (X.ib f) y]:=by rw[zh,zh,zh]
 rw[sO] at hc ⊢;rw[Ir] at hd;by_cases b1:op=[33,61];subst b1;have hw:Cr (X.cc f) [33,61] num name [Qb (X.cc f) x,Qb (X.cc f) y]=[48]::(Qb (X.cc f) x++Qb (X.cc f) y++[[94],[60]]):=rfl;rw[hw] at hc ⊢;have Vg:d.length+max (max 3 (1+Sf (X.ib f) x)) (2+Sf (X.ib f) y)<=256:=hd;obtain⟨w0,hc⟩:=hc.cons;obtain⟨hc,xm⟩:=hc.app;obtain⟨ko,We⟩:=hc.app;obtain⟨w1,xm⟩:=xm.cons;obtain⟨w2,_⟩:=xm.cons;obtain⟨m1,t1,v1,e1⟩:=v.Px (n:=0) w0 ea rfl ga;have hq:wE [33,61] num name [x,y].length=4:=rfl;rw[hq];refine Sb.pre t1 (c1:=2) (d1:=2) ?_ ga ga;refine Sb.bind (c2:=2) (d2:=2) (hE f hf x (i+1) s1 m1 (0::d) c FB Vi ko v1 (by rw[Ma];omega) ga) ga ga ga λa s' m' va=>?_;refine Sb.bind (c2:=2) (d2:=2) (hE f hf y _ s' m' (a::0::d) c zX Ze We va (by rw[Ma,Ma];omega) ga) ga ga ga λb s2 m2 vb=>?_;rw[Ga,<-add_assoc] at w1 w2;obtain⟨m3,t3,v3,_⟩:=vb.op (x:=a ^^^ b) w1 (by unfold tc;simp) rfl (by simp only[Ma];omega)
 obtain⟨m4,t4,v4,_⟩:=v3.op (x:=sf (decide (a≠b))) w2 (by unfold tc;simp) (by
  show some (if 0<a ^^^ b then 1 else 0)=_;rw[EI];congr 3;refine propext ⟨λh e=>?_,λh=>?_⟩;have:=xor_zero.2 e;omega
  have:=mt xor_zero.1 h;omega) ga
 refine Sb.pre (t3.trans t4) (Sb.ok (c:=0) (d:=0) (v4.cast ?_) (Int.le_refl 0)) ga ga;simp only[Ma,Ga,qc];omega;by_cases b2:op=[38,38];subst b2;have hw:Cr (X.cc f) [38,38] num name [Qb (X.cc f) x,Qb (X.cc f) y]=[48]::(Qb (X.cc f) x++[[60],[48]]++Qb (X.cc f) y++[[60],[42]]):=rfl;rw[hw] at hc ⊢;have Vg:d.length+max (1+Sf (X.ib f) x) (2+Sf (X.ib f) y)<=256:=hd;have V6:=FN _ _ Vi;have hpy:=FN _ _ Ze;obtain⟨w0,hc⟩:=hc.cons;obtain⟨hc,wm⟩:=hc.app;obtain⟨hc,xm⟩:=hc.app;obtain⟨ko,We⟩:=hc.app;obtain⟨w1,We⟩:=We.cons;obtain⟨w2,_⟩:=We.cons;obtain⟨w3,wm⟩:=wm.cons;obtain⟨w4,_⟩:=wm.cons;obtain⟨m1,t1,v1,e1⟩:=v.Px (n:=0) w0 ea rfl ga;have hq:wE [38,38] num name [x,y].length=7:=rfl;rw[hq];refine Sb.pre t1 (c1:=5) (d1:=5) ?_ ga ga;refine Sb.bind (c2:=5) (d2:=5) (hE f hf x (i+1) s1 m1 (0::d) c FB Vi ko v1 (by rw[Ma];omega) ga) ga ga ga λa s' m' va=>?_
 obtain⟨m2,t2,v2,_⟩:=va.op (x:=sf (decide (0<a))) w1 (by unfold tc;simp) (by
  show some (if 0<a then 1 else 0)=_;rw[EI]) ga
 obtain⟨m3,t3,v3,_⟩:=v2.Px (n:=0) w2 ea rfl (by simp only[Ma];omega);refine Sb.pre (t2.trans t3) (c1:=2) (d1:=2) ?_ ga ga;refine Sb.bind (c2:=2) (d2:=2) (hE f hf y _ s' m3 (0::sf (decide (0<a))::d) c zX Ze (by
  rw[Ga,<-add_assoc] at xm;exact xm) v3 (by rw[Ma,Ma];omega) ga) ga ga ga λb s2 m4 vb=>?_
 have sY:X.C.W[i+1+(Qb (X.cc f) x).length+1+1+(Qb (X.cc f) y).length]? = some [60]:=by rw[<-w3];congr 1;simp only[Ga,Ma,qc];omega
 have rY:X.C.W[i+1+(Qb (X.cc f) x).length+1+1+(Qb (X.cc f) y).length+1]? = some [42]:=by rw[<-w4];congr 1;simp only[Ga,Ma,qc];omega
 obtain⟨m5,t5,v5,_⟩:=vb.op (x:=sf (decide (0<b))) sY (by unfold tc;simp) (by
  show some (if 0<b then 1 else 0)=_;rw[EI]) (by simp only[Ma];omega)
 obtain⟨m6,t6,v6,_⟩:=v5.op (x:=sf (decide (a≠0/\b≠0))) rY (by unfold tc;simp) (by
  show some (sf (decide (0<a)) * sf (decide (0<b)) % 4294967296)=_;congr 1;unfold sf;by_cases ha:0<a <;> by_cases hb:0<b <;> simp[ha,hb,Nat.pos_iff_ne_zero.1,show a=0 ↔ ¬ 0<a by omega,show b=0 ↔ ¬ 0<b by omega]) ga
 refine Sb.pre (t5.trans t6) (Sb.ok (c:=0) (d:=0) (v6.cast ?_) (Int.le_refl 0)) ga ga;simp only[Ma,Ga,qc];omega;by_cases b3:op=[124,124];subst b3;have hw:Cr (X.cc f) [124,124] num name [Qb (X.cc f) x,Qb (X.cc f) y]=[48]::[48]::(Qb (X.cc f) x++[[60],[48]]++Qb (X.cc f) y++[[60],[43],[60]]):=rfl;rw[hw] at hc ⊢;have Vg:d.length+max (2+Sf (X.ib f) x) (3+Sf (X.ib f) y)<=256:=hd;have V6:=FN _ _ Vi;have hpy:=FN _ _ Ze;obtain⟨w0,hc⟩:=hc.cons;obtain⟨w00,hc⟩:=hc.cons;obtain⟨hc,wm⟩:=hc.app;obtain⟨hc,xm⟩:=hc.app;obtain⟨ko,We⟩:=hc.app;obtain⟨w1,We⟩:=We.cons;obtain⟨w2,_⟩:=We.cons;obtain⟨w3,wm⟩:=wm.cons;obtain⟨w4,wm⟩:=wm.cons;obtain⟨w5,_⟩:=wm.cons;obtain⟨m0,t0,v0,e0⟩:=v.Px (n:=0) w0 ea rfl ga;obtain⟨m1,t1,v1,e1⟩:=v0.Px (n:=0) w00 ea rfl (by simp only[Ma];omega);have hq:wE [124,124] num name [x,y].length=10:=rfl;rw[hq];refine Sb.pre (t0.trans t1) (c1:=6) (d1:=6) ?_ ga ga;refine Sb.bind (c2:=6) (d2:=6) (hE f hf x (i+1+1) s1 m1 (0::0::d) c FB Vi ko v1 (by rw[Ma,Ma];omega) ga) ga ga ga λa s' m' va=>?_
 obtain⟨m2,t2,v2,_⟩:=va.op (x:=sf (decide (0<a))) w1 (by unfold tc;simp) (by
  show some (if 0<a then 1 else 0)=_;rw[EI]) (by simp only[Ma];omega)
 obtain⟨m3,t3,v3,_⟩:=v2.Px (n:=0) w2 ea rfl (by simp only[Ma];omega);refine Sb.pre (t2.trans t3) (c1:=3) (d1:=3) ?_ ga ga;refine Sb.bind (c2:=3) (d2:=3) (hE f hf y _ s' m3 (0::sf (decide (0<a))::0::d) c zX Ze (by
  rw[Ga,<-add_assoc] at xm;exact xm) v3 (by rw[Ma,Ma,Ma];omega) ga) ga ga ga λb s2 m4 vb=>?_
 have sY:X.C.W[i+1+1+(Qb (X.cc f) x).length+1+1+(Qb (X.cc f) y).length]? = some [60]:=by rw[<-w3];congr 1;simp only[Ga,Ma,qc];omega
 have rY:X.C.W[i+1+1+(Qb (X.cc f) x).length+1+1+(Qb (X.cc f) y).length+1]? = some [43]:=by rw[<-w4];congr 1;simp only[Ga,Ma,qc];omega
 have w5':X.C.W[i+1+1+(Qb (X.cc f) x).length+1+1+(Qb (X.cc f) y).length+1+1]? = some [60]:=by rw[<-w5];congr 1;simp only[Ga,Ma,qc];omega
 obtain⟨m5,t5,v5,_⟩:=vb.op (x:=sf (decide (0<b))) sY (by unfold tc;simp) (by
  show some (if 0<b then 1 else 0)=_;rw[EI]) (by simp only[Ma];omega)
 obtain⟨m6,t6,v6,_⟩:=v5.op (x:=sf (decide (0<a))+sf (decide (0<b))) rY (by unfold tc;simp) (by
  show some ((sf (decide (0<a))+sf (decide (0<b))) % 4294967296)=_;have h1:=qxO (decide (0<a));have h2:=qxO (decide (0<b));rw[Nat.mod_eq_of_lt (by omega)]) (by simp only[Ma];omega)
 obtain⟨m7,t7,v7,_⟩:=v6.op (x:=sf (decide (a≠0∨b≠0))) w5' (by unfold tc;simp) (by
  show some (if 0<sf (decide (0<a))+sf (decide (0<b)) then 1 else 0)=_;congr 1;unfold sf
  by_cases ha:0<a <;> by_cases hb:0<b <;> simp[ha,hb,show a=0 ↔ ¬ 0<a by omega,show b=0 ↔ ¬ 0<b by omega]) ga
 refine Sb.pre (t5.trans (t6.trans t7)) (Sb.ok (c:=0) (d:=0) (v7.cast ?_) (Int.le_refl 0)) ga ga;simp only[Ma,Ga,qc];omega;obtain⟨_,o1,o2,o3,o4,o5,o6⟩:=qqz BD.1;have hw:Cr (X.cc f) op num name [Qb (X.cc f) x,Qb (X.cc f) y]=Qb (X.cc f) x++Qb (X.cc f) y++(if op=[62] then Om (X.cc f) else if op=[60,61] then Om (X.cc f)++[[49],[94]] else if op=[62,61] then [[60],[49],[94]] else if op=[61,61] then [[94],[49],[60]] else [op]):=by unfold Cr;rw[zn o1,zn o2,zn o3,zn o6,zn o4,zn o5,zn b1,zn b2,zn b3];try rfl
 rw[hw] at hc ⊢;obtain⟨hc,xm⟩:=hc.app;obtain⟨ko,We⟩:=hc.app;have Vg:d.length+(if op=[62]∨op=[60,61] then max (max 3 (Sf (X.ib f) x)) (1+Sf (X.ib f) y) else max (max 2 (Sf (X.ib f) x)) (1+Sf (X.ib f) y))<=256:=by
  have:UC (X.ib f) op name [Sf (X.ib f) x,Sf (X.ib f) y]=(if op=[62]∨op=[60,61] then max (max 3 (Sf (X.ib f) x)) (1+Sf (X.ib f) y) else max (max 2 (Sf (X.ib f) x)) (1+Sf (X.ib f) y)):=by unfold UC;rw[zn (by rintro(h|h);exact o1 h;exact o2 h),zn (by rintro(h|h);exact o3 h;exact o4 h),zn o6,zn o5,zn b1,zn b2,zn b3];try rfl
  rw[this] at hd;exact hd
 have cz:d.length+Sf (X.ib f) x<=256/\d.length+1+Sf (X.ib f) y<=256/\(d.length+3<=256∨(d.length+2<=256/\op≠[62]/\op≠[60,61])):=by split at Vg;exact⟨by omega,by omega,.inl ga⟩;rename_i h;exact⟨by omega,by omega,.inr ⟨by omega,λe=>h (.inl e),λe=>h (.inr e)⟩⟩
 have hq:wE op num name [x,y].length=wB op:=by unfold wE wB;rw[zn o1,zn o2,zn o3,zn o4,zn o5,zn o6];split <;> try rfl
 rw[hq];refine Sb.bind (c2:=(wB op:Int)) (d2:=(wB op:Int)) (hE f hf x i s1 m d c FB Vi ko v cz.1 ga) ga ga ga λa s' m' va=>?_;refine Sb.bind (c2:=(wB op:Int)) (d2:=0) (hE f hf y _ s' m' (a::d) c zX Ze We va (by rw[Ma];omega) ga) ga ga ga λb s2 m2 vb=>?_;rw[Ga,<-add_assoc] at xm;refine Sb.post (a:=0) (qAX hX hf gv b1 b2 b3 vb cz.2.2 rfl xm) ga (Int.le_refl _) λr s3 m3 h=>⟨m3,.refl _,h.cast ?_⟩;rw[Ga,Ga];omega
end
def VA(X:Uf)(n:Nat):Prop:=∀ f∈X.P.funcs,∀ st i nl s m d t rest,aq st->Dl (X.ib f) st=0->X.C.Code i (Ig (X.cc f) nl st).1->X.Vw s i d (t::rest) m->d.length+HE (X.ib f) st<=256->rest.length+1+Rt (X.ib f) st<=64 ->
 Sb X.C (p9 X (i+(Ig (X.cc f) nl st).1.length) d t rest) 0 0 m s (Sg X.P n f st s)
section
variable{X:Uf}{n:Nat}
theorem zK(hS:VA X n){f:yb}(hf:f∈X.P.funcs):∀ (l:List Sm) i nl s m d t rest,Bj l->mi (X.ib f) l=0->X.C.Code i (Pa (X.cc f) nl l).1->X.Vw s i d (t::rest) m->d.length+Xl (X.ib f) l<=256->rest.length+1+Mj (X.ib f) l<=64 ->
  Sb X.C (p9 X (i+(Pa (X.cc f) nl l).1.length) d t rest) 0 0 m s (Cg (Sg X.P n f) l s)
 |[],i,nl,s,m,d,t,rest,_,_,_,v,_,_=>Sb.ok (by rw[Pa];exact v) (Int.le_refl 0)
 |a::l,i,nl,s,m,d,t,rest,hn,he,hc,v,hd,Vo=>by
  rw[mi] at he;obtain⟨Vi,OB⟩:=Tc.1 he;rw[Xl] at hd;rw[Mj] at Vo;rw[Pa] at hc ⊢;obtain⟨ko,We⟩:=hc.app;unfold Cg;refine Sb.bind (c2:=0) (d2:=0) (hS f hf a i nl s m d t rest hn.1 Vi ko v ga ga) ga ga ga λr s' m' h=>?_
  cases r with
  |some w=>exact Sb.ok h (Int.le_refl 0)
  |none=>have:=zK hS hf l _ _ s' m' d t rest hn.2 OB We h ga ga;rw[Ga,<-add_assoc];exact this
theorem Sb.left{A:Type}{Q:A->IS->MS->Prop}{c d:Int}{m:MS}{s s':IS}{r:IR A}(h:Sb X.C Q c d m s r)(hl:s.left=s'.left):Sb X.C Q c d m s' r:=by
 cases r with
 |ok v s2=>unfold Sb at h ⊢;rw[<-hl];exact h
 |stop e s2=>unfold Sb at h ⊢;rw[<-hl];exact h
theorem qzC(hX:oe X)(hS:VA X n):qyI X n:=by
 intro f hf name vs i s m d c k1 k2 he hc v Vg;obtain⟨g,hg⟩:∃ g,(X.ib f).fn name=some g:=by
  cases hq:(X.ib f).fn name with
  |some g=>exact⟨g,rfl⟩
  |none=>unfold Qc at he;rw[zn k1,zn k2,hq] at he;simp only at he;split at he <;> cases he
 have ma:vs.length=g.params:=by
  unfold Qc at he;rw[zn k1,zn k2,hg] at he;simp only at he;split at he
  assumption
  cases he
 obtain⟨n1,n2⟩:=Vg g hg;obtain⟨a1,a2,a3,a4,a5⟩:=hX.fn f hf name g hg;have hci:Nz X.P (Sg X.P n) name vs s=(Cg (Sg X.P n (Xg X.P name)) (Xg X.P name).body (Wq (Xg X.P name) (Xg X.P name).params vs s)).bind λr s=>.ok (r.getD 0) s:=by unfold Nz;rw[zn k1,zn k2]
 rw[hci];generalize hk:Xg X.P name=k at *;obtain⟨nl,Ef⟩:=hX.code k a1;obtain⟨b1,b2⟩:=hX.body k a1;obtain⟨p1,p2⟩:=hX.A5 k a1;have wJ:=hX.Gj k a1;have Vm:=hX.KA k a1;rw[a2] at wJ Vm;unfold Sk at Ef;simp only at Ef;rw[a2] at Ef;obtain⟨Ef,wm⟩:=Ef.app;obtain⟨Ef,xm⟩:=Ef.app;obtain⟨ko,We⟩:=Ef.app;obtain⟨w0,hc⟩:=hc.cons;obtain⟨w1,_⟩:=hc.cons;obtain⟨wd,_⟩:=ko.cons;have pX:(vs.reverse++d).length=vs.length+d.length:=by rw[Ga,List.length_reverse]
 have t2:=PW.call v.here w0 w1 Vm (hX.label _ _ _ wd wJ) (by rw[v.data,pX];omega) (by rw[v.calls];omega);have v3:X.Vw s (X.fst k+1) (vs.reverse++d) (X.C.zd (i+1+1)::c) { m with pc:=X.C.zd (X.fst k+1),calls:=X.C.zd (i+1+1)::m.calls,digit:=false }:=
  ⟨PW.Gh rfl,v.rel.same rfl rfl rfl rfl rfl rfl rfl,v.data,by simp only;rw[v.calls]⟩
 obtain⟨m3,t3,v4⟩:=quf hX k.params.length k.params vs _ s d _ _ rfl ga p1 p2 We v3 ga;refine Sb.pre (t2.trans t3) (c1:=3) (d1:=3) ?_ ga ga;have hb:=zK hS a1 k.body _ nl _ m3 d (X.C.zd (i+1+1)) c b2 b1 xm (v4.cast (by simp only[Ga,Ma,qc];omega)) ga ga;generalize Cx:X.fst k+([[102,95]++name++[58]]++k.params.reverse.flatMap λp=>[(X.cc k).sc p,[33]]).length=i3 at hb
 have ND:∀ s' m',X.Vw s' (i3+(Pa (X.cc k) nl k.body).1.length) d (X.C.zd (i+1+1)::c) m'->∃ m2,Nf X.C 3 m' m2/\X.Vw s' (i+2) (0::d) c m2:=by intro s' m' v5;obtain⟨w2,wm⟩:=wm.cons;obtain⟨w3,_⟩:=wm.cons;rw[Ga,<-add_assoc,Cx] at w2 w3;obtain⟨m6,t6,v6,_⟩:=v5.Px (n:=0) w2 ea rfl ga;have t7:=PW.back v6.here w3 v6.calls;exact⟨_,(t6.trans t7).mono ea,⟨PW.Gh rfl,v6.rel.same rfl rfl rfl rfl rfl rfl rfl,v6.data,rfl⟩⟩
 refine Sb.bind (c1:=0) (d1:=0) (c2:=3) (d2:=3) (hb.left (qlk _ _ _ _)) ga ga ga λr s' m' h=>?_
 cases r with
 |none=>obtain⟨m2,t5,v5⟩:=ND s' m' h;exact Sb.pre t5 (Sb.ok (c:=0) (d:=0) v5 (Int.le_refl 0)) ga ga
 |some w=>obtain⟨g1,g2,g3,g4,g5⟩:=h;exact Sb.ok ⟨PW.Gh g1,g3,g4,g5⟩ ga
theorem Y'(hX:oe X)(hE:ZA X n)(hS:VA X n){f:yb}(hf:f∈X.P.funcs){x:Ex}{Ua:List Sm}{i0 k0 k1 nb:Nat}{d:List Nat}{t:List Wd}{rest:List (List Wd)}(FB:fj x)(hex:Gf (X.ib f) x=0)(hnt:Bj Ua)(het:mi (X.ib f) Ua=0)
  (nX:X.C.W[i0]? = some (za k0++[58])) (Mr:X.C.Code (i0+1) (Qb (X.cc f) x)) (S7:X.C.Code (i0+1+(Qb (X.cc f) x).length) [38::za k1,[63]]) (zH:X.C.Code (i0+1+(Qb (X.cc f) x).length+2) (Pa (X.cc f) nb Ua).1)
  (DO:X.C.Code (i0+1+(Qb (X.cc f) x).length+2+(Pa (X.cc f) nb Ua).1.length) [[48],38::za k0,[63]]) (l6:X.C.W[i0+1+(Qb (X.cc f) x).length+2+(Pa (X.cc f) nb Ua).1.length+3]? = some (za k1++[58]))
  (cz:d.length+Sf (X.ib f) x<=256) (P7:d.length+Xl (X.ib f) Ua<=256) (FA:d.length+2<=256) (V6:rest.length+1+Hj (X.ib f) x<=64) (hpt:rest.length+1+Mj (X.ib f) Ua<=64) :
  ∀ (k a:Nat) (s:IS) (m:MS),X.Vw s (i0+1+(Qb (X.cc f) x).length) (a::d) (t::rest) m->Sb X.C (p9 X (i0+1+(Qb (X.cc f) x).length+2+(Pa (X.cc f) nb Ua).1.length+3+1) d t rest) 8 8 m s (xw (so X.P n f x) (Cg (Sg X.P n f) Ua) k a s)
 |0,a,s,m,v=>by unfold xw;obtain⟨m1,t1,v1⟩:=v.branch hX S7 l6 FA;by_cases ha:a=0;rw[zp ha] at v1 ⊢;exact Sb.pre t1 (Sb.ok (c:=0) (d:=0) v1 (Int.le_refl 0)) ga ga;rw[zn ha];exact Sb.Ca v.rel.out
 |k+1,a,s,m,v=>by
  unfold xw;obtain⟨m1,t1,v1⟩:=v.branch hX S7 l6 FA;by_cases ha:a=0;rw[zp ha] at v1 ⊢;exact Sb.pre t1 (Sb.ok (c:=0) (d:=0) v1 (Int.le_refl 0)) ga ga;rw[zn ha] at v1 ⊢;refine Sb.pre t1 (c1:=0) (d1:=0) ?_ ga ga;refine Sb.bind (c1:=0) (d1:=0) (c2:=0) (d2:=0) (zK hS hf Ua _ nb s m1 d t rest hnt het zH v1 ga ga) ga ga ga λr s' m' h=>?_
  cases r with
  |some w=>exact Sb.ok h ga
  |none=>have h:X.Vw s' _ d (t::rest) m':=h;refine Sb.tick h.rel.out λXy=>?_;have h:=h.steps (s'.left-18);generalize { s' with left:=s'.left-18 }=s1 at h ⊢;obtain⟨m2,t2,v2⟩:=Uf.Vw.goto hX h DO nX FA;refine Sb.pre t2 (c1:=8) (d1:=8) ?_ ga ga;refine Sb.bind (c1:=0) (d1:=0) (c2:=8) (d2:=8) (hE f hf x _ s1 m2 d (t::rest) FB hex Mr v2 ga (by rw[Ma];omega)) ga ga ga λa' s2 m3 v3=>?_;exact Y' hX hE hS hf FB hex hnt het nX Mr S7 zH DO l6 cz P7 FA V6 hpt k a' s2 m3 v3
theorem qzf(hX:oe X)(hE:ZA X n)(hS:VA X n):VA X (n+1):=by
 intro f hf st i nl s m d t rest hn he hc v hd Vo;obtain⟨kind,name,index,value,Ua,Bb⟩:=st;rw[Dl] at he;split at he;cases he;rename_i Xb;obtain⟨ev,he⟩:=Tc.1 he;obtain⟨ei,he⟩:=Tc.1 he;obtain⟨eu,he⟩:=Tc.1 he;obtain⟨et,ee⟩:=Tc.1 he;obtain⟨ni,nv,nt,ne⟩:=hn;rw[Sg];refine Sb.tick v.rel.out λXy=>?_;have v:=v.steps (s.left-wS kind Bb);generalize { s with left:=s.left-wS kind Bb }=s1 at v ⊢;clear Xy;rw[nQ] at hc ⊢;rw[HE] at hd;rw[Rt] at Vo;unfold Zh at Xb;simp only at Xb
 by_cases k7:kind=7;subst k7;rw[zp rfl];have hc:X.C.Code i [[36]]:=hc;obtain⟨w0,_⟩:=hc.cons;exact Sb.Be ga (.inl rfl) (by rw[<-v.rel.out];exact PW.halt v.here w0);rw[zn k7];rw[zn k7] at hd;have Pk:value.length=1:=by by_cases q1:kind=1;rw[zp q1] at Xb;simp only[Bool.not_eq_false,Rg] at Xb;exact Xb.2.2.1;rw[zn q1] at Xb;by_cases q2:kind=2;rw[zp q2] at Xb;simp only[Bool.not_eq_false,Rg] at Xb;exact Xb.2.2.1;rw[zn q2] at Xb;by_cases q3:kind=3;rw[zp q3] at Xb;simp only[Bool.not_eq_false,Rg] at Xb;exact Xb.2.2;rw[zn q3] at Xb;by_cases q4:kind=4;rw[zp q4] at Xb;simp only[Bool.not_eq_false,Rg] at Xb;exact Xb.2.2.1;rw[zn q4] at Xb;by_cases q5:kind=5;rw[zp q5] at Xb;simp only[Bool.not_eq_false,Rg] at Xb;exact Xb.2.2.1;rw[zn q5] at Xb;by_cases q6:kind=6;rw[zp q6] at Xb;simp only[Bool.not_eq_false,Rg] at Xb;exact Xb.2.2.1;rw[zn q6,zn k7] at Xb;exact absurd rfl Xb
 obtain⟨x,rfl⟩:=qyA Pk;have cH:([x]:List Ex).headD default=x:=rfl;simp only[cH] at hc hd ⊢;rw[vg] at ev;have JJ:=(Tc.1 ev).1;have WI:=nv.1;have cz:(t::rest).length+Hj (X.ib f) x<=64:=by rw[Qi] at Vo;rw[Ma];omega
 by_cases k1:kind=1;subst k1;rw[zp rfl] at hc ⊢;rw[zn ea,zn ea] at hd;simp only at hc ⊢;obtain⟨Mr,hc⟩:=hc.app;obtain⟨w0,hc⟩:=hc.cons;obtain⟨w1,_⟩:=hc.cons;have eu:du (X.ib f) name=0:=eu;obtain⟨a1,a2⟩:=hX.sc f hf name eu;rw[a1] at w0;have PS:=hX.low _ (.inl ⟨_,a2,rfl⟩);have hq:wS 1 Bb=8:=rfl;rw[hq];refine Sb.bind (c1:=0) (d1:=0) (c2:=8) (d2:=8) (hE f hf x i s1 m d (t::rest) WI JJ Mr v ga cz) ga ga ga λa s' m' va=>?_;rw[zp trivial];obtain⟨m1,t1,v1,_⟩:=va.addr w0 ga (by simp only[Ma];omega);obtain⟨m2,t2,v2⟩:=v1.VF hX a2 w1;refine(Sb.pre (s:=Yf s' (jc f name) a) (t1.trans t2) (Sb.ok (c:=0) (d:=0) (v:=none) (v2.cast ?_) (Int.le_refl 0)) ga ga).left rfl;simp only[Ga,Ma,qc];omega
 by_cases k2:kind=2;subst k2;rw[zn ea,zp rfl] at hc ⊢;rw[zp rfl] at hd;rw[zn ea,zp rfl] at Xb;simp only[Bool.not_eq_false,Rg] at Xb;obtain⟨y,rfl⟩:=qyA Xb.2.1;have hy0:([y]:List Ex).headD default=y:=rfl;simp only[hy0] at hc hd ⊢;rw[vg] at ei;have eiy:=(Tc.1 ei).1;have niy:=ni.1;have hdy:(t::rest).length+Hj (X.ib f) y<=64:=by rw[Qi,Qi,Qi,Qi] at Vo;rw[Ma];omega
 obtain⟨Mr,hc⟩:=hc.app;obtain⟨w0,hc⟩:=hc.cons;obtain⟨hcy,hc⟩:=hc.app;obtain⟨w1,hc⟩:=hc.cons;obtain⟨w2,_⟩:=hc.cons;have eu:Xz (X.ib f) name=0:=eu;obtain⟨a1,A,hA,rfl⟩:=hX.ar f hf name eu;rw[a1] at w0;have j8:X.aa A.name<1000000:=hX.rz A hA;have hq:wS 2 Bb=9:=rfl;rw[hq];refine Sb.bind (c1:=0) (d1:=0) (c2:=9) (d2:=9) (hE f hf x i s1 m d (t::rest) WI JJ Mr v ga cz) ga ga ga λa s' m' va=>?_;rw[zn ea,zp trivial];obtain⟨m1,t1,v1,_⟩:=va.addr w0 j8 (by simp only[Ma];omega);refine Sb.pre t1 (c1:=2) (d1:=2) ?_ ga ga;refine Sb.bind (c1:=0) (d1:=0) (c2:=2) (d2:=2) (hE f hf y _ s' m1 (X.aa A.name::a::d) (t::rest) niy eiy hcy v1 (by rw[Ma,Ma];omega) hdy) ga ga ga λb s2 m2 vb=>?_
 cases hg:(s2.ar A.name)[b]? with
 |none=>exact Sb.other ea
 |some r=>
  obtain⟨Ka,hr⟩:=List.getElem?_eq_some_iff.1 hg;have ae:=(vb.rel.ar A hA).1;have hb:=hX.low _ (.inr (.inr ⟨A,hA,b,by omega,rfl⟩));obtain⟨m3,t3,v3,_⟩:=vb.op (x:=X.aa A.name+b) w1 (by unfold tc;simp) (by
   show some ((X.aa A.name+b) % 4294967296)=_;rw[Nat.mod_eq_of_lt (by omega)]) (by simp only[Ma];omega)
  obtain⟨m4,t4,v4⟩:=v3.elem hX hA Ka w2;refine(Sb.pre (s:={ s2 with ar:=λy=>if y=A.name then (s2.ar A.name).set b a else s2.ar y }) (t3.trans t4) (Sb.ok (c:=0) (d:=0) (v:=none) (v4.cast ?_) (Int.le_refl 0)) ga ga).left rfl;simp only[Ga,Ma,qc];omega
 rw[zn k2] at hd;by_cases k5:kind=5;subst k5;rw[zn ea,zn ea,zn ea,zn ea,zp rfl] at hc ⊢;rw[zp rfl] at hd;simp only at hc ⊢;obtain⟨Mr,hc⟩:=hc.app;obtain⟨w0,_⟩:=hc.cons;have hq:wS 5 Bb=1:=rfl;rw[hq];refine Sb.bind (c1:=0) (d1:=0) (c2:=1) (d2:=1) (hE f hf x i s1 m d (t::rest) WI JJ Mr v ga cz) ga ga ga λa s' m' va=>?_;rw[zn ea,zn ea,zp trivial];have t1:=PW.back va.here w0 va.calls;exact Sb.pre t1 (Sb.ok (c:=0) (d:=0) (v:=some a) ⟨rfl,rfl,va.rel.same rfl rfl rfl rfl rfl rfl rfl,va.data,rfl⟩ (Int.le_refl 0)) ga ga;rw[zn k5] at hd
 by_cases k6:kind=6;subst k6;rw[zn ea,zn ea,zn ea,zn ea,zn ea,zp rfl] at hc ⊢;simp only at hc ⊢;obtain⟨Mr,hc⟩:=hc.app;obtain⟨w0,hc⟩:=hc.cons;obtain⟨w1,_⟩:=hc.cons;obtain⟨t0,_,_⟩:=hX.qy f hf;rw[t0] at w0;have hS:X.S+2<262144:=hX.low _ (.inr (.inl ⟨by omega,by omega⟩));have hq:wS 6 Bb=8:=rfl;rw[hq];refine Sb.bind (c1:=0) (d1:=0) (c2:=8) (d2:=8) (hE f hf x i s1 m d (t::rest) WI JJ Mr v ga cz) ga ga ga λa s' m' va=>?_;rw[zn ea,zn ea,zn ea,zn ea,zn ea];obtain⟨m1,t1,v1,_⟩:=va.addr w0 ga (by simp only[Ma];omega);obtain⟨m2,t2,v2,_⟩:=v1.Bz hX w1 ⟨by omega,by omega⟩;refine Sb.pre (t1.trans t2) (Sb.ok (c:=0) (d:=0) (v:=none) (v2.cast ?_) (Int.le_refl 0)) ga ga;simp only[Ga,Ma,qc];omega
 by_cases k3:kind=3
 ·subst k3;rw[zn ea,zn ea,zp rfl] at hc ⊢
  cases Bb with
  |nil=>
   simp only at hc ⊢;obtain⟨hc,wm⟩:=hc.app;obtain⟨hc,xm⟩:=hc.app;obtain⟨Mr,We⟩:=hc.app;obtain⟨wl,_⟩:=wm.cons;have hq:wS 3 ([]:List Sm)=8:=rfl;rw[hq];refine Sb.bind (c1:=0) (d1:=0) (c2:=8) (d2:=8) (hE f hf x i s1 m d (t::rest) WI JJ Mr v ga cz) ga ga ga λa s' m' va=>?_;rw[zn ea,zn ea,zn ea,zp trivial];have Cx:i+(Qb (X.cc f) x++[38::za nl,[63]]).length=i+(Qb (X.cc f) x).length+2:=by rw[Ga];try rfl
   rw[Cx] at xm;rw[Ga,<-add_assoc,Cx] at wl;obtain⟨m1,t1,v1⟩:=va.branch hX We wl ga;have mq:i+(Qb (X.cc f) x).length+2+(Pa (X.cc f) (nl+1) Ua).1.length+1=i+(Qb (X.cc f) x++[38::za nl,[63]]++(Pa (X.cc f) (nl+1) Ua).1++[za nl++[58]]).length:=by simp only[Ga,Ma,qc];omega
   refine Sb.pre t1 (c1:=0) (d1:=0) ?_ ga ga;by_cases ha:a=0;rw[zp ha] at v1;rw[zn (by simp[ha])];exact Sb.ok (v1.cast mq) ga;rw[zn ha] at v1;rw[zp ha];refine Sb.post (a:=0) (zK hS hf Ua _ (nl+1) s' m1 d t rest nt et xm v1 ga ga) ga ga λr s2 m2 h=>⟨m2,.refl _,?_⟩
   cases r with
   |some w=>exact h
   |none=>have h:X.Vw s2 _ d (t::rest) m2:=h;exact(h.pass wl (hX.wA _ _ wl)).cast mq
  |cons e Bb=>
   simp only at hc ⊢;obtain⟨hc,hc6⟩:=hc.app;obtain⟨hc,nT⟩:=hc.app;obtain⟨hc,wm⟩:=hc.app;obtain⟨hc,xm⟩:=hc.app;obtain⟨Mr,We⟩:=hc.app;obtain⟨we,_⟩:=hc6.cons;have Cx:i+(Qb (X.cc f) x++[38::za nl,[63]]).length=i+(Qb (X.cc f) x).length+2:=by rw[Ga];try rfl
   rw[Cx] at xm;rw[Ga,<-add_assoc,Cx] at wm;generalize hi3:i+(Qb (X.cc f) x).length+2=i3 at *;generalize hB:(Pa (X.cc f) (nl+2) Ua).1=tw at *;generalize hN:(Pa (X.cc f) (nl+2) Ua).2=n2 at *;have rJ:i+(Qb (X.cc f) x++[38::za nl,[63]]++tw++[[48],38::za (nl+1),[63],za nl++[58]]).length=i3+tw.length+3+1:=by rw[<-hi3];simp only[Ga,Ma,qc];omega
   rw[rJ] at nT;have qJ:i+(Qb (X.cc f) x++[38::za nl,[63]]++tw++[[48],38::za (nl+1),[63],za nl++[58]]++(Pa (X.cc f) n2 (e::Bb)).1).length=i3+tw.length+3+1+(Pa (X.cc f) n2 (e::Bb)).1.length:=by rw[Ga,<-add_assoc,rJ]
   rw[qJ] at we;have V7:X.C.Code (i3+tw.length) ([[48],38::za (nl+1),[63]]++[za nl++[58]]):=wm;obtain⟨DO,cf⟩:=V7.app;obtain⟨wl,_⟩:=cf.cons;have wl:X.C.W[i3+tw.length+3]? = some (za nl++[58]):=wl;have mq:i3+tw.length+3+1+(Pa (X.cc f) n2 (e::Bb)).1.length+1=i+(Qb (X.cc f) x++[38::za nl,[63]]++tw++[[48],38::za (nl+1),[63],za nl++[58]]++(Pa (X.cc f) n2 (e::Bb)).1++[za (nl+1)++[58]]).length:=by have:=qJ;simp only[Ga,Ma,qc] at this ⊢;omega
   rw[<-mq];have hq:wS 3 (e::Bb)=18:=rfl;rw[hq];refine Sb.bind (c1:=0) (d1:=0) (c2:=18) (d2:=18) (hE f hf x i s1 m d (t::rest) WI JJ Mr v ga cz) ga ga ga λa s' m' va=>?_;rw[zn ea,zn ea,zn ea,zp trivial];obtain⟨m1,t1,v1⟩:=va.branch hX We wl ga;refine Sb.pre t1 (c1:=10) (d1:=10) ?_ ga ga
   by_cases ha:a=0;rw[zp ha] at v1;rw[zn (by simp[ha])];refine Sb.post (a:=0) (zK hS hf (e::Bb) _ n2 s' m1 d t rest ne ee nT v1 ga ga) ga ga λr s2 m2 h=>⟨m2,.refl _,?_⟩
   cases r with
   |some w=>exact h
   |none=>have h:X.Vw s2 _ d (t::rest) m2:=h;exact h.pass we (hX.wA _ _ we)
   rw[zn ha] at v1;rw[zp ha];have hb:=zK hS hf Ua i3 (nl+2) s' m1 d t rest nt et (by rw[hB];exact xm) (v1.cast ga) ga ga;rw[hB] at hb;refine Sb.post (a:=10) hb ga ga λr s2 m2 h=>?_
   cases r with
   |some w=>exact⟨m2,(Nf.refl _).mono ga,h⟩
   |none=>have h:X.Vw s2 _ d (t::rest) m2:=h;exact h.goto hX DO we ga
 by_cases k4:kind=4;subst k4;rw[zn ea,zn ea,zn ea,zp rfl] at hc ⊢;simp only at hc ⊢;obtain⟨hc,nT⟩:=hc.app;obtain⟨hc,wm⟩:=hc.app;obtain⟨hc,xm⟩:=hc.app;obtain⟨ko,We⟩:=hc.app;obtain⟨w0,_⟩:=ko.cons;have e3:i+([za nl++[58]]++Qb (X.cc f) x).length=i+1+(Qb (X.cc f) x).length:=by simp only[Ga,Ma,qc];omega
 rw[e3] at xm;have e4:i+([za nl++[58]]++Qb (X.cc f) x++[38::za (nl+1),[63]]).length=i+1+(Qb (X.cc f) x).length+2:=by simp only[Ga,Ma,qc];omega
 rw[e4] at wm;have e5:i+([za nl++[58]]++Qb (X.cc f) x++[38::za (nl+1),[63]]++(Pa (X.cc f) (nl+2) Ua).1).length=i+1+(Qb (X.cc f) x).length+2+(Pa (X.cc f) (nl+2) Ua).1.length:=by have:=e4;simp only[Ga,Ma,qc] at this ⊢;omega
 rw[e5] at nT;have U7:X.C.Code (i+1+(Qb (X.cc f) x).length+2+(Pa (X.cc f) (nl+2) Ua).1.length) ([[48],38::za nl,[63]]++[za (nl+1)++[58]]):=nT;obtain⟨DO,cf⟩:=U7.app;obtain⟨we,_⟩:=cf.cons;have v1:=v.pass w0 (hX.wA _ _ w0);have hq:wS 4 Bb=8:=rfl;rw[hq];refine Sb.bind (c1:=0) (d1:=0) (c2:=8) (d2:=8) (hE f hf x (i+1) s1 m d (t::rest) WI JJ We v1 ga cz) ga ga ga λa s' m' va=>?_;rw[zn ea,zn ea,zn ea,zn ea,zp trivial];rw[Ma] at cz;have:=Y' hX hE hS hf WI JJ nt et w0 We xm wm DO we ga ga ga ga ga n a s' m' va
 have e6:i+1+(Qb (X.cc f) x).length+2+(Pa (X.cc f) (nl+2) Ua).1.length+3+1=i+([za nl++[58]]++Qb (X.cc f) x++[38::za (nl+1),[63]]++(Pa (X.cc f) (nl+2) Ua).1++[[48],38::za nl,[63],za (nl+1)++[58]]).length:=by have:=e5;simp only[Ga,Ma,qc] at this ⊢;omega
 rw[<-e6];exact this;rw[zn k1,zn k2,zn k3,zn k4,zn k5,zn k6,zn k7] at Xb;exact absurd rfl Xb
theorem qx3(hX:oe X):∀ n,ZA X n/\VA X n
 |0=>⟨λf hf e i s m d c hn he hc v hd Vo=>Sb.Ca v.rel.out,λf hf st i nl s m d t rest hn he hc v hd Vo=>Sb.Ca v.rel.out⟩
 |n+1=>by obtain⟨h1,h2⟩:=qx3 hX n;exact⟨qzM hX h1 (qzC hX h2),qzf hX h1 h2⟩
end
def AM:IR (Option Nat)->Int×IS
 |.ok _ s=>(0,s)
 |.stop e s=>(e,s)
def Ue(P:Pr)(Ba:Nat)(Ia:List Nat)(Ca:Nat):Int×IS:=AM (Cg (Sg P Ba (Tg P)) (Tg P).body (rr P Ia Ca))
section
variable{X:Uf}
theorem qBE(hX:oe X)(hW:X.C.Code 0 [[38,102,95,109,97,105,110],[58],decDigits X.S,[33],[36]])(hm:Tg X.P∈X.P.funcs)(Jr:(Tg X.P).name=[109,97,105,110])(BA:(Tg X.P).params=[])
  (Vg:Xl (X.ib (Tg X.P)) (Tg X.P).body<=256) (Vo:Mj (X.ib (Tg X.P)) (Tg X.P).body<=63) (Ia:List Nat) (Ba Ca:Nat) (he:(Ue X.P Ba Ia Ca).1=0∨(Ue X.P Ba Ia Ca).1=12) :
  ∃ k m',k<=Ca+100/\Uh X.C k (WU X.C Ia) m'/\Za X.C m'=.stop (Ue X.P Ba Ia Ca).1.toNat (Ue X.P Ba Ia Ca).2.out:=by
 have M6:=qtf hX Ia Ca;generalize ED:WU X.C Ia=m0 at *;have v0:X.Vw (rr X.P Ia Ca) 0 [] [] m0:=by subst ED;exact⟨PW.Gh rfl,M6,rfl,rfl⟩
 have DS:Sb X.C (λ(_:Option Nat) s' m'=>∃ m2,Uh X.C 0 m' m2/\Za X.C m2=.stop 0 s'.out) 100 100 m0 (rr X.P Ia Ca) (Cg (Sg X.P Ba (Tg X.P)) (Tg X.P).body (rr X.P Ia Ca)):=by
  generalize Tg X.P=k at *;obtain⟨nl,Ef⟩:=hX.code k hm;obtain⟨b1,b2⟩:=hX.body k hm;have wJ:=hX.Gj k hm;have Vm:=hX.KA k hm;unfold Sk at Ef;simp only at Ef;rw[BA] at Ef;simp only[List.reverse_nil,List.flatMap_nil,ue] at Ef;obtain⟨Ef,wm⟩:=Ef.app;obtain⟨ko,xm⟩:=Ef.app;obtain⟨wd,_⟩:=ko.cons;obtain⟨w0,hW⟩:=hW.cons;obtain⟨w1,hW⟩:=hW.cons;obtain⟨w2,hW⟩:=hW.cons;obtain⟨w3,hW⟩:=hW.cons;obtain⟨w4,_⟩:=hW.cons;rw[Jr] at Vm wJ wd;have t2:=PW.call v0.here w0 w1 Vm (hX.label _ _ _ wd wJ) (by rw[v0.data];decide) (by rw[v0.calls];decide);have v3:X.Vw (rr X.P Ia Ca) (X.fst k+1) [] [X.C.zd (0+1+1)] { m0 with pc:=X.C.zd (X.fst k+1),calls:=X.C.zd (0+1+1)::m0.calls,digit:=false }:=
   ⟨PW.Gh rfl,v0.rel.same rfl rfl rfl rfl rfl rfl rfl,v0.data,by simp only;rw[v0.calls]⟩
  have hb:=zK (qx3 hX Ba).2 hm k.body (X.fst k+1) nl _ _ [] (X.C.zd (0+1+1)) [] b2 b1 xm v3 (by simpa using Vg) (by simp only[qc];omega);have hS:X.S+2<262144:=hX.low _ (.inr (.inl ⟨by omega,by omega⟩));have Yy:∀ s' a m',X.Vw s' (0+1+1) [a] [] m'->∃ m2,Nf X.C 10 m' m2/\∃ m3,Uh X.C 0 m2 m3/\Za X.C m3=.stop 0 s'.out:=by intro s' a m' v5;obtain⟨m6,t6,v6,_⟩:=v5.addr w2 ga (by simp);obtain⟨m7,t7,v7,_⟩:=v6.Bz hX w3 ⟨by omega,by omega⟩;exact⟨m7,(t6.trans t7).mono ea,by rw[<-v7.rel.out];exact PW.halt v7.here w4⟩
  refine Sb.pre t2 (c1:=50) (d1:=50) ?_ ga ga;refine Sb.post (a:=20) hb ga ga λr s' m' h=>?_
  cases r with
  |some a=>obtain⟨g1,g2,g3,g4,g5⟩:=h;obtain⟨m2,t5,h5⟩:=Yy s' a m' ⟨PW.Gh g1,g3,g4,g5⟩;exact⟨m2,t5.mono ea,h5⟩
  |none=>
   have h:X.Vw s' _ [] [X.C.zd (0+1+1)] m':=h;obtain⟨q2,wm⟩:=wm.cons;obtain⟨q3,_⟩:=wm.cons;rw[Ga,<-add_assoc] at q2 q3;obtain⟨m6,t6,v6,_⟩:=h.Px (n:=0) q2 ea rfl ea;have t7:=PW.back v6.here q3 v6.calls;have v7:X.Vw s' (0+1+1) [0] [] { m6 with pc:=X.C.zd (0+1+1),calls:=[],digit:=false }:=
    ⟨PW.Gh rfl,v6.rel.same rfl rfl rfl rfl rfl rfl rfl,v6.data,rfl⟩
   obtain⟨m8,t8,h8⟩:=Yy s' 0 _ v7;exact⟨m8,(t6.trans (t7.trans t8)).mono ea,h8⟩
 unfold Ue at he ⊢;revert DS he;cases Cg (Sg X.P Ba (Tg X.P)) (Tg X.P).body (rr X.P Ia Ca) with
 |ok v s'=>rintro he ⟨h1,k,m',h2,h3,m2,h4,h5⟩;have hl:(rr X.P Ia Ca).left=Ca:=rfl;rw[hl] at h1 h2;exact⟨k+0,m2,by omega,h3.trans h4,h5⟩
 |stop e s'=>rintro he ⟨h1,h2⟩;have hl:(rr X.P Ia Ca).left=Ca:=rfl;rw[hl] at h1;obtain⟨k,m',k1,k2,k3⟩:=h1 he;exact⟨k,m',by omega,k2,k3⟩
end
theorem eU{P:Pr}{o:il}{t:Wd}(lc:∀ f∈P.funcs,Bj f.body)(h:Uk P.vars (vf P) P.funcs o=.ok t)(Ia:List Nat)(Ba Ca:Nat)(he:(Ue P Ba Ia Ca).1=0∨(Ue P Ba Ia Ca).1=12) :
  ∃ k m',k<=Ca+100/\Uh ⟨fh P o,QM o.code.toNat⟩ k (WU ⟨fh P o,QM o.code.toNat⟩ Ia) m'/\Za ⟨fh P o,QM o.code.toNat⟩ m'=.stop (Ue P Ba Ia Ca).1.toNat (Ue P Ba Ia Ca).2.out:=by
 obtain⟨hc,Ge,_,_,Rk,hX,ma⟩:=sQ lc h;have hv:=BI hc;have hF:=NE Ge;have ed:(P.funcs.map (·.name)).Nodup:=(On (Nw _ _ hv.names).1).2.1;have Bh:(Jb (fh P o)).Nodup:=by have h1:=(sQ lc h).2.2.2.1;have h2:=(qm0 Rk).2.1;have h3:=(sQ lc h).2.2.1;rw[h1] at h2;exact h2
 have hW:Go.ia.PW.Code (bj P o).C 0 [[38,102,95,109,97,105,110],[58],decDigits (bj P o).S,[33],[36]]:=by have h1:Go.ia.PW.Code (bj P o).C 0 ([[38,102,95,109,97,105,110],[58],itoa o.scalars,[33],[36]]++(Rc (Rq P.vars (vf P) P.funcs o) 0 P.funcs).1):=qpW _ _ _;rw[Iw hF.s0] at h1;exact h1.app.1
 have Vg:Xl ((bj P o).ib (Tg P)) (Tg P).body<=200/\Mj ((bj P o).ib (Tg P)) (Tg P).body<=60:=by
  unfold Lq Ws at hc;have e1:(P.ba.map λa=>(a.name,(a.size:Int))).map (·.1)=P.ba.map (·.name):=by rw[List.map_map];try rfl
  rw[e1,qow _ _ ed,List.nil_append] at hc;have hm:=(Tc.1 (Tc.1 (Tc.1 hc).2).2).2;unfold cQ at hm;rw[List.getLast?_map] at hm;have o7:Tg P=(P.funcs.getLast?).getD ⟨[],[],[],[]⟩:=rfl;cases hl:P.funcs.getLast? with
  |none=>rw[hl] at hm;cases hm
  |some f=>rw[hl] at hm o7;simp only[Option.map_some,getD_some] at hm o7;rw[o7];split at hm;split at hm;rename_i hq;have hs:=W0 (vars:=P.vars) (ba:=P.ba.map (·.name)) (later:=P.funcs.map (·.name)) (bw P.vars (P.ba.map (·.name)) (P.funcs.map (·.name)) [] P.funcs f) f;exact⟨Xf hs.1 hq.2.1,Xf hs.2 hq.2.2⟩;cases hm;cases hm
 exact qBE (X:=qBu (bj P o) (QM o.code.toNat)) (qv8 hX (qxb hc Ge) Bh) hW hv.main.1 hv.main.2.1 hv.main.2.2 (Xf Vg.1 ea) (Xf Vg.2 ea) Ia Ba Ca he
section
variable{P:Pr}{o:il}{t:Wd}
theorem y4(lc:∀ f∈P.funcs,Bj f.body)(h:Uk P.vars (vf P) P.funcs o=.ok t){Ia:List Nat}(hi:∀ v∈Ia,v<4294967296)(Ba Ca:Nat)(he:(Ue P Ba Ia Ca).1=0∨(Ue P Ba Ia Ca).1=12) :
  ∃ x ub y YI K K',Th t o.code=.ok (x,ub)/\Th (join (Fi (vk t)) [32]) o.code=.ok (y,YI)/\x.length<=40000/\y.length<=x.length/\K<=Ca+101/\K'<=K /\
   ∀ N,K<=N->runM N (Ew x o.code.toNat Ia)=((Ue P Ba Ia Ca).1.toNat,(Ue P Ba Ia Ca).2.out,K)/\runM N (Ew y o.code.toNat Ia)=((Ue P Ba Ia Ca).1.toNat,(Ue P Ba Ia Ca).2.out,K'):=by
 obtain⟨hc,Ge,ht,hw,Rk,hX,ma⟩:=sQ lc h;have hF:=NE Ge;have cf:∀ w∈fh P o,Gk w:=J1 hc Ge;obtain⟨hA,hl⟩:=qtM Rk;rw[hw] at hA;rw[hw];have hty:=qBM hc Ge lc hA hX;obtain⟨k,m',k1,k2,k3⟩:=eU lc h Ia Ba Ca he;have h99:(Ue P Ba Ia Ca).1.toNat≠99:=by rcases he with e|e <;> rw[e] <;> decide
 obtain⟨n,hE⟩:=qxN k2 k3 h99;have ES:o.code.toNat+40000<=262144:=hF.c1;have hE:Ends ⟨fh P o,QM o.code.toNat⟩ n ⟨λ_=>0,fh P o,[],[],Ia,[],false⟩ (Ue P Ba Ia Ca).1.toNat (Ue P Ba Ia Ca).2.out (k+1):=hE;obtain⟨n',K',Mt,hK⟩:=qvS hi hA hE;obtain⟨PX,Um⟩:=qzj hA;have Jx:=qvk cf;have htx:=P1 (bI P o) (fh P o) λw hw=>(cf w hw).1;have hl:(Vl (bI P o) (fh P o)).length<=40000:=hl;obtain⟨b1,b2⟩:=G' PX Jx (og:=o.code) hF.c0 ga ga;refine⟨_,_,_,_,k+1,K',Rk,b1,hl,by rw[b2,htx];exact Um,by omega,hK,λN hN=>⟨?_,?_⟩⟩;exact qlx hA (λw hw=>(cf w hw).1) hty rfl hl ES hE N hN;exact qlx PX (λw hw=>(Jx w hw).1) (qBn hty) rfl (by rw[b2];omega) ES Mt N ga
end
end Go.ia.Wi.Wc
namespace Go.Proofs.Y
open Go.GL
noncomputable abbrev Gm:=Tryz.prog
abbrev Ya:=Wb Gm
abbrev re:=Fl Gm
abbrev Wk:=Kv Gm
abbrev Vk:=Mi Gm
abbrev zS:=lr Gm
abbrev xq:=Fm Gm
abbrev pu:=Qa Gm
abbrev mw:=ep Gm
abbrev dC:=ui Gm
instance:Yt Gm:=⟨zk⟩
instance:Wk 3 1:=.of zk
instance:zS 3:=.of zk
instance:uj Gm 3 .i64:=.of zk
instance:Vk 3 [.int .i64 0]:=.of (v:=.int .i64 0) (n:=1) zk rfl rfl
instance:dC 3 1 8:=.of zk
instance:Wk 4 1:=.of zk
instance:zS 4:=.of zk
instance:Wk 5 1:=.of zk
instance:zS 5:=.of zk
instance:uj Gm 5 .u8:=.of zk
instance:Vk 5 [.int .u8 0]:=.of (v:=.int .u8 0) (n:=1) zk rfl rfl
instance:dC 5 1 1:=.of zk
instance:Wk 9 1:=.of zk
instance:zS 9:=.of zk
instance:cp Gm 9:=.of zk
instance:Vk 9 [.string ⟨#[]⟩]:=.of (v:=.string ⟨#[]⟩) (n:=1) zk rfl rfl
instance:dC 9 1 16:=.of zk
instance:pu 22 28 2:=.of zk
instance:Wk 24 1:=.of zk
instance:zS 24:=.of zk
instance:uj Gm 24 .u32:=.of zk
instance:Vk 24 [.int .u32 0]:=.of (v:=.int .u32 0) (n:=1) zk rfl rfl
instance:dC 24 1 4:=.of zk
instance:Wk 25 1:=.of zk
instance:zS 25:=.of zk
instance:pu 25 24 1:=.of zk
instance:Wk 28 2:=.of zk
instance:mw 28 2:=.of zk
instance:re 28 0 0:=.of zk
instance:re 28 1 1:=.of zk
instance:Vk 28 [.int .i64 0,.string ⟨#[]⟩]:=.of (v:=.agg #[.int .i64 0,.string ⟨#[]⟩]) (n:=2) zk rfl rfl
instance:Wk 30 1:=.of zk
instance:zS 30:=.of zk
instance:Vk 30 [.int .i64 0]:=.of (v:=.int .i64 0) (n:=1) zk rfl rfl
instance:Wk 34 3:=.of zk
instance:mw 34 3:=.of zk
instance:re 34 0 0:=.of zk
instance:re 34 1 1:=.of zk
instance:xq 34 [(0,1),(1,1),(2,1)]:=.of zk
instance:Vk 34 [.string ⟨#[]⟩,.int .i64 0,.int .i64 0]:=.of (v:=.agg #[.string ⟨#[]⟩,.int .i64 0,.int .i64 0]) (n:=3) zk rfl rfl
instance:Wk 39 1:=.of zk
instance:zS 39:=.of zk
instance:pu 39 5 1:=.of zk
instance:Wk 42 1:=.of zk
instance:zS 42:=.of zk
instance:pu 42 9 1:=.of zk
instance:Vk 42 [.slice none 0 0]:=.of (v:=.slice none 0 0) (n:=1) zk rfl rfl
instance:Wk 48 3:=.of zk
instance:mw 48 3:=.of zk
instance:re 48 0 0:=.of zk
instance:re 48 1 1:=.of zk
instance:re 48 2 2:=.of zk
instance:xq 48 [(0,1),(1,1),(2,1)]:=.of zk
instance:Vk 48 [.int .i64 0,.int .i64 0,.int .i64 0]:=.of (v:=.agg #[.int .i64 0,.int .i64 0,.int .i64 0]) (n:=3) zk rfl rfl
instance:Wk 52 2:=.of zk
instance:mw 52 2:=.of zk
instance:re 52 0 0:=.of zk
instance:re 52 1 1:=.of zk
instance:xq 52 [(0,1),(1,1)]:=.of zk
instance:Vk 52 [.int .i64 0,.string ⟨#[]⟩]:=.of (v:=.agg #[.int .i64 0,.string ⟨#[]⟩]) (n:=2) zk rfl rfl
instance:pu 53 52 2:=.of zk
instance:pu 54 3 1:=.of zk
instance:Wk 68 1:=.of zk
instance:zS 68:=.of zk
instance:pu 68 163 2:=.of zk
instance:Wk 69 1:=.of zk
instance:zS 69:=.of zk
instance:pu 69 167 4:=.of zk
instance:Wk 71 3:=.of zk
instance:mw 71 3:=.of zk
instance:re 71 0 0:=.of zk
instance:re 71 1 1:=.of zk
instance:re 71 2 2:=.of zk
instance:xq 71 [(0,1),(1,1),(2,1)]:=.of zk
instance:Vk 71 [.slice none 0 0,.slice none 0 0,.slice none 0 0]:=.of (v:=.agg #[.slice none 0 0,.slice none 0 0,.slice none 0 0]) (n:=3) zk rfl rfl
instance:pu 77 131 2:=.of zk
instance:zS 81:=.of zk
instance:re 84 0 0:=.of zk
instance:re 84 1 1:=.of zk
instance:re 84 2 2:=.of zk
instance:re 84 3 3:=.of zk
instance:re 84 4 4:=.of zk
instance:re 84 5 5:=.of zk
instance:re 84 6 6:=.of zk
instance:re 84 7 7:=.of zk
instance:re 84 8 8:=.of zk
instance:re 84 9 9:=.of zk
instance:xq 84 [(0,1),(1,1),(2,1),(3,1),(4,1),(5,1),(6,1),(7,1),(8,1),(9,1)]:=.of zk
instance:Vk 84 [.slice none 0 0,.int .u32 0,.slice none 0 0,.slice none 0 0,.slice none 0 0,.slice none 0 0,.bool false,.int .i64 0,.bool false,.map none]:=.of (v:=.agg #[.slice none 0 0,.int .u32 0,.slice none 0 0,.slice none 0 0,.slice none 0 0,.slice none 0 0,.bool false,.int .i64 0,.bool false,.map none]) (n:=10) zk rfl rfl
instance:re 97 1 1:=.of zk
instance:Vk 97 [.pointer none,.slice none 0 0]:=.of (v:=.agg #[.pointer none,.slice none 0 0]) (n:=2) zk rfl rfl
instance:zS 102:=.of zk
instance:zS 103:=.of zk
instance:pu 103 156 3:=.of zk
instance:Wk 107 2:=.of zk
instance:ef Gm 107:=.of zk
instance:re 107 0 0:=.of zk
instance:re 107 1 1:=.of zk
instance:xq 107 [(0,1),(1,1)]:=.of zk
instance:Vk 107 [.int .i64 0,.int .i64 0]:=.of (v:=.agg #[.int .i64 0,.int .i64 0]) (n:=2) zk rfl rfl
instance:zS 109:=.of zk
instance:re 111 0 0:=.of zk
instance:re 111 1 1:=.of zk
instance:re 111 2 2:=.of zk
instance:xq 111 [(0,1),(1,1),(2,1)]:=.of zk
instance:Vk 111 [.slice none 0 0,.int .i64 0,.int .i64 0]:=.of (v:=.agg #[.slice none 0 0,.int .i64 0,.int .i64 0]) (n:=3) zk rfl rfl
instance:Wk 114 2:=.of zk
instance:ef Gm 114:=.of zk
instance:re 114 0 0:=.of zk
instance:re 114 1 1:=.of zk
instance:xq 114 [(0,1),(1,1)]:=.of zk
instance:Vk 114 [.string ⟨#[]⟩,.int .i64 0]:=.of (v:=.agg #[.string ⟨#[]⟩,.int .i64 0]) (n:=2) zk rfl rfl
instance:Wk 117 1:=.of zk
instance:zS 117:=.of zk
instance:zS 118:=.of zk
instance:re 120 0 0:=.of zk
instance:re 120 1 1:=.of zk
instance:re 120 2 2:=.of zk
instance:re 120 3 3:=.of zk
instance:re 120 4 4:=.of zk
instance:re 120 5 5:=.of zk
instance:re 120 6 6:=.of zk
instance:xq 120 [(0,1),(1,1),(2,1),(3,1),(4,1),(5,1),(6,1)]:=.of zk
instance:Vk 120 [.map none,.map none,.map none,.map none,.string ⟨#[]⟩,.map none,.int .i64 0]:=.of (v:=.agg #[.map none,.map none,.map none,.map none,.string ⟨#[]⟩,.map none,.int .i64 0]) (n:=7) zk rfl rfl
instance:zS 123:=.of zk
instance:zS 124:=.of zk
instance:re 126 0 0:=.of zk
instance:re 126 1 1:=.of zk
instance:re 126 2 2:=.of zk
instance:re 126 3 3:=.of zk
instance:re 126 4 4:=.of zk
instance:re 126 5 5:=.of zk
instance:xq 126 [(0,1),(1,1),(2,1),(3,1),(4,1),(5,1)]:=.of zk
instance:Vk 126 [.slice none 0 0,.int .i64 0,.int .i64 0,.map none,.map none,.string ⟨#[]⟩]:=.of (v:=.agg #[.slice none 0 0,.int .i64 0,.int .i64 0,.map none,.map none,.string ⟨#[]⟩]) (n:=6) zk rfl rfl
instance:Wk 131 2:=.of zk
instance:mw 131 2:=.of zk
instance:re 131 0 0:=.of zk
instance:re 131 1 1:=.of zk
instance:xq 131 [(0,1),(1,1)]:=.of zk
instance:Vk 131 [.string ⟨#[]⟩,.int .i64 0]:=.of (v:=.agg #[.string ⟨#[]⟩,.int .i64 0]) (n:=2) zk rfl rfl
instance:dC 131 2 24:=.of zk
instance:pu 135 186 2:=.of zk
instance:Wk 144 0:=.of zk
instance:ef Gm 144:=.of zk
instance:xq 144 []:=.of zk
instance:Vk 144 []:=.of (v:=.agg #[]) (n:=0) zk rfl rfl
instance:pu 147 151 2:=.of zk
instance:mw 151 2:=.of zk
instance:re 151 0 0:=.of zk
instance:re 151 1 1:=.of zk
instance:xq 151 [(0,1),(1,1)]:=.of zk
instance:Vk 151 [.string ⟨#[]⟩,.nilFunc]:=.of (v:=.agg #[.string ⟨#[]⟩,.nilFunc]) (n:=2) zk rfl rfl
instance:Wk 156 3:=.of zk
instance:mw 156 3:=.of zk
instance:re 156 0 0:=.of zk
instance:re 156 1 1:=.of zk
instance:re 156 2 2:=.of zk
instance:xq 156 [(0,1),(1,1),(2,1)]:=.of zk
instance:Vk 156 [.int .i64 0,.string ⟨#[]⟩,.int .i64 0]:=.of (v:=.agg #[.int .i64 0,.string ⟨#[]⟩,.int .i64 0]) (n:=3) zk rfl rfl
instance:dC 156 3 32:=.of zk
instance:Wk 163 2:=.of zk
instance:mw 163 2:=.of zk
instance:re 163 0 0:=.of zk
instance:re 163 1 1:=.of zk
instance:xq 163 [(0,1),(1,1)]:=.of zk
instance:Vk 163 [.string ⟨#[]⟩,.int .i64 0]:=.of (v:=.agg #[.string ⟨#[]⟩,.int .i64 0]) (n:=2) zk rfl rfl
instance:dC 163 2 24:=.of zk
instance:Wk 165 1:=.of zk
instance:zS 165:=.of zk
instance:pu 165 216 6:=.of zk
instance:Wk 167 4:=.of zk
instance:mw 167 4:=.of zk
instance:re 167 0 0:=.of zk
instance:re 167 1 1:=.of zk
instance:re 167 2 2:=.of zk
instance:re 167 3 3:=.of zk
instance:xq 167 [(0,1),(1,1),(2,1),(3,1)]:=.of zk
instance:Vk 167 [.string ⟨#[]⟩,.slice none 0 0,.slice none 0 0,.slice none 0 0]:=.of (v:=.agg #[.string ⟨#[]⟩,.slice none 0 0,.slice none 0 0,.slice none 0 0]) (n:=4) zk rfl rfl
instance:dC 167 4 88:=.of zk
instance:Wk 174 3:=.of zk
instance:re 174 0 0:=.of zk
instance:re 174 1 1:=.of zk
instance:re 174 2 2:=.of zk
instance:xq 174 [(0,1),(1,1),(2,1)]:=.of zk
instance:Vk 174 [.int .i64 0,.int .i64 0,.int .i64 0]:=.of (v:=.agg #[.int .i64 0,.int .i64 0,.int .i64 0]) (n:=3) zk rfl rfl
instance:Wk 176 2:=.of zk
instance:mw 176 2:=.of zk
instance:re 176 0 0:=.of zk
instance:re 176 1 1:=.of zk
instance:xq 176 [(0,1),(1,1)]:=.of zk
instance:Vk 176 [.int .i64 0,.int .i64 0]:=.of (v:=.agg #[.int .i64 0,.int .i64 0]) (n:=2) zk rfl rfl
instance:pu 177 176 2:=.of zk
instance:Wk 186 2:=.of zk
instance:mw 186 2:=.of zk
instance:re 186 0 0:=.of zk
instance:re 186 1 1:=.of zk
instance:xq 186 [(0,1),(1,1)]:=.of zk
instance:Vk 186 [.string ⟨#[]⟩,.int .i64 0]:=.of (v:=.agg #[.string ⟨#[]⟩,.int .i64 0]) (n:=2) zk rfl rfl
instance:dC 186 2 24:=.of zk
instance:pu 189 190 1:=.of zk
instance:zS 190:=.of zk
instance:Vk 190 [.nilFunc]:=.of (v:=.nilFunc) (n:=1) zk rfl rfl
instance:mw 193 2:=.of zk
instance:re 193 0 0:=.of zk
instance:re 193 1 1:=.of zk
instance:xq 193 [(0,1),(1,1)]:=.of zk
instance:Vk 193 [.slice none 0 0,.map none]:=.of (v:=.agg #[.slice none 0 0,.map none]) (n:=2) zk rfl rfl
instance:zS 211:=.of zk
instance:pu 211 42 1:=.of zk
instance:Wk 214 1:=.of zk
instance:zS 214:=.of zk
instance:pu 214 219 4:=.of zk
instance:Wk 216 6:=.of zk
instance:mw 216 6:=.of zk
instance:re 216 0 0:=.of zk
instance:re 216 1 1:=.of zk
instance:re 216 2 2:=.of zk
instance:re 216 3 3:=.of zk
instance:re 216 4 4:=.of zk
instance:re 216 5 5:=.of zk
instance:xq 216 [(0,1),(1,1),(2,1),(3,1),(4,1),(5,1)]:=.of zk
instance:Vk 216 [.int .i64 0,.string ⟨#[]⟩,.slice none 0 0,.slice none 0 0,.slice none 0 0,.slice none 0 0]:=.of (v:=.agg #[.int .i64 0,.string ⟨#[]⟩,.slice none 0 0,.slice none 0 0,.slice none 0 0,.slice none 0 0]) (n:=6) zk rfl rfl
instance:dC 216 6 120:=.of zk
instance:Wk 219 4:=.of zk
instance:mw 219 4:=.of zk
instance:re 219 0 0:=.of zk
instance:re 219 1 1:=.of zk
instance:re 219 2 2:=.of zk
instance:re 219 3 3:=.of zk
instance:xq 219 [(0,1),(1,1),(2,1),(3,1)]:=.of zk
instance:Vk 219 [.string ⟨#[]⟩,.int .u32 0,.string ⟨#[]⟩,.slice none 0 0]:=.of (v:=.agg #[.string ⟨#[]⟩,.int .u32 0,.string ⟨#[]⟩,.slice none 0 0]) (n:=4) zk rfl rfl
instance:dC 219 4 64:=.of zk
instance:uj Gm 229 .u64:=.of zk
instance:Wk 250 1:=.of zk
instance:zS 250:=.of zk
instance:Vk 250 [.nilFunc]:=.of (v:=.nilFunc) (n:=1) zk rfl rfl
instance:Ya 5:=.of zk
instance:Ya 6:=.of zk
instance:Ya 7:=.of zk
instance:Ya 8:=.of zk
instance:Ya 10:=.of zk
instance:Ya 11:=.of zk
instance:Ya 12:=.of zk
instance:Ya 13:=.of zk
instance:Ya 14:=.of zk
instance:Ya 15:=.of zk
instance:Ya 23:=.of zk
instance:Ya 24:=.of zk
instance:Ya 25:=.of zk
instance:Ya 26:=.of zk
instance:Ya 27:=.of zk
instance:Ya 28:=.of zk
instance:Ya 29:=.of zk
instance:Ya 30:=.of zk
instance:Ya 31:=.of zk
instance:Ya 32:=.of zk
instance:Ya 40:=.of zk
instance:Ya 41:=.of zk
instance:Ya 42:=.of zk
instance:Ya 43:=.of zk
instance:Ya 44:=.of zk
instance:Ya 45:=.of zk
instance:Ya 46:=.of zk
instance:Ya 47:=.of zk
instance:Ya 48:=.of zk
instance:Ya 49:=.of zk
instance:Ya 50:=.of zk
instance:Ya 51:=.of zk
instance:Ya 52:=.of zk
instance:Ya 53:=.of zk
instance:Ya 54:=.of zk
instance:Ya 55:=.of zk
instance:Ya 56:=.of zk
instance:Ya 57:=.of zk
instance:Ya 58:=.of zk
instance:Ya 59:=.of zk
instance:Ya 60:=.of zk
instance:Ya 61:=.of zk
instance:Ya 62:=.of zk
instance:Ya 63:=.of zk
instance:Ya 64:=.of zk
instance:Ya 65:=.of zk
instance:Ya 66:=.of zk
instance:Ya 67:=.of zk
instance:Ya 68:=.of zk
instance:Ya 70:=.of zk
instance:Ya 71:=.of zk
instance:Ya 72:=.of zk
instance:Ya 73:=.of zk
instance:Ya 74:=.of zk
instance:Ya 75:=.of zk
instance:Ya 76:=.of zk
instance:Ya 77:=.of zk
instance:Ya 78:=.of zk
instance:Ya 79:=.of zk
instance:Ya 80:=.of zk
instance:Ya 81:=.of zk
instance:Ya 82:=.of zk
instance:Ya 83:=.of zk
instance:Ya 84:=.of zk
instance:Ya 85:=.of zk
instance:Ya 86:=.of zk
instance:Ya 87:=.of zk
instance:Ya 88:=.of zk
instance:Ya 89:=.of zk
instance:Ya 90:=.of zk
instance:Ya 91:=.of zk
instance:Ya 92:=.of zk
instance:Ya 93:=.of zk
instance:Ya 95:=.of zk
instance:Ya 96:=.of zk
instance:Ya 97:=.of zk
instance:Ya 98:=.of zk
instance:Ya 99:=.of zk
instance:Ya 100:=.of zk
instance:Ya 101:=.of zk
instance:Ya 102:=.of zk
instance:Ya 103:=.of zk
instance:Ya 104:=.of zk
instance:Ya 105:=.of zk
instance:Ya 106:=.of zk
instance:Ya 107:=.of zk
instance:Ya 108:=.of zk
instance:Ya 109:=.of zk
instance:Ya 110:=.of zk
instance:Ya 111:=.of zk
instance:Ya 112:=.of zk
instance:Ya 113:=.of zk
instance:Ya 114:=.of zk
instance:Ya 115:=.of zk
instance:Ya 116:=.of zk
instance:Ya 117:=.of zk
instance:Ya 118:=.of zk
instance:Ya 119:=.of zk
instance:Ya 120:=.of zk
instance:Ya 121:=.of zk
instance:Ya 122:=.of zk
instance:Ya 123:=.of zk
instance:Ya 124:=.of zk
instance:Ya 125:=.of zk
instance:Ya 126:=.of zk
instance:Ya 127:=.of zk
instance:Ya 128:=.of zk
instance:Ya 129:=.of zk
instance:Ya 130:=.of zk
instance:Ya 131:=.of zk
instance:Ya 133:=.of zk
instance:Ya 134:=.of zk
instance:Ya 135:=.of zk
instance:Ya 136:=.of zk
instance:Ya 137:=.of zk
instance:Ya 138:=.of zk
instance:Ya 139:=.of zk
instance:Ya 140:=.of zk
instance:Ya 141:=.of zk
instance:Ya 142:=.of zk
instance:Ya 146:=.of zk
instance:Ya 147:=.of zk
instance:Ya 148:=.of zk
instance:Ya 149:=.of zk
instance:Ya 150:=.of zk
instance:Ya 151:=.of zk
instance:Ya 152:=.of zk
instance:Ya 153:=.of zk
instance:Ya 154:=.of zk
instance:Ya 155:=.of zk
instance:Ya 156:=.of zk
instance:Ya 157:=.of zk
instance:Ya 158:=.of zk
instance:Ya 159:=.of zk
instance:Ya 160:=.of zk
instance:Ya 162:=.of zk
instance:Ya 163:=.of zk
instance:Ya 164:=.of zk
instance:Ya 165:=.of zk
instance:Ya 166:=.of zk
instance:Ya 167:=.of zk
instance:Ya 168:=.of zk
instance:Ya 169:=.of zk
instance:Ya 172:=.of zk
instance:Ya 173:=.of zk
instance:Ya 174:=.of zk
instance:Ya 175:=.of zk
instance:Ya 176:=.of zk
instance:Ya 177:=.of zk
instance:Ya 178:=.of zk
instance:Ya 179:=.of zk
instance:Ya 180:=.of zk
instance:Ya 181:=.of zk
instance:Ya 182:=.of zk
instance:Ya 183:=.of zk
instance:Ya 184:=.of zk
instance:Ya 185:=.of zk
instance:Ya 186:=.of zk
instance:Ya 187:=.of zk
instance:Ya 188:=.of zk
instance:Ya 189:=.of zk
instance:Ya 190:=.of zk
instance:Ya 191:=.of zk
instance:Ya 192:=.of zk
instance:Ya 194:=.of zk
instance:Ya 195:=.of zk
instance:Ya 196:=.of zk
instance:Ya 197:=.of zk
instance:Ya 199:=.of zk
instance:Ya 200:=.of zk
instance:Ya 201:=.of zk
instance:Ya 203:=.of zk
instance:Ya 204:=.of zk
instance:Ya 205:=.of zk
instance:Ya 208:=.of zk
instance:Ya 220:=.of zk
instance:Ya 225:=.of zk
instance:Ya 226:=.of zk
instance:Ya 227:=.of zk
instance:Ya 228:=.of zk
instance:Ya 229:=.of zk
instance:Ya 230:=.of zk
instance:Ya 231:=.of zk
instance:Ya 233:=.of zk
instance:Ya 234:=.of zk
instance:Ya 252:=.of zk
instance:Ya 253:=.of zk
instance:Ya 254:=.of zk
instance:Ya 255:=.of zk
instance:Ya 256:=.of zk
instance:Ya 257:=.of zk
instance:Ya 258:=.of zk
instance:Ya 259:=.of zk
instance:Ya 270:=.of zk
instance:Ya 271:=.of zk
instance:Ya 272:=.of zk
open Go.GL Go.RowKit Go.ia
noncomputable abbrev KC(B0:Nat)(w0:World):Ctx:=⟨Tryz.prog,B0,w0⟩
attribute [local irreducible] Ea kb ab ca Go.GL.Pure Ie pf ke
variable{B0:Nat}{w0:World}
theorem V3(c:UInt8):ca (KC B0 w0) 137 [int .u8 c.toNat] [] (Ub (bool (qe c))):=by refine jb Tryz.func137 rfl (n:=9) rfl rfl rfl ?_;refine xa ?_;refine oB 5 rfl (λht=>?_) λht=>?_;refine Ra ?_;exact qb rfl (eb rfl) (by simp[Oh,qe,ht]);refine Aa ?_;exact qb rfl (eb rfl) (by simp[Oh,qe,ht])
theorem I4(c:UInt8):ca (KC B0 w0) 139 [int .u8 c.toNat] [] (Ub (bool (Ml c))):=by refine jb Tryz.func139 rfl (n:=9) rfl rfl rfl ?_;refine xa ?_;refine oB 5 rfl (λht=>?_) λht=>?_;refine Ra ?_;exact qb rfl (eb rfl) (by simp[Oh,Ml,ht]);refine Aa ?_;exact qb rfl (eb rfl) (by simp[Oh,Ml,ht])
theorem qrM(c:UInt8):ca (KC B0 w0) 135 [int .u8 c.toNat] [] (Ub (bool (xY c))):=by refine jb Tryz.func135 rfl (n:=5) rfl rfl rfl ?_;refine xa ?_;exact qb rfl (eb rfl) rfl
theorem qr2(c:UInt8):ca (KC B0 w0) 196 [int .u8 c.toNat] [] (Ub (bool (Si c))):=by refine jb Tryz.func196 rfl (n:=13) rfl rfl rfl ?_;refine cl ?_;refine oS (sF [_] rfl (I4 c) ?_);refine Aa ?_;refine oB 5 rfl (λht=>?_) λht=>?_;refine Aa ?_;exact qb rfl (eb rfl) (by simp[Oh,Si,ht]);refine Aa ?_;refine oS (sF [_] rfl (V3 c) ?_);refine Aa ?_;refine oB 9 rfl (λhd=>?_) λhd=>?_;refine Aa ?_;exact qb rfl (eb rfl) (by simp[Oh,Si,ht,hd]);refine Aa ?_;exact qb rfl (eb rfl) (by simp[Oh,Si,ht,hd])
theorem qsk(c:UInt8):ca (KC B0 w0) 136 [int .u8 c.toNat] [] (Ub (bool (vB c))):=by refine jb Tryz.func136 rfl (n:=13) rfl rfl rfl ?_;refine wa ?_;refine oB 5 rfl (λht=>?_) λht=>?_;refine Aa ?_;exact qb rfl (eb rfl) (by simp[Oh,vB,ht]);refine Aa ?_;refine oB 9 rfl (λhd=>?_) λhd=>?_;refine Aa ?_;exact qb rfl (eb rfl) (by simp[Oh,vB,ht,hd]);refine Aa ?_;exact qb rfl (eb rfl) (by simp[Oh,vB,ht,hd])
end Go.Proofs.Y
namespace Go.Proofs.Y
open Go.GL Go.RowKit Go.ia
mutual
def Xq:Ex->List LV
 |.mk _ _ _ a=>kQ a
def kQ:List Ex->List LV
 |[]=>[]
 |e::r=>.agg [str (Li e),int .u32 (Qs e),str (Us e),.list (Xq e)]::kQ r
end
def Ab(e:Ex):LV:=.agg [str (Li e),int .u32 (Qs e),str (Us e),.list (Xq e)]
theorem qod:∀ l:List Ex,kQ l=l.map Ab
 |[]=>by simp[kQ]
 |e::r=>by rw[kQ,qod r];try rfl
theorem qj2(o:List UInt8)(n:Nat)(nm:List UInt8)(a:List Ex):Xq (.mk o n nm a)=a.map Ab:=by rw[Xq,qod]
theorem GC(o:List UInt8)(n:Nat)(nm:List UInt8)(a:List Ex):Ab (.mk o n nm a)=.agg [str o,int .u32 n,str nm,.list (a.map Ab)]:=by rw[Ab,qj2];try rfl
mutual
def tZ:Sm->List LV
 |.mk _ _ _ _ t _=>ZM t
def qZ:Sm->List LV
 |.mk _ _ _ _ _ e=>ZM e
def ZM:List Sm->List LV
 |[]=>[]
 |s::r=>.agg [int .i64 (qxW s),str (E' s),.list ((qtc s).map Ab),.list ((quJ s).map Ab),.list (tZ s),.list (qZ s)]::ZM r
end
def uc(s:Sm):LV:=.agg [int .i64 (qxW s),str (E' s),.list ((qtc s).map Ab),.list ((quJ s).map Ab),.list (tZ s),.list (qZ s)]
theorem F2:∀ l:List Sm,ZM l=l.map uc
 |[]=>by simp[ZM]
 |e::r=>by rw[ZM,F2 r];try rfl
theorem Kw(k:Int)(n:List UInt8)(i v:List Ex)(t e:List Sm):uc (.mk k n i v t e)=.agg [int .i64 k,str n,.list (i.map Ab),.list (v.map Ab),.list (t.map uc),.list (e.map uc)]:=by rw[uc,tZ,qZ,F2,F2];try rfl
def mK(a:Ar):LV:=.agg [str a.name,int .i64 a.size]
def Eg(f:yb):LV:=.agg [str f.name,.list (f.params.map str),.list (f.locals.map str),.list (f.body.map uc)]
def Cw(p:Pr):LV:=.agg [.list (p.vars.map str),.list (p.ba.map mK),.list (p.funcs.map Eg)]
end Go.Proofs.Y
namespace Go.Proofs.Y.sk
open Go.GL Go.RowKit Go.ia
def kV(es:List LV)(r:Pe)(H:Heap):Prop:=∃ v,r=.ret v/\GL.Acc 1 v es H []
theorem de{A B:Type}(g:A->B)(pre:List A)(a:A)(l:List A):((pre++a::l).map g)[((pre.length:Nat):Int).toNat]? = some (g a):=by rw[Int.toNat_natCast,List.getElem?_map,List.getElem?_append_right (Pb _),Nat.sub_self];rfl
theorem uG{H F:Heap}:HSub H (H++F):=⟨F,List.Perm.refl _⟩
theorem xZ(l:List (List UInt8)):∀ v∈l.map str,v.cells.length=1:=λv hv=>by obtain⟨a,_,rfl⟩:=Ni hv;rfl
theorem qyJ(l:List (List UInt8)):((l.map str).flatMap LV.cells).all Vs=true:=by
 induction l with
 |nil=>rfl
 |cons a l ih=>simp only[yd,List.flatMap_cons,List.all_append,ih,Bool.and_true];rfl
section
variable{C:Ctx}{n:Nat}{e:Env}{H H':Heap}{rs:List ResultVar}{vs:List LV}{es:List LV}{v:LV}
theorem rQ(hd:e.ds=[])(h:tn C n e H rs [v])(hv:GL.Acc 1 v es H' [])(hH:HSub H' H):ke C n rs (kV es) .ret e H:=rR hd h hH ⟨v,rfl,hv⟩
end
attribute [local irreducible] Ea kb ab ca Go.GL.Pure Ie pf ke LQ Rb oi Nj LS
variable{B0:Nat}{w0:World}
theorem qrU(l:List (List UInt8))(hl:l.length<=2000000):ca (KC B0 w0) 88 [.list (l.map str)] [] (kV (l.map str)):=by refine jb Tryz.func88 rfl (n:=8) rfl rfl rfl ?_;refine wa ?_;refine oS (S.pC (es:=l.map str) rfl λb hb=>?_);refine Ad ?_;refine Oa (λhc=>?_) λhc=>?_;have h0:=hb hc;refine Ak ?_;exact rQ rfl (rC (rT (v:=fc) rfl ie) rN) (by rw[h0];exact Acc.nil) ob;refine Zi ?_;refine oS (S.tA [] rfl pj rfl rfl rfl λb4=>?_);refine Aa ?_;refine oS (S.acc (es:=[]) (F:=[]) rfl Acc.row rfl (xZ l) (qyJ l) (by simp;omega) λv' H' Eb=>?_);refine Ql ?_;refine Ad ?_;exact rQ rfl (rC (rT (v:=v') rfl ie) rN) Eb ob
theorem quB(k:Nat)(hk:k<=1000000000):ca (KC B0 w0) 156 [fc,int .i64 k] [] (kV []):=by
 refine jb Tryz.func156 rfl (n:=27) rfl rfl rfl ?_;refine wa ?_;refine Oa (λhc=>?_) λ_=>?_;have:=zt hc;omega;refine wa ?_;refine qa (Pure.vC rfl)<|qa (Cc (lv:=fc) rfl)<|qa (Pure.Is rfl)<|xa ?_;refine Oa (λhc=>?_) λhc=>?_
 have h0:0<k:=by have:=zt hc;simp at this;omega
 refine Yd ?_;refine qa (Pure.vC rfl)<|qa (Pure.Ul (n:=0) rfl rfl (Pb _))<|Aa ?_;refine oS (S.AE (n:=k) rfl (qf (by simp)) h0 zo λb cap ri=>?_);refine Aa ?_;refine qa (Pure.Ul (n:=0) rfl rfl zo)<|Ea.YF 25 1 pH rfl (by simp) ?_;refine qa (pA (lv:=.app b cap 1 []) rfl)<|xa ?_;exact rQ rfl (rC (rT (v:=.app b cap 1 []) rfl ie) rN) Acc.row ob;refine wa ?_;exact rQ rfl (rC (rT (v:=fc) rfl ie) rN) Acc.nil ob
def Jq(l:List (List UInt8)):LV:=.list (l.map str)
theorem I'(L:List (List (List UInt8)))(M:Nat)(h:∀ l∈L,l.length<=M):L.flatten.length<=L.length * M:=by
 induction L with
 |nil=>simp
 |cons a L ih=>rw[List.flatten_cons,Ga,Ma,Nat.add_mul];have h1:=h a Qe;have h2:=ih λl hl=>h l (Oc _ hl);omega
theorem qj9(L:List (List (List UInt8)))(hL:L.length<=4)(hl:∀ l∈L,l.length<=2000000):ca (KC B0 w0) 89 [.list (L.map Jq)] [] (kV (L.flatten.map str)):=by
 have dr:=I' L 2000000 hl;refine jb Tryz.func89 rfl (n:=36) rfl rfl rfl ?_;refine wa ?_;refine oL (λk ls H'=>∃ pre l1,L=pre++l1/\k=l1.length/\ls=[(0,.list (L.map Jq)),(3,int .i64 (pre.flatten.length:Int)),(9,.list (L.map Jq)),(10,int .i64 ((L.map Jq).length:Int)),(11,int .i64 (pre.length:Int))]/\H'=[])
  ⟨L.length,_,_,⟨[],L,rfl,rfl,rfl,rfl⟩,Kb,bc _⟩ ?_
 rintro k ls H' ⟨pre,l1,ec,rfl,rfl,rfl⟩ j hj;have EJ:pre.flatten.length<=8000000:=by have h1:=dr;rw[ec,List.flatten_append,Ga] at h1;rw[ec] at hL;omega
 have oo:pre.length<=4:=by rw[ec,Ga] at hL;omega
 refine wh ?_;refine Oa (λhc=>?_) λhc=>?_;have ma:=zt hc;rw[Mb,ec,Ga] at ma
 obtain⟨a,l2,rfl⟩:∃ a l2,l1=a::l2:=by
  cases l1 with
  |nil=>simp at ma
  |cons a l2=>exact⟨a,l2,rfl⟩
 have ha:(a.map str).length<=2000000:=by rw[Mb];exact hl a (by rw[ec];exact mem_append_right _ Qe)
 refine Zi ?_;refine qa (xR (Ud:=Jq a) (cs:=[Jq a]) rfl rfl zo (by rw[ec];exact de Jq pre a l2) rfl rfl)<|xa ?_;refine Oa (λhd=>?_) λ_=>?_;have:=zt hd;omega;refine wa ?_;exact⟨l2.length,_,_,lt_succ_self _,⟨pre++[a],l2,by rw[ec];simp,rfl,rfl,rfl⟩,⟨rfl,qf (by simp),rfl,rfl,qf (by simp),trivial⟩,bc _,hj⟩;have ma:=zf hc;rw[Mb,ec,Ga] at ma
 obtain rfl:l1=[]:=by
  cases l1 with
  |nil=>rfl
  |cons a l2=>simp at ma;omega
 rw[ue] at ec;subst ec;refine wa ?_;have yl:L.flatten.length<=8000000:=by omega
 refine oS (S.Uc (H1:=[]) (F:=[]) [_,_] rfl dc (quB L.flatten.length zo) ?_ (by rintro ch H' ⟨v,h,_⟩;cases h));rintro v Ha ⟨_,h,Eb⟩;cases h;rw[ue];refine qa (pA (lv:=v) rfl)<|wa ?_;refine oL (λk ls H'=>∃ pre l1 v1 uF,L=pre++l1/\k=l1.length/\ls=[(6,v1),(25,.list (L.map Jq)),(26,int .i64 ((L.map Jq).length:Int)),(27,int .i64 (pre.length:Int))]/\H'=uF/\GL.Acc 1 v1 (pre.flatten.map str) uF [])
  ⟨L.length,_,_,⟨[],L,v,Ha,rfl,rfl,rfl,rfl,Eb⟩,Kb,bc _⟩ ?_
 rintro k ls H' ⟨pre,l1,v1,uF,ec,rfl,rfl,rfl,Ch⟩ j2 Gc;have EJ:pre.flatten.length<=8000000:=by have h1:=dr;rw[ec,List.flatten_append,Ga] at h1;rw[ec] at hL;omega
 have oo:pre.length<=4:=by rw[ec,Ga] at hL;omega
 refine wh ?_;refine Oa (λhc=>?_) λhc=>?_;have ma:=zt hc;rw[Mb,ec,Ga] at ma
 obtain⟨a,l2,rfl⟩:∃ a l2,l1=a::l2:=by
  cases l1 with
  |nil=>simp at ma
  |cons a l2=>exact⟨a,l2,rfl⟩
 have ha:a.length<=2000000:=hl a (by rw[ec];exact mem_append_right _ Qe);refine Zi ?_;refine qa (xR (Ud:=Jq a) (cs:=[Jq a]) rfl rfl zo (by rw[ec];exact de Jq pre a l2) rfl rfl)<|xa ?_;refine qa (Cc (lv:=v1) rfl)<|Aa ?_;refine oS (S.acc rfl Ch rfl (xZ a) (qyJ a) (by rw[Mb,Mb];omega) λv' H' Eb=>?_);refine Ql ?_;refine zm ?_
 exact⟨l2.length,_,_,lt_succ_self _,⟨pre++[a],l2,v',H',by rw[ec];simp,rfl,rfl,rfl,by
  have e:((pre++[a]).flatten.map str)=pre.flatten.map str++a.map str:=by simp
  rw[e];exact Eb⟩,⟨rfl,rfl,rfl,qf (by simp),trivial⟩,bc _,Gc⟩
 have ma:=zf hc;rw[Mb,ec,Ga] at ma;obtain rfl:l1=[]:=by
  cases l1 with
  |nil=>rfl
  |cons a l2=>simp at ma;omega
 rw[ue] at ec;rw[<-ec] at Ch;refine wa ?_;refine qa (Cc (lv:=v1) rfl)<|qa (pA (lv:=v1) rfl)<|Ad ?_;exact rQ (Gc.trans hj) (rC (rT (v:=v1) rfl ie) rN) Ch ob
def Oo(f:yb):List (List UInt8):=(f.params++f.locals).map λx=>f.name++[46]++x
theorem ji{vars:List Nm}{fs:List yb}(AL:LV)(qD:vars.length<=2000000)(dM:fs.length<=2000000)(kx:∀ f∈fs,tU f)(hn:∀ f∈fs,f.name.length<=1000/\∀ x∈f.params++f.locals,x.length<=1000):ca (KC B0 w0) 50 [.agg [.list (vars.map str),AL,.list (fs.map Eg)]] [] (Ub (.list ((je vars fs).map str))):=by
 have qx:∀ f∈fs,(Oo f).length<=4000000:=λf hf=>by have h1:f.params.length<=2000000:=(kx f hf).params;have h2:f.locals.length<=2000000:=(kx f hf).locals;unfold Oo;rw[Mb,Ga];omega
 have dr:∀ l:List yb,(∀ f∈l,f∈fs)->((l.map Oo).flatten).length<=l.length * 4000000:=λl hl=>by
  have:=I' (l.map Oo) 4000000 (λx hx=>by
   obtain⟨f,hf,rfl⟩:=Ni hx;exact qx f (hl f hf))
  rwa [Mb] at this
 refine jb Tryz.func50 rfl (n:=40) rfl rfl rfl ?_;refine Xe ?_;refine oS (sB rfl λb1=>?_);refine xa ?_;refine oS (S.Uc (H1:=[]) (F:=[_]) [_] rfl dc (qrU vars qD) ?_ (by rintro ch H' ⟨v,h,_⟩;cases h));rintro v Ha ⟨_,h,Eb⟩;cases h;refine Ea.perm (Lh (l₂:=[_])) ?_;refine qa (pA (lv:=v) rfl)<|xa ?_;refine oL (λk ls H'=>∃ pre l1 v1 uF,fs=pre++l1/\k=l1.length/\ls=[(3,v1),(12,.list (fs.map Eg)),(13,int .i64 ((fs.map Eg).length:Int)),(14,int .i64 (pre.length:Int))]/\H'=uF/\GL.Acc 1 v1 ((vars++(pre.map Oo).flatten).map str) uF [])
  ⟨fs.length,_,_,⟨[],fs,v,Ha,rfl,rfl,rfl,rfl,by simpa using Eb⟩,Kb,Yg ob⟩ ?_
 rintro k ls uF ⟨pre,l1,v1,_,ec,rfl,rfl,rfl,Ch⟩ j hj;have oo:pre.length<=2000000:=by rw[ec,Ga] at dM;omega
 have EJ:((pre.map Oo).flatten).length<=8000000000000:=by have:=dr pre (λf hf=>by rw[ec];exact mem_append_left _ hf);omega
 refine wh ?_;refine Oa (λhc=>?_) λhc=>?_;have ma:=zt hc;rw[Mb,ec,Ga] at ma
 obtain⟨f,l2,rfl⟩:∃ a l2,l1=a::l2:=by
  cases l1 with
  |nil=>simp at ma
  |cons a l2=>exact⟨a,l2,rfl⟩
 have BO:f∈fs:=by rw[ec];exact mem_append_right _ Qe
 obtain⟨zx,CD⟩:=hn f BO;have wX:f.params.length<=2000000:=(kx f BO).params;have CX:f.locals.length<=2000000:=(kx f BO).locals;refine Zi ?_;refine qa (xR (Ud:=Eg f) (cs:=[_,_,_,_]) rfl rfl zo (by rw[ec];exact de Eg pre f l2) rfl rfl)<|Ra ?_;refine oS (Sd λb5=>?_);refine xa ?_;refine oS (sL (es:=[Jq f.params,Jq f.locals]) [_,_] rfl (Qd rfl rfl (Qd rfl rfl pj)) rfl rfl rfl ?_);refine oS (S.Uc (H1:=[]) (F:=(b5,.cells 167 [str f.name,Jq f.params,Jq f.locals,.list (f.body.map uc)])::uF) [_] rfl dc (qj9 [f.params,f.locals] (by simp) (by
  intro l hl;rcases Dc.1 hl with rfl|hl;exact wX;rw[aj hl];exact CX)) ?_ (by rintro ch H' ⟨v,h,_⟩;cases h))
 rintro v2 Ha2 ⟨_,h,ud⟩;cases h;have yl:[f.params,f.locals].flatten=f.params++f.locals:=by simp
 rw[yl] at ud;refine Ea.sub 23 rfl ud.sub ?_;refine Ea.Yb (H':=(b5,.cells 167 [str f.name,Jq f.params,Jq f.locals,.list (f.body.map uc)])::uF) ⟨Ha2,Lh⟩ ?_;refine Aa ?_;refine oL (λk ls H'=>∃ Zq l3 v3 YX,f.params++f.locals=Zq++l3/\k=l3.length/\ls=[(3,v3),(5,ptr b5 0),(12,.list (fs.map Eg)),(13,int .i64 ((fs.map Eg).length:Int)),(14,int .i64 (pre.length:Int)),(23,.list ((f.params++f.locals).map str)),(24,int .i64 (((f.params++f.locals).map str).length:Int)),(25,int .i64 (Zq.length:Int))] /\
   H'=(b5,.cells 167 [str f.name,Jq f.params,Jq f.locals,.list (f.body.map uc)])::YX/\GL.Acc 1 v3 ((vars++(pre.map Oo).flatten++Zq.map λx=>f.name++[46]++x).map str) YX [])
  ⟨(f.params++f.locals).length,_,_,⟨[],f.params++f.locals,v1,uF,rfl,rfl,rfl,rfl,by simpa using Ch⟩,Kb,bc _⟩ ?_
 rintro k ls H' ⟨Zq,l3,v3,YX,rv,rfl,rfl,rfl,ez⟩ j2 Gc;have hb3:Zq.length<=4000000:=by
  have:(f.params++f.locals).length<=4000000:=by rw[Ga];omega
  rw[rv,Ga] at this;omega
 refine wh ?_;refine Oa (λhd=>?_) λhd=>?_;have rm:=zt hd;rw[Mb,rv,Ga] at rm
 obtain⟨x,l4,rfl⟩:∃ a l2,l3=a::l2:=by
  cases l3 with
  |nil=>simp at rm
  |cons a l2=>exact⟨a,l2,rfl⟩
 have hx:x.length<=1000:=CD x (by rw[rv];exact mem_append_right _ Qe);refine Zi ?_;refine qa (xR (Ud:=str x) (cs:=[str x]) rfl rfl zo (by rw[rv];exact de str Zq x l4) rfl rfl)<|xa ?_;refine qa (Cc (lv:=v3) rfl)<|Ra ?_;refine oS (sL (es:=[str (f.name++[46]++x)]) [_] rfl (Qd rfl rfl pj) rfl rfl rfl<|oS (S.Yx rfl ez rfl (xZ [f.name++[46]++x]) rfl (by rw[Mb,Ga,Ga,Mb,Ma,qc];omega) λv' H' Ob=>?_));refine Ql ?_;refine zm ?_
 exact⟨l4.length,_,_,lt_succ_self _,⟨Zq++[x],l4,v',H',by rw[rv];simp,rfl,rfl,rfl,by
  have e:((vars++(pre.map Oo).flatten++(Zq++[x]).map λx=>f.name++[46]++x).map str)=((vars++(pre.map Oo).flatten++Zq.map λx=>f.name++[46]++x).map str)++[str (f.name++[46]++x)]:=by simp
  rw[e];exact Ob⟩,⟨rfl,rfl,rfl,rfl,rfl,rfl,rfl,qf (by simp),trivial⟩,bc _,Gc⟩
 have rm:=zf hd;rw[Mb,rv,Ga] at rm;obtain rfl:l3=[]:=by
  cases l3 with
  |nil=>rfl
  |cons a l2=>simp at rm;omega
 rw[ue] at rv;refine wa ?_;exact⟨l2.length,_,_,lt_succ_self _,⟨pre++[f],l2,v3,YX,by rw[ec];simp,rfl,rfl,rfl,by
  have e:((vars++((pre++[f]).map Oo).flatten).map str)=(vars++(pre.map Oo).flatten++Zq.map λx=>f.name++[46]++x).map str:=by rw[<-rv];simp[Oo]
  rw[e];exact ez⟩,⟨rfl,rfl,rfl,qf (by simp),trivial⟩,Yg ob,Gc.trans hj⟩
 have ma:=zf hc;rw[Mb,ec,Ga] at ma;obtain rfl:l1=[]:=by
  cases l1 with
  |nil=>rfl
  |cons a l2=>simp at ma;omega
 rw[ue] at ec;rw[<-ec] at Ch;refine wa ?_;refine qa (Cc (lv:=v1) rfl)<|qa (pA (lv:=v1) rfl)<|Ad ?_;exact rR hj (rC (rT (v:=v1) rfl Ch.sub) rN) sd ⟨rfl,rfl⟩
end Go.Proofs.Y.sk
namespace Go.ia.Wi.Wc.Q
open Go.Lib
variable{c:Nat}{s:IS}
abbrev eN(n:Nat):Ex:=.mk [110,117,109] n [] []
abbrev eV(n:Nm):Ex:=.mk [118,97,114] 0 n []
abbrev eE(n:Nm)(x:Ex):Ex:=.mk [101,108,101,109] 0 n [x]
abbrev eC(n:Nm)(xs:List Ex):Ex:=.mk [99,97,108,108] 0 n xs
abbrev eB(p:Nm)(x y:Ex):Ex:=.mk p 0 [] [x,y]
abbrev sA(n:Nm)(x:Ex):Sm:=.mk 1 n [] [x] [] []
abbrev sE(n:Nm)(y x:Ex):Sm:=.mk 2 n [y] [x] [] []
abbrev sI(x:Ex)(a b:List Sm):Sm:=.mk 3 [] [] [x] a b
abbrev sW(x:Ex)(a:List Sm):Sm:=.mk 4 [] [] [x] a []
abbrev sR(x:Ex):Sm:=.mk 5 [] [] [x] [] []
abbrev sX(x:Ex):Sm:=.mk 6 [] [] [x] [] []
abbrev ky(f x:Nm):Nm:=f++[46]++x
abbrev yo{A:Type}(c:Bool)(x y:A):A:=match c with
 |true=>x
 |false=>y
theorem Uz{A:Type}(c:Prop) [Decidable c](x y:A):yo (decide c) x y=if c then x else y:=by by_cases h:c;rw[zp h,Dg h];rw[zn h,decide_eq_false h]
def td(a b:Nat):Nat:=(a+b) % 4294967296
def Co(a b:Nat):Nat:=(a+4294967296-b) % 4294967296
def yi(a b:Nat):Nat:=a * b % 4294967296
def yj(a b:Nat):Nat:=a ^^^ b
def py(a b:Nat):Nat:=sf (decide (a=b))
def CP(a b:Nat):Nat:=sf (decide (a≠b))
def oy(a b:Nat):Nat:=sf (decide (a<b))
def FU(a b:Nat):Nat:=sf (decide (b<a))
def wle(a b:Nat):Nat:=sf (decide (a<=b))
def wge(a b:Nat):Nat:=sf (decide (b<=a))
def pY(a b:Nat):Nat:=sf (decide (a≠0/\b≠0))
def cK(a b:Nat):Nat:=sf (decide (a≠0∨b≠0))
def oY(a b:Nat):Nat:=a / b
def mY(a b:Nat):Nat:=a % b
def lY(a:Nat):Nat:=(4294967296-a) % 4294967296
def kY(a:Nat):Nat:=sf (decide (a=0))
def bin(op:Nm)(a b:Nat):Nat:=
 yo (decide (op=[43])) (td a b) (yo (decide (op=[45])) (Co a b) (yo (decide (op=[42])) (yi a b) (yo (decide (op=[94])) (yj a b) (yo (decide (op=[61,61])) (py a b) (yo (decide (op=[33,61])) (CP a b) (yo (decide (op=[60])) (oy a b) (yo (decide (op=[62])) (FU a b) (yo (decide (op=[60,61])) (wle a b) (yo (decide (op=[62,61])) (wge a b) (yo (decide (op=[38,38])) (pY a b) (yo (decide (op=[124,124])) (cK a b) (yo (decide (op=[47])) (oY a b) (mY a b)))))))))))))
def JH(op:Nm):Bool:=!(op∈[[43],[45],[42],[94],[61,61],[33,61],[60],[62],[60,61],[62,61],[38,38],[124,124]]:Bool)
theorem Yq{c:Prop} [Decidable c]{x y:Nat}{o:Option Nat}(h:¬c->o=some y):(if c then some x else o)=some (if c then x else y):=by split;rfl;rename_i hc;exact h hc
theorem qwY{op:Nm}{a b:Nat}(h:JH op=true->b≠0):Ij op a b=some (bin op a b):=by unfold Ij bin;simp only[Uz];refine Yq λh1=>Yq λh2=>Yq λh3=>Yq λh4=>Yq λh5=>Yq λh6=>Yq λh7=>Yq λh8=>Yq λh9=>Yq λha=>Yq λhb=>Yq λhc=>?_;rw[zn (h (by simp[JH,h1,h2,h3,h4,h5,h6,h7,h8,h9,ha,hb,hc]))];exact Yq λ_=>rfl
def Fz(c a b:Nat):Nat:=if c=0 then b else a
theorem KY{a b:Nat}(h:c≠0):Fz c a b=a:=zn h
def look{A:Type}(k:Nm):List (Nm×A)->Option A
 |[]=>none
 |p::l=>if p.1=k then some p.2 else look k l
def Rd{A:Type}(k:Nm)(x:A):List (Nm×A)->List (Nm×A)
 |[]=>[(k,x)]
 |p::l=>if p.1=k then (k,x)::l else p::Rd k x l
theorem MQ{A:Type}(j k:Nm)(x:A):∀ l:List (Nm×A),look j (Rd k x l)=if k=j then some x else look j l
 |[]=>by show(if k=j then some x else none)=_;split <;> rfl
 |p::l=>by
  unfold Rd;by_cases h:p.1=k;rw[zp h];show(if k=j then some x else look j l)=(if k=j then some x else if p.1=j then some p.2 else look j l);split;rfl;rw[zn (by rw[h];assumption)];rw[zn h];show(if p.1=j then some p.2 else look j (Rd k x l))=if k=j then some x else if p.1=j then some p.2 else look j l
  rw[MQ j k x l];by_cases h2:p.1=j;rw[zp h2,zp h2,zn (λe=>h (h2.trans e.symm))];rw[zn h2,zn h2]
abbrev ik(g:Nat->Nat)(i x:Nat):Nat->Nat:=λj=>yo (decide (j=i)) x (g j)
theorem qwT(n:Nat)(g:Nat->Nat)(i x:Nat):((List.range n).map g).set i x=(List.range n).map (ik g i x):=by apply List.ext_getElem;simp only[List.length_set,Mb];intro j h1 h2;simp only[List.getElem_set,List.getElem_map,List.getElem_range,ik,Uz];by_cases e:i=j;rw[zp e,zp e.symm];rw[zn e,zn (λh=>e h.symm)]
abbrev Fa:=Nat×(Nat->Nat)
structure Tt where
 v:List (Nm×Nat)
 a:List (Nm×Fa)
 i:List Nat
 o:List UInt8
def qz(o:Option Fa)(l:List Nat):List Nat:=match o with
 |some p=>(List.range p.1).map p.2
 |none=>l
def put(s:IS)(t:Tt):IS:=⟨λk=>(look k t.v).getD (s.sc k),λk=>qz (look k t.a) (s.ar k),t.i,t.o,s.left⟩
theorem mG{s':IS}(h1:∀ k,s.sc k=s'.sc k)(h2:∀ k,s.ar k=s'.ar k)(h3:s.Ia=s'.Ia)(h4:s.out=s'.out)(h5:s.left=s'.left):s=s':=by obtain⟨a,b,c,d,e⟩:=s;obtain⟨a',b',c',d',e'⟩:=s';simp only at h1 h2 h3 h4 h5;obtain rfl:=funext h1;obtain rfl:=funext h2;rw[h3,h4,h5]
theorem qzA(s:IS)(t:Tt)(k:Nm)(x:Nat):Yf (put s t) k x=put s { t with v:=Rd k x t.v }:=by
 refine mG (λj=>?_) (λ_=>rfl) rfl rfl rfl;show(if j=k then x else (look j t.v).getD (s.sc j))=(look j (Rd k x t.v)).getD (s.sc j);rw[MQ];by_cases h:j=k
 ·rw[zp h,zp h.symm];try rfl
 rw[zn h,zn (λe=>h e.symm)]
theorem qxl(s:IS)(t:Tt)(k:Nm)(n:Nat)(g:Nat->Nat)(i x:Nat)(h:look k t.a=some (n,g)):EY (put s t) k i x=put s { t with a:=Rd k (n,ik g i x) t.a }:=by
 refine mG (λ_=>rfl) (λj=>?_) rfl rfl rfl;show(if j=k then (qz (look k t.a) (s.ar k)).set i x else qz (look j t.a) (s.ar j))=qz (look j (Rd k (n,ik g i x) t.a)) (s.ar j);rw[MQ]
 by_cases hj:j=k;rw[zp hj,zp hj.symm,h];exact qwT n g i x;rw[zn hj,zn (λe=>hj e.symm)]
theorem qyD{t:Tt}{k:Nm}{n:Nat}{g:Nat->Nat}(h:look k t.a=some (n,g)):(put s t).ar k=(List.range n).map g:=by show qz (look k t.a) (s.ar k)=_;rw[h];try rfl
def Fr(X:List Nm)(s s':IS):Prop:=(∀ k,k ∉ X->s'.sc k=s.sc k)/\s'.ar=s.ar
theorem Fr.refl(X:List Nm)(s:IS):Fr X s s:=⟨λ_ _=>rfl,rfl⟩
theorem Fr.trans{X:List Nm}{s s1 s2:IS}(h:Fr X s s1)(g:Fr X s1 s2):Fr X s s2:=⟨λk hk=>(g.1 k hk).trans (h.1 k hk),g.2.trans h.2⟩
theorem Fr.sub{X Y:List Nm}{s':IS}(h:Fr X s s')(hs:∀ k∈X,k∈Y):Fr Y s s':=⟨λk hk=>h.1 k λe=>hk (hs k e),h.2⟩
section
variable(P:Pr)(X:List Nm)
def Ox(f:yb)(name:Nm)(vs:List Nat)(t:Tt)(K v:Nat)(t':Tt):Prop:=∀ (num:Nat) (s:IS),∃ s',Op P f tg num name vs (put s t) K v (put s' t')/\Fr X s s'
def Ex'(f:yb)(x:Ex)(t:Tt)(K v:Nat)(t':Tt):Prop:=∀ s,∃ s',Ev P f x (put s t) K v (put s' t')/\Fr X s s'
def Sx(f:yb)(a:Sm)(t:Tt)(K:Nat)(r:Option Nat)(t':Tt):Prop:=∀ s,∃ s',St P f a (put s t) K r (put s' t')/\Fr X s s'
def Bx(f:yb)(b:List Sm)(t:Tt)(K:Nat)(r:Option Nat)(t':Tt):Prop:=∀ s,∃ s',Bl P f b (put s t) K r (put s' t')/\Fr X s s'
def Wx(f:yb)(x:Ex)(b:List Sm)(v:Nat)(t:Tt)(K:Nat)(r:Option Nat)(t':Tt):Prop:=∀ s,∃ s',Wh P f x b v (put s t) K r (put s' t')/\Fr X s s'
end
def xi(X:List Nm)(l:List (Nm×Nat)):Bool:=l.all λp=>!decide (p.1∈X)
theorem JV{X:List Nm}{k:Nm}(hk:k∈X):∀ {l:List (Nm×Nat)},xi X l=true->look k l=none
 |[],_=>rfl
 |p::l,h=>by unfold xi at h;rw[all_cons,Ed] at h;show(if p.1=k then some p.2 else look k l)=none;rw[zn,JV hk h.2];intro e;rw[e] at h;simp only[hk,decide_true,Bool.not_true,Il,false_and] at h
def over{A:Type}(l:List (Nm×A)):List (Nm×A)->List (Nm×A)
 |[]=>l
 |p::m=>Rd p.1 p.2 (over l m)
theorem W1{A:Type}(k:Nm)(l:List (Nm×A)):∀ m:List (Nm×A),look k (over l m)=(look k m).or (look k l)
 |[]=>rfl
 |p::m=>by show look k (Rd p.1 p.2 (over l m))=(if p.1=k then some p.2 else look k m).or (look k l);rw[MQ,W1 k l m];try split <;> rfl
def pick{A:Type}(l:List (Nm×A)):List Nm->List (Nm×Option A)
 |[]=>[]
 |k::ks=>(k,look k l)::pick l ks
theorem G2{A:Type}{l:List (Nm×A)}:∀ {m:List (Nm×A)},pick l (m.map (·.1))=m.map (λp=>(p.1,some p.2))->∀ k x,look k m=some x->look k l=some x
 |[],_,k,x,h=>by cases h
 |p::m,e,k,x,h=>by rw[yd,yd,pick,List.cons.injEq,Prod.mk.injEq] at e;by_cases hp:p.1=k;rw[look,zp hp] at h;rw[<-hp,e.1.2,h];rw[look,zn hp] at h;exact G2 e.2 k x h
theorem Ox.frame{P:Pr}{X:List Nm}{f:yb}{name:Nm}{vs:List Nat}{t0 Hm t:Tt}{K v:Nat}(h:Ox P X f name vs t0 K v Hm)(hd:xi X t.v=true)(hv:∀ k x,look k t0.v=some x->look k t.v=some x)(ha:∀ k x,look k t0.a=some x->look k t.a=some x)(hi:t.i=t0.i)(ho:t.o=t0.o) :
  Ox P X f name vs t K v ⟨over t.v Hm.v,over t.a Hm.a,Hm.i,Hm.o⟩:=by
 intro num s;have e1:put (put s t) t0=put s t:=by
  refine mG (λk=>?_) (λk=>?_) hi.symm ho.symm rfl
  ·show(look k t0.v).getD ((look k t.v).getD (s.sc k))=(look k t.v).getD (s.sc k)
   cases hk:look k t0.v with
   |none=>rfl
   |some x=>rw[hv k x hk];try rfl
  show qz (look k t0.a) (qz (look k t.a) (s.ar k))=qz (look k t.a) (s.ar k);cases hk:look k t0.a with
  |none=>rfl
  |some x=>rw[ha k x hk];try rfl
 obtain⟨s1,h1,h2⟩:=h num (put s t);rw[e1] at h1;refine⟨⟨λk=>if k∈X then s1.sc k else s.sc k,s.ar,s1.Ia,s1.out,s1.left⟩,?_,λk hk=>zn hk,rfl⟩
 have e2:put s1 Hm=put ⟨λk=>if k∈X then s1.sc k else s.sc k,s.ar,s1.Ia,s1.out,s1.left⟩ ⟨over t.v Hm.v,over t.a Hm.a,Hm.i,Hm.o⟩:=by
  refine mG (λk=>?_) (λk=>?_) rfl rfl rfl
  ·show(look k Hm.v).getD (s1.sc k)=(look k (over t.v Hm.v)).getD (if k∈X then s1.sc k else s.sc k);rw[W1]
   cases look k Hm.v with
   |some x=>rfl
   |none=>
    show s1.sc k=(look k t.v).getD _;by_cases hk:k∈X
    ·rw[zp hk,JV hk hd];try rfl
    rw[zn hk,h2.1 k hk];try rfl
  show qz (look k Hm.a) (s1.ar k)=qz (look k (over t.a Hm.a)) (s.ar k);rw[W1,h2.2];cases look k Hm.a with
  |some x=>rfl
  |none=>rfl
 rw[e2] at h1;exact h1
structure Ph where
 val:List Nat->Tt->Nat
 tr:List Nat->Tt->Tt
 cond:List Nat->Tt->List Prop
 pure:Bool
def Ph.nx(e:Ph)(vs:List Nat)(t:Tt):Tt:=if e.pure=true then t else e.tr vs t
abbrev OJ:=List (Nm×Ph)
abbrev Ks:=List (Nm×Nat)
def nk:List Prop->Prop
 |[]=>True
 |p::l=>p/\nk l
theorem LC:∀ {l m:List Prop},nk (l++m)->nk l/\nk m
 |[],m,h=>⟨trivial,h⟩
 |p::l,m,h=>⟨⟨h.1,(LC h.2).1⟩,(LC h.2).2⟩
abbrev Pf:=List { p:Prop // p }
abbrev pb{p:Prop} [Decidable p](h:p):{ p:Prop // p }:=⟨decide p=true,Dg h⟩
theorem HV:∀ l:Pf,nk (l.map Subtype.val)
 |[]=>trivial
 |p::l=>⟨p.2,HV l⟩
def oh(P:Pr)(X:List Nm)(κ:Ks)(Φ:OJ):Prop:=∀ name e,look name Φ=some e->name≠[105,110]/\name≠[111,117,116]/\∀ f vs t,xi X t.v=true->nk (e.cond vs t)->Ox P X f name vs t ((look name κ).getD 0) (e.val vs t) (e.nx vs t)/\xi X (e.nx vs t).v=true
section
variable(Φ:OJ)(f:yb)
def jX:Ex->Bool
 |.mk o _ _ l=>decide (o=Af) && l.isEmpty
def Uv:Ex->Nat
 |.mk _ k _ _=>k
def tK(op:Nm)(name:Nm)(args:List Ex)(t:Tt):Bool:=match args with
 |[x]=>decide (op=Vj) && jX x && (match look name t.a with
  |some p=>decide (Uv x<p.1)
  |none=>false)
 |[_,y]=>decide (op≠Af/\op≠bg/\op≠Vj/\op≠Ng/\op≠yg/\op≠tg) && jX y && decide (Uv y≠0)
 |_=>false
abbrev h0(l:List Nat):Nat:=match l with
 |[]=>0
 |x::_=>x
abbrev h1(l:List Nat):Nat:=match l with
 |_::y::_=>y
 |_=>0
theorem TT(l:List Nat):h0 l=l.headD 0:=by cases l <;> rfl
theorem QT(l:List Nat):h1 l=l.tail.headD 0:=by
 match l with
 |[]=>rfl
 |[_]=>rfl
 |_::_::_=>rfl
abbrev XR:=Nat×Tt×List Prop
def QF(op:Nm)(num:Nat)(name:Nm)(vs:List Nat)(t:Tt):XR:=
 if op=Af then (num,t,[])
 else if op=bg then (match look (jc f name) t.v with
  |some x=>(x,t,[])
  |none=>(0,t,[False]))
 else if op=Vj then (match look name t.a with
  |some p=>(p.2 (h0 vs),t,[decide (h0 vs<p.1)=true])
  |none=>(0,t,[False]))
 else if op=Ng then (lY (h0 vs),t,[])
 else if op=yg then (kY (h0 vs),t,[])
 else if op=tg then
  if name=[105,110] then (match vs with
   |[]=>(t.i.headD 4294967295,{ t with i:=t.i.tail },[])
   |_=>(0,t,[False]))
  else if name=[111,117,116] then (match vs with
   |[x]=>(0,{ t with o:=t.o++[UInt8.ofNat x] },[])
   |_=>(0,t,[False]))
  else (match look name Φ with
   |some e=>(e.val vs t,e.nx vs t,e.cond vs t)
   |none=>(0,t,[False]))
 else (bin op (h0 vs) (h1 vs),t,if JH op=true then [decide (h1 vs≠0)=true] else [])
mutual
def xE:Ex->Tt->XR
 |.mk op num name args,t=>
  let r:=an args t
  let q:=QF Φ f op num name r.1 r.2.1
  (q.1,q.2.1,r.2.2++if tK op name args r.2.1=true then [] else q.2.2)
def an:List Ex->Tt->List Nat×Tt×List Prop
 |[],t=>([],t,[])
 |x::l,t=>
  let r:=xE x t
  let q:=an l r.2.1
  (r.1::q.1,q.2.1,r.2.2++q.2.2)
end
def rep{A:Type}(k:Nm)(x:A):List (Nm×A)->List (Nm×A)
 |[]=>[]
 |p::l=>if p.1=k then (k,x)::l else p::rep k x l
def vl{A:Type}(se:A->A->A)(ks:List Nm):List (Nm×A)->List (Nm×A)->List (Nm×A)
 |p::l,q::m=>(if p.1∈ks then (p.1,se p.2 q.2) else p)::vl se ks l m
 |l,_=>l
def Lp(c:Nat)(p q:Fa):Fa:=(p.1,λj=>Fz c (p.2 j) (q.2 j))
mutual
def Xw:Sm->List Nm×List Nm
 |.mk kind name ix val th el=>if kind=1 then ([jc f name],[]) else if kind=2 then ([],[name]) else if kind=3 then ((Bf th).1++(Bf el).1,(Bf th).2++(Bf el).2) else ([],[])
def Bf:List Sm->List Nm×List Nm
 |[]=>([],[])
 |a::l=>((Xw a).1++(Bf l).1,(Xw a).2++(Bf l).2)
end
mutual
def fL:Ex->Bool
 |.mk op num name args=>VH args && (decide (op≠tg) || (decide (name≠[105,110]) && decide (name≠[111,117,116]) && match look name Φ with
  |some e=>e.pure
  |none=>false))
def VH:List Ex->Bool
 |[]=>true
 |x::l=>fL x && VH l
end
mutual
def iL:Sm->Bool
 |.mk kind name ix val th el=>VH Φ ix && VH Φ val && (yn th && yn el)
def yn:List Sm->Bool
 |[]=>true
 |a::l=>iL a && yn l
end
mutual
def xS:Sm->Tt->Tt×List Prop
 |.mk kind name ix val th el,t=>match val with
  |[]=>(t,[False])
  |x::_=>
   let r:=xE Φ f x t
   if kind=1 then ({ r.2.1 with v:=rep (jc f name) r.1 r.2.1.v },r.2.2++match look (jc f name) r.2.1.v with
    |some _=>[]
    |none=>[False])
   else if kind=2 then (match ix with
    |[]=>(t,[False])
    |y::_=>
     let q:=xE Φ f y r.2.1
     match look name q.2.1.a with
     |some p=>({ q.2.1 with a:=rep name (p.1,ik p.2 q.1 r.1) q.2.1.a },r.2.2++q.2.2++if tK Vj name [y] q.2.1=true then [] else [decide (q.1<p.1)=true])
     |none=>(t,[False]))
   else if kind=6 then (r.2.1,r.2.2)
   else if kind=3 then
    let p:=xB th r.2.1
    let q:=xB el r.2.1
    (⟨vl (Fz r.1) ((Bf f th).1++(Bf f el).1) p.1.v q.1.v,vl (Lp r.1) ((Bf f th).2++(Bf f el).2) p.1.a q.1.a,r.2.1.i,r.2.1.o⟩,r.2.2++(p.2.map λw=>r.1≠0->w)++(q.2.map λw=>r.1=0->w)++if yn Φ th && yn Φ el then [] else [False])
   else (t,[False])
def xB:List Sm->Tt->Tt×List Prop
 |[],t=>(t,[])
 |a::l,t=>
  let r:=xS a t
  let q:=xB l r.1
  (q.1,r.2++q.2)
end
end
mutual
def cX(κ:Ks):Ex->Nat
 |.mk op num name args=>wE op num name args.length+jU κ args+(if op=tg then (look name κ).getD 0 else 0)
def jU(κ:Ks):List Ex->Nat
 |[]=>0
 |x::l=>cX κ x+jU κ l
end
mutual
def cS(κ:Ks):Sm->Nat
 |.mk kind name ix val th el=>wS kind el+cX κ (val.headD default)+if kind=2 then cX κ (ix.headD default) else if kind=3 then max (cB κ th) (cB κ el) else 0
def cB(κ:Ks):List Sm->Nat
 |[]=>0
 |a::l=>cS κ a+cB κ l
end
theorem F0{c:Prop}(hc:c):∀ {l:List Prop},nk (l.map λw=>c->w)->nk l
 |[],_=>trivial
 |p::l,h=>⟨h.1 hc,F0 hc h.2⟩
theorem D0{A:Type}(j k:Nm)(x:A):∀ l:List (Nm×A),look k l≠none->look j (rep k x l)=if k=j then some x else look j l
 |[],h=>absurd rfl h
 |p::l,h=>by
  unfold rep;by_cases hp:p.1=k;rw[zp hp];show(if k=j then some x else look j l)=(if k=j then some x else if p.1=j then some p.2 else look j l);split;rfl;rw[zn (by rw[hp];assumption)];rw[look,zn hp] at h;rw[zn hp];show(if p.1=j then some p.2 else look j (rep k x l))=if k=j then some x else if p.1=j then some p.2 else look j l
  rw[D0 j k x l h];by_cases h2:p.1=j;rw[zp h2,zp h2,zn (λe=>hp (h2.trans e.symm))];rw[zn h2,zn h2]
theorem quF{X:List Nm}(k:Nm)(x:Nat):∀ {l:List (Nm×Nat)},xi X l=true->xi X (rep k x l)=true
 |[],_=>rfl
 |p::l,h=>by unfold xi at h;rw[all_cons,Ed] at h;unfold rep xi;split;rename_i hp;rw[all_cons,Ed];exact⟨by rw[<-hp];exact h.1,h.2⟩;rw[all_cons,Ed];exact⟨h.1,quF k x h.2⟩
def Vh{A:Type}(R:A->A->Prop)(ks:List Nm):List (Nm×A)->List (Nm×A)->Prop
 |[],[]=>True
 |p::l,q::m=>p.1=q.1/\R p.2 q.2/\(p.1 ∉ ks->p.2=q.2)/\Vh R ks l m
 |_,_=>False
section
variable{A:Type}{R:A->A->Prop}{ks aJ:List Nm}
theorem Vh.refl(hR:∀ a,R a a):∀ l:List (Nm×A),Vh R ks l l
 |[]=>trivial
 |p::l=>⟨rfl,hR _,λ_=>rfl,Vh.refl hR l⟩
theorem Vh.trans(hR:∀ a b c,R a b->R b c->R a c):∀ {l m n:List (Nm×A)},Vh R ks l m->Vh R ks m n->Vh R ks l n
 |[],[],[],_,_=>trivial
 |p::l,q::m,r::n,h,g=>⟨h.1.trans g.1,hR _ _ _ h.2.1 g.2.1,λhk=>(h.2.2.1 hk).trans (g.2.2.1 (h.1▸hk)),Vh.trans hR h.2.2.2 g.2.2.2⟩
 |[],_::_,_,h,_=>h.elim
 |_::_,[],_,h,_=>h.elim
 |[],[],_::_,_,g=>g.elim
 |_::_,_::_,[],_,g=>g.elim
theorem Vh.symm(hR:∀ a b,R a b->R b a):∀ {l m:List (Nm×A)},Vh R ks l m->Vh R ks m l
 |[],[],_=>trivial
 |p::l,q::m,h=>⟨h.1.symm,hR _ _ h.2.1,λhk=>(h.2.2.1 (h.1▸hk)).symm,Vh.symm hR h.2.2.2⟩
 |[],_::_,h=>h.elim
 |_::_,[],h=>h.elim
theorem Vh.sub(hs:∀ k∈ks,k∈aJ):∀ {l m:List (Nm×A)},Vh R ks l m->Vh R aJ l m
 |[],[],_=>trivial
 |p::l,q::m,h=>⟨h.1,h.2.1,λhk=>h.2.2.1 λe=>hk (hs _ e),Vh.sub hs h.2.2.2⟩
 |[],_::_,h=>h.elim
 |_::_,[],h=>h.elim
theorem Vh.rep(hR:∀ a,R a a){k:Nm}(hk:k∈ks)(x:A):∀ {l:List (Nm×A)},(∀ y,look k l=some y->R y x)->Vh R ks l (Q.rep k x l)
 |[],_=>trivial
 |p::l,h=>by unfold Q.rep;by_cases hp:p.1=k;rw[zp hp];exact⟨hp,h _ (by rw[look,zp hp]),λe=>absurd (hp▸hk) e,Vh.refl hR l⟩;rw[zn hp];exact⟨rfl,hR _,λ_=>rfl,Vh.rep hR hk x λy hy=>h y (by rw[look,zn hp];exact hy)⟩
theorem aQ{se:A->A->A}(hs:∀ a b,R a b->se a b=a):∀ {l m:List (Nm×A)},Vh R ks l m->vl se ks l m=l
 |[],[],_=>rfl
 |p::l,q::m,h=>by rw[vl,aQ hs h.2.2.2,hs _ _ h.2.1];try split <;> rfl
 |[],_::_,h=>h.elim
 |_::_,[],h=>h.elim
theorem bQ{se:A->A->A}(hs:∀ a b,R a b->se a b=b):∀ {l m:List (Nm×A)},Vh R ks l m->vl se ks l m=m
 |[],[],_=>rfl
 |p::l,q::m,h=>by rw[vl,bQ hs h.2.2.2,hs _ _ h.2.1];split;rw[h.1];rename_i hk;rw[show p=q from Prod.ext h.1 (h.2.2.1 hk)]
 |[],_::_,h=>h.elim
 |_::_,[],h=>h.elim
end
def RV(_ _:Nat):Prop:=True
def RA(p q:Fa):Prop:=p.1=q.1
theorem RA.refl(p:Fa):RA p p:=rfl
theorem RA.symm(p q:Fa)(h:RA p q):RA q p:=Eq.symm h
theorem RA.trans(p q r:Fa)(h:RA p q)(g:RA q r):RA p r:=Eq.trans h g
theorem RV.refl(p:Nat):RV p p:=trivial
theorem RV.symm(p q:Nat)(h:RV p q):RV q p:=trivial
theorem RV.trans(p q r:Nat)(h:RV p q)(g:RV q r):RV p r:=trivial
theorem qs8(h:c≠0)(p q:Fa):Lp c p q=p:=Prod.ext rfl (funext λj=>KY h)
theorem qxV(h:c=0){p q:Fa}(hr:RA p q):Lp c p q=q:=by subst h;exact Prod.ext hr rfl
def Nv(ks js:List Nm)(t t':Tt):Prop:=Vh RV ks t.v t'.v/\Vh RA js t.a t'.a/\t'.i=t.i/\t'.o=t.o
theorem Nv.refl(ks js:List Nm)(t:Tt):Nv ks js t t:=⟨Vh.refl RV.refl _,Vh.refl RA.refl _,rfl,rfl⟩
theorem Nv.trans{ks js:List Nm}{t t1 t2:Tt}(h:Nv ks js t t1)(g:Nv ks js t1 t2):Nv ks js t t2:=⟨Vh.trans RV.trans h.1 g.1,Vh.trans RA.trans h.2.1 g.2.1,g.2.2.1.trans h.2.2.1,g.2.2.2.trans h.2.2.2⟩
theorem Nv.sub{ks js aJ js':List Nm}{t t1:Tt}(h:Nv ks js t t1)(h1:∀ k∈ks,k∈aJ)(h2:∀ k∈js,k∈js'):Nv aJ js' t t1:=⟨h.1.sub h1,h.2.1.sub h2,h.2.2⟩
section
variable{Φ:OJ}{f:yb}
theorem GR{op name:Nm}{num:Nat}{vs:List Nat}{t:Tt}(h:(decide (op≠tg) || (decide (name≠[105,110]) && decide (name≠[111,117,116]) && match look name Φ with
  |some e=>e.pure
  |none=>false))=true):(QF Φ f op num name vs t).2.1=t:=by
 unfold QF;split;rfl;split;split <;> rfl;split;split <;> rfl;split;rfl;split;rfl;split
 rename_i ho;rw[ho] at h;simp only[ne_eq,not_true_eq_false,decide_false,Bool.false_or,Ed,Rg] at h;rw[zn h.1.1,zn h.1.2];have h2:=h.2;split;rename_i e he;rw[he] at h2;show e.nx vs t=t;unfold Ph.nx;exact zp h2;rfl;rfl
mutual
theorem jL:∀ (x:Ex) (t:Tt),fL Φ x=true->(xE Φ f x t).2.1=t
 |.mk op num name args,t,h=>by rw[fL,Ed] at h;rw[xE];have:=qBb args t h.1;simp only[this];exact GR h.2
theorem qBb:∀ (l:List Ex) (t:Tt),VH Φ l=true->(an Φ f l t).2.1=t
 |[],t,_=>by rw[an]
 |x::l,t,h=>by rw[VH,Ed] at h;rw[an];have h1:=jL x t h.1;have h2:=qBb l t h.2;simp only[h1,h2]
end
mutual
theorem agS:∀ (a:Sm) (t:Tt),iL Φ a=true->Nv (Xw f a).1 (Xw f a).2 t (xS Φ f a t).1
 |.mk kind name ix val th el,t,h=>by
  rw[iL,Ed,Ed,Ed] at h;rw[xS.eq_def];simp only;cases val with
  |nil=>exact Nv.refl _ _ _
  |cons x vr=>
   have hx:=h.1.2;rw[VH,Ed] at hx;have e1:=jL (f:=f) x t hx.1;simp only[e1];by_cases k1:kind=1;subst k1;rw[Xw,zp rfl,zp rfl];exact⟨Vh.rep RV.refl (List.mem_singleton.mpr rfl) _ λ_ _=>trivial,Vh.refl RA.refl _,rfl,rfl⟩
   by_cases k2:kind=2;subst k2;rw[Xw,zn ea,zp rfl,zn ea,zp rfl];cases ix with
   |nil=>exact Nv.refl _ _ _
   |cons y yr=>
    have hy:=h.1.1;rw[VH,Ed] at hy;have e2:=jL (f:=f) y t hy.1;simp only[e2];cases hp:look name t.a with
    |none=>exact Nv.refl _ _ _
    |some p=>exact⟨Vh.refl RV.refl _,Vh.rep RA.refl (List.mem_singleton.mpr rfl) _ λz hz=>by rw[hp] at hz;cases hz;rfl,rfl,rfl⟩
   rw[zn k1,zn k2];by_cases k6:kind=6;rw[zp k6];exact Nv.refl _ _ _;rw[zn k6];by_cases k3:kind=3
   ·subst k3;rw[Xw,zn ea,zn ea,zp rfl,zp rfl];have a1:=(pU th t h.2.1).sub (λk hk=>mem_append_left (Bf f el).1 hk) λk hk=>mem_append_left (Bf f el).2 hk;have a2:=(pU el t h.2.2).sub (λk hk=>mem_append_right (Bf f th).1 hk) λk hk=>mem_append_right (Bf f th).2 hk;have b1:=Vh.trans RV.trans (Vh.symm RV.symm a1.1) a2.1;have b2:=Vh.trans RA.trans (Vh.symm RA.symm a1.2.1) a2.2.1
    by_cases hc:(xE Φ f x t).1=0
    ·refine⟨?_,?_,rfl,rfl⟩
     ·show Vh RV _ t.v (vl (Fz (xE Φ f x t).1) _ _ _);rw[bQ (se:=Fz _) (λa b _=>by rw[hc];try rfl) b1];exact a2.1
     show Vh RA _ t.a (vl (Lp (xE Φ f x t).1) _ _ _);rw[bQ (se:=Lp _) (λa b hr=>qxV hc hr) b2];exact a2.2.1
    refine⟨?_,?_,rfl,rfl⟩;show Vh RV _ t.v (vl (Fz (xE Φ f x t).1) _ _ _);rw[aQ (se:=Fz _) (λa b _=>KY hc) b1];exact a1.1;show Vh RA _ t.a (vl (Lp (xE Φ f x t).1) _ _ _);rw[aQ (se:=Lp _) (λa b _=>qs8 hc a b) b2];exact a1.2.1
   rw[zn k3];exact Nv.refl _ _ _
theorem pU:∀ (b:List Sm) (t:Tt),yn Φ b=true->Nv (Bf f b).1 (Bf f b).2 t (xB Φ f b t).1
 |[],t,_=>by rw[xB];exact Nv.refl _ _ _
 |a::l,t,h=>by rw[yn,Ed] at h;rw[xB,Bf];exact((agS a t h.1).sub (λk hk=>mem_append_left _ hk) λk hk=>mem_append_left _ hk).trans ((pU l _ h.2).sub (λk hk=>mem_append_right _ hk) λk hk=>mem_append_right _ hk)
end
