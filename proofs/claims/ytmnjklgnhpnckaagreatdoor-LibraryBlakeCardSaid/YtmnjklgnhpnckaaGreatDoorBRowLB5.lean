import Derived.Test.YtmnjklgnhpnckaaGreatDoorBRowLB4
set_option linter.unusedVariables false
set_option linter.unusedSimpArgs false
set_option maxRecDepth 100000
set_option maxHeartbeats 4000000
open List (not_mem_nil nil_append foldl_cons nodup_cons cons_append all_cons mem_of_find?_eq_some sum_cons length_singleton)
open Nat (zero_le mod_lt zero_add)
namespace Go.ea
open Go.Lib
variable{B D a b n:Nat}{c:CC}{ds:List Wd}{f:ob}{src w x:Wd}{vars:List Nm}{z:Int}
section
variable{X:vf}{n:Nat}
theorem CO(c:CC)(n:Nat)(kind:Int)(name:Nm)(index value:List Ex)(Ka fb:List Sm):kg c n (.mk kind name index value Ka fb) =
  if kind=1 then (Cb c (value.headD default)++[c.sc name,[33]],n)
  else if kind=2 then (Cb c (value.headD default)++c.ar name::(Cb c (index.headD default)++[[43],[33]]),n)
  else if kind=3 then
   (match fb with
   |[]=>(Cb c (value.headD default)++[38::na n,[63]]++(Da c (n+1) Ka).1++[na n++[58]],(Da c (n+1) Ka).2)
   |_::_=>(Cb c (value.headD default)++[38::na n,[63]]++(Da c (n+2) Ka).1++[[48],38::na (n+1),[63],na n++[58]]++(Da c (Da c (n+2) Ka).2 fb).1++[na (n+1)++[58]],(Da c (Da c (n+2) Ka).2 fb).2))
  else if kind=4 then ([na n++[58]]++Cb c (value.headD default)++[38::na (n+1),[63]]++(Da c (n+2) Ka).1++[[48],38::na n,[63],na (n+1)++[58]],(Da c (n+2) Ka).2)
  else if kind=5 then (Cb c (value.headD default)++[[59]],n)
  else if kind=6 then (Cb c (value.headD default)++[c.t0,[33]],n)
  else if kind=7 then ([[36]],n)
  else ([],n):=by
 rw[kg.eq_def];try rfl
end
theorem XY(all:List Wd):∀ (l:List (Wd×Nat)) (met:List Wd),(ze all met l).2=0->met.Nodup->(met++yb (l.map (·.1))).Nodup/\∀ w∈l.map (·.1),ko all w
 |[],met,_,hm=>by simp only[List.map_nil,yb,List.filterMap_nil,Jd];exact⟨hm,λw hw=>(not_mem_nil hw).elim⟩
 |(w,ln)::r,met,h,hm=>by
  rw[ze] at h;rw[jd,AE];cases hd:ma w with
  |some x=>
   rw[hd] at h;simp only at h ⊢;split at h;simp at h;rename_i hx;have hn:(met++[x]).Nodup:=List.nodup_append.2 ⟨hm,by simp,λa ha b hb=>by
    rw[cj hb];exact λe=>hx (e▸ha)⟩
   obtain⟨h1,h2⟩:=XY all r (met++[x]) h hn;refine⟨by rw[Pc] at h1;exact h1,λy hy=>?_⟩;rcases lc.1 hy with rfl|hy;unfold ko;rw[hd];trivial
   exact h2 y hy
  |none=>
   rw[hd] at h;simp only at h ⊢;have key:ko all w/\(ze all met r).2=0:=by
    unfold ko;rw[hd];cases hr:La w with
    |some x=>rw[hr] at h;simp only at h ⊢;split at h;rename_i hx;exact⟨hx,h⟩;simp at h
    |none=>rw[hr] at h;simp only at h ⊢;split at h;rename_i hx;exact⟨hx,h⟩;simp at h
   obtain⟨h1,h2⟩:=XY all r met key.2 hm;refine⟨by simpa using h1,λy hy=>?_⟩;rcases lc.1 hy with rfl|hy;exact key.1;exact h2 y hy
theorem gT(h:(ze (yb (xj src)) [] (nu src)).2=0):Ts (xj src):=by have:=XY _ _ _ h List.nodup_nil;rw[lJ,nil_append] at this;exact this
theorem qlV(known:Wd->Nat)(og:Nat){p:Wd×Nat}:∀ (l:List Wd) (s:Wd×List (Wd×Nat)),p∈s.2->p∈(l.foldl (Lg known og) s).2
 |[],s,h=>h
 |w::l,s,h=>by rw[foldl_cons];refine qlV known og l _ ?_;unfold Lg;split;exact ap (.inl h);exact h
theorem qqS(known:Wd->Nat)(og:Nat){w x:Wd}(hd:ma w=some x):∀ (l:List Wd) (s:Wd×List (Wd×Nat)) (j:Nat),l[j]? = some w->(x,og+((l.take j).foldl (Yd known) s.1).length)∈(l.foldl (Lg known og) s).2
 |[],s,j,h=>by simp at h
 |v::l,s,0,h=>by simp only[Ql,Cm] at h;subst h;rw[foldl_cons];refine qlV known og l _ ?_;unfold Lg;rw[hd];simp
 |v::l,s,j+1,h=>by
  rw[Ls] at h;have ih:=qqS known og hd l (Lg known og s v) j h;have e:(Lg known og s v).1=Yd known s.1 v:=by
   unfold Lg;cases hv:ma v with
   |some y=>simp only;unfold Yd;rw[hv]
   |none=>rfl
  rw[e] at ih;rw[foldl_cons,List.take_succ_cons,foldl_cons];exact ih
theorem qnF:∀ (Za:List (Wd×Nat)) (x:Wd) (n:Nat),(Za.map (·.1)).Nodup->(x,n)∈Za->Un Za x=n
 |[],x,n,_,h=>(not_mem_nil h).elim
 |(y,k)::l,x,n,hn,h=>by rw[jd,nodup_cons] at hn;unfold Un;rw[List.find?_cons];rcases lc.1 h with h|h;injection h with h1 h2;subst h1 h2;simp;have ub:y≠x:=λe=>hn.1 (El ⟨(x,n),h,by simp[e]⟩);simp only[ub,decide_false];exact qnF l x n hn.2 h
theorem qom{W:List Wd}(og:Nat)(hn:(yb W).Nodup)(he:∀ w∈W,w≠[]){j:Nat}(hw:W[j]? = some w)(hd:ma w=some x) :
  Un (cp (λ_=>0) og W) x=PW.Uc ⟨W,og,Un (cp (λ_=>0) og W)⟩ j:=by
 generalize hk:Un (cp (λ_=>0) og W)=known;have h1:=qqS known og hd W ([],[]) j hw;have h2:cp (λ_=>0) og W=cp known og W:=qn9 _ _ og W he;rw[<-hk,h2];refine qnF _ _ _ ?_ ?_;have:=DZ known og W ([],[]);unfold cp;rw[this];simpa using hn;rw[<-h2,hk];rw[h2];exact h1
theorem qs0(h:mu x=true):x≠[]/\∀ c r,x=c::r->Yk c=true:=by
 unfold mu at h;cases x with
 |nil=>cases h
 |cons c r=>simp only[Yc] at h;exact⟨by simp,λc' r' e=>by injection e with e1 _;rw[<-e1];exact h.1.2⟩
theorem aX{c:UInt8}(h:ko ds (c::x++[58]))(h1:c≠38)(h2:xz.contains c=false):ma (c::x++[58])=some (c::x):=by
 cases hd:ma (c::x++[58]) with
 |some y=>unfold ma at hd;split at hd;injection hd with hd;rw[<-hd,List.dropLast_concat];cases hd
 |none=>
  exfalso;unfold ko at h;rw[hd] at h;have hr:La (c::x++[58])=none:=by unfold La;simp only[cons_append,h1,false_and,if_false]
  rw[hr] at h;simp only at h;unfold Hw at h;rw[cons_append,all_cons,h2] at h;cases h
theorem I8(h:ko ds (38::x)):La (38::x)=some x:=by
 have hd:ma (38::x)=none:=by
  unfold ma;split;rename_i h1;exfalso;cases x with
  |nil=>exact absurd h1.1 da
  |cons c r=>have:=(qs0 h1.2).2 38 _ (List.dropLast_cons_cons ..);exact absurd this da
  rfl
 cases hr:La (38::x) with
 |some y=>unfold La at hr;simp only[true_and] at hr;split at hr;injection hr with hr;rw[<-hr];cases hr
 |none=>exfalso;unfold ko at h;rw[hd,hr] at h;simp only at h;unfold Hw at h;rw[all_cons,show xz.contains 38=false by decide,Di] at h;cases h
theorem qx1(h:ma (x++[58])=some x):La (38::x)=some x:=by unfold ma at h;split at h;rename_i h1;rw[List.dropLast_concat] at h1;unfold La;simp only[true_and,h1.2,if_true];cases h
def ju(n:Nat):Prop:=n<=2000000
mutual
def N7:Ex->Prop
 |.mk op num name args=>ju args.length/\jA args
def jA:List Ex->Prop
 |[]=>True
 |x::l=>N7 x/\jA l
end
mutual
def M7:Sm->Prop
 |.mk kind name index value Ka fb=>ju index.length/\ju value.length/\ju Ka.length/\ju fb.length/\jA index/\jA value/\iA Ka/\iA fb
def iA:List Sm->Prop
 |[]=>True
 |x::l=>M7 x/\iA l
end
structure pS(f:ob):Prop where
 params:ju f.params.length
 locals:ju f.locals.length
 body:ju f.body.length
 stmts:iA f.body
mutual
def Zk:Ex->Nat
 |.mk op num name args=>1+Fb args
def Fb:List Ex->Nat
 |[]=>0
 |x::l=>Zk x+Fb l
end
mutual
def vp:Sm->Nat
 |.mk kind name index value Ka fb=>1+(Fb index+Fb value+pd Ka+pd fb)
def pd:List Sm->Nat
 |[]=>0
 |x::l=>vp x+pd l
end
def kq(f:ob):Nat:=1+f.params.length+f.locals.length+pd f.body
def Qd:List ob->Nat
 |[]=>0
 |f::l=>kq f+Qd l
theorem NT(x:Ex):1<=Zk x:=by obtain⟨op,num,name,args⟩:=x;rw[Zk];omega
theorem NX(x:Sm):1<=vp x:=by obtain⟨k,n,i,v,t,e⟩:=x;rw[vp];omega
theorem WL:∀ l:List Ex,l.length<=Fb l
 |[]=>Nb _
 |x::l=>by have h1:=NT x;have h2:=WL l;rw[Fb,Ba];omega
theorem eJ:∀ l:List Sm,l.length<=pd l
 |[]=>Nb _
 |x::l=>by have h1:=NX x;have h2:=eJ l;rw[pd,Ba];omega
theorem qU:∀ l:List ob,l.length<=Qd l
 |[]=>Nb _
 |x::l=>by have h2:=qU l;rw[Qd,Ba];unfold kq;omega
theorem jU:∀ {l:List ob} {f:ob},f∈l->kq f<=Qd l
 |g::l,f,h=>by rw[Qd];rcases lc.1 h with rfl|h;omega;have:=jU h;omega
theorem sY:∀ {l:List Ex} {f:Ex},f∈l->Zk f<=Fb l
 |g::l,f,h=>by rw[Fb];rcases lc.1 h with rfl|h;omega;have:=sY h;omega
mutual
theorem qzS:∀ x:Ex,Zk x<=2000000->N7 x
 |.mk op num name args,h=>by rw[Zk] at h;have:=WL args;exact⟨show args.length<=2000000 by omega,VT args (by omega)⟩
theorem VT:∀ l:List Ex,Fb l<=2000000->jA l
 |[],_=>trivial
 |x::l,h=>by rw[Fb] at h;exact⟨qzS x (by omega),VT l (by omega)⟩
end
mutual
theorem qzW:∀ x:Sm,vp x<=2000000->M7 x
 |.mk k n i v t e,h=>by rw[vp] at h;have h1:=WL i;have h2:=WL v;have h3:=eJ t;have h4:=eJ e;exact⟨show i.length<=2000000 by omega,show v.length<=2000000 by omega,show t.length<=2000000 by omega,show e.length<=2000000 by omega,VT i (by omega),VT v (by omega),XT t (by omega),XT e (by omega)⟩
theorem XT:∀ l:List Sm,pd l<=2000000->iA l
 |[],_=>trivial
 |x::l,h=>by rw[pd] at h;exact⟨qzW x (by omega),XT l (by omega)⟩
end
theorem YW(h:kq f<=2000000):pS f:=by unfold kq at h;have:=eJ f.body;exact⟨show f.params.length<=2000000 by omega,show f.locals.length<=2000000 by omega,show f.body.length<=2000000 by omega,XT _ (by omega)⟩
def Hs(B D:Nat)(known:List Nd):Prop:=∀ k∈known,k.need<=B/\k.params+1<=B/\k.depth<=D
theorem qpP(B:Nat)(c:gb):∀ (l:List Ex) (i m:Nat),(∀ x∈l,tf c x<=4 * Zk x+B)->gy i (Yg c l) m<=max m (4 * Fb l+i+B)
 |[],i,m,_=>by rw[Yg,gy];exact Nat.le_max_left _ _
 |x::l,i,m,h=>by rw[Yg,gy,Fb];have h1:=h x Ce;have h2:=qpP B c l (i+1) (max m (i+tf c x)) λy hy=>h y (Gc _ hy);have h3:=NT x;omega
mutual
theorem XL(B D:Nat)(c:gb)(hB:Hs B D c.funcs):∀ x:Ex,tf c x<=4 * Zk x+B
 |.mk op num name args=>by
  rw[tf,Zk];have ha:=qn7 B D c hB args;have h0:(Yg c args).headD 0<=4 * Fb args+B:=by
   cases args with
   |nil=>rw[Yg];exact zero_le _
   |cons x l=>have:=ha x Ce;rw[Yg,Fb];show tf c x<=_;omega
  have h1:(Yg c args).tail.headD 0<=4 * Fb args+B:=by
   cases args with
   |nil=>rw[Yg];exact zero_le _
   |cons x l=>
    cases l with
    |nil=>rw[Yg,Yg];exact zero_le _
    |cons y l=>have:=ha y (Gc _ Ce);rw[Yg,Yg,Fb,Fb];show tf c y<=_;omega
  have hc:qz c name (Yg c args)<=4 * (1+Fb args)+B:=by unfold qz;split;omega;split;omega;unfold gb.fn;split;rename_i k hk;have P3:=hB k (mem_of_find?_eq_some hk);have:=qpP B c args 0 (max (k.params+1) k.need) ha;omega;omega
  unfold NA;split;omega;split;omega;split;exact hc;split;omega;split;omega;split;omega;split;omega;split;omega;omega
theorem qn7(B D:Nat)(c:gb)(hB:Hs B D c.funcs):∀ (l:List Ex),∀ x∈l,tf c x<=4 * Zk x+B
 |[],x,h=>(not_mem_nil h).elim
 |a::l,x,h=>by rcases lc.1 h with h1|h1;rw[h1];exact XL B D c hB a;exact qn7 B D c hB l x h1
end
theorem qwN{c:gb}(hB:Hs B D c.funcs)(op name:Nm):pu c op name<=D+1:=by unfold pu;split;unfold gb.fn;split;rename_i k hk;have:=hB k (mem_of_find?_eq_some hk);omega;omega;omega
mutual
theorem JX(B D:Nat)(c:gb)(hB:Hs B D c.funcs):∀ x:Ex,Oi c x<=D+1
 |.mk op num name args=>by rw[Oi];have h1:=nP B D c hB args;have h2:=qwN hB op name;omega
theorem nP(B D:Nat)(c:gb)(hB:Hs B D c.funcs):∀ l:List Ex,gi c l<=D+1
 |[]=>zero_le _
 |x::l=>by rw[gi];have h1:=JX B D c hB x;have h2:=nP B D c hB l;omega
end
theorem qks{c:gb}(hB:Hs B D c.funcs)(l:List Ex):tf c (l.headD default)<=4 * (Fb l+1)+B:=by
 cases l with
 |nil=>
  have:=XL B D c hB (default:Ex);have h1:Zk (default:Ex)=1:=by show Zk (.mk [] 0 [] [])=1;rw[Zk,Fb]
  show tf c default<=_;rw[Fb];omega
 |cons x l=>have:=XL B D c hB x;show tf c x<=_;rw[Fb];omega
mutual
theorem qvd(B D:Nat)(c:gb)(hB:Hs B D c.funcs):∀ x:Sm,sC c x<=8 * vp x+B
 |.mk k n i v t e=>by rw[sC,vp];have h1:=qks hB v;have h2:=qks hB i;have h3:=HP B D c hB t;have h4:=HP B D c hB e;split;omega;split;omega;split;omega;omega
theorem HP(B D:Nat)(c:gb)(hB:Hs B D c.funcs):∀ l:List Sm,Wk c l<=8 * pd l+B
 |[]=>by rw[Wk];exact zero_le _
 |x::l=>by rw[Wk,pd];have h1:=qvd B D c hB x;have h2:=HP B D c hB l;omega
end
mutual
theorem qsu(B D:Nat)(c:gb)(hB:Hs B D c.funcs):∀ x:Sm,Jr c x<=D+1
 |.mk k n i v t e=>by rw[Jr];have h1:=nP B D c hB v;have h2:=nP B D c hB i;have h3:=dJ B D c hB t;have h4:=dJ B D c hB e;omega
theorem dJ(B D:Nat)(c:gb)(hB:Hs B D c.funcs):∀ l:List Sm,Xi c l<=D+1
 |[]=>by rw[Xi];exact zero_le _
 |x::l=>by rw[Xi];have h1:=qsu B D c hB x;have h2:=dJ B D c hB l;omega
end
theorem qxU{ba later:List Nm}{known:List Nd}(hB:Hs B D known):(Fi vars ba later known f).need<=8 * kq f+B/\(Fi vars ba later known f).params+1<=8 * kq f+B/\(Fi vars ba later known f).depth<=D+1:=by have h1:=HP B D (Wf vars ba later known f) hB f.body;have h2:=dJ B D (Wf vars ba later known f) hB f.body;unfold Fi kq;simp only;omega
structure QF(p:Pr)(n:Nat):Prop where
 vars:p.vars.length<=n
 ba:p.ba.length<=n
 size:∀ a∈p.ba,a.size<4294967296
 funcs:Qd p.funcs<=n
 Ey:∀ f∈p.funcs,Hi f.body
structure Dk(s:MS):Prop where
 mem:∀ i,s.mem i<4294967296
 pc:s.pc<4294967296
 data:∀ v∈s.data,v<4294967296
 calls:∀ v∈s.calls,v<4294967296
 xa:∀ v∈s.xa,v<4294967296
 az:s.data.length<=256
 deep:s.calls.length<=64
theorem Dk.push{s s':MS}{v:Nat}(h:Dk s)(hv:v<4294967296)(hs:Vn v s=.run s'):Dk s':=by unfold Vn at hs;split at hs;rename_i hl;injection hs with hs;subst hs;exact⟨h.mem,h.pc,λx hx=>(lc.1 hx).elim (λe=>e▸hv) (h.data x),h.calls,h.xa,by simp only[Ba];omega,h.deep⟩;cases hs
theorem Dk.pop{s:MS}{r:List Nat}(h:Dk s)(hd:s.data=a::r):a<4294967296/\Dk { s with data:=r }:=by have h1:=h.data;have h2:=h.az;rw[hd] at h1 h2;exact⟨h1 a Ce,h.mem,h.pc,λx hx=>h1 x (Gc _ hx),h.calls,h.xa,by simp only[Ba] at h2;show r.length<=256;omega,h.deep⟩
theorem qzz(ha:a<4294967296)(hb:b<4294967296):a ^^^ b<4294967296:=Nat.xor_lt_two_pow (n:=32) ha hb
theorem lT{c v:Nat}(ha:a<4294967296)(hb:b<4294967296)(h:ad c a b=some v):v<4294967296:=by unfold ad at h;split at h;injection h with h;rw[<-h];exact mod_lt _ da;split at h;injection h with h;rw[<-h];exact mod_lt _ da;split at h;injection h with h;rw[<-h];exact mod_lt _ da;split at h;split at h;cases h;injection h with h;rw[<-h];exact Nat.lt_of_le_of_lt (Nat.div_le_self _ _) ha;split at h;split at h;cases h;rename_i Ze;injection h with h;rw[<-h];exact Nat.lt_trans (mod_lt _ (by omega)) hb;split at h;injection h with h;rw[<-h];exact qzz ha hb;injection h with h;rw[<-h];split <;> decide
theorem qzB{c:Nat}{s s':MS}(h:Dk s)(hc:c<4294967296)(hs:yd c s=.run s'):Dk s':=by
 unfold yd at hs;split at hs;rename_i hd;unfold pn at hd;rw[Yc,Mf,Mf] at hd;unfold YD at hs;split at hs;split at hs;rename_i d r Lh;injection hs with hs;subst hs;obtain⟨_,h2⟩:=h.pop Lh;exact⟨h2.mem,h2.pc,λx hx=>(lc.1 hx).elim (λe=>by rw[e];exact mod_lt _ da) (h2.data x),h2.calls,h2.xa,by have:=h.az;rw[Lh] at this;exact this,h2.deep⟩;cases hs;exact h.push (by omega) hs;split at hs;injection hs with hs;subst hs;exact h;split at hs;unfold kH at hs;split at hs
 rename_i a r hd;split at hs;exact(h.pop hd).2.push (h.mem a) hs;cases hs;cases hs;split at hs;unfold Dp at hs;split at hs;rename_i a v r hd;split at hs;injection hs with hs;subst hs;obtain⟨h1,h2⟩:=h.pop hd;obtain⟨h3,h4⟩:=h2.pop (a:=v) (r:=r) rfl;refine⟨λi=>?_,h4.pc,h4.data,h4.calls,h4.xa,h4.az,h4.deep⟩;simp only;split;exact h3;exact h.mem i;cases hs;cases hs;split at hs;unfold Ht at hs;split at hs
 rename_i t v r hd;injection hs with hs;subst hs;obtain⟨h1,h2⟩:=h.pop hd;obtain⟨h3,h4⟩:=h2.pop (a:=v) (r:=r) rfl;refine⟨h4.mem,?_,h4.data,h4.calls,h4.xa,h4.az,h4.deep⟩;simp only;split;exact h1;exact h.pc;cases hs;split at hs;unfold dG at hs;split at hs;rename_i t r hd;split at hs;rename_i hl;injection hs with hs;subst hs;obtain⟨h1,h2⟩:=h.pop hd;exact⟨h2.mem,h1,h2.data,λx hx=>(lc.1 hx).elim (λe=>e▸h.pc) (h.calls x),h2.xa,h2.az,by simp only[Ba];omega⟩;cases hs;cases hs;split at hs;unfold mw at hs;split at hs
 rename_i t r hd;injection hs with hs;subst hs;have h1:=h.calls;have h2:=h.deep;rw[hd] at h1 h2;exact⟨h.mem,h1 t Ce,h.data,λx hx=>h1 x (Gc _ hx),h.xa,h.az,by simp only[Ba] at h2;show r.length<=64;omega⟩;cases hs;split at hs;unfold VK at hs;split at hs
 rename_i v r hi;have h1:=h.xa;rw[hi] at h1;have h2:Dk { s with xa:=r }:=⟨h.mem,h.pc,h.data,h.calls,λx hx=>h1 x (Gc _ hx),h.az,h.deep⟩;exact h2.push (h1 v Ce) hs;exact h.push da hs;split at hs;unfold KD at hs;split at hs
 rename_i v r hd;injection hs with hs;subst hs;obtain⟨h1,h2⟩:=h.pop hd;exact⟨h2.mem,h2.pc,h2.data,h2.calls,h2.xa,h2.az,h2.deep⟩;cases hs;split at hs;cases hs;split at hs;unfold NC at hs;split at hs;rename_i b a r hd;obtain⟨h1,h2⟩:=h.pop hd;obtain⟨h3,h4⟩:=h2.pop (a:=a) (r:=r) rfl;split at hs;rename_i v hv;exact h4.push (lT h3 h1 hv) hs;cases hs;cases hs;cases hs
theorem qyV(code:Wd)(og i:Nat):Tr code og i<4294967296:=by unfold Tr;split;split;rename_i c _;have:=c.toNat_lt;omega;decide;decide
section
variable(vars ba later:List Nm)
def yu:List Nd->List ob->ob->List Nd
 |known,[],f=>known
 |known,g::l,f=>if g.name=f.name then known else yu (known++[Fi vars ba later known g]) l f
end
section
variable{vars ba later:List Nm}
theorem gX:∀ (fs:List ob) (known:List Nd),Ur vars ba later known fs=0->(fs.map (·.name)).Nodup->∀ f∈fs,Gh (Wf vars ba later (yu vars ba later known fs f) f) f.body=0
 |[],known,_,_,f,hf=>(not_mem_nil hf).elim
 |g::l,known,h,hn,f,hf=>by rw[Ur] at h;obtain⟨h1,h2⟩:=Dc.1 h;rw[jd,nodup_cons] at hn;rw[yu];rcases lc.1 hf with rfl|hf;rw[zp rfl];exact(Dc.1 h1).2;rw[zn (λe=>hn.1 (El ⟨f,hf,e.symm⟩))];exact gX l _ h2 hn.2 f hf
theorem TW:∀ (fs:List ob) (known:List Nd),(fs.map (·.name)).Nodup->∀ f∈fs,∀ k∈yu vars ba later known fs f,k∈known∨∃ g∈fs,k=Fi vars ba later (yu vars ba later known fs g) g
 |[],known,_,f,hf,k,hk=>(not_mem_nil hf).elim
 |g::l,known,hn,f,hf,k,hk=>by rw[jd,nodup_cons] at hn;rw[yu] at hk;rcases lc.1 hf with rfl|hf;rw[zp rfl] at hk;exact .inl hk;rw[zn (λe=>hn.1 (El ⟨f,hf,e.symm⟩))] at hk;rcases TW l _ hn.2 f hf k hk with h|⟨x,h1,h2⟩;rcases vj h with h|h;exact .inl h;refine .inr ⟨g,List.mem_cons_self ..,?_⟩;rw[yu,zp rfl];exact cj h;refine .inr ⟨x,Gc _ h1,?_⟩;rw[yu,zn (λe=>hn.1 (El ⟨x,h1,e.symm⟩))];exact h2
theorem qow:∀ (fs:List ob) (known:List Nd),(fs.map (·.name)).Nodup->oA vars ba later known fs=known++fs.map λg=>Fi vars ba later (yu vars ba later known fs g) g
 |[],known,_=>by simp[oA]
 |g::l,known,hn=>by rw[jd,nodup_cons] at hn;rw[oA,qow l _ hn.2,jd,Pc];congr 1;rw[List.singleton_append];congr 1;rw[yu,zp rfl];refine List.map_congr_left λx hx=>?_;rw[yu,zn (λe=>hn.1 (El ⟨x,hx,e.symm⟩))]
theorem qY(known:List Nd)(f:ob):Wk (Wf vars ba later known f) f.body<=(Fi vars ba later known f).need/\Xi (Wf vars ba later known f) f.body<=(Fi vars ba later known f).depth:=⟨Nat.le_max_right _ _,Nat.le_max_right _ _⟩
end
def zF(cc:Nm->CC):Nat->Nat->List ob->ob->Nat
 |_,i,[],_=>i
 |n,i,g::l,f=>if g.name=f.name then i else zF cc (Rj (cc g.name) n g).2 (i+(Rj (cc g.name) n g).1.length) l f
theorem J9{C:PW}{cc:Nm->CC}:∀ (fs:List ob) (n i:Nat),C.Code i (Cc cc n fs).1->(fs.map (·.name)).Nodup->∀ f∈fs,∃ nl,C.Code (zF cc n i fs f) (Rj (cc f.name) nl f).1
 |[],n,i,_,_,f,hf=>(not_mem_nil hf).elim
 |g::l,n,i,h,hn,f,hf=>by rw[jd,nodup_cons] at hn;rw[Cc] at h;obtain⟨h1,h2⟩:=h.app;rw[zF];rcases lc.1 hf with rfl|hf;rw[zp rfl];exact⟨n,h1⟩;rw[zn (λe=>hn.1 (El ⟨f,hf,e.symm⟩))];exact J9 l _ _ h2 hn.2 f hf
theorem qpO(W:List Wd)(og:Nat)(known:Wd->Nat):PW.Code ⟨W,og,known⟩ 0 W:=λk hk=>by rw[zero_add];exact di hk
def qg:List Ar->Nm->Nat
 |[],_=>0
 |a::l,x=>if a.name=x then 0 else a.size+qg l x
def Fj(l:List Ar):Nat:=(l.map (·.size)).sum
theorem bP(l:List Ar):((l.map λa=>(a.name,(a.size:Int))).map (·.2)).sum=((Fj l:Nat):Int):=by
 unfold Fj;induction l with
 |nil=>rfl
 |cons a l ih=>simp only[jd,sum_cons] at ih ⊢;rw[ih];omega
theorem qq0:∀ (l:List Ar) (at':Int) (a:Ar),a∈l->Ri at' (l.map λa=>(a.name,(a.size:Int))) a.name=at'+(qg l a.name:Nat)
 |[],at',a,h=>(not_mem_nil h).elim
 |b::l,at',a,h=>by rw[jd,Ri,qg];by_cases he:b.name=a.name;rw[zp he,zp he];simp;rw[zn he,zn he];rcases lc.1 h with rfl|h;exact absurd rfl he;rw[qq0 l _ a h];omega
theorem xL:∀ (l:List Ar),(l.map (·.name)).Nodup->∀ a∈l,qg l a.name+a.size<=Fj l
 |[],_,a,h=>(not_mem_nil h).elim
 |b::l,hn,a,h=>by
  rw[jd,nodup_cons] at hn;have ht:Fj (b::l)=b.size+Fj l:=by simp[Fj]
  rw[qg,ht];rcases lc.1 h with rfl|h;rw[zp rfl];omega;rw[zn (λe=>hn.1 (El ⟨a,h,e.symm⟩))];have:=xL l hn.2 a h;omega
theorem qol:∀ (l:List Ar),(l.map (·.name)).Nodup->∀ a∈l,∀ b∈l,a.name≠b.name->qg l a.name+a.size<=qg l b.name∨qg l b.name+b.size<=qg l a.name
 |[],_,a,h,_,_,_=>(not_mem_nil h).elim
 |x::l,hn,a,ha,b,hb,ub=>by rw[jd,nodup_cons] at hn;rw[qg,qg];rcases lc.1 ha with rfl|ha;rw[zp rfl,zn ub];left;omega;rw[zn (λe=>hn.1 (El ⟨a,ha,e.symm⟩))];rcases lc.1 hb with rfl|hb;rw[zp rfl];right;omega;rw[zn (λe=>hn.1 (El ⟨b,hb,e.symm⟩))];rcases qol l hn.2 a ha b hb ub with h|h;left;omega;right;omega
theorem qwu{l:List Ar}(h:(l.map (·.name)).Nodup){a b:Ar}(ha:a∈l)(hb:b∈l)(he:a.name=b.name):a=b:=by
 induction l with
 |nil=>cases ha
 |cons x l ih=>rw[jd,nodup_cons] at h;rcases lc.1 ha with rfl|Zn;rcases lc.1 hb with rfl|uR;rfl;exact absurd (El ⟨b,uR,he.symm⟩) h.1;rcases lc.1 hb with rfl|uR;exact absurd (El ⟨a,Zn,he⟩) h.1;exact ih h.2 Zn uR
def Ue(P:Pr):List (Nm×Int):=P.ba.map λa=>(a.name,(a.size:Int))
def Mg(P:Pr)(o:fk):List Wd:=JA P.vars (Ue P) P.funcs o
def oG(P:Pr)(o:fk):Wd->Nat:=Un (cp (λ_=>0) o.code.toNat (Mg P o))
def qi(P:Pr)(o:fk):vf where
 C:=⟨Mg P o,o.code.toNat,oG P o⟩
 P:=P
 cc:=λf=>Bp P.vars (Ue P) P.funcs o f.name
 Va:=λf=>Wf P.vars (P.ba.map (·.name)) (P.funcs.map (·.name)) (yu P.vars (P.ba.map (·.name)) (P.funcs.map (·.name)) [] P.funcs f) f
 sa:=λk=>o.scalars.toNat+3+(Ad P.vars P.funcs).idxOf k
 aa:=λn=>o.ba.toNat+qg P.ba n
 S:=o.scalars.toNat
 fst:=zF (Bp P.vars (Ue P) P.funcs o) 0 5 P.funcs
theorem jv(h:0<=z):itoa z=decDigits z.toNat:=by unfold itoa;rw[zn (by omega)]
structure sw(P:Pr)(o:fk):Prop where
 s0:0<=o.scalars
 c0:0<=o.code
 a0:0<=o.ba
 s1:o.scalars.toNat+3+(Ad P.vars P.funcs).length<=262144
 c1:o.code.toNat+40000<=262144
 a1:o.ba.toNat+Fj P.ba<=262144
 cs:o.scalars.toNat+3+(Ad P.vars P.funcs).length<=o.code.toNat∨o.code.toNat+40000<=o.scalars.toNat
 asA:0<Fj P.ba->o.scalars.toNat+3+(Ad P.vars P.funcs).length<=o.ba.toNat∨o.ba.toNat+Fj P.ba<=o.scalars.toNat
 ac:0<Fj P.ba->o.code.toNat+40000<=o.ba.toNat∨o.ba.toNat+Fj P.ba<=o.code.toNat
theorem zC{P:Pr}{o:fk}(h:Jq P.vars (Ue P) P.funcs o=true):sw P o:=by unfold Jq FG lG at h;simp only[Yc,Bool.not_eq_true',Mf,decide_eq_false_iff_not] at h;have ht:((Ue P).map (·.2)).sum=((Fj P.ba:Nat):Int):=bP P.ba;rw[ht] at h;obtain⟨⟨⟨⟨⟨h1,h2⟩,h3⟩,h4⟩,h5⟩,h6⟩:=h;constructor <;> omega
section
variable{P:Pr}{o:fk}
theorem S7(hv:Valid P)(hf:sw P o)(hm:f∈P.funcs)(name:Nm)(hk:Ub f name∈Ad P.vars P.funcs):((qi P o).cc f).sc name=decDigits ((qi P o).sa (Ub f name)):=by show itoa (Nw (Ad P.vars P.funcs) o.scalars (Gt (Ad P.vars P.funcs) f.name name))=_;have h1:Gt (Ad P.vars P.funcs) f.name name=Ub f name:=qAs hv.names hm name;have h2:=hf.s0;rw[h1];unfold Nw;rw[zp hk,jv (by omega)];show _=decDigits (o.scalars.toNat+3+_);congr 1;omega
theorem RI{l:List Nm}{k:Nm}(h:k∈l):l.idxOf k<l.length:=List.idxOf_lt_length_of_mem h
theorem qyF{l:List Nm}{k k':Nm}(h:k∈l)(h':k'∈l)(he:l.idxOf k=l.idxOf k'):k=k':=by
 have h1:l[l.idxOf k]? = some k:=by rw[di (RI h),List.getElem_idxOf]
 have h2:l[l.idxOf k']? = some k':=by rw[di (RI h'),List.getElem_idxOf]
 rw[he,h2] at h1;injection h1 with h1;exact h1.symm
theorem qzs(hc:qp P=0)(Vb:∀ f∈P.funcs,Hi f.body)(de:Jq P.vars (Ue P) P.funcs o=true)(Oj:Ts (Mg P o))(ub:∀ w∈Mg P o,w≠[])(hlen:(Uk (oG P o) (Mg P o)).length<=40000):Dd (qi P o):=by
 have hv:=IG hc;have hF:=zC de;have um:=(sv _ _ hv.names).1;have Kc:(P.funcs.map (·.name)).Nodup:=(Dm um).2.1;have SH:(P.ba.map (·.name)).Nodup:=(Dm (Dm um).1).2.1;have ll:Ur P.vars (P.ba.map (·.name)) (P.funcs.map (·.name)) [] P.funcs=0:=by
  unfold qp Uq at hc;have e1:(P.ba.map λa=>(a.name,(a.size:Int))).map (·.1)=P.ba.map (·.name):=by rw[List.map_map];try rfl
  rw[e1] at hc;exact(Dc.1 (Dc.1 (Dc.1 hc).2).2).1
 obtain⟨s0,c0,a0,s1,c1,a1,cs,O6,ac⟩:=hF;have hF:sw P o:=⟨s0,c0,a0,s1,c1,a1,cs,O6,ac⟩;have Ye:∀ f∈P.funcs,∃ nl,(qi P o).C.Code ((qi P o).fst f) (Rj ((qi P o).cc f) nl f).1:=λf hf=>by have h1:PW.Code (qi P o).C 0 ([[38,102,95,109,97,105,110],[58],itoa o.scalars,[33],[36]]++(Cc (Bp P.vars (Ue P) P.funcs o) 0 P.funcs).1):=qpO _ _ _;exact J9 P.funcs 0 5 h1.app.2 Kc f hf
 have Hh:∀ {j:Nat} {w:Wd},(Mg P o)[j]? = some w->ko (yb (Mg P o)) w:=λh=>Oj.2 _ (List.mem_of_getElem? h)
 have LH:∀ f∈P.funcs,ma ([102,95]++f.name++[58])=some ([102,95]++f.name):=λf hf=>by
  obtain⟨nl,h⟩:=Ye f hf;unfold Rj at h;simp only[List.singleton_append,cons_append,Pc] at h;have h1:(Mg P o)[(qi P o).fst f]? = some (102::(95::f.name)++[58]):=by have h0:=h.cons.1;simp only[Pc,cons_append,nil_append] at h0 ⊢;exact h0
  have h2:=aX (Hh h1) da da;simpa using h2
 refine⟨λf hf name h=>?_,λf hf name h=>?_,λf hf=>?_,λx hx=>?_,λx hx=>?_,λk hk=>?_,λk hk k' Yn h=>?_,λa ha i hi=>?_,λa ha b hb i j hi hj h=>?_,λa ha=>?_,λa ha b hb h=>?_,λf hf=>⟨gX _ _ ll Kc f hf,Vb f hf⟩,λf hf name g h=>?_,λf hf=>?_,Ye,λj n h=>?_,λj n h=>?_,LH,λf hf=>qx1 (LH f hf),λj w x hw hd=>?_⟩;have hk:Ub f name∈Ad P.vars P.funcs:=qrV hf h;exact⟨S7 hv hF hf name hk,hk⟩;unfold qy at h;split at h
 rename_i hm;obtain⟨a,h1,h2⟩:=Ei (show name∈P.ba.map (·.name) from hm);refine⟨?_,a,h1,h2⟩;show itoa (Ri o.ba (Ue P) name)=decDigits (o.ba.toNat+qg P.ba name);rw[<-h2];unfold Ue;rw[qq0 _ _ _ h1,jv (by omega)];congr 1;omega;split at h <;> cases h;show itoa o.scalars=decDigits o.scalars.toNat/\itoa (o.scalars+1)=decDigits (o.scalars.toNat+1)/\itoa (o.scalars+2)=decDigits (o.scalars.toNat+2);rw[jv s0,jv (by omega),jv (by omega)];exact⟨rfl,by congr 1;omega,by congr 1;omega⟩;rcases hx with⟨k,hk,rfl⟩|hx|⟨a,ha,i,hi,rfl⟩;have h1:(Ad P.vars P.funcs).idxOf k<_:=RI hk;show o.scalars.toNat+3+(Ad P.vars P.funcs).idxOf k<262144;omega;have h1:o.scalars.toNat<=x/\x<=o.scalars.toNat+2:=hx;omega;have h1:=xL _ SH a ha;show o.ba.toNat+qg P.ba a.name+i<262144;omega;show x<o.code.toNat∨o.code.toNat+(Uk (oG P o) (Mg P o)).length<=x;rcases hx with⟨k,hk,rfl⟩|hx|⟨a,ha,i,hi,rfl⟩;have h1:(Ad P.vars P.funcs).idxOf k<_:=RI hk;show o.scalars.toNat+3+(Ad P.vars P.funcs).idxOf k<_∨_<=o.scalars.toNat+3+(Ad P.vars P.funcs).idxOf k;omega;have h1:o.scalars.toNat<=x/\x<=o.scalars.toNat+2:=hx;omega;have h1:=xL _ SH a ha;have h2:=ac (by have:i<a.size:=hi;omega);have h3:i<a.size:=hi;show o.ba.toNat+qg P.ba a.name+i<_∨_<=o.ba.toNat+qg P.ba a.name+i;omega;exact Nat.le_add_right _ _;have h1:o.scalars.toNat+3+(Ad P.vars P.funcs).idxOf k=o.scalars.toNat+3+(Ad P.vars P.funcs).idxOf k':=h;have h2:(Ad P.vars P.funcs).idxOf k=(Ad P.vars P.funcs).idxOf k':=by omega
 exact qyF hk Yn h2;have h1:=xL _ SH a ha;have h2:=O6 (by omega);refine⟨λk hk=>?_,?_⟩;have h3:(Ad P.vars P.funcs).idxOf k<_:=RI hk;show o.scalars.toNat+3+(Ad P.vars P.funcs).idxOf k≠o.ba.toNat+qg P.ba a.name+i;omega;show ¬ (o.scalars.toNat<=o.ba.toNat+qg P.ba a.name+i/\o.ba.toNat+qg P.ba a.name+i<=o.scalars.toNat+2);omega;have h:o.ba.toNat+qg P.ba a.name+i=o.ba.toNat+qg P.ba b.name+j:=h
 by_cases he:a.name=b.name;rw[he] at h;exact⟨he,by omega⟩;rcases qol _ SH a ha b hb he with h1|h1;omega;omega;have h1:=xL _ SH a ha;show o.ba.toNat+qg P.ba a.name<1000000;omega;rw[qwu SH ha hb h]
 ·have h1:g∈yu P.vars (P.ba.map (·.name)) (P.funcs.map (·.name)) [] P.funcs f:=mem_of_find?_eq_some h;have h2:g.name=name:=Hg (List.find?_some (p:=λg:Nd=>decide (g.name=name)) h);rcases TW P.funcs [] Kc f hf g h1 with h3|⟨x,h3,h4⟩;exact(not_mem_nil h3).elim;have h5:x.name=name:=by rw[<-h2,h4];try rfl
  have h6:=zX (P:=P) Kc h3;rw[h5] at h6;show aj P name∈P.funcs/\_;rw[show(qi P o).P=P from rfl,h6,h4];exact⟨h3,h5,rfl,(qY _ x).1,(qY _ x).2⟩
 have ho:=hv.own f hf;have DB:∀ p∈f.params,Ub f p=f.name++[46]++p:=λp hp=>by unfold Ub;rw[zp (.inl hp)]
 refine⟨λp hp=>?_,?_⟩
 have hk:Ub f p∈Ad P.vars P.funcs:=by rw[DB p hp];exact(qsB hv.names hf p).2 (ap (.inl hp))
 exact⟨hk,S7 hv hF hf p hk⟩;have hn:f.params.Nodup:=(Dm ho.1).1;refine List.pairwise_map.2 (hn.imp_of_mem λ{a b} ha hb uF he=>uF ?_);rw[DB a ha,DB b hb] at he;exact List.append_cancel_left he;exact aX (c:=106) (x:=decDigits n) (Hh h) da da;exact I8 (Hh h);exact qom o.code.toNat Oj.1 ub hw hd
end
def Hf(l:List Wd):Prop:=∀ w∈l,Hj w
theorem Co:Hf []:=λw hw=>(not_mem_nil hw).elim
theorem Ij{l:List Wd}:Hf (w::l) ↔ Hj w/\Hf l:=List.forall_mem_cons
theorem yj{a b:List Wd}:Hf (a++b) ↔ Hf a/\Hf b:=List.forall_mem_append
def iX(w:Wd):Bool:=decide (w≠[]) && w.all λc=>decide (c≠10/\c≠32/\c≠35)
theorem qX(h:iX w=true):Hj w:=by unfold iX at h;rw[Yc,Mf,List.all_eq_true] at h;refine⟨h.1,λc hc=>?_⟩;have:=Hg (h.2 c hc);exact this
theorem ru{l:List Wd}(h:l.all iX=true):Hf l:=λw hw=>qX (List.all_eq_true.1 h w hw)
theorem sM(h:0<=z):Hj (itoa z):=by rw[jv h];exact IP _
theorem MY{a b:Wd}(h:Xp a)(h2:Xp b)(ub:a≠[]):Hj (a++b):=⟨λh=>ub (List.append_eq_nil_iff.1 h).1,λc hc=>(vj hc).elim (h c) (h2 c)⟩
theorem Uu{p:Prop} [Decidable p]{a b:List Wd}(h1:p->Hf a)(h2:¬ p->Hf b):Hf (if p then a else b):=by by_cases h:p;rw[zp h];exact h1 h;rw[zn h];exact h2 h
structure pD(c:CC):Prop where
 sc:∀ n,Hj (c.sc n)
 ar:∀ n,Hj (c.ar n)
 t0:Hj c.t0
 t1:Hj c.t1
 t2:Hj c.t2
theorem qwL{s:Nm}(h:Le s=true):Xp s:=by
 unfold Le at h;rw[Yc] at h;have h2:=h.2;have hi:∀ c:UInt8,Yk c=true∨yi c=true->c≠10/\c≠32/\c≠35:=λc hc=>by refine⟨?_,?_,?_⟩ <;> (rintro rfl;exact absurd hc da)
 cases s with
 |nil=>exact λc hc=>(not_mem_nil hc).elim
 |cons c r=>simp only[Yc] at h2;intro d hd;rcases lc.1 hd with rfl|hd;exact hi _ (.inl h2.1);exact hi _ (.inr (List.all_eq_true.1 h2.2 d hd))
theorem qmS(hc:pD c):Hf (Kl c):=by
 have hs:∀ {k:UInt8},(k≠10/\k≠32/\k≠35)->Hj [k]:=λh=>⟨by simp,λx hx=>by rw[cj hx];exact h⟩;unfold Kl
 repeat' first|exact hc.t1|exact hc.t2|exact hs da|exact Co|refine Ij.2 ⟨?_,?_⟩
theorem qs1(hc:pD c){op name:Nm}{num:Nat}{l:List (List Wd)}(hl:∀ ws∈l,Hf ws)(Lc:Qf op ≠ -2)(GB:op=Of->Xp name):Hf (jq c op num name l):=by
 have hh:Hf (l.headD []):=by
  cases l with
  |nil=>exact Co
  |cons a r=>exact hl a Ce
 have h2:Hf ((l.drop 1).headD []):=by
  cases l with
  |nil=>exact Co
  |cons a r=>
   cases r with
   |nil=>exact Co
   |cons b r=>exact hl b (Gc _ Ce)
 have hf:Hf l.flatten:=λw hw=>by obtain⟨ws,h1,h3⟩:=List.mem_flatten.1 hw;exact hl ws h1 w h3
 have hg:=qmS hc;have hs:∀ {k:UInt8},(k≠10/\k≠32/\k≠35)->Hj [k]:=λh=>⟨by simp,λx hx=>by rw[cj hx];exact h⟩
 have Qt:¬ (op=We)->¬ (op=Bf)->¬ (op=ij)->¬ (op=Of)->¬ (op=tg)->¬ (op=Uf)->Hj op:=by intro a1 a2 a3 a4 a5 a6;unfold Qf at Lc;rw[zn (by simp[a1,a2]),zn (by simp[a3,a5,a6]),zn a4] at Lc;split at Lc;rename_i h;exact ru (l:=dv) da op h;exact absurd rfl Lc
 unfold jq;refine Uu (λn1=>?_) λn1=>Uu (λn2=>?_) λn2=>Uu (λn3=>?_) λn3=>Uu (λn4=>?_) λn4=>Uu (λn5=>?_) λn5=>Uu (λn6=>?_) λn6=>Uu (λn7=>?_) λn7=>Uu (λn8=>?_) λn8=>Uu (λn9=>?_) λn9=>?_;exact Ij.2 ⟨IP _,Co⟩
 ·repeat' first|exact hh|exact h2|exact Co|exact hc.sc _|exact hc.ar _|exact hs da|refine Ij.2 ⟨?_,?_⟩|refine yj.2 ⟨?_,?_⟩
 ·repeat' first|exact hh|exact h2|exact Co|exact hc.sc _|exact hc.ar _|exact hs da|refine Ij.2 ⟨?_,?_⟩|refine yj.2 ⟨?_,?_⟩
 refine yj.2 ⟨hf,Uu (λ_=>ru da) λ_=>Uu (λ_=>ru da) λ_=>?_⟩;refine Ij.2 ⟨MY (λx hx=>?_) (GB n4) (by simp),ru da⟩;have:=List.all_eq_true.1 (show([38,102,95]:Wd).all (λc=>decide (c≠10/\c≠32/\c≠35))=true by decide) x hx;exact Hg this
 ·repeat' first|exact hh|exact h2|exact Co|exact hc.sc _|exact hc.ar _|exact hs da|refine Ij.2 ⟨?_,?_⟩|refine yj.2 ⟨?_,?_⟩
 ·repeat' first|exact hh|exact h2|exact Co|exact hc.sc _|exact hc.ar _|exact hs da|refine Ij.2 ⟨?_,?_⟩|refine yj.2 ⟨?_,?_⟩
 ·repeat' first|exact hh|exact h2|exact Co|exact hc.sc _|exact hc.ar _|exact hs da|refine Ij.2 ⟨?_,?_⟩|refine yj.2 ⟨?_,?_⟩
 ·repeat' first|exact hh|exact h2|exact Co|exact hc.sc _|exact hc.ar _|exact hs da|refine Ij.2 ⟨?_,?_⟩|refine yj.2 ⟨?_,?_⟩
 ·repeat' first|exact hh|exact h2|exact Co|exact hc.sc _|exact hc.ar _|exact hs da|refine Ij.2 ⟨?_,?_⟩|refine yj.2 ⟨?_,?_⟩
 refine yj.2 ⟨yj.2 ⟨hh,h2⟩,?_⟩;refine Uu (λ_=>hg) λ_=>Uu (λ_=>yj.2 ⟨hg,ru da⟩) λ_=>Uu (λ_=>ru da) λ_=>Uu (λ_=>ru da) λ_=>?_;exact Ij.2 ⟨Qt n1 n2 n3 n4 n5 n6,Co⟩
mutual
theorem qnS{c:CC}(hc:pD c){env:gb}(Kc:∀ k∈env.funcs,Xp k.name):∀ e,bf env e=0->Hf (Cb c e)
 |.mk op num name args,h=>by
  rw[bf] at h;split at h;rename_i ho;obtain⟨h1,h3⟩:=Dc.1 h;rw[Cb];refine qs1 hc (qlH hc Kc args h1) (by omega) λoe=>?_;subst oe;unfold Px at h3;rw[zn da,zn da,zp rfl] at h3;unfold yc at h3;split at h3
  rename_i e;rw[e];exact λx hx=>Hg (List.all_eq_true.1 (show([105,110]:Wd).all (λc=>decide (c≠10/\c≠32/\c≠35))=true by decide) x hx);split at h3
  rename_i e;rw[e];exact λx hx=>Hg (List.all_eq_true.1 (show([111,117,116]:Wd).all (λc=>decide (c≠10/\c≠32/\c≠35))=true by decide) x hx);unfold gb.fn at h3
  cases hf:env.funcs.find? λf=>decide (f.name=name) with
  |none=>rw[hf] at h3;simp only at h3;split at h3 <;> cases h3
  |some k=>have e:k.name=name:=Hg (List.find?_some (p:=λg:Nd=>decide (g.name=name)) hf);rw[<-e];exact Kc k (mem_of_find?_eq_some hf)
  cases h
theorem qlH{c:CC}(hc:pD c){env:gb}(Kc:∀ k∈env.funcs,Xp k.name):∀ l,Sf env l=0->∀ ws∈xb c l,Hf ws
 |[],h,ws,hw=>by rw[xb] at hw;exact(not_mem_nil hw).elim
 |x::l,h,ws,hw=>by rw[Sf] at h;obtain⟨h1,h2⟩:=Dc.1 h;rw[xb] at hw;rcases lc.1 hw with rfl|hw;exact qnS hc Kc x h1;exact qlH hc Kc l h2 ws hw
end
theorem JC(n:Nat):Hj (na n)/\Hj (38::na n)/\Hj (na n++[58]):=by
 have h:=(IP n).2;have h1:∀ {c:UInt8} {w:Wd},(c≠10/\c≠32/\c≠35)->Xp w->Xp (c::w):=λhc hw x hx=>by rcases lc.1 hx with rfl|hx;exact hc;exact hw x hx
 have h2:Xp (na n):=h1 da h;exact⟨⟨by simp[na],h2⟩,⟨by simp,h1 da h2⟩,MY h2 (h1 da λx hx=>(not_mem_nil hx).elim) (by simp[na])⟩
section
variable{c:CC}{env:gb}
theorem fJ{k:UInt8}(h:k≠10/\k≠32/\k≠35):Hj [k]:=⟨by simp,λx hx=>by rw[cj hx];exact h⟩
theorem qlx(hc:pD c)(Kc:∀ k∈env.funcs,Xp k.name){l:List Ex}(h1:l.length=1)(h:Sf env l=0):Hf (Cb c (l.headD default)):=by obtain⟨x,rfl⟩:=Hu h1;rw[Sf] at h;exact qnS hc Kc x (Dc.1 h).1
mutual
theorem qtu(hc:pD c)(Kc:∀ k∈env.funcs,Xp k.name):∀ (s:Sm) (n:Nat),xk env s=0->Hf (kg c n s).1
 |.mk kind name index value Ka fb,n,h=>by
  rw[xk] at h;by_cases hf:yh (.mk kind name index value Ka fb)=false;rw[zp hf] at h;cases h;rw[zn hf] at h;obtain⟨h1,h⟩:=Dc.1 h;obtain⟨h2,h⟩:=Dc.1 h;obtain⟨h3,h⟩:=Dc.1 h;obtain⟨h4,h5⟩:=Dc.1 h;rw[Bool.not_eq_false] at hf;unfold yh at hf;have hv:kind=1∨kind=2∨kind=3∨kind=4∨kind=5∨kind=6->Hf (Cb c (value.headD default)):=λhk=>qlx hc Kc (by
   rcases hk with rfl|rfl|rfl|rfl|rfl|rfl <;> simp at hf <;> simp[hf]) h1
  have ht:=λn=>SU hc Kc Ka n h4;have he:=λn=>SU hc Kc fb n h5;unfold kg
  by_cases k1:kind=1;rw[zp k1];exact yj.2 ⟨hv (by simp[k1]),Ij.2 ⟨hc.sc _,ru da⟩⟩;rw[zn k1];by_cases k2:kind=2;rw[zp k2];refine yj.2 ⟨hv (by simp[k2]),Ij.2 ⟨hc.ar _,yj.2 ⟨qlx hc Kc ?_ h2,ru da⟩⟩⟩;subst k2;simp at hf;simp[hf];rw[zn k2];by_cases k3:kind=3;rw[zp k3];have h8:=hv (by simp[k3]);cases fb with
  |nil=>simp only;exact yj.2 ⟨yj.2 ⟨yj.2 ⟨h8,Ij.2 ⟨(JC n).2.1,ru da⟩⟩,ht _⟩,Ij.2 ⟨(JC n).2.2,Co⟩⟩
  |cons a r=>simp only;exact yj.2 ⟨yj.2 ⟨yj.2 ⟨yj.2 ⟨yj.2 ⟨h8,Ij.2 ⟨(JC n).2.1,ru da⟩⟩,ht _⟩,Ij.2 ⟨fJ da,Ij.2 ⟨(JC (n+1)).2.1,Ij.2 ⟨fJ da,Ij.2 ⟨(JC n).2.2,Co⟩⟩⟩⟩⟩,he _⟩,Ij.2 ⟨(JC (n+1)).2.2,Co⟩⟩
  rw[zn k3];by_cases k4:kind=4;rw[zp k4];have h8:=hv (by simp[k4]);exact yj.2 ⟨yj.2 ⟨yj.2 ⟨yj.2 ⟨Ij.2 ⟨(JC n).2.2,Co⟩,h8⟩,Ij.2 ⟨(JC (n+1)).2.1,ru da⟩⟩,ht _⟩,Ij.2 ⟨fJ da,Ij.2 ⟨(JC n).2.1,Ij.2 ⟨fJ da,Ij.2 ⟨(JC (n+1)).2.2,Co⟩⟩⟩⟩⟩;rw[zn k4];by_cases k5:kind=5;rw[zp k5];exact yj.2 ⟨hv (by simp[k5]),ru da⟩;rw[zn k5];by_cases k6:kind=6;rw[zp k6];exact yj.2 ⟨hv (by simp[k6]),Ij.2 ⟨hc.t0,ru da⟩⟩;rw[zn k6];by_cases k7:kind=7;rw[zp k7];exact Ij.2 ⟨fJ da,Co⟩;rw[zn k7];exact Co
theorem SU(hc:pD c)(Kc:∀ k∈env.funcs,Xp k.name):∀ (l:List Sm) (n:Nat),Gh env l=0->Hf (Da c n l).1
 |[],n,h=>by rw[Da];exact Co
 |s::l,n,h=>by rw[Gh] at h;obtain⟨h1,h2⟩:=Dc.1 h;rw[Da];exact yj.2 ⟨qtu hc Kc s n h1,SU hc Kc l _ h2⟩
end
theorem qtS(hc:pD c)(Kc:∀ k∈env.funcs,Xp k.name)(f:ob)(n:Nat)(pq:Xp f.name)(h:Gh env f.body=0):Hf (Rj c n f).1:=by unfold Rj;simp only;refine yj.2 ⟨yj.2 ⟨yj.2 ⟨Ij.2 ⟨?_,Co⟩,λw hw=>?_⟩,SU hc Kc _ _ h⟩,ru da⟩;rw[Pc];refine MY (λx hx=>?_) (λx hx=>?_) (by simp);exact Hg (List.all_eq_true.1 (show([102,95]:Wd).all (λc=>decide (c≠10/\c≠32/\c≠35))=true by decide) x hx);rcases vj hx with h|h;exact pq x h;exact(fJ (k:=58) da).2 x h;obtain⟨p,h1,h2⟩:=List.mem_flatMap.1 hw;rcases lc.1 h2 with rfl|h2;exact hc.sc _;rw[cj h2];exact fJ da
end
theorem qld{cc:Nm->CC}(hc:∀ n,pD (cc n)):∀ (fs:List ob) (n:Nat),(∀ f∈fs,∀ m,Hf (Rj (cc f.name) m f).1)->Hf (Cc cc n fs).1
 |[],n,_=>by rw[Cc];exact Co
 |f::l,n,h=>by rw[Cc];exact yj.2 ⟨h f Ce n,qld hc l _ λg hg=>h g (Gc _ hg)⟩
section
variable{P:Pr}{o:fk}
theorem mP:∀ (l:List (Nm×Int)) (a:Int),0<=a->(∀ p∈l,0<=p.2)->∀ n,0<=Ri a l n
 |[],a,_,_,n=>by simp[Ri]
 |(x,k)::l,a,h,hl,n=>by rw[Ri];split;exact h;have:0<=k:=hl (x,k) Ce;exact mP l _ (by omega) (λp hp=>hl p (Gc _ hp)) n
theorem qpS(hF:sw P o)(own:Nm):pD (Bp P.vars (Ue P) P.funcs o own):=by have s0:=hF.s0;refine⟨λn=>?_,λn=>?_,?_,?_,?_⟩;refine sM ?_;unfold Nw;split <;> omega;refine sM (mP _ _ hF.a0 (λp hp=>?_) n);obtain⟨a,_,rfl⟩:=Ei hp;exact Int.natCast_nonneg _;exact sM s0;exact sM (z:=o.scalars+1) (by omega);exact sM (z:=o.scalars+2) (by omega)
theorem TY(hc:qp P=0)(de:Jq P.vars (Ue P) P.funcs o=true):Hf (Mg P o):=by have hv:=IG hc;have hF:=zC de;have Nl:=sv _ _ hv.names;have yp:∀ f∈P.funcs,Xp f.name:=λf hf=>qwL (Nl.2 _ (ap (.inr (El ⟨f,hf,rfl⟩)))).2;have h1:Hf ([[38,102,95,109,97,105,110],[58],itoa o.scalars,[33],[36]]:List Wd):=Ij.2 ⟨qX da,Ij.2 ⟨qX da,Ij.2 ⟨sM hF.s0,ru da⟩⟩⟩;refine yj.2 ⟨h1,qld (λn=>qpS hF n) P.funcs 0 λf hf m=>?_⟩;obtain⟨kn,k1,k2⟩:=hv.jw f hf;refine qtS (qpS hF f.name) (λk hk=>?_) f m (yp f hf) k1;obtain⟨g,g1,g2,_⟩:=k2 k hk;rw[<-g2];exact yp g g1
theorem FO{t:Wd}(Vb:∀ f∈P.funcs,Hi f.body)(h:Tj P.vars (Ue P) P.funcs o=.ok t) :
  qp P=0/\Jq P.vars (Ue P) P.funcs o=true/\t=join (Mg P o) [32]/\xj t=Mg P o/\vh t o.code=.ok (Uk (oG P o) (Mg P o),cp (λ_=>0) o.code.toNat (Mg P o))/\Dd (qi P o)/\o.code.toNat+(Uk (oG P o) (Mg P o)).length<=262144:=by
 unfold Tj at h;split at h;cases h;rename_i h1;split at h;cases h;rename_i h2;have hc:qp P=0:=by have:=Classical.not_not.1 h1;exact this
 have de:Jq P.vars (Ue P) P.funcs o=true:=by simpa using h2
 have oe:=TY hc de;have hw:xj (join (Mg P o) [32])=Mg P o:=VU oe;split at h;cases h;rename_i x hx;injection h with h;have hx:vh (join (Mg P o) [32]) o.code=.ok x:=hx;have ht:t=join (Mg P o) [32]:=h.symm;rw[ht];have sQ:=hx;unfold vh at hx;rw[hw] at hx;split at hx;cases hx;split at hx;cases hx;rename_i h4;split at hx;cases hx;rename_i h5;injection hx with hx;have hA:Ts (Mg P o):=by have:=gT (src:=join (Mg P o) [32]) (by rw[hw];exact Classical.not_not.1 h4);rwa [hw] at this
 have hlen:(Uk (oG P o) (Mg P o)).length<=40000:=Nat.le_of_not_lt h5;have hF:=zC de;refine⟨hc,de,rfl,hw,by rw[sQ,<-hx];try rfl,qzs hc Vb de hA (λw hw=>(oe w hw).1) hlen,?_⟩;have:=hF.c1;omega
end
structure SF(c:CC):Prop where
 sc:∀ n,(c.sc n).length<=10
 ar:∀ n,(c.ar n).length<=10
 t0:c.t0.length<=10
 t1:c.t1.length<=10
 t2:c.t2.length<=10
def Dq(l:List (List Wd)):Nat:=(l.map kf).sum
theorem xU(a:List Wd)(l:List (List Wd)):Dq (a::l)=kf a+Dq l:=by simp[Dq]
theorem qwp(l:List (List Wd)):kf (l.headD [])+kf ((l.drop 1).headD [])<=Dq l:=by
 cases l with
 |nil=>simp[kf,Dq]
 |cons a r=>
  rw[xU];cases r with
  |nil=>simp[kf,Dq]
  |cons b r=>rw[xU];simp only[List.headD_cons,List.drop_one,List.tail_cons];omega
theorem qqr:∀ l:List (List Wd),kf l.flatten=Dq l
 |[]=>rfl
 |a::l=>by rw[List.flatten_cons,Il,qqr l,xU]
theorem gv{p:Prop} [Decidable p]{a b:List Wd}(h1:p->kf a<=n)(h2:¬ p->kf b<=n):kf (if p then a else b)<=n:=by by_cases h:p;rw[zp h];exact h1 h;rw[zn h];exact h2 h
theorem qzA{op:Nm}(h:op∈dv):op.length<=2:=by
 have:∀ o∈dv,o.length<=2:=by decide
 exact this op h
theorem qze(hc:SF c){op name:Nm}{num:Nat}{l:List (List Wd)}(hn:num<4294967296)(Lc:Qf op ≠ -2)(GB:op=Of->name.length<=24):kf (jq c op num name l)<=60+Dq l:=by
 have hh:=qwp l;have hf:=qqr l;have hd:=yL hn;have h0:=hc.t0;have h1:=hc.t1;have h2:=hc.t2;have hs:=hc.sc name;have ha:=hc.ar name;have Qt:¬ (op=We)->¬ (op=Bf)->¬ (op=ij)->¬ (op=Of)->¬ (op=tg)->¬ (op=Uf)->op.length<=2:=by intro a1 a2 a3 a4 a5 a6;unfold Qf at Lc;rw[zn (by simp[a1,a2]),zn (by simp[a3,a5,a6]),zn a4] at Lc;split at Lc;rename_i h;exact qzA h;exact absurd rfl Lc
 have hg:kf (Kl c)<=54:=by unfold Kl;simp only[Jj,Vk,Ba,dc];omega
 unfold jq;refine gv (λn1=>?_) λn1=>gv (λn2=>?_) λn2=>gv (λn3=>?_) λn3=>gv (λn4=>?_) λn4=>gv (λn5=>?_) λn5=>gv (λn6=>?_) λn6=>gv (λn7=>?_) λn7=>gv (λn8=>?_) λn8=>gv (λn9=>?_) λn9=>?_;simp only[Jj,Vk];omega;simp only[Jj,Vk,Ba,dc];omega;simp only[Jj,Il,Vk,Ba,dc];omega;have nq:=GB n4;rw[Il,hf]
 have:kf (if name=[105,110] then ([[44]]:List Wd) else if name=[111,117,116] then [[46],[48]] else [[38,102,95]++name,[58]])<=60:=gv (λ_=>by decide) λ_=>gv (λ_=>by decide) λ_=>by simp only[Jj,Vk,ya,Ba,dc];omega
 omega;simp only[Jj,Il,Vk,Ba,dc];omega;simp only[Jj,Il,Vk,Ba,dc];omega;simp only[Jj,Il,Vk,Ba,dc];omega;simp only[Jj,Il,Vk,Ba,dc];omega;simp only[Jj,Il,Vk,Ba,dc];omega;have hb:=Qt n1 n2 n3 n4 n5 n6;rw[Il,Il];have:kf (if op=[62] then Kl c else if op=[60,61] then Kl c++[[49],[94]] else if op=[62,61] then ([[60],[49],[94]]:List Wd) else if op=[61,61] then [[94],[49],[60]] else [op])<=60:=gv (λ_=>by omega) λ_=>gv (λ_=>by
  simp only[Jj,Il,Vk,Ba,dc];omega) λ_=>gv (λ_=>by decide) λ_=>gv (λ_=>by decide) λ_=>by
  simp only[Jj,Vk];omega
 omega
mutual
theorem A'{c:CC}(hc:SF c){env:gb}(Kc:∀ k∈env.funcs,k.name.length<=24):∀ e,vi e->bf env e=0->kf (Cb c e)<=60 * Zk e
 |.mk op num name args,hn,h=>by
  rw[bf] at h;rw[vi] at hn;rw[Zk];split at h;rename_i ho;obtain⟨h1,h3⟩:=Dc.1 h;rw[Cb];have:=qqP hc Kc args hn.2 h1;have h5:=qze hc (op:=op) (name:=name) (num:=num) (l:=xb c args) hn.1 (by omega) λoe=>?_;omega;subst oe;unfold Px at h3;rw[zn da,zn da,zp rfl] at h3;unfold yc at h3;split at h3
  rename_i e;rw[e];decide;split at h3;rename_i e;rw[e];decide;unfold gb.fn at h3;cases hf:env.funcs.find? λf=>decide (f.name=name) with
  |none=>rw[hf] at h3;simp only at h3;split at h3 <;> cases h3
  |some k=>have e:k.name=name:=Hg (List.find?_some (p:=λg:Nd=>decide (g.name=name)) hf);rw[<-e];exact Kc k (mem_of_find?_eq_some hf)
  cases h
theorem qqP{c:CC}(hc:SF c){env:gb}(Kc:∀ k∈env.funcs,k.name.length<=24):∀ l,lk l->Sf env l=0->Dq (xb c l)<=60 * Fb l
 |[],_,h=>by rw[xb];exact zero_le _
 |x::l,hn,h=>by rw[Sf] at h;rw[lk] at hn;obtain⟨h1,h2⟩:=Dc.1 h;have a1:=A' hc Kc x hn.1 h1;have a2:=qqP hc Kc l hn.2 h2;rw[xb,xU,Fb];omega
end
theorem qqz(hc:SF c){env:gb}(Kc:∀ k∈env.funcs,k.name.length<=24){l:List Ex}(h1:l.length=1)(hn:lk l)(h:Sf env l=0):kf (Cb c (l.headD default))<=60 * Fb l:=by obtain⟨x,rfl⟩:=Hu h1;rw[Sf] at h;rw[lk] at hn;have:=A' hc Kc x hn.1 (Dc.1 h).1;rw[Fb];simp only[List.headD_cons];omega
theorem EL(h:n<=4000000000):(na n).length<=11:=by have:=yL (u:=n) (by omega);simp only[na,Ba];omega
mutual
theorem qyc{c:CC}(hc:SF c){env:gb}(Kc:∀ k∈env.funcs,k.name.length<=24):∀ (s:Sm) (n:Nat),Io s->xk env s=0->n+2 * vp s<=4000000000->kf (kg c n s).1<=60 * vp s/\(kg c n s).2<=n+2 * vp s
 |.mk kind name index value Ka fb,n,Sy,h,hN=>by
  rw[xk] at h;rw[Io] at Sy;rw[vp] at hN ⊢;obtain⟨m1,m2,m3,m4⟩:=Sy;by_cases hf:yh (.mk kind name index value Ka fb)=false;rw[zp hf] at h;cases h;rw[zn hf] at h;obtain⟨h1,h⟩:=Dc.1 h;obtain⟨h2,h⟩:=Dc.1 h;obtain⟨h3,h⟩:=Dc.1 h;obtain⟨h4,h5⟩:=Dc.1 h;rw[Bool.not_eq_false] at hf;unfold yh at hf;have hv:kind=1∨kind=2∨kind=3∨kind=4∨kind=5∨kind=6->kf (Cb c (value.headD default))<=60 * Fb value:=λhk=>qqz hc Kc (by
   rcases hk with rfl|rfl|rfl|rfl|rfl|rfl <;> simp at hf <;> simp[hf]) m2 h1
  have ht:=λn hn=>cU hc Kc Ka n m3 h4 hn;have he:=λn hn=>cU hc Kc fb n m4 h5 hn;have l0:=EL (n:=n) (by omega);have l1:=EL (n:=n+1) (by omega);have t0:=hc.t0;have ts:=hc.sc name;have ta:=hc.ar name;unfold kg
  by_cases k1:kind=1;have:=hv (by simp[k1]);rw[zp k1];simp only[Jj,Il,Vk,Ba,dc];omega;rw[zn k1];by_cases k2:kind=2;have:=hv (by simp[k2]);have hi:kf (Cb c (index.headD default))<=60 * Fb index:=by refine qqz hc Kc ?_ m1 h2;subst k2;simp at hf;simp[hf]
  rw[zp k2];simp only[Jj,Il,Vk,Ba,dc];omega;rw[zn k2];by_cases k3:kind=3;rw[zp k3];have h8:=hv (by simp[k3]);cases fb with
  |nil=>have h9:=ht (n+1) (by omega);simp only[Jj,Il,Vk,Ba,dc,ya];omega
  |cons a r=>have h9:=ht (n+2) (by omega);have sx:=he (Da c (n+2) Ka).2 (by omega);simp only[Jj,Il,Vk,Ba,dc,ya];omega
  rw[zn k3];by_cases k4:kind=4;rw[zp k4];have h8:=hv (by simp[k4]);have h9:=ht (n+2) (by omega);simp only[Jj,Il,Vk,Ba,dc,ya];omega;rw[zn k4];by_cases k5:kind=5;have:=hv (by simp[k5]);rw[zp k5];simp only[Jj,Il,Vk,Ba,dc];omega;rw[zn k5];by_cases k6:kind=6;have:=hv (by simp[k6]);rw[zp k6];simp only[Jj,Il,Vk,Ba,dc];omega;rw[zn k6];by_cases k7:kind=7;rw[zp k7];simp only[Jj,Vk,Ba,dc];omega;rw[zn k7];simp only[Vk];omega
theorem cU{c:CC}(hc:SF c){env:gb}(Kc:∀ k∈env.funcs,k.name.length<=24):∀ (l:List Sm) (n:Nat),Hi l->Gh env l=0->n+2 * pd l<=4000000000->kf (Da c n l).1<=60 * pd l/\(Da c n l).2<=n+2 * pd l
 |[],n,_,h,_=>by rw[Da];simp[Vk]
 |s::l,n,Sy,h,hN=>by rw[Gh] at h;rw[Hi] at Sy;rw[pd] at hN ⊢;obtain⟨h1,h2⟩:=Dc.1 h;have a1:=qyc hc Kc s n Sy.1 h1 (by omega);have a2:=cU hc Kc l (kg c n s).2 Sy.2 h2 (by omega);rw[Da];simp only[Il];omega
end
theorem qnU{c:CC}(hc:SF c):∀ l:List Nm,kf (l.flatMap λp=>[c.sc p,[33]])<=20 * l.length
 |[]=>Nb _
 |p::l=>by have:=qnU hc l;have:=hc.sc p;rw[List.flatMap_cons,Il];simp only[Jj,Vk,Ba,dc];omega
theorem qxN(hc:SF c){env:gb}(Kc:∀ k∈env.funcs,k.name.length<=24)(f:ob)(n:Nat)(pq:f.name.length<=24)(Sy:Hi f.body)(h:Gh env f.body=0)(hN:n+2 * kq f<=4000000000):kf (Rj c n f).1<=60 * kq f/\(Rj c n f).2<=n+2 * kq f:=by unfold kq at hN ⊢;have h1:=cU hc Kc f.body n Sy h (by omega);have h2:=qnU hc f.params.reverse;rw[List.length_reverse] at h2;unfold Rj;simp only[Jj,Il,Vk,Ba,dc,ya];omega
theorem qpT{cc:Nm->CC}:∀ (fs:List ob) (n:Nat),(∀ f∈fs,∀ m,m+2 * kq f<=4000000000->kf (Rj (cc f.name) m f).1<=60 * kq f/\(Rj (cc f.name) m f).2<=m+2 * kq f)->n+2 * Qd fs<=4000000000->kf (Cc cc n fs).1<=60 * Qd fs/\(Cc cc n fs).2<=n+2 * Qd fs
 |[],n,_,_=>by rw[Cc];simp[Vk]
 |f::l,n,h,hN=>by rw[Qd] at hN ⊢;have a1:=h f Ce n (by omega);have a2:=qpT l (Rj (cc f.name) n f).2 (λg hg=>h g (Gc _ hg)) (by omega);rw[Cc];simp only[Il];omega
section
variable{P:Pr}{o:fk}
theorem YL(h:0<=z)(h2:z<4294967296):(itoa z).length<=10:=by rw[jv h];exact yL (by omega)
theorem CL:∀ (l:List (Nm×Int)) (a:Int),0<=a->(∀ p∈l,0<=p.2)->∀ n,Ri a l n<=a+(l.map (·.2)).sum
 |[],a,h,_,n=>by simp[Ri];exact h
 |(x,k)::l,a,h,hl,n=>by
  have hk:0<=k:=hl (x,k) Ce;have kx:=λp hp=>hl p (Gc (x,k) hp)
  have hs:∀ m:List (Nm×Int),(∀ p∈m,0<=p.2)->0<=(m.map (·.2)).sum:=by
   intro m;induction m with
   |nil=>intro _;simp
   |cons q m ih=>intro hm;have h1:=hm q Ce;have h2:=ih λp hp=>hm p (Gc _ hp);rw[jd,sum_cons];omega
  have lr:=hs l kx;rw[Ri,jd,sum_cons];split;show a<=a+(k+_);omega;have:=CL l (a+k) (by omega) kx n;show _<=a+(k+_);omega
theorem qwH(hF:sw P o)(own:Nm):SF (Bp P.vars (Ue P) P.funcs o own):=by
 have s0:=hF.s0;have s1:=hF.s1;have a0:=hF.a0;have a1:=hF.a1;have hp:∀ p∈Ue P,0<=p.2:=λp hp=>by obtain⟨a,_,rfl⟩:=Ei hp;exact Int.natCast_nonneg _
 refine⟨λn=>?_,λn=>?_,?_,?_,?_⟩;refine YL ?_ ?_;unfold Nw;split <;> omega;unfold Nw;split
 rename_i h;have:=List.idxOf_lt_length_of_mem h;omega;omega;refine YL (mP _ _ a0 hp n) ?_;have h1:=CL (Ue P) o.ba a0 hp n;have h2:((Ue P).map (·.2)).sum=((Fj P.ba:Nat):Int):=bP P.ba;rw[h2] at h1;omega;exact YL s0 (by omega);exact YL (z:=o.scalars+1) (by omega) (by omega);exact YL (z:=o.scalars+2) (by omega) (by omega)
theorem DX(hc:qp P=0)(Vb:∀ f∈P.funcs,Hi f.body)(de:Jq P.vars (Ue P) P.funcs o=true)(dh:Qd P.funcs<=2000000):kf (Mg P o)<=60+60 * Qd P.funcs/\(Cc (Bp P.vars (Ue P) P.funcs o) 0 P.funcs).2<=2 * Qd P.funcs:=by
 have hv:=IG hc;have hF:=zC de;have Nl:=sv _ _ hv.names;have yp:∀ f∈P.funcs,f.name.length<=24:=λf hf=>by have h:=(Nl.2 _ (ap (.inr (El ⟨f,hf,rfl⟩)))).2;unfold Le at h;rw[Yc,Yc,Mf] at h;exact h.1.1
 have hb:=qpT (cc:=Bp P.vars (Ue P) P.funcs o) P.funcs 0 (λf hf m hm=>by
  obtain⟨kn,k1,k2⟩:=hv.jw f hf;refine qxN (qwH hF f.name) (λk hk=>?_) f m (yp f hf) (Vb f hf) k1 hm;obtain⟨g,g1,g2,_⟩:=k2 k hk;rw[<-g2];exact yp g g1) (by omega)
 have ht:=YL (z:=o.scalars) hF.s0 (by have:=hF.s1;omega);refine⟨?_,by omega⟩;unfold Mg JA;rw[Il];simp only[Jj,Vk,Ba,dc];omega
end
def Th(vars:List Nm)(ba:List (Nm×Int))(fs:List ob):Pr:=⟨vars,ba.map λa=>⟨a.1,a.2.toNat⟩,fs⟩
theorem qul{ba:List (Nm×Int)}{fs:List ob}(h:∀ a∈ba,0<=a.2):Ue (Th vars ba fs)=ba:=by
 unfold Ue Th;simp only[List.map_map]
 conv=>rhs;rw[<-List.map_id ba]
 refine List.map_congr_left λa ha=>?_;have:=h a ha;simp only[Function.comp,id];rw[Int.toNat_of_nonneg this]
theorem qoh:∀ (l:List Int) (t:Int),0<=t->t<=150000->bE t l=0->t+l.sum<=150000/\∀ n∈l,0<n
 |[],t,h0,h1,_=>by rw[List.sum_nil];exact⟨by omega,λn hn=>(not_mem_nil hn).elim⟩
 |a::l,t,h0,h1,h=>by rw[bE] at h;split at h;cases h;split at h;cases h;obtain⟨g1,g2⟩:=qoh l (t+a) (by omega) (by omega) h;rw[sum_cons];refine⟨by omega,λn hn=>?_⟩;rcases lc.1 hn with rfl|hn;omega;exact g2 n hn
theorem qoX{ba:List (Nm×Int)}{fs:List ob}(h:Uq vars ba fs=0):(ba.map (·.2)).sum<=150000/\(∀ a∈ba,0<a.2)/\Ue (Th vars ba fs)=ba/\qp (Th vars ba fs)=0/\Valid (Th vars ba fs):=by
 have h0:=h;unfold Uq at h;obtain⟨h1,h⟩:=Dc.1 h;obtain⟨h2,h⟩:=Dc.1 h;obtain⟨s1,s2⟩:=qoh _ 0 da da h2;have hp:∀ a∈ba,0<a.2:=λa ha=>s2 a.2 (List.mem_map_of_mem ha);have ha:=qul (vars:=vars) (fs:=fs) λa ha=>Int.le_of_lt (hp a ha)
 have hc:qp (Th vars ba fs)=0:=by have:(Th vars ba fs).ba.map (λa=>(a.name,(a.size:Int)))=ba:=ha;unfold qp;rw[this];exact h0
 exact⟨by omega,hp,ha,hc,IG hc⟩
def jg:Int->List (Nm×Int)->List (Nm×Int)
 |_,[]=>[]
 |a,(x,n)::r=>(x,a)::jg (a+n) r
theorem qlQ:∀ (l:List (Nm×Int)) (a:Int),(jg a l).map (·.1)=l.map (·.1)
 |[],_=>rfl
 |(x,n)::r,a=>by rw[jg,jd,jd,qlQ r]
theorem RX:∀ (l:List (Nm×Int)) (a:Int),(jg a l).length=l.length
 |[],_=>rfl
 |(x,n)::r,a=>by rw[jg,Ba,Ba,RX r]
theorem qqq:∀ (l m:List (Nm×Int)) (a:Int),jg a (l++m)=jg a l++jg (a+(l.map (·.2)).sum) m
 |[],m,a=>by simp[jg]
 |(x,n)::r,m,a=>by rw[cons_append,jg,qqq r m,jg,cons_append,jd,sum_cons,Int.add_assoc]
def AG(r:Int×Int):Bool:=FG r.1 r.2
def NI(r s:Int×Int):Bool:=lG r.1 r.2 s.1 s.2
def RB:List (Int×Int)->List (Int×Int)->Bool
 |_,[]=>true
 |prev,r::rest=>AG r && (prev.all λs=>!NI r s) && RB (prev++[r]) rest
theorem qyy(vars:List Nm)(ba:List (Nm×Int))(fs:List ob)(o:fk):Jq vars ba fs o=RB [] [(o.scalars,3+((Ad vars fs).length:Nat)),(o.code,40000),(o.ba,(ba.map (·.2)).sum)]:=by unfold Jq RB RB RB RB AG NI;simp only[List.all_nil,nil_append,all_cons,List.singleton_append,cons_append,Bool.and_true];generalize FG o.scalars _=a;generalize FG o.code 40000=b;generalize FG o.ba _=c;generalize lG o.code 40000 o.scalars _=d;generalize lG o.ba _ o.scalars _=e;generalize lG o.ba _ o.code 40000=f;revert a b c d e f;decide
section
variable{P:Pr}{o o':fk}{t t' x x':Wd}{Za mH:List (Wd×Nat)}
end
theorem qoG{known:Wd->Nat}{w:Wd}(h:ko ds w)(hd:ma w=none):∀ c∈Ke known w,xz.contains c=true:=by
 unfold ko at h;rw[hd] at h;unfold Ke;cases hr:La w with
 |some x=>intro c hc;exact qlp ((BP (known x)).2 c hc)
 |none=>rw[hr] at h;simp only at h;exact λc hc=>List.all_eq_true.1 h c hc
theorem qkz{ds:List Wd}{known:Wd->Nat}:∀ (l:List Wd) (t:Wd),(∀ w∈l,ko ds w)->(∀ c∈t,xz.contains c=true∨c=32)->∀ c∈l.foldl (Yd known) t,xz.contains c=true∨c=32
 |[],t,_,h=>h
 |w::l,t,hw,h=>by
  rw[foldl_cons];refine qkz l _ (λx hx=>hw x (Gc _ hx)) λc hc=>?_;unfold Yd at hc
  cases hd:ma w with
  |some y=>rw[hd] at hc;exact h c hc
  |none=>rw[hd] at hc;simp only at hc;rcases vj hc with hc|hc;rcases vj hc with hc|hc;exact h c hc;split at hc;exact .inr (cj hc);exact(not_mem_nil hc).elim;exact .inl (qoG (hw w Ce) hd c hc)
theorem qnb{x:Wd}{og:Int}{Za:List (Wd×Nat)}(h:vh src og=.ok (x,Za)):x.length<=40000/\(yb (xj src)).Nodup/\∀ c∈x,xz.contains c=true∨c=32:=by unfold vh at h;split at h;cases h;split at h;cases h;rename_i h1;split at h;cases h;rename_i h2;injection h with h;injection h with h _;have hA:=gT (Classical.not_not.1 h1);refine⟨by rw[<-h];exact Nat.le_of_not_lt h2,hA.1,?_⟩;rw[<-h];exact qkz _ _ hA.2 λc hc=>(not_mem_nil hc).elim
theorem MU(all:List Wd):∀ (l:List (Wd×Nat)) (met:List Wd),(ze all met l).2=0∨(ze all met l).2=8∨(ze all met l).2=7∨(ze all met l).2=3
 |[],met=>.inl rfl
 |(w,ln)::r,met=>by
  rw[ze];cases hd:ma w with
  |some x=>simp only;split;exact .inr (.inl rfl);exact MU all r _
  |none=>
   simp only;cases hr:La w with
   |some x=>simp only;split;exact MU all r _;exact .inr (.inr (.inl rfl))
   |none=>simp only;split;exact MU all r _;exact .inr (.inr (.inr rfl))
theorem qvE{og:Int}(h:0<=og/\og<262144){e:Nat×Nat}(he:vh src og=.error e):e.2=8∨e.2=7∨e.2=3∨e.2=6:=by unfold vh at he;split at he;omega;split at he;rename_i h1;injection he with he;rw[<-he];rcases MU (yb (xj src)) (nu src) [] with h2|h2|h2|h2;exact absurd h2 h1;exact .inl h2;exact .inr (.inl h2);exact .inr (.inr (.inl h2));split at he;injection he with he;rw[<-he];exact .inr (.inr (.inr rfl));cases he
section
variable{vars:List Nm}{ba:List (Nm×Int)}{fs:List ob}{o:fk}
end
section
variable{W:List Wd}{ok:Nat->Bool}{w x:Wd}{r:List Wd}
end
theorem qve{op:Wd}(h:Bo a op b=some n):∃ c:UInt8,op=[c]/\Xb c/\ad c.toNat a b=some n:=by unfold Bo at h;unfold Xb;split at h;rename_i e;exact⟨43,e,by decide,h⟩;split at h;rename_i e;exact⟨45,e,by decide,h⟩;split at h;rename_i e;exact⟨42,e,by decide,h⟩;split at h;rename_i e;exact⟨94,e,by decide,h⟩;split at h;rename_i e;refine⟨60,e,by decide,?_⟩;rw[<-h];unfold ad;simp;split at h;rename_i e;exact⟨47,e,by decide,h⟩;split at h;rename_i e;exact⟨37,e,by decide,h⟩;cases h
section
variable{W W':List Wd}{ok ok':Nat->Bool}{r q:List Wd}
theorem qoY{c:UInt8}(hc:c=43∨c=42∨c=94)(a x y:Nat):∃ u z,ad c.toNat a x=some u/\ad c.toNat x y=some z/\ad c.toNat u y=ad c.toNat a z:=by rcases hc with rfl|rfl|rfl;refine⟨_,_,rfl,rfl,?_⟩;unfold ad;simp[Nat.add_assoc];refine⟨_,_,rfl,rfl,?_⟩;unfold ad;simp[Nat.mul_assoc];refine⟨_,_,rfl,rfl,?_⟩;unfold ad;simp[Nat.xor_assoc]
end
open Go.Lib (decDigits)
theorem PW.VR{C:PW}{s:MS}{i:Nat}(hk:C.Ok s.mem)(h:C.At s i)(hw:C.W[i]? = some w)(hd:ma w=none)(ub:Ke C.known w≠[])(hg:∀ c∈Ke C.known w,Rd c=true)(hv:Ig 0 (Ke C.known w)<4294967296)(Na:s.data.length<256) :
  (C.Uc i<=C.Uc (i+1)/\wh (C.Uc (i+1)-C.Uc i) s { s with pc:=C.Uc (i+1),data:=Ig 0 (Ke C.known w)::s.data,digit:=true })/\sf (C.pre (i+1))=true:=by
 obtain⟨h1,h2,h3⟩:=C.piece hk hw hd;have hf:Jl (Ke C.known w)=true:=by
  cases hp:Ke C.known w with
  |nil=>exact absurd hp ub
  |cons c r=>exact hg c (by rw[hp];simp)
 have hl:sf (C.pre (i+1))=true:=by rw[h1,zY ub];unfold sf;rw[List.getLast?_eq_some_getLast ub];exact hg _ (List.getLast_mem ub)
 refine⟨?_,hl⟩;obtain⟨Np,Ap⟩:=h;have tm:C.Uc (i+1)=C.Uc i+(if sf (C.pre i) && Jl (Ke C.known w) then [32] else []:Wd).length+(Ke C.known w).length:=by unfold PW.Uc;rw[h1,ya,ya];omega
 rw[hf,Bool.and_true] at h2 tm;refine⟨by omega,?_⟩;by_cases Iz:sf (C.pre i)=true
 ·rw[zp Iz] at h2 tm;obtain⟨m1,m2⟩:=h2.app;have m0:=m1 0 (by simp);simp only[Nat.add_zero,List.getElem_cons_zero] at m0;simp only[Ba,dc] at tm m2
  have gl:Sa s=.run { s with pc:=s.pc+1,digit:=false }:=by unfold Sa;rw[zp (by rw[Np];omega),Np,m0];unfold yd;rw[zn da,zp da];try rfl
  have xm:=qqR (s:={ s with pc:=s.pc+1,digit:=false }) ub hg rfl Na (by simp only;rw[Np];exact m2) (by simp only;rw[Np];omega) hv;have:=(wh.one gl).trans xm;simp only at this;rw[show C.Uc (i+1)-C.Uc i=1+(Ke C.known w).length by omega,tm,<-Np];exact this
 rw[zn Iz] at h2 tm;rw[nil_append] at h2;have hdf:s.digit=false:=by
  cases hx:s.digit with
  |false=>rfl
  |true=>exact absurd (Ap hx) Iz
 have xm:=qqR (s:=s) ub hg hdf Na (by rw[Np];exact h2) (by rw[Np];simp only[dc] at tm;omega) hv;simp only[dc,Nat.add_zero] at tm;rw[show C.Uc (i+1)-C.Uc i=(Ke C.known w).length by omega,tm,<-Np];exact xm
theorem PW.lA{C:PW}{mem:Nat->Nat}{i:Nat}{c:UInt8}(hk:C.Ok mem)(hw:C.W[i]? = some [c])(hd:ma [c]=none)(hr:La [c]=none)(hc:Rd c=false):C.Uc (i+1)=C.Uc i+1:=by
 obtain⟨h1,h2,h3⟩:=C.piece hk hw hd;have hp:Ke C.known [c]=[c]:=by unfold Ke;rw[hr]
 have hf:Jl [c]=false:=hc;rw[hp,hf,Bool.and_false,zn da,Jd] at h1;unfold PW.Uc;rw[h1,ya];try rfl
end Go.ea
namespace Go.ea.Wi
open Go.Lib
variable{a b i k n v:Nat}{c:UInt8}{r:List Wd}{w x:Wd}
structure PW where
 W:List Wd
 D:Nat->Bool
structure MS where
 mem:Nat->Nat
 pc:List Wd
 data:List Nat
 calls:List (List Wd)
 xa:List Nat
 out:Wd
 digit:Bool
variable{m m' s s':MS}
inductive MR where
 |run (s:MS)
 |stop (e:Nat) (out:Wd)
def Xj(x:Wd):List Wd->Option (List Wd)
 |[]=>none
 |w::r=>if ma w=some x then some r else Xj x r
def lost(s:MS):MR:=.stop 99 s.out
def Vl(s:MS)(r:List Wd)(d:List Nat)(n:Nat)(f:Bool):MR:=if d.length<256 then .run { s with pc:=r,data:=n::d,digit:=f } else lost s
def EI(D:Nat->Bool)(s:MS)(r:List Wd):MR:=match s.data with
 |a::d=>if D a=true then Vl s r d (s.mem a) false else lost s
 |[]=>lost s
def QI(D:Nat->Bool)(s:MS)(r:List Wd):MR:=match s.data with
 |a::x::d=>if D a=true then .run { s with pc:=r,data:=d,mem:=λi=>if i=a then x else s.mem i,digit:=false } else lost s
 |_=>lost s
def gG(s:MS):MR:=match s.calls with
 |k::l=>.run { s with pc:=k,calls:=l,digit:=false }
 |[]=>lost s
def DO(s:MS)(r:List Wd):MR:=match s.data with
 |x::d=>.run { s with pc:=r,data:=d,out:=s.out++[UInt8.ofNat x],digit:=false }
 |[]=>lost s
def yk(s:MS)(c:UInt8)(r:List Wd):MR:=match s.data with
 |b::a::d=>(match ad c.toNat a b with
  |some x=>Vl s r d x false
  |none=>.stop 12 s.out)
 |_=>lost s
def qu(D:Nat->Bool)(s:MS)(c:UInt8)(r:List Wd):MR:=
 if c=64 then EI D s r
 else if c=33 then QI D s r
 else if c=59 then gG s
 else if c=44 then Vl { s with xa:=s.xa.tail } r s.data (s.xa.headD 4294967295) false
 else if c=46 then DO s r
 else if c=36 then .stop 0 s.out
 else if c=43∨c=45∨c=42∨c=47∨c=37∨c=94∨c=60 then yk s c r
 else lost s
def cG(s:MS)(k r:List Wd):MR:=match s.data with
 |a::d=>.run { s with pc:=if a=0 then k else r,data:=d,digit:=false }
 |[]=>lost s
def dy(C:PW)(s:MS)(x:Wd)(r:List Wd):MR:=match Xj x C.W,r with
 |some k,o::r=>if s.data.length<256 then (if o=[63] then cG s k r else if o=[58] then (if s.calls.length<64 then .run { s with pc:=k,calls:=r::s.calls,digit:=false } else lost s) else lost s) else lost s
 |_,_=>lost s
def my(C:PW)(s:MS)(w:Wd)(r:List Wd):MR:=match ma w with
 |some _=>.run { s with pc:=r }
 |none=>match ib w with
  |some n=>Vl s r s.data n true
  |none=>match La w with
   |some x=>dy C s x r
   |none=>match w with
    |[c]=>qu C.D s c r
    |_=>lost s
def Sa(C:PW)(s:MS):MR:=match s.pc with
 |[]=>lost s
 |w::r=>my C s w r
def qA(f:Bool)(w:Wd):Nat:=if (ma w).isSome=true then 0 else if (ib w).isSome=true then w.length+one f else if (La w).isSome=true then 7+one f else 1
def ji(s:MS):Nat:=qA s.digit (s.pc.headD [])
inductive wh (C:PW):Nat->MS->MS->Prop
 |zero (s:MS):wh C 0 s s
 |step {k:Nat} {s s' s2:MS}:Sa C s=.run s'->wh C k s' s2->wh C (ji s+k) s s2
section
variable{C:PW}
theorem wh.one(h:Sa C s=.run s'):wh C (ji s) s s':=.step h (.zero _)
theorem wh.trans{s2:MS}(h:wh C a s s')(k:wh C b s' s2):wh C (a+b) s s2:=by
 induction h with
 |zero s=>rw[zero_add];exact k
 |step h1 _ ih=>rw[Nat.add_assoc];exact .step h1 (ih k)
def pf(C:PW)(m:Nat)(s s':MS):Prop:=∃ k,k<=m/\wh C k s s'
theorem pf.refl(s:MS):pf C 0 s s:=⟨0,Nb _,.zero _⟩
theorem pf.trans{a b:Nat}{s s' s2:MS}(h:pf C a s s')(k:pf C b s' s2):pf C (a+b) s s2:=by obtain⟨i,h1,h2⟩:=h;obtain⟨j,k1,k2⟩:=k;exact⟨i+j,by omega,h2.trans k2⟩
theorem pf.mono(h:pf C a s s')(uF:a<=b):pf C b s s':=by obtain⟨i,h1,h2⟩:=h;exact⟨i,by omega,h2⟩
def PW.Uc(C:PW)(i:Nat):List Wd:=C.W.drop i
def PW.At(C:PW)(s:MS)(i:Nat):Prop:=∃ ds,s.pc=ds++C.Uc i/\∀ w∈ds,(ma w).isSome=true
def PW.Ok(C:PW)(mem:Nat->Nat):Prop:=True
def PW.Code(C:PW)(i:Nat)(ws:List Wd):Prop:=∀ k (h:k<ws.length),C.W[i+k]? = some ws[k]
theorem PW.Code.app{a b:List Wd}(h:C.Code i (a++b)):C.Code i a/\C.Code (i+a.length) b:=by constructor;intro k hk;have:=h k (by rw[ya];omega);rwa [List.getElem_append_left hk] at this;intro k hk;have:=h (a.length+k) (by rw[ya];omega);rw[List.getElem_append_right (by omega)] at this;rw[Nat.add_assoc];simpa using this
theorem PW.Code.cons{b:List Wd}(h:C.Code i (w::b)):C.W[i]? = some w/\C.Code (i+1) b:=by have h1:=PW.Code.app (a:=[w]) (b:=b) h;have h2:=h1.1 0 (by simp);exact⟨by simpa using h2,h1.2⟩
def PW.put(C:PW)(s:MS)(i:Nat)(d:List Nat):MS:={ s with pc:=C.Uc i,data:=d,digit:=false }
theorem PW.HA(C:PW)(s:MS)(i:Nat)(d:List Nat):C.At (C.put s i d) i:=⟨[],rfl,λw hw=>by cases hw⟩
theorem PW.gh(h:s.pc=C.Uc i):C.At s i:=⟨[],h,λw hw=>by cases hw⟩
theorem dU(hw:C.W[i]? = some w):C.Uc i=w::C.Uc (i+1):=by obtain⟨hi,rfl⟩:=List.getElem?_eq_some_iff.1 hw;exact List.drop_eq_getElem_cons hi
theorem ak(hv:s.pc=w::r):Sa C s=my C s w r:=by unfold Sa;rw[hv]
theorem tU(hv:s.pc=w::r)(h:ma w=some x):Sa C s=.run { s with pc:=r }:=by unfold Sa my;rw[hv];simp only;rw[h]
theorem fP(hv:s.pc=w::r)(h:ma w=some x):ji s=0:=by unfold ji qA;rw[hv];simp[h]
theorem NY:∀ (ds:List Wd) (s:MS) (r:List Wd),s.pc=ds++r->(∀ w∈ds,(ma w).isSome=true)->wh C 0 s { s with pc:=r }
 |[],s,r,h,_=>by
  have:s={ s with pc:=r }:=by rw[<-show s.pc=r from h]
  rw[<-this];exact .zero s
 |w::ds,s,r,h,hd=>by obtain⟨x,hx⟩:=zR (hd w Ce);have h1:=wh.step (tU (C:=C) h hx) (NY ds { s with pc:=ds++r } r rfl λy hy=>hd y (Gc _ hy));rw[fP h hx] at h1;exact h1
theorem PW.eS(h:C.At s i)(hw:C.W[i]? = some w)(hd:ma w=some x):C.At s (i+1):=by obtain⟨ds,h1,h2⟩:=h;refine⟨ds++[w],by rw[h1,dU hw,Pc];try rfl,λy hy=>?_⟩;rcases vj hy with hy|hy;exact h2 y hy;rw[cj hy,hd];try rfl
theorem PW.ahead(h:C.At s i)(hw:C.W[i]? = some w):wh C 0 s { s with pc:=w::C.Uc (i+1) }:=by obtain⟨ds,h1,h2⟩:=h;rw[dU hw] at h1;exact NY ds s _ h1 h2
theorem PW.once{m:Nat}(h:C.At s i)(hw:C.W[i]? = some w)(hs:Sa C { s with pc:=w::C.Uc (i+1) }=.run s')(hc:qA s.digit w<=m):pf C m s s':=by have h1:=(PW.ahead h hw).trans (.one hs);rw[zero_add] at h1;exact⟨_,hc,h1⟩
theorem ZY{w:Wd}(h:ib w=some n):w≠[]/\∀ c∈w,Rd c=true:=by obtain⟨h1,h2⟩:=(FA w n).1 h;rw[<-h2];exact⟨qJ n,mM n⟩
theorem pZ(h:Rd c=false):ib [c]=none:=by
 cases hn:ib [c] with
 |none=>rfl
 |some n=>have h1:=(ZY hn).2 c (Cp rfl);rw[h] at h1;cases h1
theorem bq(h:ib w=some n):ma w=none/\La w=none:=by have:=VO h;exact⟨this.1,this.2⟩
theorem JU(h:La w=some x):ib w=none:=by
 cases hn:ib w with
 |none=>rfl
 |some n=>rw[(bq hn).2] at h;cases h
theorem bJ(h:ib w=some n):my C s w r=Vl s r s.data n true:=by unfold my;rw[(bq h).1];simp only;rw[h]
theorem aJ{f:Bool}(h:ib w=some n):qA f w=w.length+one f:=by unfold qA;rw[(bq h).1,h];try rfl
theorem qE(h:La w=some x):my C s w r=dy C s x r:=by unfold my;rw[As h];simp only;rw[JU h];simp only;rw[h]
theorem QG{f:Bool}(h:La w=some x):qA f w=7+one f:=by unfold qA;rw[As h,JU h,h];try rfl
abbrev Tk:Wd:=[43,45,42,47,37,94,60,64,33,63,58,59,44,46,36]
theorem tv(h:c∈Tk):my C s [c] r=qu C.D s c r:=by obtain⟨e1,e2,e3⟩:=Sw h;unfold my;rw[e1];simp only;rw[pZ e3];simp only;rw[e2]
theorem GY{f:Bool}(h:c∈Tk):qA f [c]=1:=by obtain⟨e1,e2,e3⟩:=Sw h;unfold qA;rw[e1,pZ e3,e2];try rfl
theorem Qw(h:Xb c):c∈Tk:=by unfold Xb at h;rcases h with rfl|rfl|rfl|rfl|rfl|rfl|rfl <;> decide
theorem SO{D:Nat->Bool}(h:Xb c):qu D s c r=yk s c r:=by unfold Xb at h;unfold qu;rcases h with rfl|rfl|rfl|rfl|rfl|rfl|rfl <;> rfl
theorem uX(f:Bool):Go.ea.one f<=1:=Go.ea.one_le f
section
variable{s:MS}{i:Nat}
theorem PW.num(h:C.At s i){m:Nat}(hw:C.W[i]? = some (decDigits n))(hn:n<4294967296)(Na:s.data.length<256)(hm:(decDigits n).length+1<=m):pf C m s { s with pc:=C.Uc (i+1),data:=n::s.data,digit:=true }:=by have hN:=nE hn;refine PW.once h hw ?_ (by rw[aJ hN];have:=uX s.digit;omega);rw[ak rfl,bJ hN];unfold Vl;rw[zp Na]
theorem PW.load(h:C.At s i)(hw:C.W[i]? = some [64]){r:List Nat}(hd:s.data=a::r)(ha:C.D a=true)(Na:r.length<256):pf C 1 s (C.put s (i+1) (s.mem a::r)):=by refine aA ?_;rw[ak rfl,tv da];show EI C.D _ _=_;unfold EI Vl;simp[hd,ha,Na,PW.put]
theorem PW.store(h:C.At s i)(hw:C.W[i]? = some [33]){r:List Nat}(hd:s.data=a::v::r)(ha:C.D a=true):pf C 1 s { C.put s (i+1) r with mem:=λi=>if i=a then v else s.mem i }:=by refine aA ?_;rw[ak rfl,tv da];show QI C.D _ _=_;unfold QI;simp[hd,ha,PW.put]
theorem PW.back(h:C.At s i)(hw:C.W[i]? = some [59]){t:List Wd}{r:List (List Wd)}(hd:s.calls=t::r):pf C 1 s { s with pc:=t,calls:=r,digit:=false }:=by refine aA ?_;rw[ak rfl,tv da];show gG _=_;unfold gG;simp[hd]
theorem PW.read(h:C.At s i)(hw:C.W[i]? = some [44])(Na:s.data.length<256):pf C 1 s { C.put s (i+1) ((s.xa.headD 4294967295)::s.data) with xa:=s.xa.tail }:=by refine aA ?_;rw[ak rfl,tv da];show Vl _ _ _ _ _=_;unfold Vl;simp[Na,PW.put]
theorem PW.write(h:C.At s i)(hw:C.W[i]? = some [46]){r:List Nat}(hd:s.data=v::r):pf C 1 s { C.put s (i+1) r with out:=s.out++[UInt8.ofNat v] }:=by refine aA ?_;rw[ak rfl,tv da];show DO _ _=_;unfold DO;simp[hd,PW.put]
theorem PW.halt(h:C.At s i)(hw:C.W[i]? = some [36]):∃ m,wh C 0 s m/\Sa C m=.stop 0 s.out:=by refine⟨_,PW.ahead h hw,?_⟩;rw[ak rfl,tv da];try rfl
theorem PW.op(h:C.At s i)(hc:Xb c)(hw:C.W[i]? = some [c]){r:List Nat}(hd:s.data=b::a::r)(hv:ad c.toNat a b=some v)(Na:r.length<256):pf C 1 s (C.put s (i+1) (v::r)):=by refine PW.once h hw ?_ (by rw[GY (Qw hc)];exact Nb 1);rw[ak rfl,tv (Qw hc),SO hc];unfold yk Vl;simp[hd,hv,Na,PW.put]
theorem PW.Av(h:C.At s i)(hc:Xb c)(hw:C.W[i]? = some [c]){r:List Nat}(hd:s.data=b::a::r)(hv:ad c.toNat a b=none):∃ m,wh C 0 s m/\Sa C m=.stop 12 s.out:=by refine⟨_,PW.ahead h hw,?_⟩;rw[ak rfl,tv (Qw hc),SO hc];unfold yk;simp[hd,hv]
theorem PW.jump(h:C.At s i){k:List Wd}(hw:C.W[i]? = some w)(Zw:C.W[i+1]? = some [63])(hr:La w=some x)(hk:Xj x C.W=some k){r:List Nat}(hd:s.data=v::r)(Na:r.length+1<256):pf C 8 s { C.put s (i+2) r with pc:=if v=0 then k else C.Uc (i+2) }:=by refine PW.once h hw ?_ (by rw[QG hr];have:=uX s.digit;omega);rw[ak rfl,qE hr,dU Zw];unfold dy cG;simp[hk,hd,Na,PW.put]
theorem PW.call(h:C.At s i){k:List Wd}(hw:C.W[i]? = some w)(Zw:C.W[i+1]? = some [58])(hr:La w=some x)(hk:Xj x C.W=some k)(Na:s.data.length<256)(hc:s.calls.length<64):pf C 8 s { s with pc:=k,calls:=C.Uc (i+2)::s.calls,digit:=false }:=by refine PW.once h hw ?_ (by rw[QG hr];have:=uX s.digit;omega);rw[ak rfl,qE hr,dU Zw];unfold dy;simp[hk,Na,hc]
end
end
def tz(C:PW)(B:Int)(m:MS)(e:Int)(s:IS):Prop:=
 (e=0∨e=12->∃ k:Nat,∃ m',(k:Int)<=B/\wh C k m m'/\Sa C m'=.stop e.toNat s.out)/\(e=13->∃ k m',wh C k m m'/\m'.out=s.out)
variable{C:PW}
theorem tz.pre{B:Int}{m1:MS}{e:Int}{s:IS}(h:wh C k m m1)(g:tz C B m1 e s):tz C (k+B) m e s:=by refine⟨λhe=>?_,λhe=>?_⟩;obtain⟨y,m',k1,k2,k3⟩:=g.1 he;exact⟨k+y,m',by omega,h.trans k2,k3⟩;obtain⟨y,m',k2,k3⟩:=g.2 he;exact⟨k+y,m',h.trans k2,k3⟩
theorem tz.mono{B B':Int}{e:Int}{s:IS}(h:tz C B m e s)(hb:B<=B'):tz C B' m e s:=
 ⟨λhe=>by
  obtain⟨y,m',k1,k2,k3⟩:=h.1 he;exact⟨y,m',by omega,k2,k3⟩,h.2⟩
section
variable{A B:Type}{Q:A->IS->MS->Prop}{R:B->IS->MS->Prop}{c d c1 d1 c2 d2:Int}{m m1:MS}{s:IS}
end
theorem pJ{A B D:Type}(r:IR A)(f:A->IS->IR B)(g:B->IS->IR D):(r.bind f).bind g=r.bind λv s=>(f v s).bind g:=by cases r <;> rfl
structure vf where
 C:PW
 P:Pr
 cc:ob->CC
 Va:ob->gb
 sa:Nm->Nat
 aa:Nm->Nat
 S:Nat
 fst:ob->Nat
variable{X:vf}
def vf.keys(X:vf):List Nm:=Ad X.P.vars X.P.funcs
def vf.Data(X:vf)(x:Nat):Prop:=(∃ k∈X.keys,x=X.sa k)∨(X.S<=x/\x<=X.S+2)∨∃ a∈X.P.ba,∃ i,i<a.size/\x=X.aa a.name+i
structure Dd(X:vf):Prop where
 sc:∀ f∈X.P.funcs,∀ name,Vr (X.Va f) name=0->(X.cc f).sc name=decDigits (X.sa (Ub f name))/\Ub f name∈X.keys
 ar:∀ f∈X.P.funcs,∀ name,qy (X.Va f) name=0->(X.cc f).ar name=decDigits (X.aa name)/\∃ a∈X.P.ba,a.name=name
 yw:∀ f∈X.P.funcs,(X.cc f).t0=decDigits X.S/\(X.cc f).t1=decDigits (X.S+1)/\(X.cc f).t2=decDigits (X.S+2)
 low:∀ x,X.Data x->x<262144
 JK:∀ x,X.Data x->X.C.D x=true
 Mv:∀ k∈X.keys,X.S+3<=X.sa k
 inj:∀ k∈X.keys,∀ k'∈X.keys,X.sa k=X.sa k'->k=k'
 apart:∀ a∈X.P.ba,∀ i,i<a.size->(∀ k∈X.keys,X.sa k≠X.aa a.name+i)/\¬ (X.S<=X.aa a.name+i/\X.aa a.name+i<=X.S+2)
 iC:∀ a∈X.P.ba,∀ b∈X.P.ba,∀ i j,i<a.size->j<b.size->X.aa a.name+i=X.aa b.name+j->a.name=b.name/\i=j
 Dx:∀ a∈X.P.ba,X.aa a.name<1000000
 Mr:∀ a∈X.P.ba,∀ b∈X.P.ba,a.name=b.name->a.size=b.size
 body:∀ f∈X.P.funcs,Gh (X.Va f) f.body=0/\Hi f.body
 fn:∀ f∈X.P.funcs,∀ name g,(X.Va f).fn name=some g->aj X.P name∈X.P.funcs/\(aj X.P name).name=name/\g.params=(aj X.P name).params.length/\Wk (X.Va (aj X.P name)) (aj X.P name).body<=g.need/\Xi (X.Va (aj X.P name)) (aj X.P name).body<=g.depth
 YZ:∀ f∈X.P.funcs,(∀ p∈f.params,Ub f p∈X.keys/\(X.cc f).sc p=decDigits (X.sa (Ub f p)))/\(f.params.map (Ub f)).Nodup
 code:∀ f∈X.P.funcs,∃ nl,X.C.Code (X.fst f) (Rj (X.cc f) nl f).1
 Ly:∀ (j n:Nat),X.C.W[j]? = some (na n++[58])->ma (na n++[58])=some (na n)
 cr:∀ (j n:Nat),X.C.W[j]? = some (38::na n)->La (38::na n)=some (na n)
 Ni:∀ f∈X.P.funcs,ma ([102,95]++f.name++[58])=some ([102,95]++f.name)
 Zy:∀ f∈X.P.funcs,La ([38,102,95]++f.name)=some ([102,95]++f.name)
 label:∀ (j:Nat) (w x:Wd),X.C.W[j]? = some w->ma w=some x->Xj x X.C.W=some (X.C.Uc (j+1))
structure vf.Rel(X:vf)(s:IS)(m:MS):Prop where
 ok:X.C.Ok m.mem
 sc:∀ k∈X.keys,m.mem (X.sa k)=s.sc k
 ar:∀ a∈X.P.ba,(s.ar a.name).length=a.size/\∀ i (h:i<(s.ar a.name).length),m.mem (X.aa a.name+i)=(s.ar a.name)[i]
 xa:m.xa=s.xa
 out:m.out=s.out
theorem vf.Rel.same{s s':IS}(h:X.Rel s m)(h1:m'.mem=m.mem)(h2:m'.xa=m.xa)(h3:m'.out=m.out)(k1:s'.sc=s.sc)(k2:s'.ar=s.ar)(k3:s'.xa=s.xa)(k4:s'.out=s.out):X.Rel s' m':=
 ⟨by rw[h1];exact h.ok,by rw[h1,k1];exact h.sc,by rw[h1,k2];exact h.ar,by rw[h2,k3];exact h.xa,by rw[h3,k4];exact h.out⟩
theorem vf.mj(hX:Dd X){mem:Nat->Nat}(h:X.C.Ok mem){x:Nat}(hx:X.Data x):X.C.Ok (λi=>if i=x then v else mem i):=trivial
theorem vf.Rel.Rx(hX:Dd X){s:IS}(h:X.Rel s m){x:Nat}(hx:X.S<=x/\x<=X.S+2)(h1:m'.mem=λi=>if i=x then v else m.mem i)(h2:m'.xa=m.xa)(h3:m'.out=m.out):X.Rel s m':=by refine⟨by rw[h1];exact X.mj hX h.ok (.inr (.inl hx)),λk hk=>?_,λa ha=>?_,by rw[h2];exact h.xa,by rw[h3];exact h.out⟩;rw[h1];simp only;have:=hX.Mv k hk;rw[zn (by omega)];exact h.sc k hk;obtain⟨e1,e2⟩:=h.ar a ha;refine⟨e1,λi hi=>?_⟩;rw[h1];simp only;have:=(hX.apart a ha i (by omega)).2;rw[zn (λh=>this (by rw[h];exact hx))];exact e2 i hi
theorem vf.Rel.PD(hX:Dd X){s:IS}(h:X.Rel s m){k:Nm}(hk:k∈X.keys)(h1:m'.mem=λi=>if i=X.sa k then v else m.mem i)(h2:m'.xa=m.xa)(h3:m'.out=m.out):X.Rel (yf s k v) m':=by
 refine⟨by rw[h1];exact X.mj hX h.ok (.inl ⟨k,hk,rfl⟩),λk' Yn=>?_,λa ha=>?_,by rw[h2];exact h.xa,by rw[h3];exact h.out⟩;rw[h1];unfold yf;simp only
 by_cases he:k'=k;subst he;rw[zp rfl,zp rfl];rw[zn λh=>he (hX.inj _ Yn _ hk h),zn he];exact h.sc k' Yn;obtain⟨e1,e2⟩:=h.ar a ha;refine⟨e1,λi hi=>?_⟩;rw[h1];simp only;have Zv:i<(s.ar a.name).length:=hi;have:=(hX.apart a ha i (by omega)).1 k hk;rw[zn (λh=>this h.symm)];exact e2 i Zv
theorem vf.Rel.elem(hX:Dd X){s:IS}(h:X.Rel s m){a:Ar}(ha:a∈X.P.ba)(hi:i<(s.ar a.name).length)(h1:m'.mem=λx=>if x=X.aa a.name+i then v else m.mem x)(h2:m'.xa=m.xa)(h3:m'.out=m.out) :
  X.Rel { s with ar:=λx=>if x=a.name then (s.ar a.name).set i v else s.ar x } m':=by
 have hs:=(h.ar a ha).1;refine⟨by rw[h1];exact X.mj hX h.ok (.inr (.inr ⟨a,ha,i,by omega,rfl⟩)),λk' Yn=>?_,λb hb=>?_,by rw[h2];exact h.xa,by rw[h3];exact h.out⟩;rw[h1];simp only;rw[zn ((hX.apart a ha i (by omega)).1 k' Yn)];exact h.sc k' Yn;obtain⟨e1,e2⟩:=h.ar b hb
 by_cases he:b.name=a.name;have uF:=hX.Mr b hb a ha he;simp only[he,if_true,List.length_set];refine⟨by omega,λj hj=>?_⟩;rw[h1];simp only
 by_cases tc:j=i;subst tc;rw[zp rfl,List.getElem_set_self];rw[zn (by omega),List.getElem_set_ne (λh=>tc h.symm)];exact(h.ar a ha).2 j hj;simp only[he,if_false];refine⟨e1,λj hj=>?_⟩;rw[h1];simp only;rw[zn (λh=>he (hX.iC b hb a ha j i (by omega) (by omega) h).1)];exact e2 j hj
structure vf.Vw(X:vf)(s:IS)(i:Nat)(d:List Nat)(c:List (List Wd))(m:MS):Prop where
 here:X.C.At m i
 rel:X.Rel s m
 data:m.data=d
 calls:m.calls=c
theorem vf.Vw.cast{s:IS}{j:Nat}{d:List Nat}{c:List (List Wd)}(v:X.Vw s i d c m)(h:i=j):X.Vw s j d c m:=h▸v
section
variable{X:vf}{s:IS}{i:Nat}{d:List Nat}{c:List (List Wd)}{m:MS}
theorem vf.Vw.steps(v:X.Vw s i d c m)(l:Nat):X.Vw { s with left:=l } i d c m:=⟨v.here,v.rel.same rfl rfl rfl rfl rfl rfl rfl,v.data,v.calls⟩
theorem vf.Vw.num(v:X.Vw s i d c m){n k:Nat}(hw:X.C.W[i]? = some (decDigits n))(hn:n<4294967296)(hl:(decDigits n).length+1<=k)(hd:d.length<256):∃ m',pf X.C k m m'/\X.Vw s (i+1) (n::d) c m'/\m'.mem=m.mem:=
 ⟨_,PW.num v.here hw hn (by rw[v.data];exact hd) hl,⟨PW.gh rfl,v.rel.same rfl rfl rfl rfl rfl rfl rfl,by simp only;rw[v.data],v.calls⟩,rfl⟩
theorem N0(h:n<1000000):(decDigits n).length+1<=7:=by have:=GC 5 n h;omega
theorem vf.Vw.addr(v:X.Vw s i d c m)(hw:X.C.W[i]? = some (decDigits n))(hn:n<1000000)(hd:d.length<256):∃ m',pf X.C 7 m m'/\X.Vw s (i+1) (n::d) c m'/\m'.mem=m.mem:=v.num hw (by omega) (N0 hn) hd
theorem qn8(h:n<10):decDigits n=[UInt8.ofNat (48+n)]:=by rw[decDigits,dif_pos h]
theorem vf.Vw.fw(v:X.Vw s i d c m)(hw:X.C.W[i]? = some w)(hn:n<10)(he:w=[UInt8.ofNat (48+n)])(hd:d.length<256):∃ m',pf X.C 2 m m'/\X.Vw s (i+1) (n::d) c m'/\m'.mem=m.mem:=by rw[he,<-qn8 hn] at hw;exact v.num hw (by omega) (by rw[qn8 hn];exact Nb 2) hd
theorem vf.Vw.load{a:Nat}(v:X.Vw s i (a::d) c m)(hw:X.C.W[i]? = some [64])(ha:X.C.D a=true)(hd:d.length<256):∃ m',pf X.C 1 m m'/\X.Vw s (i+1) (m.mem a::d) c m'/\m'.mem=m.mem:=
 ⟨_,PW.load v.here hw v.data ha hd,⟨X.C.HA _ _ _,v.rel.same rfl rfl rfl rfl rfl rfl rfl,rfl,v.calls⟩,rfl⟩
theorem vf.Vw.op{a b x:Nat}{ch:UInt8}(v:X.Vw s i (b::a::d) c m)(hw:X.C.W[i]? = some [ch])(ho:Xb ch)(hv:ad ch.toNat a b=some x)(hd:d.length<256):∃ m',pf X.C 1 m m'/\X.Vw s (i+1) (x::d) c m'/\m'.mem=m.mem:=
 ⟨_,PW.op v.here ho hw v.data hv hd,⟨X.C.HA _ _ _,v.rel.same rfl rfl rfl rfl rfl rfl rfl,rfl,v.calls⟩,rfl⟩
theorem vf.Vw.Rx(hX:Dd X){a x:Nat}(v:X.Vw s i (a::x::d) c m)(hw:X.C.W[i]? = some [33])(ha:X.S<=a/\a<=X.S+2):∃ m',pf X.C 1 m m'/\X.Vw s (i+1) d c m'/\m'.mem=λy=>if y=a then x else m.mem y:=
 ⟨_,PW.store v.here hw v.data (hX.JK a (.inr (.inl ha))),⟨PW.gh rfl,v.rel.Rx hX ha rfl rfl rfl,rfl,v.calls⟩,rfl⟩
theorem vf.Vw.PD(hX:Dd X){k:Nm}{x:Nat}(hk:k∈X.keys)(v:X.Vw s i (X.sa k::x::d) c m)(hw:X.C.W[i]? = some [33]):∃ m',pf X.C 1 m m'/\X.Vw (yf s k x) (i+1) d c m':=
 ⟨_,PW.store v.here hw v.data (hX.JK _ (.inl ⟨k,hk,rfl⟩)),⟨PW.gh rfl,v.rel.PD hX hk rfl rfl rfl,rfl,v.calls⟩⟩
theorem vf.Vw.read(v:X.Vw s i d c m)(hw:X.C.W[i]? = some [44])(hd:d.length<256):∃ m',pf X.C 1 m m'/\X.Vw { s with xa:=s.xa.tail } (i+1) (s.xa.headD 4294967295::d) c m':=by refine⟨_,PW.read v.here hw (by rw[v.data];exact hd),⟨PW.gh rfl,⟨v.rel.ok,v.rel.sc,v.rel.ar,?_,v.rel.out⟩,?_,v.calls⟩⟩;simp only;rw[v.rel.xa];simp only[PW.put];rw[v.rel.xa,v.data]
theorem vf.Vw.write{x:Nat}(v:X.Vw s i (x::d) c m)(hw:X.C.W[i]? = some [46]):∃ m',pf X.C 1 m m'/\X.Vw { s with out:=s.out++[UInt8.ofNat x] } (i+1) d c m':=by refine⟨_,PW.write v.here hw v.data,⟨PW.gh rfl,⟨v.rel.ok,v.rel.sc,v.rel.ar,v.rel.xa,?_⟩,rfl,v.calls⟩⟩;simp only;rw[v.rel.out]
theorem vf.Vw.ux(hX:Dd X){f:ob}(hf:f∈X.P.funcs)(v:X.Vw s i (b::a::d) c m)(hc:X.C.Code i (Kl (X.cc f)))(hd:d.length+3<=256):∃ m',pf X.C 33 m m'/\X.Vw s (i+9) (nf (decide (b<a))::d) c m':=by
 obtain⟨_,t1,t2⟩:=hX.yw f hf;unfold Kl at hc;rw[t1,t2] at hc;have hS:X.S+2<262144:=hX.low _ (.inr (.inl ⟨by omega,by omega⟩));obtain⟨w0,hc⟩:=hc.cons;obtain⟨w1,hc⟩:=hc.cons;obtain⟨w2,hc⟩:=hc.cons;obtain⟨w3,hc⟩:=hc.cons;obtain⟨w4,hc⟩:=hc.cons;obtain⟨w5,hc⟩:=hc.cons;obtain⟨w6,hc⟩:=hc.cons;obtain⟨w7,hc⟩:=hc.cons;obtain⟨w8,hc⟩:=hc.cons;obtain⟨m1,s1,v1,e1⟩:=v.addr w0 (by omega) (by simp only[Ba];omega);obtain⟨m2,s2,v2,e2⟩:=v1.Rx hX w1 ⟨by omega,by omega⟩;obtain⟨m3,s3,v3,e3⟩:=v2.addr w2 (by omega) (by simp only[Ba];omega);obtain⟨m4,s4,v4,e4⟩:=v3.Rx hX w3 ⟨by omega,by omega⟩;obtain⟨m5,s5,v5,e5⟩:=v4.addr w4 (by omega) (by omega);obtain⟨m6,s6,v6,e6⟩:=v5.load w5 (hX.JK _ (.inr (.inl ⟨by omega,by omega⟩))) (by omega);obtain⟨m7,s7,v7,e7⟩:=v6.addr w6 (by omega) (by simp only[Ba];omega);obtain⟨m8,s8,v8,e8⟩:=v7.load w7 (hX.JK _ (.inr (.inl ⟨by omega,by omega⟩))) (by simp only[Ba];omega);have q1:m5.mem (X.S+2)=b:=by rw[e5,e4];simp only;rw[zn (by omega),e3,e2];simp
 have q2:m7.mem (X.S+1)=a:=by rw[e7,e6,e5,e4];simp
 rw[q1] at v6 v7 v8;rw[q2] at v8;obtain⟨m9,s9,v9,_⟩:=v8.op (x:=nf (decide (b<a))) w8 (by unfold Xb;simp) (by
  unfold ad nf;simp) (by omega)
 exact⟨m9,(s1.trans (s2.trans (s3.trans (s4.trans (s5.trans (s6.trans (s7.trans (s8.trans s9)))))))).mono (by omega),v9⟩
end
theorem xP{A:Type}(g:A->IS->IR Nat)(x:A)(s:IS):Mj g [x] s=(g x s).bind λv s=>.ok [v] s:=by unfold Mj;cases g x s <;> rfl
theorem qwm{A:Type}(g:A->IS->IR Nat)(x y:A)(s:IS):Mj g [x,y] s=(g x s).bind λa s=>(g y s).bind λb s=>.ok [a,b] s:=by
 unfold Mj;cases g x s with
 |stop e s=>rfl
 |ok a s=>show(Mj g [y] s).bind _=(g y s).bind _;rw[xP];try cases g y s <;> rfl
section
variable{X:vf}{n:Nat}
theorem MG(a b:Nat):(if a<b then 1 else 0)=nf (decide (a<b)):=by unfold nf;simp
theorem xor_zero:a ^^^ b<1 ↔ a=b:=by
 constructor;intro h;have h0:a ^^^ b=0:=by omega
 exact Nat.eq_of_testBit_eq λj=>by have h2:=congrArg (λx=>x.testBit j) h0;simp only[Nat.testBit_xor,Nat.zero_testBit] at h2;revert h2;cases a.testBit j <;> cases b.testBit j <;> simp
 rintro rfl;rw[Nat.xor_self];decide
theorem qm7:∀ (ns:List Nat) (i m B:Nat),gy i ns m<=B->m<=B/\∀ k (h:k<ns.length),i+k+ns[k]<=B
 |[],i,m,B,h=>⟨h,λk hk=>by cases hk⟩
 |a::ns,i,m,B,h=>by
  rw[gy] at h;obtain⟨h1,h2⟩:=qm7 ns (i+1) _ B h;refine⟨by omega,λk hk=>?_⟩
  cases k with
  |zero=>simp only[List.getElem_cons_zero];omega
  |succ k=>have:=h2 k (by simpa using hk);simp only[List.getElem_cons_succ];omega
theorem qlA(c:gb):∀ (l:List Ex),(Yg c l).length=l.length/\∀ k (h:k<l.length) (h2:k<(Yg c l).length),(Yg c l)[k]=tf c l[k]
 |[]=>⟨by simp[Yg],λk h=>by cases h⟩
 |x::l=>by
  obtain⟨h1,h2⟩:=qlA c l;refine⟨by simp[Yg,h1],λk hk Ah=>?_⟩
  cases k with
  |zero=>simp[Yg]
  |succ k=>simp only[Yg,List.getElem_cons_succ];exact h2 k (by simpa using hk) _
end
theorem o9(b:Bool):nf b<=1:=by unfold nf;split <;> omega
theorem qqp{op:Nm}(h:Qf op=2):op∈dv/\op≠We/\op≠Bf/\op≠ij/\op≠tg/\op≠Uf/\op≠Of:=by unfold Qf at h;split at h;cases h;rename_i h1;split at h;cases h;rename_i h2;split at h;cases h;rename_i h3;split at h;rename_i h4;exact⟨h4,λe=>h1 (.inl e),λe=>h1 (.inr e),λe=>h2 (.inl e),λe=>h2 (.inr (.inl e)),λe=>h2 (.inr (.inr e)),h3⟩;cases h
theorem qyt(P:Pr)(g:ob->Sm->IS->IR (Option Nat))(f:ob){op:Nm}(h:op∈dv)(num:Nat)(name:Nm)(a b:Nat)(s:IS):EE P g f op num name [a,b] s=match Qi op a b with
  |some r=>.ok r s
  |none=>.stop 12 s:=by
 simp only[dv,lc,not_mem_nil,or_false] at h;rcases h with rfl|rfl|rfl|rfl|rfl|rfl|rfl|rfl|rfl|rfl|rfl|rfl|rfl|rfl <;> rfl
theorem qqB:∀ (ns:List Nat) (i m:Nat),m<=gy i ns m
 |[],i,m=>Nb _
 |a::ns,i,m=>by rw[gy];have:=qqB ns (i+1) (max m (i+a));omega
theorem VL(c:gb):∀ e:Ex,bf c e=0->1<=tf c e
 |.mk op num name args,h=>by
  rw[bf] at h;split at h
  case isFalse=>cases h
  rename_i Lc;obtain⟨h1,h2⟩:=Dc.1 h;rw[tf];unfold NA;split;omega;split;omega;split;rename_i hc;subst hc;have Be:yc c name args.length=0:=h2;unfold qz;split;omega;rename_i k1;split;rename_i k2;unfold yc at Be;rw[zn k1,zp k2] at Be;split at Be;rename_i hl;obtain⟨x,rfl⟩:=Hu hl;rw[Sf] at h1;have:=VL c x (Dc.1 h1).1;rw[Yg];exact this;cases Be;rename_i k2;unfold yc at Be;rw[zn k1,zn k2] at Be;split;rename_i g hg;have:=qqB (Yg c args) 0 (max (g.params+1) g.need);omega;rename_i hg;rw[hg] at Be;simp only at Be;split at Be <;> cases Be
  repeat' split
  all_goals omega
section
variable{X:vf}{n:Nat}
end
def o7(X:vf)(j:Nat)(d:List Nat)(t:List Wd)(rest:List (List Wd)):Option Nat->IS->MS->Prop
 |none,s',m'=>X.Vw s' j d (t::rest) m'
 |some v,s',m'=>m'.pc=t/\m'.digit=false/\X.Rel s' m'/\m'.data=v::d/\m'.calls=rest
section
variable{X:vf}{n:Nat}
section
variable{s:IS}{i j:Nat}{d:List Nat}{c:List (List Wd)}{m:MS}
theorem vf.Vw.branch(hX:Dd X)(v:X.Vw s i (a::d) c m)(hc:X.C.Code i [38::na k,[63]])(hj:X.C.W[j]? = some (na k++[58]))(hd:d.length+2<=256):∃ m',pf X.C 8 m m'/\X.Vw s (if a=0 then j+1 else i+2) d c m':=by obtain⟨w0,hc⟩:=hc.cons;obtain⟨w1,_⟩:=hc.cons;have h1:=hX.Ly j k hj;have t2:=PW.jump v.here w0 w1 (hX.cr _ _ w0) (hX.label j _ _ hj h1) v.data (by omega);by_cases ha:a=0;subst ha;rw[zp rfl] at t2 ⊢;exact⟨_,t2,⟨PW.gh rfl,v.rel.same rfl rfl rfl rfl rfl rfl rfl,rfl,v.calls⟩⟩;rw[zn ha] at t2 ⊢;exact⟨_,t2,⟨PW.gh rfl,v.rel.same rfl rfl rfl rfl rfl rfl rfl,rfl,v.calls⟩⟩
theorem vf.Vw.goto(hX:Dd X)(v:X.Vw s i d c m)(hc:X.C.Code i [[48],38::na k,[63]])(hj:X.C.W[j]? = some (na k++[58]))(hd:d.length+2<=256):∃ m',pf X.C 10 m m'/\X.Vw s (j+1) d c m':=by obtain⟨w0,hc⟩:=hc.cons;obtain⟨m1,t1,v1,_⟩:=v.fw (n:=0) w0 da rfl (by omega);obtain⟨m2,t2,v2⟩:=v1.branch hX hc hj hd;rw[zp rfl] at v2;exact⟨m2,(t1.trans t2).mono (by omega),v2⟩
theorem vf.Vw.pass(v:X.Vw s i d c m)(hw:X.C.W[i]? = some w)(hd:ma w=some x):X.Vw s (i+1) d c m:=⟨PW.eS v.here hw hd,v.rel,v.data,v.calls⟩
end
theorem qrm(s:IS){k k':Nm}(h:k≠k')(v v':Nat):yf (yf s k v) k' v'=yf (yf s k' v') k v:=by unfold yf;congr 1;funext x;by_cases h1:x=k;subst h1;simp[h];simp[h1]
theorem qlR(g:ob):∀ (ps:List Nm) (vs:List Nat) (s:IS) (k:Nm) (v:Nat),k ∉ ps.map (Ub g)->Fp g ps vs (yf s k v)=yf (Fp g ps vs s) k v
 |[],vs,s,k,v,_=>by cases vs <;> rfl
 |p::ps,[],s,k,v,_=>rfl
 |p::ps,w::vs,s,k,v,h=>by rw[jd,lc,not_or] at h;rw[Fp,Fp,qrm s h.1,qlR g ps vs _ k v h.2]
theorem qll(g:ob):∀ (ps:List Nm) (vs:List Nat) (s:IS) (p:Nm) (v:Nat),ps.length=vs.length->Fp g (ps++[p]) (vs++[v]) s=yf (Fp g ps vs s) (Ub g p) v
 |[],[],s,p,v,_=>rfl
 |q::ps,w::vs,s,p,v,h=>by rw[cons_append,cons_append,Fp,Fp,qll g ps vs _ p v (by simpa using h)]
theorem qls(g:ob):∀ (ps:List Nm) (vs:List Nat) (s:IS),(Fp g ps vs s).left=s.left
 |[],vs,s=>by cases vs <;> rfl
 |p::ps,[],s=>rfl
 |p::ps,w::vs,s=>by rw[Fp,qls g ps vs];try rfl
theorem G'(hX:Dd X){g:ob}:∀ (k:Nat) (ps:List Nm) (vs:List Nat) (i:Nat) (s:IS) (d:List Nat) (c:List (List Wd)) (m:MS),ps.length=k->ps.length=vs.length->(∀ p∈ps,Ub g p∈X.keys/\(X.cc g).sc p=decDigits (X.sa (Ub g p)))->(ps.map (Ub g)).Nodup->X.C.Code i (ps.reverse.flatMap λp=>[(X.cc g).sc p,[33]])->X.Vw s i (vs.reverse++d) c m->d.length+ps.length+1<=256 ->
  ∃ m',pf X.C (8 * ps.length) m m'/\X.Vw (Fp g ps vs s) (i+(ps.reverse.flatMap λp=>[(X.cc g).sc p,[33]]).length) d c m'
 |0,ps,vs,i,s,d,c,m,hk,hl,_,_,_,v,_=>by obtain rfl:=List.eq_nil_of_length_eq_zero hk;obtain rfl:vs=[]:=List.eq_nil_of_length_eq_zero (by rw[<-hl];try rfl);exact⟨m,.refl _,v⟩
 |k+1,ps,vs,i,s,d,c,m,hk,hl,hp,dh,hc,v,hd=>by
  have ub:ps≠[]:=λh=>by rw[h] at hk;cases hk
  have hnv:vs≠[]:=λh=>by rw[h] at hl;rw[hk] at hl;cases hl
  have e1:=(List.dropLast_concat_getLast ub).symm;have e2:=(List.dropLast_concat_getLast hnv).symm;generalize ps.dropLast=XZ at e1;generalize ps.getLast ub=p at e1;generalize vs.dropLast=lC at e2;generalize vs.getLast hnv=w at e2;subst e1 e2;rw[ya,length_singleton] at hk hd;rw[ya,ya,length_singleton,length_singleton] at hl;rw[List.reverse_append] at hc v ⊢;simp only[List.reverse_cons,List.reverse_nil,nil_append,cons_append,List.flatMap_cons] at hc v ⊢;rw[Lf,List.map_singleton] at dh;obtain⟨n1,n2,n3⟩:=Dm dh;obtain⟨q1,q2⟩:=hp p (by simp);rw[q2] at hc;obtain⟨w0,hc⟩:=hc.cons;obtain⟨w1,hc⟩:=hc.cons;have SQ:=hX.low _ (.inl ⟨_,q1,rfl⟩);obtain⟨m1,t1,v1,_⟩:=v.addr w0 (by omega) (by simp only[Ba,ya,List.length_reverse];omega);obtain⟨m2,t2,v2⟩:=v1.PD hX q1 w1;obtain⟨m3,t3,v3⟩:=G' hX k XZ lC (i+1+1) (yf s (Ub g p) w) d c m2 (by omega) (by omega) (λx hx=>hp x (by simp[hx])) n1 hc v2 (by omega);refine⟨m3,(t1.trans (t2.trans t3)).mono (by rw[ya,length_singleton];omega),?_⟩;rw[qll g XZ lC s p w (by omega),<-qlR g XZ lC s (Ub g p) w (λh=>n3 _ h _ (Cp rfl) rfl)];exact v3.cast (by simp only[Ba];omega)
end
section
variable{X:vf}{n:Nat}
theorem vf.Vw.elem(hX:Dd X){s:IS}{i:Nat}{d:List Nat}{c:List (List Wd)}{m:MS}{A:Ar}(hA:A∈X.P.ba){j x:Nat}(v:X.Vw s i ((X.aa A.name+j)::x::d) c m)(hj:j<(s.ar A.name).length)(hw:X.C.W[i]? = some [33]):∃ m',pf X.C 1 m m'/\X.Vw { s with ar:=λy=>if y=A.name then (s.ar A.name).set j x else s.ar y } (i+1) d c m':=
 ⟨_,PW.store v.here hw v.data (hX.JK _ (.inr (.inr ⟨A,hA,j,by have:=(v.rel.ar A hA).1;omega,rfl⟩))),⟨PW.gh rfl,v.rel.elem hX hA hj rfl rfl rfl,rfl,v.calls⟩⟩
theorem CO(c:CC)(n:Nat)(kind:Int)(name:Nm)(index value:List Ex)(Ka fb:List Sm):kg c n (.mk kind name index value Ka fb) =
  if kind=1 then (Cb c (value.headD default)++[c.sc name,[33]],n)
  else if kind=2 then (Cb c (value.headD default)++c.ar name::(Cb c (index.headD default)++[[43],[33]]),n)
  else if kind=3 then
   (match fb with
   |[]=>(Cb c (value.headD default)++[38::na n,[63]]++(Da c (n+1) Ka).1++[na n++[58]],(Da c (n+1) Ka).2)
   |_::_=>(Cb c (value.headD default)++[38::na n,[63]]++(Da c (n+2) Ka).1++[[48],38::na (n+1),[63],na n++[58]]++(Da c (Da c (n+2) Ka).2 fb).1++[na (n+1)++[58]],(Da c (Da c (n+2) Ka).2 fb).2))
  else if kind=4 then ([na n++[58]]++Cb c (value.headD default)++[38::na (n+1),[63]]++(Da c (n+2) Ka).1++[[48],38::na n,[63],na (n+1)++[58]],(Da c (n+2) Ka).2)
  else if kind=5 then (Cb c (value.headD default)++[[59]],n)
  else if kind=6 then (Cb c (value.headD default)++[c.t0,[33]],n)
  else if kind=7 then ([[36]],n)
  else ([],n):=by
 rw[kg.eq_def];try rfl
theorem H8{A:Type}{l:List A}(h:l.length=1):∃ x,l=[x]:=Hu h
end
end Go.ea.Wi
