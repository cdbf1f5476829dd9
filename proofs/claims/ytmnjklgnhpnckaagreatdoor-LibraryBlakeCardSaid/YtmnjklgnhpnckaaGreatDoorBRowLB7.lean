import Derived.Test.YtmnjklgnhpnckaaGreatDoorBRowLB6
set_option linter.unusedVariables false
set_option linter.unusedSimpArgs false
set_option maxRecDepth 100000
set_option maxHeartbeats 4000000
open List (not_mem_nil all_cons filterMap_cons filterMap_nil map_nil mem_append nil_append mem_singleton)
open Nat (add_assoc)
open Option (getD_some)
namespace Go.ea.Wi
open Go.Lib
variable{k m n:Nat}{s:Nm}
def Pl(w:Wd):Prop:=ma w=none/\La w=none/\Hw w=true
def tj(F:List Wd)(ws:List Wd):Prop:=∀ x∈ws,Pl x∨ma x=none/\∃ d,La x=some d/\d∈F
section
variable{F:List Wd}{a b ws:List Wd}{w d:Wd}
theorem tj.nil:tj F []:=λx h=>(not_mem_nil h).elim
theorem tj.cons(h:Pl w)(k:tj F ws):tj F (w::ws):=λx hx=>by rcases lc.1 hx with rfl|hx;exact .inl h;exact k x hx
theorem tj.call(h:La w=some d)(hd:d∈F)(k:tj F ws):tj F (w::ws):=λx hx=>by rcases lc.1 hx with rfl|hx;exact .inr ⟨As h,d,h,hd⟩;exact k x hx
theorem tj.app(h:tj F a)(k:tj F b):tj F (a++b):=λx hx=>by rcases vj hx with hx|hx;exact h x hx;exact k x hx
theorem tj.flat{l:List (List Wd)}(h:∀ ws∈l,tj F ws):tj F l.flatten:=λx hx=>by obtain⟨ws,h1,h2⟩:=List.mem_flatten.1 hx;exact h ws h1 x h2
theorem qvp:∀ (w:Wd),(∀ c∈w,Rd c=true)->Hw w=true:=λw h=>by
 unfold Hw;rw[List.all_eq_true];intro c hc;have h0:=h c hc;have h2:48<=c.toNat:=(RL.1 h0).1;have h3:c.toNat<=57:=(RL.1 h0).2;have h4:c=UInt8.ofNat c.toNat:=by simp
 have h5:c.toNat=48∨c.toNat=49∨c.toNat=50∨c.toNat=51∨c.toNat=52∨c.toNat=53∨c.toNat=54∨c.toNat=55∨c.toNat=56∨c.toNat=57:=by omega
 rw[h4];rcases h5 with e|e|e|e|e|e|e|e|e|e <;> rw[e] <;> decide
theorem qyH(h:ib w=some n):decDigits n=w:=by unfold ib at h;split at h;split at h;rename_i q;injection h with h;rw[<-h];exact q;cases h;cases h
theorem vz(h:Qn w):Pl w:=by obtain⟨n,h⟩:=h;obtain⟨k1,k2⟩:=bq h;refine⟨k1,k2,qvp w λc hc=>?_⟩;rw[<-qyH h] at hc;exact mM n c hc
theorem sg{c:UInt8}(h:c∈([43,45,42,47,37,94,60,64,33,63,58,59,44,46,36,48,49]:Wd)):Pl [c]:=by simp only[lc,not_mem_nil,or_false] at h;unfold Pl;rcases h with rfl|rfl|rfl|rfl|rfl|rfl|rfl|rfl|rfl|rfl|rfl|rfl|rfl|rfl|rfl|rfl|rfl <;> decide +kernel
theorem qlG{c:CC}(hc:sj c):tj F (Kl c):=
 .cons (vz hc.t2) (.cons (sg da) (.cons (vz hc.t1) (.cons (sg da) (.cons (vz hc.t2) (.cons (sg da) (.cons (vz hc.t1) (.cons (sg da) (.cons (sg da) .nil))))))))
def aN(F:List Wd)(env:gb):Prop:=∀ name g,env.fn name=some g->La ([38,102,95]++name)=some ([102,95]++name)/\[102,95]++name∈F
theorem Y9{l:List (List Wd)}(h:∀ ws∈l,tj F ws):tj F (l.headD []):=by
 cases l with
 |nil=>exact .nil
 |cons a l=>exact h a Ce
mutual
theorem w9{c:CC}(hc:sj c){env:gb}(Kc:aN F env):∀ e,vi e->bf env e=0->tj F (Cb c e)
 |.mk op num name args,hn,h=>by
  rw[bf] at h;split at h
  case isFalse=>cases h
  rename_i Lc;obtain⟨h1,h2⟩:=Dc.1 h;obtain⟨Vb,hn⟩:=hn;have ha:=K9 hc Kc args hn h1;have hd:tj F (((xb c args).drop 1).headD []):=Y9 λws hw=>ha ws (List.mem_of_mem_drop hw);have hh:tj F ((xb c args).headD []):=Y9 ha;rw[Cb];unfold jq
  by_cases o1:op=We;rw[zp o1];exact .cons (vz ⟨num,nE Vb⟩) .nil;rw[zn o1];by_cases o2:op=Bf;rw[zp o2];exact .cons (vz (hc.sc name)) (.cons (sg da) .nil);rw[zn o2];by_cases o3:op=ij;rw[zp o3];exact .cons (vz (hc.ar name)) (hh.app (.cons (sg da) (.cons (sg da) .nil)));rw[zn o3];by_cases o4:op=Of;rw[zp o4];refine(tj.flat ha).app ?_;subst o4;have Be:yc env name args.length=0:=h2;by_cases k1:name=[105,110];rw[zp k1];exact .cons (sg da) .nil;by_cases k2:name=[111,117,116];rw[zn k1,zp k2];exact .cons (sg da) (.cons (sg da) .nil);rw[zn k1,zn k2];unfold yc at Be;rw[zn k1,zn k2] at Be;cases hq:env.fn name with
  |none=>rw[hq] at Be;simp only at Be;split at Be <;> cases Be
  |some g=>obtain⟨q1,q2⟩:=Kc name g hq;exact .call q1 q2 (.cons (sg da) .nil)
  rw[zn o4];by_cases o5:op=tg;rw[zp o5];exact .cons (sg da) (hh.app (.cons (sg da) .nil));rw[zn o5];by_cases o6:op=Uf;rw[zp o6];exact hh.app (.cons (sg da) (.cons (sg da) .nil));rw[zn o6];have IE:Qf op=args.length:=by
   have:Qf op ≠ -1:=by unfold Qf;rw[zn (by simp[o1,o2])];by_cases q:op=ij∨op=tg∨op=Uf;rw[zp q];decide;rw[zn q,zn o4];split <;> decide
   rcases Lc with h|h;exact absurd h this;exact h
  have hb:op∈dv:=by
   unfold Qf at IE;rw[zn (by simp[o1,o2]),zn (by simp[o3,o5,o6]),zn o4] at IE;split at IE
   assumption
   omega
  by_cases b1:op=[33,61];rw[zp b1];exact .cons (sg da) ((hh.app hd).app (.cons (sg da) (.cons (sg da) .nil)));rw[zn b1];by_cases b2:op=[38,38];rw[zp b2];exact .cons (sg da) (((hh.app (.cons (sg da) (.cons (sg da) .nil))).app hd).app (.cons (sg da) (.cons (sg da) .nil)));rw[zn b2];by_cases b3:op=[124,124];rw[zp b3];exact .cons (sg da) (.cons (sg da) (((hh.app (.cons (sg da) (.cons (sg da) .nil))).app hd).app (.cons (sg da) (.cons (sg da) (.cons (sg da) .nil)))));rw[zn b3];refine(hh.app hd).app ?_;simp only[dv,lc,not_mem_nil,or_false] at hb;rcases hb with rfl|rfl|rfl|rfl|rfl|rfl|rfl|rfl|rfl|rfl|rfl|rfl|rfl|rfl;exact absurd rfl b3;exact absurd rfl b2;exact .cons (sg da) (.cons (sg da) (.cons (sg da) .nil));exact absurd rfl b1;exact .cons (sg da) .nil;exact qlG hc;exact(qlG hc).app (.cons (sg da) (.cons (sg da) .nil));exact .cons (sg da) (.cons (sg da) (.cons (sg da) .nil));exact .cons (sg da) .nil;exact .cons (sg da) .nil;exact .cons (sg da) .nil;exact .cons (sg da) .nil;exact .cons (sg da) .nil;exact .cons (sg da) .nil
theorem K9{c:CC}(hc:sj c){env:gb}(Kc:aN F env):∀ l,lk l->Sf env l=0->∀ ws∈xb c l,tj F ws
 |[],_,_=>by rw[xb];exact λws hw=>(not_mem_nil hw).elim
 |x::l,hn,h=>by rw[Sf] at h;obtain⟨h1,h2⟩:=Dc.1 h;rw[xb];intro ws hw;rcases lc.1 hw with rfl|hw;exact w9 hc Kc x hn.1 h1;exact K9 hc Kc l hn.2 h2 ws hw
end
theorem qp3(h:k<=4000000000):mu (na k)=true:=by have h1:=EL h;unfold na at h1 ⊢;unfold mu;simp only[Yc,Mf];refine⟨⟨by omega,by decide⟩,?_⟩;rw[all_cons];rw[Yc];refine⟨by decide,?_⟩;rw[List.all_eq_true];intro c hc;have:=mM k c hc;unfold yi;rw[this];simp
theorem R9(h:k<=4000000000):ma (na k++[58])=some (na k):=by unfold ma;have e:(na k++[58]).dropLast=na k:=List.dropLast_concat;rw[e,zp ⟨by simp,qp3 h⟩]
theorem kX(h:k<=4000000000):La (38::na k)=some (na k):=by show(if (38:UInt8)=38/\mu (na k)=true then some (na k) else none)=some (na k);rw[zp ⟨rfl,qp3 h⟩]
def Rf(F:List Wd)(n m:Nat)(ws:List Wd):Prop:=∀ x∈ws,(∃ d,ma x=some d)∨Pl x∨ma x=none/\∃ d,La x=some d/\(d∈F∨∃ k,d=na k/\n<=k/\k<m)
def Df(ks:List Nat)(ws:List Wd):Prop:=yb ws=ks.map na
theorem Rf.mono{n' m':Nat}(h:Rf F n m ws)(h1:n'<=n)(h2:m<=m'):Rf F n' m' ws:=λx hx=>by rcases h x hx with h|h|⟨a1,d,a2,h|⟨k,e,k1,k2⟩⟩;exact .inl h;exact .inr (.inl h);exact .inr (.inr ⟨a1,d,a2,.inl h⟩);exact .inr (.inr ⟨a1,d,a2,.inr ⟨k,e,by omega,by omega⟩⟩)
theorem Rf.app(h:Rf F n m a)(k:Rf F n m b):Rf F n m (a++b):=λx hx=>by rcases vj hx with hx|hx;exact h x hx;exact k x hx
theorem tj.rf(h:tj F ws):Rf F n m ws:=λx hx=>by rcases h x hx with h|⟨h1,d,h2,h3⟩;exact .inr (.inl h);exact .inr (.inr ⟨h1,d,h2,.inl h3⟩)
theorem Rf.ref(hk:k<=4000000000)(h1:n<=k)(h2:k<m):Rf F n m [38::na k]:=λx hx=>by rw[cj hx];exact .inr (.inr ⟨As (kX hk),_,kX hk,.inr ⟨k,rfl,h1,h2⟩⟩)
theorem Rf.WA(hk:k<=4000000000):Rf F n m [na k++[58]]:=λx hx=>by rw[cj hx];exact .inl ⟨_,R9 hk⟩
theorem Rf.pl(h:Pl w):Rf F n m [w]:=(tj.cons h .nil).rf
theorem Df.app{ks ls:List Nat}(h:Df ks a)(k:Df ls b):Df (ks++ls) (a++b):=by unfold Df at h k ⊢;rw[Az,h,k,Lf]
theorem tj.df(h:tj F ws):Df [] ws:=by unfold Df yb;rw[List.filterMap_eq_nil_iff.2];rfl;intro x hx;rcases h x hx with h|⟨h,_⟩;exact h.1;exact h
theorem Df.WA(hk:k<=4000000000):Df [k] [na k++[58]]:=by unfold Df yb;simp only[filterMap_cons,R9 hk,filterMap_nil,jd,map_nil]
theorem Df.ref(hk:k<=4000000000):Df [] [38::na k]:=by unfold Df yb;simp only[filterMap_cons,As (kX hk),filterMap_nil,map_nil]
theorem Df.pl(h:Pl w):Df [] [w]:=by unfold Df yb;simp only[filterMap_cons,h.1,filterMap_nil,map_nil]
def Lw(F:List Wd)(n m:Nat)(ws:List Wd):Prop:=∃ ks:List Nat,Df ks ws/\ks.Nodup/\(∀ k,k∈ks ↔ n<=k/\k<m)/\Rf F n m ws/\n<=m
theorem Lw.none(h:tj F ws):Lw F n n ws:=⟨[],h.df,List.nodup_nil,λk=>⟨λh=>(not_mem_nil h).elim,λh=>by omega⟩,h.rf,Nb _⟩
theorem Lw.app{n m p:Nat}(h:Lw F n m a)(k:Lw F m p b):Lw F n p (a++b):=by obtain⟨ks,h1,h2,h3,h4,h5⟩:=h;obtain⟨ls,k1,k2,k3,k4,k5⟩:=k;refine⟨ks++ls,h1.app k1,List.nodup_append.2 ⟨h2,k2,λx hx y hy e=>?_⟩,λx=>?_,(h4.mono (Nb _) k5).app (k4.mono h5 (Nb _)),Se h5 k5⟩;have a1:=(h3 x).1 hx;have a2:=(k3 y).1 hy;omega;rw[mem_append,h3,k3];omega
mutual
theorem qzD(c:CC):∀ (s:Sm) (n:Nat),n<=(kg c n s).2
 |.mk kind name index value Ka fb,n=>by
  rw[CO];have e1:=ML c Ka (n+1);have e2:=ML c Ka (n+2);have e3:=ML c fb (Da c (n+2) Ka).2;split;exact Nb _;split;exact Nb _;split;cases fb with
  |nil=>show n<=(Da c (n+1) Ka).2;omega
  |cons a q=>show n<=(Da c (Da c (n+2) Ka).2 (a::q)).2;omega
  split;show n<=(Da c (n+2) Ka).2;omega;split;exact Nb _;split;exact Nb _;split;exact Nb _;exact Nb _
theorem ML(c:CC):∀ (l:List Sm) (n:Nat),n<=(Da c n l).2
 |[],n=>by rw[Da];exact Nb _
 |s::l,n=>by rw[Da];exact Se (qzD c s n) (ML c l _)
end
mutual
theorem qzH{c:CC}(hc:sj c){env:gb}(Kc:aN F env):∀ (s:Sm) (n:Nat),Io s->xk env s=0->(kg c n s).2<=4000000000->Lw F n (kg c n s).2 (kg c n s).1
 |.mk kind name index value Ka fb,n,hn,h,hN=>by
  rw[xk] at h;by_cases hf:yh (.mk kind name index value Ka fb)=false;rw[zp hf] at h;cases h;rw[zn hf] at h;obtain⟨h1,h⟩:=Dc.1 h;obtain⟨h2,h⟩:=Dc.1 h;obtain⟨h3,h⟩:=Dc.1 h;obtain⟨h4,h5⟩:=Dc.1 h;rw[Bool.not_eq_false] at hf;unfold yh at hf;obtain⟨n1,n2,n3,n4⟩:=hn;have one:∀ {l:List Ex},l.length=1->lk l->Sf env l=0->tj F (Cb c (l.headD default)):=λ{l} hl nq Ot=>by obtain⟨x,rfl⟩:=Hu hl;rw[Sf] at Ot;exact w9 hc Kc x nq.1 (Dc.1 Ot).1
  rw[CO] at hN ⊢;by_cases k1:kind=1;rw[zp k1] at hN ⊢;have hv:value.length=1:=by subst k1;simp at hf;exact hf.2.2.1
  exact .none ((one hv n2 h1).app (.cons (vz (hc.sc name)) (.cons (sg da) .nil)));rw[zn k1] at hN ⊢;by_cases k2:kind=2;rw[zp k2] at hN ⊢;have hv:index.length=1/\value.length=1:=by subst k2;simp at hf;exact⟨hf.2.1,hf.2.2.1⟩
  exact .none ((one hv.2 n2 h1).app (.cons (vz (hc.ar name)) ((one hv.1 n1 h2).app (.cons (sg da) (.cons (sg da) .nil)))));rw[zn k2] at hN ⊢;by_cases k3:kind=3;rw[zp k3] at hN ⊢;have hv:value.length=1:=by subst k3;simp at hf;exact hf.2.2
  have hx:=one hv n2 h1;cases fb with
  |nil=>
   simp only at hN ⊢;obtain⟨ks,d1,d2,d3,d4,d5⟩:=IL hc Kc Ka (n+1) n3 h4 hN;have hk:n<=4000000000:=by omega
   refine⟨(([]++[]++[])++ks)++[n],?_,?_,λx=>?_,?_,by omega⟩;exact(((by rw[Pc];exact hx.df.app ((Df.ref hk).app (Df.pl (sg (c:=63) da)))):Df ([]++[]++[]) _).app d1).app (Df.WA hk);simp only[nil_append]
   exact List.nodup_append.2 ⟨d2,by simp,λx hx y hy e=>by
    have:=(d3 x).1 hx;rw[mem_singleton] at hy;omega⟩
   simp only[nil_append,mem_append,mem_singleton,d3];omega;refine Rf.app (Rf.app (Rf.app hx.rf ?_) (d4.mono (by omega) (Nb _))) (Rf.WA hk);exact(Rf.ref hk (Nb _) (by omega)).app (Rf.pl (w:=[63]) (sg da))
  |cons a q=>
   simp only at hN ⊢;have hle:=ML c (a::q) (Da c (n+2) Ka).2;obtain⟨ks,d1,d2,d3,d4,d5⟩:=IL hc Kc Ka (n+2) n3 h4 (by omega);obtain⟨ls,e1,e2,e3,e4,e5⟩:=IL hc Kc (a::q) (Da c (n+2) Ka).2 n4 h5 hN;have hk:n<=4000000000:=by omega
   have Ah:n+1<=4000000000:=by omega
   have m1:Df [n] [[48],38::na (n+1),[63],na n++[58]]:=(Df.pl (sg (c:=48) da)).app ((Df.ref Ah).app ((Df.pl (sg (c:=63) da)).app (Df.WA hk)));refine⟨(((([]++[]++[])++ks)++[n])++ls)++[n+1],?_,?_,λx=>?_,?_,by omega⟩;exact((((by rw[Pc];exact hx.df.app ((Df.ref hk).app (Df.pl (sg (c:=63) da)))):Df ([]++[]++[]) _).app d1).app m1 |>.app e1).app (Df.WA Ah);simp only[nil_append];refine List.nodup_append.2 ⟨List.nodup_append.2 ⟨List.nodup_append.2 ⟨d2,by simp,λx hx y hy e=>?_⟩,e2,λx hx y hy e=>?_⟩,by simp,λx hx y hy e=>?_⟩;have:=(d3 x).1 hx;rw[mem_singleton] at hy;omega;have b2:=(e3 y).1 hy;rcases vj hx with hx|hx;have:=(d3 x).1 hx;omega;rw[mem_singleton] at hx;omega;rw[mem_singleton] at hy;rcases vj hx with hx|hx;rcases vj hx with hx|hx;have:=(d3 x).1 hx;omega;rw[mem_singleton] at hx;omega;have:=(e3 x).1 hx;omega;simp only[nil_append,mem_append,mem_singleton,d3,e3];omega;refine Rf.app (Rf.app (Rf.app (Rf.app (Rf.app hx.rf ?_) (d4.mono (by omega) (by omega))) ?_) (e4.mono (by omega) (Nb _))) (Rf.WA Ah);exact(Rf.ref hk (Nb _) (by omega)).app (Rf.pl (w:=[63]) (sg da));exact(Rf.pl (w:=[48]) (sg da)).app ((Rf.ref Ah (by omega) (by omega)).app ((Rf.pl (w:=[63]) (sg da)).app (Rf.WA hk)))
  rw[zn k3] at hN ⊢;by_cases k4:kind=4;rw[zp k4] at hN ⊢;have hv:value.length=1:=by subst k4;simp at hf;exact hf.2.2.1
  have hx:=one hv n2 h1;simp only at hN ⊢;obtain⟨ks,d1,d2,d3,d4,d5⟩:=IL hc Kc Ka (n+2) n3 h4 hN;have hk:n<=4000000000:=by omega
  have Ah:n+1<=4000000000:=by omega
  refine⟨((([n]++[])++[])++ks)++[n+1],?_,?_,λx=>?_,?_,by omega⟩;exact((((Df.WA hk).app hx.df).app ((Df.ref Ah).app (Df.pl (sg (c:=63) da)))).app d1).app ((Df.pl (sg (c:=48) da)).app ((Df.ref hk).app ((Df.pl (sg (c:=63) da)).app (Df.WA Ah))));simp only[Jd];refine List.nodup_append.2 ⟨List.nodup_append.2 ⟨by simp,d2,λx hx y hy e=>?_⟩,by simp,λx hx y hy e=>?_⟩;have:=(d3 y).1 hy;rw[mem_singleton] at hx;omega;rw[mem_singleton] at hy;rcases vj hx with hx|hx;rw[mem_singleton] at hx;omega;have:=(d3 x).1 hx;omega;simp only[Jd,mem_append,mem_singleton,d3];omega;refine Rf.app (Rf.app (Rf.app (Rf.app (Rf.WA hk) hx.rf) ?_) (d4.mono (by omega) (Nb _))) ?_;exact(Rf.ref Ah (by omega) (by omega)).app (Rf.pl (w:=[63]) (sg da));exact(Rf.pl (w:=[48]) (sg da)).app ((Rf.ref hk (Nb _) (by omega)).app ((Rf.pl (w:=[63]) (sg da)).app (Rf.WA Ah)));rw[zn k4] at hN ⊢
  by_cases k5:kind=5;rw[zp k5] at hN ⊢;have hv:value.length=1:=by subst k5;simp at hf;exact hf.2.2.1
  exact .none ((one hv n2 h1).app (.cons (sg da) .nil));rw[zn k5] at hN ⊢;by_cases k6:kind=6;rw[zp k6] at hN ⊢;have hv:value.length=1:=by subst k6;simp at hf;exact hf.2.2.1
  exact .none ((one hv n2 h1).app (.cons (vz hc.t0) (.cons (sg da) .nil)));rw[zn k6] at hN ⊢;by_cases k7:kind=7;rw[zp k7] at hN ⊢;exact .none (.cons (sg da) .nil);rw[zn k7] at hN ⊢;exact .none .nil
theorem IL{c:CC}(hc:sj c){env:gb}(Kc:aN F env):∀ (l:List Sm) (n:Nat),Hi l->Gh env l=0->(Da c n l).2<=4000000000->Lw F n (Da c n l).2 (Da c n l).1
 |[],n,_,_,_=>by rw[Da];exact .none .nil
 |s::l,n,hn,h,hN=>by rw[Gh] at h;obtain⟨h1,h2⟩:=Dc.1 h;rw[Da] at hN ⊢;simp only at hN ⊢;have hle:=ML c l (kg c n s).2;exact(qzH hc Kc s n hn.1 h1 (by omega)).app (IL hc Kc l _ hn.2 h2 hN)
end
def ao(s:Nm):Wd:=[102,95]++s
theorem qsF(h:Le s=true):mu (ao s)=true:=by
 unfold Le at h;rw[Yc,Yc,Mf] at h;obtain⟨⟨h1,_⟩,h2⟩:=h;show(decide ((102::95::s).length<=40) && Yk 102 && (102::95::s).all yi)=true;have h3:s.all yi=true:=by
  cases s with
  |nil=>rfl
  |cons c r=>simp only[Yc] at h2;rw[all_cons,h2.2];have:=h2.1;unfold yi;rw[this];simp
 rw[all_cons,all_cons,h3];simp only[Yc,Mf];refine⟨⟨by simp only[Ba];omega,by decide⟩,by decide⟩
theorem Q8(h:Le s=true):ma (ao s++[58])=some (ao s):=by unfold ma;rw[List.dropLast_concat,zp ⟨by simp,qsF h⟩]
theorem E9(h:Le s=true):La (38::ao s)=some (ao s):=by show(if (38:UInt8)=38/\mu (ao s)=true then some (ao s) else none)=some (ao s);rw[zp ⟨rfl,qsF h⟩]
theorem jX(s:Nm)(k:Nat):ao s≠na k:=by unfold ao na;intro h;injection h with h _;exact absurd h da
theorem qzX{t:Nm}(h:ao s=ao t):s=t:=by unfold ao at h;exact List.append_cancel_left h
theorem qsV{j:Nat}(h:na j=na k)(hj:j<=4000000000)(hk:k<=4000000000):j=k:=by unfold na at h;injection h with _ h;have h1:=nE (n:=j) (by omega);have h2:=nE (n:=k) (by omega);rw[h,h2] at h1;injection h1 with h1;exact h1.symm
theorem Q9{c:CC}(hc:sj c):∀ (ps:List Nm),tj F (ps.flatMap λp=>[c.sc p,[33]])
 |[]=>.nil
 |p::ps=>by rw[List.flatMap_cons];exact tj.app (.cons (vz (hc.sc p)) (.cons (sg da) .nil)) (Q9 hc ps)
theorem X9{cc:Nm->CC}(hc:∀ n,sj (cc n)):∀ (fs:List ob) (n:Nat),(∀ f∈fs,∃ env,aN F env/\Gh env f.body=0/\Hi f.body/\Le f.name=true)->(fs.map (·.name)).Nodup->(Cc cc n fs).2<=4000000000 ->
  (∀ x∈yb (Cc cc n fs).1,(∃ f∈fs,x=ao f.name)∨∃ k,x=na k/\n<=k/\k<(Cc cc n fs).2)/\(yb (Cc cc n fs).1).Nodup/\(∀ k,n<=k->k<(Cc cc n fs).2->na k∈yb (Cc cc n fs).1) /\
  (∀ f∈fs,ao f.name∈yb (Cc cc n fs).1)/\Rf F n (Cc cc n fs).2 (Cc cc n fs).1/\n<=(Cc cc n fs).2
 |[],n,_,_,_=>by rw[Cc];exact⟨λx hx=>(not_mem_nil hx).elim,List.nodup_nil,λk h1 h2=>by have h2:k<n:=h2;omega,λf hf=>(not_mem_nil hf).elim,λx hx=>(not_mem_nil hx).elim,Nb _⟩
 |f::fs,n,h,dh,hN=>by
  obtain⟨env,h1,h2,h3,h4⟩:=h f Ce;rw[jd,List.nodup_cons] at dh;rw[Cc] at hN ⊢;simp only at hN ⊢;have e2:(Rj (cc f.name) n f).2=(Da (cc f.name) n f.body).2:=rfl;have ih:=X9 hc fs (Rj (cc f.name) n f).2 (λg hg=>h g (Gc _ hg)) dh.2 hN;rw[e2] at ih hN ⊢;obtain⟨a1,a2,a3,a4,a5,a6⟩:=ih;obtain⟨ks,b1,b2,b3,b4,b5⟩:=IL (hc f.name) h1 f.body n h3 h2 (by omega);have hp:tj F (f.params.reverse.flatMap λp=>[(cc f.name).sc p,[33]]):=Q9 (hc f.name) _;have he:tj F [[48],[59]]:=.cons (sg da) (.cons (sg da) .nil)
  have hD:yb (Rj (cc f.name) n f).1=ao f.name::ks.map na:=by
   show yb ([ao f.name++[58]]++(f.params.reverse.flatMap λp=>[(cc f.name).sc p,[33]])++(Da (cc f.name) n f.body).1++[[48],[59]])=_;rw[Az,Az,Az,hp.df,b1,he.df]
   have:yb [ao f.name++[58]]=[ao f.name]:=by unfold yb;simp only[filterMap_cons,Q8 h4,filterMap_nil]
   rw[this];simp
  have hR:Rf F n (Da (cc f.name) n f.body).2 (Rj (cc f.name) n f).1:=by show Rf F n _ ([ao f.name++[58]]++(f.params.reverse.flatMap λp=>[(cc f.name).sc p,[33]])++(Da (cc f.name) n f.body).1++[[48],[59]]);refine Rf.app (Rf.app (Rf.app (λx hx=>?_) hp.rf) b4) he.rf;rw[cj hx];exact .inl ⟨_,Q8 h4⟩
  rw[Az,hD];refine⟨λx hx=>?_,?_,λk k1 k2=>?_,λg hg=>?_,(hR.mono (Nb _) a6).app (a5.mono b5 (Nb _)),Se b5 a6⟩;rcases vj hx with hx|hx;rcases lc.1 hx with rfl|hx;exact .inl ⟨f,List.mem_cons_self ..,rfl⟩;obtain⟨k,k1,rfl⟩:=Ei hx;have:=(b3 k).1 k1;exact .inr ⟨k,rfl,this.1,by omega⟩;rcases a1 x hx with⟨g,hg,e⟩|⟨k,e,k1,k2⟩;exact .inl ⟨g,Gc _ hg,e⟩;exact .inr ⟨k,e,by omega,k2⟩;refine List.nodup_append.2 ⟨List.nodup_cons.2 ⟨λhx=>?_,?_⟩,a2,λx hx y hy e=>?_⟩;obtain⟨k,_,e⟩:=Ei hx;exact jX f.name k e.symm;exact List.pairwise_map.2 (b2.imp_of_mem λ{a b} ha hb uF he=>uF (qsV he (by have:=(b3 a).1 ha;omega) (by have:=(b3 b).1 hb;omega)));subst e;rcases lc.1 hx with rfl|hx;rcases a1 _ hy with⟨g,hg,e⟩|⟨k,e,_,_⟩;exact dh.1 (El ⟨g,hg,(qzX e).symm⟩);exact jX _ _ e;obtain⟨k,k1,rfl⟩:=Ei hx;have:=(b3 k).1 k1;rcases a1 _ hy with⟨g,hg,e⟩|⟨j,e,j1,j2⟩;exact jX _ _ e.symm;have:=qsV e (by omega) (by omega);omega
  by_cases hk:k<(Da (cc f.name) n f.body).2;exact ap (.inl (Gc _ (El ⟨k,(b3 k).2 ⟨k1,hk⟩,rfl⟩)));exact ap (.inr (a3 k (by omega) k2));rcases lc.1 hg with rfl|hg;exact ap (.inl Ce);exact ap (.inr (a4 g hg))
theorem qxS{P:Pr}{o:fk}(hc:qp P=0)(Vb:∀ f∈P.funcs,Hi f.body)(de:Jq P.vars (Ue P) P.funcs o=true)(dh:Qd P.funcs<=2000000):Ts (Mg P o):=by
 have hv:=IG hc;have hF:=zC de;have um:=(sv _ _ hv.names).1;have Kc:(P.funcs.map (·.name)).Nodup:=(Dm um).2.1;have Sy:∀ f∈P.funcs,Le f.name=true:=λf hf=>((sv _ _ hv.names).2 f.name (ap (.inr (El ⟨f,hf,rfl⟩)))).2
 have ll:Ur P.vars (P.ba.map (·.name)) (P.funcs.map (·.name)) [] P.funcs=0:=by
  unfold qp Uq at hc;have e1:(P.ba.map λa=>(a.name,(a.size:Int))).map (·.1)=P.ba.map (·.name):=by rw[List.map_map];try rfl
  rw[e1] at hc;exact(Dc.1 (Dc.1 (Dc.1 hc).2).2).1
 have lF:=(DX (o:=o) hc Vb de dh).2;have hk:=gX P.funcs [] ll Kc;have hA:∀ f∈P.funcs,aN (P.funcs.map λf=>ao f.name) (Wf P.vars (P.ba.map (·.name)) (P.funcs.map (·.name)) (yu P.vars (P.ba.map (·.name)) (P.funcs.map (·.name)) [] P.funcs f) f):=λf hf name g hg=>by
  have h1:g∈yu P.vars (P.ba.map (·.name)) (P.funcs.map (·.name)) [] P.funcs f:=List.mem_of_find?_eq_some hg;have h2:g.name=name:=Hg (List.find?_some (p:=λg:Nd=>decide (g.name=name)) hg);rcases TW P.funcs [] Kc f hf g h1 with h3|⟨x,h3,h4⟩;exact(not_mem_nil h3).elim;have h5:x.name=name:=by rw[<-h2,h4];try rfl
  rw[<-h5];exact⟨E9 (Sy x h3),El ⟨x,h3,rfl⟩⟩
 obtain⟨a1,a2,a3,a4,a5,_⟩:=X9 (F:=P.funcs.map λf=>ao f.name) (λn=>M8 hF n) P.funcs 0 (λf hf=>⟨_,hA f hf,hk f hf,Vb f hf,Sy f hf⟩) Kc (by omega);have hm:=hv.main;have h0:tj (P.funcs.map λf=>ao f.name) [[38,102,95,109,97,105,110],[58],itoa o.scalars,[33],[36]]:=by have hmn:(Bg P).name=[109,97,105,110]:=hm.2.1;have h1:=Sy _ hm.1;rw[hmn] at h1;refine .call (E9 h1) (El ⟨Bg P,hm.1,by rw[hmn]⟩) (.cons (sg da) (.cons (vz (PG hF.s0 (by have:=hF.s1;omega))) (.cons (sg da) (.cons (sg da) .nil))))
 have hW:Mg P o=[[38,102,95,109,97,105,110],[58],itoa o.scalars,[33],[36]]++(Cc (Bp P.vars (Ue P) P.funcs o) 0 P.funcs).1:=rfl;have hD:yb (Mg P o)=yb (Cc (Bp P.vars (Ue P) P.funcs o) 0 P.funcs).1:=by rw[hW,Az,h0.df];try rfl
 refine⟨by rw[hD];exact a2,λx hx=>?_⟩;rw[hD]
 have hR:Rf (P.funcs.map λf=>ao f.name) 0 (Cc (Bp P.vars (Ue P) P.funcs o) 0 P.funcs).2 (Mg P o):=by rw[hW];exact h0.rf.app a5
 unfold ko;rcases hR x hx with⟨d,e⟩|⟨e1,e2,e3⟩|⟨e1,d,e2,h⟩;rw[e];trivial;rw[e1,e2];exact e3;rw[e1,e2];simp only;rcases h with h|⟨k,rfl,k1,k2⟩;obtain⟨f,hf,rfl⟩:=Ei h;exact a4 f hf;exact a3 k k1 k2
end
end Go.ea.Wi
namespace Go.ea.Wi.Wc
open Go.Lib
variable{P:Pr}{a:Sm}{b el th:List Sm}{ix vr:List Ex}{name:Nm}{r:Option Nat}{vs:List Nat}{x:Ex}
def dH(w:Nat)(s:IS):IR Unit:=if s.left<w then .stop 13 s else .ok () { s with left:=s.left-w }
def wN(n:Nat):Nat:=if n<10 then 2 else if n<100 then 3 else if n<1000 then 4 else if n<10000 then 5 else if n<100000 then 6 else if n<1000000 then 7 else 12
def wE(op:Nm)(num:Nat)(name:Nm)(k:Nat):Nat:=
 if op=We then wN num
 else if op=Bf then 8
 else if op=ij then 9
 else if op=tg then 3
 else if op=Uf then 3
 else if op=Of then (if name=[105,110] then 1 else if name=[111,117,116] then 3 else 8 * k+11)
 else if op=[62] then 33
 else if op=[60,61] then 36
 else if op=[38,38] then 7
 else if op=[124,124] then 10
 else 4
def wS(kind:Int)(fb:List Sm):Nat:=
 if kind=1 then 8
 else if kind=2 then 9
 else if kind=3 then (match fb with
  |[]=>8
  |_::_=>18)
 else if kind=4 then 8
 else if kind=5 then 1
 else if kind=6 then 8
 else 0
def Mu(c:IS->IR Nat)(b:IS->IR (Option Nat)):Nat->Nat->IS->IR (Option Nat)
 |0,v,s=>if v=0 then .ok none s else .stop 13 s
 |m+1,v,s=>if v=0 then .ok none s else (b s).bind λr s=>match r with
  |some x=>.ok (some x) s
  |none=>(dH 18 s).bind λ_ s=>(c s).bind λv s=>Mu c b m v s
mutual
def Rm(P:Pr):Nat->ob->Ex->IS->IR Nat
 |0,_,_,s=>.stop 13 s
 |n+1,f,.mk op num name args,s=>(dH (wE op num name args.length) s).bind λ_ s=>(Mj (Rm P n f) args s).bind λvs s=>EE P (Ag P n) f op num name vs s
def Ag(P:Pr):Nat->ob->Sm->IS->IR (Option Nat)
 |0,_,_,s=>.stop 13 s
 |n+1,f,.mk kind name index value Ka fb,s=>(dH (wS kind fb) s).bind λ_ s=>
  if kind=7 then .stop 0 s else (Rm P n f (value.headD default) s).bind λv s=>
   if kind=1 then .ok none (yf s (Ub f name) v)
   else if kind=2 then (Rm P n f (index.headD default) s).bind λi s=>match (s.ar name)[i]? with
    |some _=>.ok none { s with ar:=λx=>if x=name then (s.ar name).set i v else s.ar x }
    |none=>.stop 2 s
   else if kind=5 then .ok (some v) s
   else if kind=3 then (if v≠0 then bg (Ag P n f) Ka s else bg (Ag P n f) fb s)
   else if kind=4 then Mu (Rm P n f (value.headD default)) (bg (Ag P n f) Ka) n v s
   else .ok none s
end
def Db{A:Type}(C:PW)(Q:A->IS->MS->Prop)(c d:Int)(m:MS)(s:IS):IR A->Prop
 |.ok v s'=>s'.left<=s.left/\∃ k:Nat,∃ m',(k:Int)<=c+((s.left:Int)-(s'.left:Int))/\wh C k m m'/\Q v s' m'
 |.stop e s'=>tz C (d+(s.left:Int)) m e s'
variable{C:PW}
section
variable{A B:Type}{Q:A->IS->MS->Prop}{R:B->IS->MS->Prop}{c d c1 d1 c2 d2:Int}{m m1:MS}{s:IS}
theorem Db.pre{r:IR A}{a:Nat}(h:pf C a m m1)(g:Db C Q c1 d1 m1 s r)(hc:a+c1<=c)(hd:a+d1<=d):Db C Q c d m s r:=by
 obtain⟨x,hx,hs⟩:=h;cases r with
 |ok v s'=>obtain⟨h1,k,m',h2,h3,h4⟩:=g;exact⟨h1,x+k,m',by omega,hs.trans h3,h4⟩
 |stop e s'=>exact(tz.pre hs g).mono (by omega)
theorem Db.ok{v:A}(h:Q v s m)(hc:0<=c):Db C Q c d m s (.ok v s):=⟨Nb _,0,m,by omega,.zero _,h⟩
theorem Db.bind{r:IR A}{f:A->IS->IR B}(h:Db C Q c1 d1 m s r)(hc:c1+c2<=c)(hd:d1<=d)(ur:c1+d2<=d)(hf:∀ v s' m',Q v s' m'->Db C R c2 d2 m' s' (f v s')):Db C R c d m s (r.bind f):=by
 cases r with
 |ok v s1=>
  obtain⟨h1,k,m',h2,h3,h4⟩:=h;have g:=hf v s1 m' h4;show Db C R c d m s (f v s1);revert g;cases f v s1 with
  |ok w s2=>rintro⟨k1,k',m2,k2,k3,k4⟩;exact⟨by omega,k+k',m2,by omega,h3.trans k3,k4⟩
  |stop e s2=>exact λg=>(tz.pre h3 g).mono (by omega)
 |stop e s1=>exact tz.mono (s:=s1) h (by omega)
theorem Db.post{r:IR A}{R:A->IS->MS->Prop}{a:Nat}(h:Db C Q c1 d1 m s r)(hc:c1+a<=c)(hd:d1<=d)(hf:∀ v s' m',Q v s' m'->∃ m2,pf C a m' m2/\R v s' m2):Db C R c d m s r:=by
 cases r with
 |ok v s1=>obtain⟨h1,k,m',h2,h3,h4⟩:=h;obtain⟨m2,⟨x,hx,k1⟩,k2⟩:=hf v s1 m' h4;exact⟨h1,k+x,m2,by omega,h3.trans k1,k2⟩
 |stop e s1=>exact tz.mono h (by omega)
theorem Db.tick{w:Nat}{f:Unit->IS->IR A}(Me:m.out=s.out)(h:w<=s.left->Db C Q (c+w) (d+w) m { s with left:=s.left-w } (f () { s with left:=s.left-w })):Db C Q c d m s ((dH w s).bind f):=by
 unfold dH;split;exact⟨λhe=>(by rcases he with he|he <;> cases he),λ_=>⟨0,m,.zero _,Me⟩⟩
 rename_i h0;have k:=h (by omega);show Db C Q c d m s (f () { s with left:=s.left-w })
 revert k
 cases f () { s with left:=s.left-w } with
 |ok v s1=>rintro⟨k1,k,m2,k2,k3⟩;simp only at k1 k2;exact⟨by omega,k,m2,by omega,k3⟩
 |stop e s1=>intro k;exact tz.mono k (by simp only;omega)
theorem Db.ra(Me:m.out=s.out):Db C Q c d m s (.stop 13 s):=⟨λhe=>(by rcases he with he|he <;> cases he),λ_=>⟨0,m,.zero _,Me⟩⟩
theorem Db.other{e:Int}(h:e≠0/\e≠12/\e≠13):Db C Q c d m s (.stop e s):=⟨λhe=>(by rcases he with he|he <;> omega),λhe=>by omega⟩
theorem Db.Td{e:Int}(hd:0<=d)(he:e=0∨e=12)(h:∃ m',wh C 0 m m'/\Sa C m'=.stop e.toNat s.out):Db C Q c d m s (.stop e s):=by obtain⟨m',h1,h2⟩:=h;exact⟨λ_=>⟨0,m',by omega,h1,h2⟩,λAa=>by omega⟩
end
def lf(s:IS)(l:Nat):IS:={ s with left:=l }
theorem fE(s:IS)(w k l:Nat):dH w (lf s (l+(w+k)))=.ok () (lf s (l+k)):=by unfold dH lf;simp only;rw[zn (by omega),show l+(w+k)-w=l+k by omega]
section
variable(P:Pr)
def Op(f:ob)(op:Nm)(num:Nat)(name:Nm)(vs:List Nat)(s:IS)(K v:Nat)(s':IS):Prop:=∃ k,k<=K/\∃ n0,∀ n,n0<=n->∀ l,EE P (Ag P n) f op num name vs (lf s (l+k))=.ok v (lf s' l)
def Ev(f:ob)(x:Ex)(s:IS)(K v:Nat)(s':IS):Prop:=∃ k,k<=K/\∃ n0,∀ n,n0<=n->∀ l,Rm P n f x (lf s (l+k))=.ok v (lf s' l)
def Yo(f:ob)(xs:List Ex)(s:IS)(K:Nat)(vs:List Nat)(s':IS):Prop:=∃ k,k<=K/\∃ n0,∀ n,n0<=n->∀ l,Mj (Rm P n f) xs (lf s (l+k))=.ok vs (lf s' l)
def St(f:ob)(a:Sm)(s:IS)(K:Nat)(r:Option Nat)(s':IS):Prop:=∃ k,k<=K/\∃ n0,∀ n,n0<=n->∀ l,Ag P n f a (lf s (l+k))=.ok r (lf s' l)
def Bl(f:ob)(b:List Sm)(s:IS)(K:Nat)(r:Option Nat)(s':IS):Prop:=∃ k,k<=K/\∃ n0,∀ n,n0<=n->∀ l,bg (Ag P n f) b (lf s (l+k))=.ok r (lf s' l)
def Wh(f:ob)(x:Ex)(b:List Sm)(v:Nat)(s:IS)(K:Nat)(r:Option Nat)(s':IS):Prop:=∃ k,k<=K/\∃ n0,∀ n m,n0<=n->n0<=m->∀ l,Mu (Rm P n f x) (bg (Ag P n f) b) m v (lf s (l+k))=.ok r (lf s' l)
end
section
variable{P:Pr}{f:ob}{s s1 s2 s':IS}{K K1 K2 K3 v w:Nat}
theorem Ev.mono(h:Ev P f x s K v s')(hk:K<=K1):Ev P f x s K1 v s':=by obtain⟨k,h1,h2⟩:=h;exact⟨k,by omega,h2⟩
theorem Bl.mono(h:Bl P f b s K r s')(hk:K<=K1):Bl P f b s K1 r s':=by obtain⟨k,h1,h2⟩:=h;exact⟨k,by omega,h2⟩
theorem St.mono(h:St P f a s K r s')(hk:K<=K1):St P f a s K1 r s':=by obtain⟨k,h1,h2⟩:=h;exact⟨k,by omega,h2⟩
theorem Wh.mono(h:Wh P f x b v s K r s')(hk:K<=K1):Wh P f x b v s K1 r s':=by obtain⟨k,h1,h2⟩:=h;exact⟨k,by omega,h2⟩
theorem Yo.nil:Yo P f [] s 0 [] s:=⟨0,Nb _,0,λn _ l=>rfl⟩
theorem Yo.cons{xs:List Ex}(h:Ev P f x s K1 v s1)(g:Yo P f xs s1 K2 vs s'):Yo P f (x::xs) s (K1+K2) (v::vs) s':=by
 obtain⟨k1,h1,n1,e1⟩:=h;obtain⟨k2,h2,n2,e2⟩:=g;refine⟨k1+k2,by omega,max n1 n2,λn hn l=>?_⟩;unfold Mj;rw[show l+(k1+k2)=(l+k2)+k1 by omega,e1 n (by omega) (l+k2)];show(Mj (Rm P n f) xs (lf s1 (l+k2))).bind _=_;rw[e2 n (by omega) l]
 try rfl
theorem Ev.mk{op:Nm}{num:Nat}{name:Nm}{args:List Ex}{vs:List Nat}(h:Yo P f args s K1 vs s1)(g:Op P f op num name vs s1 K2 v s'):Ev P f (.mk op num name args) s (wE op num name args.length+K1+K2) v s':=by obtain⟨k1,h1,n1,e1⟩:=h;obtain⟨k2,h2,n2,e2⟩:=g;refine⟨wE op num name args.length+(k1+k2),by omega,max n1 n2+1,λn hn l=>?_⟩;obtain⟨m,rfl⟩:∃ m,n=m+1:=⟨n-1,by omega⟩;rw[Rm,fE];show(Mj (Rm P m f) args (lf s (l+(k1+k2)))).bind _=_;rw[show l+(k1+k2)=(l+k2)+k1 by omega,e1 m (by omega) (l+k2)];exact e2 m (by omega) l
def XN(f:ob)(s:IS)(op:Nm)(num:Nat)(name:Nm)(vs:List Nat):Nat:=
 if op=We then num
 else if op=Bf then s.sc (Ub f name)
 else if op=ij then (s.ar name).getD (vs.headD 0) 0
 else if op=tg then (4294967296-vs.headD 0) % 4294967296
 else if op=Uf then nf (decide (vs.headD 0=0))
 else (Qi op (vs.headD 0) (vs.tail.headD 0)).getD 0
def FE(f:ob)(s:IS)(op:Nm)(name:Nm)(vs:List Nat):Bool:=
 if op=We then true
 else if op=Bf then true
 else if op=ij then decide (vs.headD 0<(s.ar name).length)
 else if op=tg then true
 else if op=Uf then true
 else if op=Of then false
 else (Qi op (vs.headD 0) (vs.tail.headD 0)).isSome
theorem Op.pure{op:Nm}{num:Nat}(h:FE f s op name vs=true):Op P f op num name vs s 0 (XN f s op num name vs) s:=by
 refine⟨0,Nb _,0,λn _ l=>?_⟩;rw[Nat.add_zero];unfold FE at h
 by_cases h1:op=We;subst h1;rfl;by_cases h2:op=Bf;subst h2;rfl;rw[zn h1,zn h2] at h;by_cases h3:op=ij
 ·subst h3;rw[zp rfl] at h;have za:=Hg h
  show(match (s.ar name)[vs.headD 0]? with
   |some v=>IR.ok v (lf s l)
   |none=>.stop 2 (lf s l))=.ok ((s.ar name).getD (vs.headD 0) 0) (lf s l)
  rw[di za,List.getD_eq_getElem?_getD,di za];try rfl
 rw[zn h3] at h;by_cases h4:op=tg;subst h4;rfl;rw[zn h4] at h;by_cases h5:op=Uf;subst h5;rfl;rw[zn h5] at h;by_cases h6:op=Of;rw[zp h6] at h;cases h;rw[zn h6] at h;unfold EE XN;rw[zn h1,zn h2,zn h3,zn h4,zn h5,zn (show op≠[110,117,109] from h1),zn (show op≠[118,97,114] from h2),zn (show op≠[101,108,101,109] from h3),zn (show op≠[110,101,103] from h4),zn (show op≠[110,111,116] from h5),zn (show op≠[99,97,108,108] from h6)];cases hb:Qi op (vs.headD 0) (vs.tail.headD 0) with
 |none=>rw[hb] at h;cases h
 |some v=>rfl
theorem Op.xa{num:Nat}:Op P f Of num [105,110] [] s 0 (s.xa.headD 4294967295) { s with xa:=s.xa.tail }:=by
 refine⟨0,Nb _,0,λn _ l=>?_⟩;show iy P (Ag P n) [105,110] [] (lf s l)=_;unfold iy;rw[zp rfl]
 show(match s.xa with
  |[]=>IR.ok 4294967295 (lf s l)
  |v::r=>.ok v { lf s l with xa:=r })=_
 cases hi:s.xa with
 |nil=>simp only[List.headD_nil,List.tail_nil];unfold lf;simp only;congr 2
 |cons a r=>rfl
theorem Op.out{num v:Nat}:Op P f Of num [111,117,116] [v] s 0 0 { s with out:=s.out++[UInt8.ofNat v] }:=by
 refine⟨0,Nb _,0,λn _ l=>?_⟩;show iy P (Ag P n) [111,117,116] [v] (lf s l)=_;unfold iy;rw[zn da,zp rfl]
 try rfl
theorem qqX(g:ob):∀ (ps:List Nm) (vs:List Nat) (s:IS) (l:Nat),Fp g ps vs (lf s l)=lf (Fp g ps vs s) l
 |[],vs,s,l=>by cases vs <;> rfl
 |p::ps,[],s,l=>rfl
 |p::ps,w::vs,s,l=>by rw[Fp,Fp];exact qqX g ps vs (yf s (Ub g p) w) l
theorem Op.call{num:Nat}(h1:name≠[105,110])(h2:name≠[111,117,116])(h:Bl P (aj P name) (aj P name).body (Fp (aj P name) (aj P name).params vs s) K r s'):Op P f Of num name vs s K (r.getD 0) s':=by
 obtain⟨k,hk,n0,e⟩:=h;refine⟨k,hk,n0,λn hn l=>?_⟩;show iy P (Ag P n) name vs (lf s (l+k))=_;unfold iy;rw[zn h1,zn h2,qqX,e n hn l]
 try rfl
def BW(s:IS)(name:Nm)(i v:Nat):IS:={ s with ar:=λx=>if x=name then (s.ar name).set i v else s.ar x }
theorem St.Cx(h:Ev P f x s K v s1):St P f (.mk 1 name ix (x::vr) th el) s (8+K) none (yf s1 (Ub f name) v):=by
 obtain⟨k,hk,n0,e⟩:=h;refine⟨8+k,by omega,n0+1,λn hn l=>?_⟩;obtain⟨m,rfl⟩:∃ m,n=m+1:=⟨n-1,by omega⟩;rw[Ag,show wS 1 el=8 from rfl,fE];show(Rm P m f x (lf s (l+k))).bind _=_;rw[e m (by omega) l]
 try rfl
theorem St.elem{y:Ex}{yr xr:List Ex}{i:Nat}(h:Ev P f x s K v s1)(g:Ev P f y s1 K2 i s2)(hi:i<(s2.ar name).length):St P f (.mk 2 name (y::yr) (x::xr) th el) s (9+K+K2) none (BW s2 name i v):=by
 obtain⟨k,hk,n0,e⟩:=h;obtain⟨k2,Ah,n2,e2⟩:=g;refine⟨9+(k+k2),by omega,max n0 n2+1,λn hn l=>?_⟩;obtain⟨m,rfl⟩:∃ m,n=m+1:=⟨n-1,by omega⟩;rw[Ag,show wS 2 el=9 from rfl,fE];show(Rm P m f x (lf s (l+(k+k2)))).bind _=_;rw[show l+(k+k2)=(l+k2)+k by omega,e m (by omega) (l+k2)];show(Rm P m f y (lf s1 (l+k2))).bind _=_;rw[e2 m (by omega) l]
 show(match (s2.ar name)[i]? with
  |some _=>IR.ok none _
  |none=>IR.stop 2 _)=_
 rw[di hi];try rfl
theorem St.ret(h:Ev P f x s K v s1):St P f (.mk 5 name ix (x::vr) th el) s (1+K) (some v) s1:=by
 obtain⟨k,hk,n0,e⟩:=h;refine⟨1+k,by omega,n0+1,λn hn l=>?_⟩;obtain⟨m,rfl⟩:∃ m,n=m+1:=⟨n-1,by omega⟩;rw[Ag,show wS 5 el=1 from rfl,fE];show(Rm P m f x (lf s (l+k))).bind _=_;rw[e m (by omega) l]
 try rfl
theorem St.exp(h:Ev P f x s K v s1):St P f (.mk 6 name ix (x::vr) th el) s (8+K) none s1:=by
 obtain⟨k,hk,n0,e⟩:=h;refine⟨8+k,by omega,n0+1,λn hn l=>?_⟩;obtain⟨m,rfl⟩:∃ m,n=m+1:=⟨n-1,by omega⟩;rw[Ag,show wS 6 el=8 from rfl,fE];show(Rm P m f x (lf s (l+k))).bind _=_;rw[e m (by omega) l]
 try rfl
theorem St.oQ(h:Ev P f x s K v s1)(hv:v≠0)(g:Bl P f th s1 K2 r s2):St P f (.mk 3 name ix (x::vr) th el) s (wS 3 el+K+K2) r s2:=by obtain⟨k,hk,n0,e⟩:=h;obtain⟨k2,Ah,n2,e2⟩:=g;refine⟨wS 3 el+(k+k2),by omega,max n0 n2+1,λn hn l=>?_⟩;obtain⟨m,rfl⟩:∃ m,n=m+1:=⟨n-1,by omega⟩;rw[Ag,fE];show(Rm P m f x (lf s (l+(k+k2)))).bind _=_;rw[show l+(k+k2)=(l+k2)+k by omega,e m (by omega) (l+k2)];show(if v≠0 then bg (Ag P m f) th (lf s1 (l+k2)) else bg (Ag P m f) el (lf s1 (l+k2)))=_;rw[zp hv];exact e2 m (by omega) l
theorem St.iff(h:Ev P f x s K 0 s1)(g:Bl P f el s1 K2 r s2):St P f (.mk 3 name ix (x::vr) th el) s (wS 3 el+K+K2) r s2:=by obtain⟨k,hk,n0,e⟩:=h;obtain⟨k2,Ah,n2,e2⟩:=g;refine⟨wS 3 el+(k+k2),by omega,max n0 n2+1,λn hn l=>?_⟩;obtain⟨m,rfl⟩:∃ m,n=m+1:=⟨n-1,by omega⟩;rw[Ag,fE];show(Rm P m f x (lf s (l+(k+k2)))).bind _=_;rw[show l+(k+k2)=(l+k2)+k by omega,e m (by omega) (l+k2)];exact e2 m (by omega) l
theorem St.ES(h:Ev P f x s K v s1)(g:Wh P f x th v s1 K2 r s2):St P f (.mk 4 name ix (x::vr) th el) s (8+K+K2) r s2:=by obtain⟨k,hk,n0,e⟩:=h;obtain⟨k2,Ah,n2,e2⟩:=g;refine⟨8+(k+k2),by omega,max n0 n2+1,λn hn l=>?_⟩;obtain⟨m,rfl⟩:∃ m,n=m+1:=⟨n-1,by omega⟩;rw[Ag,show wS 4 el=8 from rfl,fE];show(Rm P m f x (lf s (l+(k+k2)))).bind _=_;rw[show l+(k+k2)=(l+k2)+k by omega,e m (by omega) (l+k2)];exact e2 m m (by omega) (by omega) l
theorem Bl.nil:Bl P f [] s 0 none s:=⟨0,Nb _,0,λn _ l=>rfl⟩
theorem Bl.cons(h:St P f a s K1 none s1)(g:Bl P f b s1 K2 r s'):Bl P f (a::b) s (K1+K2) r s':=by obtain⟨k,hk,n0,e⟩:=h;obtain⟨k2,Ah,n2,e2⟩:=g;refine⟨k+k2,by omega,max n0 n2,λn hn l=>?_⟩;unfold bg;rw[show l+(k+k2)=(l+k2)+k by omega,e n (by omega) (l+k2)];exact e2 n (by omega) l
theorem Bl.ret(h:St P f a s K (some v) s'):Bl P f (a::b) s K (some v) s':=by
 obtain⟨k,hk,n0,e⟩:=h;refine⟨k,hk,n0,λn hn l=>?_⟩;unfold bg;rw[e n hn l]
 try rfl
theorem Bl.app{a:List Sm}:∀ {s:IS} {K1:Nat},Bl P f a s K1 none s1->Bl P f b s1 K2 r s'->Bl P f (a++b) s (K1+K2) r s':=by
 rintro s K1 ⟨k,hk,n0,e⟩ ⟨k2,Ah,n2,e2⟩;refine⟨k+k2,by omega,max n0 n2,λn hn l=>?_⟩
 have key:∀ (a:List Sm) (s:IS),bg (Ag P n f) (a++b) s=(bg (Ag P n f) a s).bind λr s=>match r with
   |some v=>.ok (some v) s
   |none=>bg (Ag P n f) b s:=by
  intro a;induction a with
  |nil=>intro s;rfl
  |cons x a ih=>
   intro s;show(Ag P n f x s).bind _=IR.bind (IR.bind (Ag P n f x s) _) _;rw[pJ];congr 1;funext r s;cases r with
   |some v=>rfl
   |none=>exact ih s
 rw[key,show l+(k+k2)=(l+k2)+k by omega,e n (by omega) (l+k2)];exact e2 n (by omega) l
theorem Wh.done:Wh P f x b 0 s 0 none s:=⟨0,Nb _,1,λn m _ hm l=>by
 obtain⟨m,rfl⟩:∃ k,m=k+1:=⟨m-1,by omega⟩;rfl⟩
theorem Wh.next(hv:v≠0)(h:Bl P f b s K1 none s1)(g:Ev P f x s1 K2 w s2)(q:Wh P f x b w s2 K3 r s'):Wh P f x b v s (K1+18+K2+K3) r s':=by obtain⟨k1,h1,n1,e1⟩:=h;obtain⟨k2,h2,n2,e2⟩:=g;obtain⟨k3,h3,n3,e3⟩:=q;refine⟨k1+(18+(k2+k3)),by omega,max n1 (max n2 n3)+1,λn m hn hm l=>?_⟩;obtain⟨m,rfl⟩:∃ k,m=k+1:=⟨m-1,by omega⟩;rw[Mu,zn hv,show l+(k1+(18+(k2+k3)))=(l+(18+(k2+k3)))+k1 by omega,e1 n (by omega)];show(dH 18 (lf s1 (l+(18+(k2+k3))))).bind _=_;rw[fE];show(Rm P n f x (lf s1 (l+(k2+k3)))).bind _=_;rw[show l+(k2+k3)=(l+k3)+k2 by omega,e2 n (by omega)];exact e3 n m (by omega) (by omega) l
end
mutual
def vE(f:ob)(s:IS):Ex->Nat
 |.mk op num name args=>XN f s op num name (SK f s args)
def SK(f:ob)(s:IS):List Ex->List Nat
 |[]=>[]
 |x::l=>vE f s x::SK f s l
end
mutual
def cQ(f:ob)(s:IS):Ex->Bool
 |.mk op num name args=>HE f s args && FE f s op name (SK f s args)
def HE(f:ob)(s:IS):List Ex->Bool
 |[]=>true
 |x::l=>cQ f s x && HE f s l
end
mutual
def cE:Ex->Nat
 |.mk op num name args=>wE op num name args.length+dS args
def dS:List Ex->Nat
 |[]=>0
 |x::l=>cE x+dS l
end
mutual
theorem Ev.pure{P:Pr}{f:ob}{s:IS}:∀ (x:Ex),cQ f s x=true->Ev P f x s (cE x) (vE f s x) s
 |.mk op num name args,h=>by rw[cQ,Yc] at h;rw[cE,vE];exact(Ev.mk (Yo.pure args h.1) (Op.pure h.2)).mono (by omega)
theorem Yo.pure{P:Pr}{f:ob}{s:IS}:∀ (l:List Ex),HE f s l=true->Yo P f l s (dS l) (SK f s l) s
 |[],_=>by rw[dS,SK];exact Yo.nil
 |x::l,h=>by rw[HE,Yc] at h;rw[dS,SK];exact Yo.cons (Ev.pure x h.1) (Yo.pure l h.2)
end
section
variable(f:ob)(s:IS)(n:Nat)(m:Nm)(x y:Ex)
theorem qzx:vE f s (.mk [110,117,109] n m [])=n:=rfl
theorem qz9:vE f s (.mk [118,97,114] n m [])=s.sc (Ub f m):=rfl
theorem qz4:vE f s (.mk [42] n m [x,y])=vE f s x * vE f s y % 4294967296:=by show(Qi [42] (vE f s x) (vE f s y)).getD 0=_;unfold Qi;rw[zn da,zn da,zp rfl];exact getD_some
theorem qzl:vE f s (.mk [94] n m [x,y])=vE f s x ^^^ vE f s y:=by show(Qi [94] (vE f s x) (vE f s y)).getD 0=_;unfold Qi;rw[zn da,zn da,zn da,zp rfl];exact getD_some
theorem Ev.of{f:ob}{s:IS}{v:Nat}(h:cQ f s x=true)(hv:vE f s x=v):Ev P f x s (cE x) v s:=hv▸Ev.pure x h
end
theorem N8{xa:List Nat}{ra:Nat}{s':IS}(h:Bl P (Bg P) (Bg P).body (aq P xa 0) ra r s'):∃ ua s2,bg (Ag P ua (Bg P)) (Bg P).body (aq P xa ra)=.ok r s2/\s2.out=s'.out:=by obtain⟨k,hk,n0,e⟩:=h;refine⟨n0,lf s' (ra-k),?_,rfl⟩;have:=e n0 (Nb _) (ra-k);rw[show ra-k+k=ra by omega] at this;exact this
theorem SN{n:Nat}(h:n<4294967296):(decDigits n).length+1<=wN n:=by unfold wN;split;have:=GC 0 n (by omega);omega;split;have:=GC 1 n (by omega);omega;split;have:=GC 2 n (by omega);omega;split;have:=GC 3 n (by omega);omega;split;have:=GC 4 n (by omega);omega;split;have:=GC 5 n (by omega);omega;have:=GC 9 n (by omega);omega
def wB(op:Nm):Nat:=if op=[62] then 33 else if op=[60,61] then 36 else 4
theorem qAc(op:Nm):1<=wB op:=by unfold wB;split;omega;split <;> omega
def pz(X:vf)(n:Nat):Prop:=∀ f∈X.P.funcs,∀ e i s m d c,vi e->bf (X.Va f) e=0->X.C.Code i (Cb (X.cc f) e)->X.Vw s i d c m->d.length+tf (X.Va f) e<=256->c.length+Oi (X.Va f) e<=64 ->
 Db X.C (λv s' m'=>X.Vw s' (i+(Cb (X.cc f) e).length) (v::d) c m') 0 0 m s (Rm X.P n f e s)
def B8(X:vf)(n:Nat):Prop:=∀ f∈X.P.funcs,∀ name vs i s m d c,name≠[105,110]->name≠[111,117,116]->yc (X.Va f) name vs.length=0->X.C.Code i [[38,102,95]++name,[58]]->X.Vw s i (vs.reverse++d) c m ->
 (∀ g,(X.Va f).fn name=some g->d.length+max (g.params+1) g.need<=256/\c.length+(g.depth+1)<=64) ->
 Db X.C (λv s' m'=>X.Vw s' (i+2) (v::d) c m') (8 * vs.length+11) (8 * vs.length+11) m s (iy X.P (Ag X.P n) name vs s)
section
variable{X:vf}{n:Nat}
theorem S9(hE:pz X n){f:ob}(hf:f∈X.P.funcs):∀ (l:List Ex) i s m d c,lk l->Sf (X.Va f) l=0->X.C.Code i (xb (X.cc f) l).flatten->X.Vw s i d c m->(∀ k (h:k<l.length),d.length+k+tf (X.Va f) l[k]<=256)->c.length+gi (X.Va f) l<=64 ->
  Db X.C (λvs s' m'=>vs.length=l.length/\X.Vw s' (i+(xb (X.cc f) l).flatten.length) (vs.reverse++d) c m') 0 0 m s (Mj (Rm X.P n f) l s)
 |[],i,s,m,d,c,_,_,_,v,_,_=>Db.ok ⟨rfl,v⟩ (Int.le_refl 0)
 |e::l,i,s,m,d,c,hn,he,hc,v,hd,Gn=>by rw[Sf] at he;obtain⟨mi,Mz⟩:=Dc.1 he;rw[gi] at Gn;rw[xb,List.flatten_cons] at hc;obtain⟨Pm,Oe⟩:=hc.app;unfold Mj;have h0:=hd 0 (by simp);simp only[List.getElem_cons_zero] at h0;refine Db.bind (c2:=0) (d2:=0) (hE f hf e i s m d c hn.1 mi Pm v (by omega) (by omega)) (by omega) (Int.le_refl _) (by omega) λa s' m' va=>?_;refine Db.bind (c2:=0) (d2:=0) (S9 hE hf l _ s' m' (a::d) c hn.2 Mz Oe va (λk hk=>?_) (by omega)) (by omega) (Int.le_refl _) (by omega) λvs s2 m2 hv=>?_;have:=hd (k+1) (by rw[Ba];omega);simp only[List.getElem_cons_succ] at this;rw[Ba];omega;refine Db.ok ⟨by rw[Ba,Ba,hv.1],?_⟩ (Int.le_refl _);have:=hv.2;rw[xb,List.flatten_cons,ya,<-add_assoc];simpa using this
theorem qzE(hX:Dd X){f:ob}(hf:f∈X.P.funcs){op:Nm}(Lc:op∈dv)(h1:op≠[33,61])(h2:op≠[38,38])(h3:op≠[124,124]){s:IS}{i a b:Nat}{d:List Nat}{c:List (List Wd)}{m:MS}(v:X.Vw s i (b::a::d) c m)(hd:d.length+3<=256∨(d.length+2<=256/\op≠[62]/\op≠[60,61]))
  {ws:List Wd} (hw:ws=(if op=[62] then Kl (X.cc f) else if op=[60,61] then Kl (X.cc f)++[[49],[94]] else if op=[62,61] then [[60],[49],[94]] else if op=[61,61] then [[94],[49],[60]] else [op])) (hc:X.C.Code i ws) :
  Db X.C (λr s' m'=>X.Vw s' (i+ws.length) (r::d) c m') (wB op:Int) 0 m s (match Qi op a b with
   |some r=>.ok r s
   |none=>.stop 12 s):=by
 have ur:d.length+2<=256:=by omega
 have simple:∀ ch:UInt8,op=[ch]->Xb ch->(ws=[op])->Qi op a b=ad ch.toNat a b->Db X.C (λr s' m'=>X.Vw s' (i+ws.length) (r::d) c m') (wB op:Int) 0 m s (match Qi op a b with
   |some r=>.ok r s
   |none=>.stop 12 s):=by
  intro ch e1 e2 e3 e4;subst e3;obtain⟨w0,_⟩:=hc.cons;rw[e1] at w0;rw[e4];cases hv:ad ch.toNat a b with
  |some r=>obtain⟨m1,t1,v1,_⟩:=v.op w0 e2 hv (by omega);have:=qAc op;exact Db.pre t1 (Db.ok (c:=0) (d := -1) v1 (Int.le_refl 0)) (by omega) (by omega)
  |none=>exact Db.Td (by omega) (.inr rfl) (by rw[<-v.rel.out];exact PW.Av v.here e2 w0 v.data hv)
 simp only[dv,lc,not_mem_nil,or_false] at Lc;rcases Lc with rfl|rfl|rfl|rfl|rfl|rfl|rfl|rfl|rfl|rfl|rfl|rfl|rfl|rfl;exact absurd rfl h3;exact absurd rfl h2
 ·-- ==
  have hw:ws=[[94],[49],[60]]:=hw;subst hw;obtain⟨w0,hc⟩:=hc.cons;obtain⟨w1,hc⟩:=hc.cons;obtain⟨w2,hc⟩:=hc.cons;obtain⟨m1,t1,v1,_⟩:=v.op (x:=a ^^^ b) w0 (by unfold Xb;simp) rfl (by omega);obtain⟨m2,t2,v2,_⟩:=v1.fw (n:=1) w1 da rfl (by simp only[Ba];omega);obtain⟨m3,t3,v3,_⟩:=v2.op (x:=nf (decide (a=b))) w2 (by unfold Xb;simp) (by
   unfold ad;simp only[xor_zero];unfold nf;simp) (by omega)
  have:wB [61,61]=4:=rfl;exact Db.pre (t1.trans (t2.trans t3)) (Db.ok (c:=0) (d := -4) v3 (Int.le_refl 0)) (by omega) (by omega)
 exact absurd rfl h1
 ·exact simple 60 rfl (by unfold Xb;simp) hw (by unfold ad;rw[zn da,zn da,zn da,zn da,zn da,zn da,MG];try rfl)
 ·-- >
  have hw:ws=Kl (X.cc f):=hw;subst hw;obtain⟨m1,t1,v1⟩:=v.ux hX hf hc (by rcases hd with h|h;omega;exact absurd rfl h.2.1);have:wB [62]=33:=rfl;exact Db.pre t1 (Db.ok (c:=0) (d := -33) v1 (Int.le_refl 0)) (by omega) (by omega)
 ·-- <=
  have hw:ws=Kl (X.cc f)++[[49],[94]]:=hw;subst hw;obtain⟨Pm,Oe⟩:=hc.app;obtain⟨m1,t1,v1⟩:=v.ux hX hf Pm (by rcases hd with h|h;omega;exact absurd rfl h.2.2);have hl:(Kl (X.cc f)).length=9:=rfl;rw[hl] at Oe;obtain⟨w1,Oe⟩:=Oe.cons;obtain⟨w2,Oe⟩:=Oe.cons;obtain⟨m2,t2,v2,_⟩:=v1.fw (n:=1) w1 da rfl (by simp only[Ba];omega);obtain⟨m3,t3,v3,_⟩:=v2.op (x:=nf (decide (a<=b))) w2 (by unfold Xb;simp) (by
   unfold ad nf;by_cases h:b<a;simp[h,show ¬ a<=b by omega];simp[h,show a<=b by omega]) (by omega)
  have:wB [60,61]=36:=rfl;exact Db.pre (t1.trans (t2.trans t3)) (Db.ok (c:=0) (d := -36) (by
   have:i+9+1+1=i+(Kl (X.cc f)++[[49],[94]]).length:=rfl;exact v3.cast this) (Int.le_refl 0)) (by omega) (by omega)
 ·-- >=
  have hw:ws=[[60],[49],[94]]:=hw;subst hw;obtain⟨w0,hc⟩:=hc.cons;obtain⟨w1,hc⟩:=hc.cons;obtain⟨w2,hc⟩:=hc.cons;obtain⟨m1,t1,v1,_⟩:=v.op (x:=nf (decide (a<b))) w0 (by unfold Xb;simp) (by unfold ad;rw[zn da,zn da,zn da,zn da,zn da,zn da,MG]) (by omega);obtain⟨m2,t2,v2,_⟩:=v1.fw (n:=1) w1 da rfl (by simp only[Ba];omega);obtain⟨m3,t3,v3,_⟩:=v2.op (x:=nf (decide (b<=a))) w2 (by unfold Xb;simp) (by
   unfold ad nf;by_cases h:a<b;simp[h,show ¬ b<=a by omega];simp[h,show b<=a by omega]) (by omega)
  have:wB [62,61]=4:=rfl;exact Db.pre (t1.trans (t2.trans t3)) (Db.ok (c:=0) (d := -4) v3 (Int.le_refl 0)) (by omega) (by omega)
 exact simple 94 rfl (by unfold Xb;simp) hw rfl;exact simple 43 rfl (by unfold Xb;simp) hw rfl;exact simple 45 rfl (by unfold Xb;simp) hw rfl;exact simple 42 rfl (by unfold Xb;simp) hw rfl;exact simple 47 rfl (by unfold Xb;simp) hw (by unfold ad Qi;by_cases h:b=0 <;> simp[h]);exact simple 37 rfl (by unfold Xb;simp) hw (by unfold ad Qi;by_cases h:b=0 <;> simp[h])
end
section
variable{X:vf}{n:Nat}
theorem qyx(hX:Dd X)(hE:pz X n)(hC:B8 X n):pz X (n+1):=by
 intro f hf e i s m d c hn he hc v hd Gn;obtain⟨op,num,name,args⟩:=e;rw[bf] at he;split at he
 case isFalse=>cases he
 rename_i Lc;obtain⟨mi,Mz⟩:=Dc.1 he;rw[Rm];refine Db.tick v.rel.out λdx=>?_;have v:=v.steps (s.left-wE op num name args.length);generalize { s with left:=s.left-wE op num name args.length }=s1 at v ⊢;clear dx;obtain⟨Vb,hn⟩:=hn;rw[Cb] at hc ⊢;rw[tf] at hd;rw[Oi] at Gn;have qq:c.length+gi (X.Va f) args<=64:=by omega
 by_cases h1:op=We
 ·subst h1
  have ha:args=[]:=List.eq_nil_of_length_eq_zero (by
   have e:Qf We=0:=rfl;rw[e] at Lc;omega)
  subst ha;have hr:((Mj (Rm X.P n f) [] s1).bind λvs s=>EE X.P (Ag X.P n) f We num name vs s)=.ok num s1:=rfl;rw[hr];have hw:jq (X.cc f) We num name (xb (X.cc f) [])=[decDigits num]:=by rw[xb];try rfl
  rw[hw] at hc ⊢;obtain⟨w0,_⟩:=hc.cons;have Na:d.length<256:=by have:NA (X.Va f) We name (Yg (X.Va f) [])=1:=rfl;omega
  have hq:wE We num name ([]:List Ex).length=wN num:=rfl;rw[hq];obtain⟨m1,t1,v1,_⟩:=v.num (k:=wN num) w0 Vb (SN Vb) Na;exact Db.pre t1 (Db.ok (c:=0) (d:=0) v1 (Int.le_refl 0)) (by omega) (by omega)
 by_cases h2:op=Bf
 ·subst h2
  have ha:args=[]:=List.eq_nil_of_length_eq_zero (by
   have e:Qf Bf=0:=rfl;rw[e] at Lc;omega)
  subst ha;have hr:((Mj (Rm X.P n f) [] s1).bind λvs s=>EE X.P (Ag X.P n) f Bf num name vs s)=.ok (s1.sc (Ub f name)) s1:=rfl;rw[hr];have Be:Vr (X.Va f) name=0:=Mz;obtain⟨a1,a2⟩:=hX.sc f hf name Be;have hw:jq (X.cc f) Bf num name (xb (X.cc f) [])=[(X.cc f).sc name,[64]]:=by rw[xb];try rfl
  rw[hw,a1] at hc;rw[hw];obtain⟨w0,hc⟩:=hc.cons;obtain⟨w1,hc⟩:=hc.cons;have Na:d.length<256:=by have:NA (X.Va f) Bf name (Yg (X.Va f) [])=1:=rfl;omega
  have SQ:=hX.low _ (.inl ⟨_,a2,rfl⟩);obtain⟨m1,t1,v1,e1⟩:=v.addr w0 (by omega) Na;obtain⟨m2,t2,v2,e2⟩:=v1.load w1 (hX.JK _ (.inl ⟨_,a2,rfl⟩)) Na;rw[e1,v.rel.sc _ a2] at v2;have hq:wE Bf num name ([]:List Ex).length=8:=rfl;rw[hq];exact Db.pre (t1.trans t2) (Db.ok (c:=0) (d:=0) v2 (Int.le_refl 0)) (by omega) (by omega)
 by_cases h3:op=ij
 ·subst h3
  obtain⟨x,rfl⟩:∃ x,args=[x]:=Hu (by
   have e:Qf ij=1:=rfl;rw[e] at Lc;omega)
  rw[xP,pJ];have Be:qy (X.Va f) name=0:=Mz;obtain⟨a1,A,hA,rfl⟩:=hX.ar f hf name Be;have hw:jq (X.cc f) ij num A.name (xb (X.cc f) [x])=(X.cc f).ar A.name::(Cb (X.cc f) x++[[43],[64]]):=by rw[xb];try rfl
  rw[hw,a1] at hc;rw[hw];obtain⟨w0,hc⟩:=hc.cons;obtain⟨rq,hc⟩:=hc.app;obtain⟨w1,hc⟩:=hc.cons;obtain⟨w2,hc⟩:=hc.cons;have Eg:d.length+(1+tf (X.Va f) x)<=256:=hd;rw[Sf] at mi;rw[gi] at qq;have qR:∀ j,j<A.size->X.aa A.name+j<262144:=λj hj=>hX.low _ (.inr (.inr ⟨A,hA,j,hj,rfl⟩));have P4:X.aa A.name<1000000:=hX.Dx A hA;obtain⟨m1,t1,v1,e1⟩:=v.addr w0 P4 (by omega);have hq:wE ij num A.name [x].length=9:=rfl;rw[hq];refine Db.pre t1 (c1:=2) (d1:=2) ?_ (by omega) (by omega);refine Db.bind (c2:=2) (d2:=2) (hE f hf x (i+1) s1 m1 (X.aa A.name::d) c hn.1 (Dc.1 mi).1 rq v1 (by rw[Ba];omega) (by omega)) (by omega) (by omega) (by omega) λa s' m' va=>?_
  show Db X.C _ 2 2 m' s' (match (s'.ar A.name)[a]? with
   |some v=>.ok v s'
   |none=>.stop 2 s')
  cases hg:(s'.ar A.name)[a]? with
  |none=>exact Db.other da
  |some r=>
   obtain⟨za,hr⟩:=List.getElem?_eq_some_iff.1 hg;obtain⟨b1,b2⟩:=va.rel.ar A hA;have hb:=qR a (by omega);obtain⟨m2,t2,v2,e2⟩:=va.op (x:=X.aa A.name+a) w1 (by unfold Xb;simp) (by
    show some ((X.aa A.name+a) % 4294967296)=_;rw[Nat.mod_eq_of_lt (by omega)]) (by omega)
   obtain⟨m3,t3,v3,e3⟩:=v2.load w2 (hX.JK _ (.inr (.inr ⟨A,hA,a,by omega,rfl⟩))) (by omega);rw[e2,b2 a za,hr] at v3;refine Db.pre (t2.trans t3) (Db.ok (c:=0) (d:=0) (v3.cast ?_) (Int.le_refl 0)) (by omega) (by omega);simp only[Ba,ya,dc];omega
 by_cases h4:op=tg
 ·subst h4
  obtain⟨x,rfl⟩:∃ x,args=[x]:=Hu (by
   have e:Qf tg=1:=rfl;rw[e] at Lc;omega)
  rw[xP,pJ];have hw:jq (X.cc f) tg num name (xb (X.cc f) [x])=[48]::(Cb (X.cc f) x++[[45]]):=by rw[xb];try rfl
  rw[hw] at hc ⊢;obtain⟨w0,hc⟩:=hc.cons;obtain⟨rq,hc⟩:=hc.app;obtain⟨w1,hc⟩:=hc.cons;have Eg:d.length+(1+tf (X.Va f) x)<=256:=hd;rw[Sf] at mi;rw[gi] at qq;obtain⟨m1,t1,v1,e1⟩:=v.fw (n:=0) w0 da rfl (by omega);have hq:wE tg num name [x].length=3:=rfl;rw[hq];refine Db.pre t1 (c1:=1) (d1:=1) ?_ (by omega) (by omega);refine Db.bind (c2:=1) (d2:=1) (hE f hf x (i+1) s1 m1 (0::d) c hn.1 (Dc.1 mi).1 rq v1 (by rw[Ba];omega) (by omega)) (by omega) (by omega) (by omega) λa s' m' va=>?_;show Db X.C _ 1 1 m' s' (.ok ((4294967296-a) % 4294967296) s')
  obtain⟨m2,t2,v2,e2⟩:=va.op (x:=(4294967296-a) % 4294967296) w1 (by unfold Xb;simp) (by
   show some ((0+4294967296-a) % 4294967296)=_;rw[Nat.zero_add]) (by omega)
  refine Db.pre t2 (Db.ok (c:=0) (d:=0) (v2.cast ?_) (Int.le_refl 0)) (by omega) (by omega);simp only[Ba,ya,dc];omega
 by_cases h5:op=Uf
 ·subst h5
  obtain⟨x,rfl⟩:∃ x,args=[x]:=Hu (by
   have e:Qf Uf=1:=rfl;rw[e] at Lc;omega)
  rw[xP,pJ];have hw:jq (X.cc f) Uf num name (xb (X.cc f) [x])=Cb (X.cc f) x++[[49],[60]]:=by rw[xb];try rfl
  rw[hw] at hc ⊢;obtain⟨rq,hc⟩:=hc.app;obtain⟨w0,hc⟩:=hc.cons;obtain⟨w1,hc⟩:=hc.cons;have Eg:d.length+max 2 (tf (X.Va f) x)<=256:=hd;rw[Sf] at mi;rw[gi] at qq;have hq:wE Uf num name [x].length=3:=rfl;rw[hq];refine Db.bind (c2:=3) (d2:=3) (hE f hf x i s1 m d c hn.1 (Dc.1 mi).1 rq v (by omega) (by omega)) (by omega) (by omega) (by omega) λa s' m' va=>?_;show Db X.C _ 3 3 m' s' (.ok (nf (decide (a=0))) s');obtain⟨m1,t1,v1,e1⟩:=va.fw (n:=1) w0 da rfl (by simp only[Ba];omega)
  obtain⟨m2,t2,v2,e2⟩:=v1.op (x:=nf (decide (a=0))) w1 (by unfold Xb;simp) (by
   show some (if a<1 then 1 else 0)=_;rw[MG];congr 3;exact propext ⟨λh=>by omega,λh=>by omega⟩) (by omega)
  refine Db.pre (t1.trans t2) (Db.ok (c:=0) (d:=0) (v2.cast ?_) (Int.le_refl 0)) (by omega) (by omega);simp only[Ba,ya,dc];omega
 by_cases h6:op=Of
 ·subst h6;have Eg:d.length+qz (X.Va f) name (Yg (X.Va f) args)<=256:=hd;have hw:jq (X.cc f) Of num name (xb (X.cc f) args)=(xb (X.cc f) args).flatten++(if name=[105,110] then [[44]] else if name=[111,117,116] then [[46],[48]] else [[38,102,95]++name,[58]]):=rfl;have Be:yc (X.Va f) name args.length=0:=Mz;have uB:∀ vs s,EE X.P (Ag X.P n) f Of num name vs s=iy X.P (Ag X.P n) name vs s:=λvs s=>rfl;rw[hw] at hc ⊢;obtain⟨K4,hc⟩:=hc.app
  by_cases k1:name=[105,110];subst k1;rw[zp rfl] at hc ⊢;have ha:args=[]:=List.eq_nil_of_length_eq_zero (by
   unfold yc at Be;rw[zp rfl] at Be;split at Be
   assumption
   cases Be)
  subst ha;rw[xb] at hc ⊢;obtain⟨w0,_⟩:=hc.cons;have Na:d.length<256:=by have:qz (X.Va f) [105,110] (Yg (X.Va f) [])=1:=rfl;omega
  obtain⟨m1,t1,v1⟩:=v.read w0 Na;have hr:((Mj (Rm X.P n f) [] s1).bind λvs s=>EE X.P (Ag X.P n) f Of num [105,110] vs s)=.ok (s1.xa.headD 4294967295) { s1 with xa:=s1.xa.tail }:=by
   show iy X.P (Ag X.P n) [105,110] [] s1=_;unfold iy;rw[zp rfl];cases hi:s1.xa with
   |nil=>simp only[List.headD_nil,List.tail_nil];congr 1;cases s1;simp only at hi;subst hi;rfl
   |cons a r=>rfl
  rw[hr];have hq:wE Of num [105,110] ([]:List Ex).length=1:=rfl;rw[hq];refine Db.pre (s:=s1) t1 (c1:=0) (d1:=0) ?_ (by omega) (by omega);exact⟨Nb _,0,m1,by simp,.zero _,v1⟩;by_cases k2:name=[111,117,116];subst k2;rw[zn da,zp rfl] at hc ⊢;obtain⟨x,rfl⟩:∃ x,args=[x]:=Hu (by
   unfold yc at Be;rw[zn da,zp rfl] at Be;split at Be
   assumption
   cases Be)
  rw[xP,pJ];have Dn:(xb (X.cc f) [x]).flatten=Cb (X.cc f) x:=by rw[xb,xb];simp
  rw[Dn] at hc K4 ⊢;obtain⟨w0,hc⟩:=hc.cons;obtain⟨w1,_⟩:=hc.cons;have A3:d.length+tf (X.Va f) x<=256:=Eg;have Py:1<=tf (X.Va f) x:=VL _ _ (Dc.1 (by rw[Sf] at mi;exact mi)).1;rw[Sf] at mi;rw[gi] at qq;have hq:wE Of num [111,117,116] [x].length=3:=rfl;rw[hq];refine Db.bind (c2:=3) (d2:=3) (hE f hf x i s1 m d c hn.1 (Dc.1 mi).1 K4 v (by omega) (by omega)) (by omega) (by omega) (by omega) λa s' m' va=>?_;show Db X.C _ 3 3 m' s' (.ok 0 { s' with out:=s'.out++[UInt8.ofNat a] })
  obtain⟨m1,t1,v1⟩:=va.write w0;obtain⟨m2,t2,v2,_⟩:=v1.fw (n:=0) w1 da rfl (by omega);refine Db.pre (s:=s') (t1.trans t2) (c1:=0) (d1:=0) ?_ (by omega) (by omega);refine⟨Nb _,0,m2,by simp,.zero _,v2.cast ?_⟩;simp only[Ba,ya,dc];omega;rw[zn k1,zn k2] at hc ⊢;have dD:qz (X.Va f) name (Yg (X.Va f) args)=match (X.Va f).fn name with
    |some g=>gy 0 (Yg (X.Va f) args) (max (g.params+1) g.need)
    |none=>0:=by unfold qz;rw[zn k1,zn k2];try rfl
  have Br:pu (X.Va f) Of name=match (X.Va f).fn name with
    |some g=>g.depth+1
    |none=>0:=by unfold pu;rw[zp ⟨rfl,k1,k2⟩];try rfl
  obtain⟨g,hg⟩:∃ g,(X.Va f).fn name=some g:=by
   cases hq:(X.Va f).fn name with
   |some g=>exact⟨g,rfl⟩
   |none=>unfold yc at Be;rw[zn k1,zn k2,hq] at Be;simp only at Be;split at Be <;> cases Be
  rw[hg] at dD Br;simp only at dD Br;obtain⟨q1,q2⟩:=qm7 (Yg (X.Va f) args) 0 (max (g.params+1) g.need) (256-d.length) (by omega);obtain⟨r1,r2⟩:=qlA (X.Va f) args;have hq:wE Of num name args.length=8 * args.length+11:=by show(if name=[105,110] then 1 else if name=[111,117,116] then 3 else 8 * args.length+11)=_;rw[zn k1,zn k2]
  rw[hq];refine Db.bind (c2:=8 * args.length+11) (d2:=8 * args.length+11) (S9 hE hf args i s1 m d c hn mi K4 v (λk hk=>?_) qq) (by omega) (by omega) (by omega) λvs s' m' hv=>?_;have:=q2 k (by omega);rw[r2 k hk (by omega)] at this;have qF:d.length<=256:=by omega
  omega;rw[uB];obtain⟨PC,hv2⟩:=hv;rw[<-PC];have:=hC f hf name vs _ s' m' d c k1 k2 (by rw[PC];exact Be) hc hv2 (λg' ox=>by
   rw[hg] at ox;cases ox;have qF:d.length<=256:=by omega
   exact⟨by omega,by omega⟩)
  refine Db.post (a:=0) this (by omega) (Int.le_refl _) λr s2 m2 h=>⟨m2,.refl _,h.cast ?_⟩;rw[ya];simp only[Ba,dc];omega
 have uB:Qf op=2/\args.length=2:=by unfold Qf at Lc ⊢;simp only[h1,h2,h3,h4,h5,h6,or_self,if_false] at Lc ⊢;split at Lc;rename_i hb;exact⟨zp hb,by rcases Lc with h|h <;> omega⟩;rcases Lc with h|h <;> omega
 obtain⟨Qt,_⟩:=qqp uB.1;obtain⟨x,y,rfl⟩:∃ x y,args=[x,y]:=by
  have h:=uB.2;match args,h with
  |[x,y],_=>exact⟨x,y,rfl⟩
 rw[qwm,pJ];simp only[pJ];have kR:∀ a b s,(IR.ok [a,b] s).bind (λvs s=>EE X.P (Ag X.P n) f op num name vs s)=match Qi op a b with
   |some r=>.ok r s
   |none=>.stop 12 s:=λa b s=>qyt X.P (Ag X.P n) f Qt num name a b s
 simp only[kR];have nr:=hn.1;have zV:=hn.2.1;rw[Sf,Sf] at mi;obtain⟨mi,Be⟩:=Dc.1 mi;obtain⟨Be,_⟩:=Dc.1 Be;rw[gi,gi] at qq;have zM:xb (X.cc f) [x,y]=[Cb (X.cc f) x,Cb (X.cc f) y]:=by rw[xb,xb,xb]
 have nq:Yg (X.Va f) [x,y]=[tf (X.Va f) x,tf (X.Va f) y]:=by rw[Yg,Yg,Yg]
 rw[zM] at hc ⊢;rw[nq] at hd;by_cases b1:op=[33,61];subst b1;have hw:jq (X.cc f) [33,61] num name [Cb (X.cc f) x,Cb (X.cc f) y]=[48]::(Cb (X.cc f) x++Cb (X.cc f) y++[[94],[60]]):=rfl;rw[hw] at hc ⊢;have Eg:d.length+max (max 3 (1+tf (X.Va f) x)) (2+tf (X.Va f) y)<=256:=hd;obtain⟨w0,hc⟩:=hc.cons;obtain⟨hc,ql⟩:=hc.app;obtain⟨Pm,Oe⟩:=hc.app;obtain⟨w1,ql⟩:=ql.cons;obtain⟨w2,_⟩:=ql.cons;obtain⟨m1,t1,v1,e1⟩:=v.fw (n:=0) w0 da rfl (by omega);have hq:wE [33,61] num name [x,y].length=4:=rfl;rw[hq];refine Db.pre t1 (c1:=2) (d1:=2) ?_ (by omega) (by omega);refine Db.bind (c2:=2) (d2:=2) (hE f hf x (i+1) s1 m1 (0::d) c nr mi Pm v1 (by rw[Ba];omega) (by omega)) (by omega) (by omega) (by omega) λa s' m' va=>?_;refine Db.bind (c2:=2) (d2:=2) (hE f hf y _ s' m' (a::0::d) c zV Be Oe va (by rw[Ba,Ba];omega) (by omega)) (by omega) (by omega) (by omega) λb s2 m2 vb=>?_;rw[ya,<-add_assoc] at w1 w2;obtain⟨m3,t3,v3,_⟩:=vb.op (x:=a ^^^ b) w1 (by unfold Xb;simp) rfl (by simp only[Ba];omega)
 obtain⟨m4,t4,v4,_⟩:=v3.op (x:=nf (decide (a≠b))) w2 (by unfold Xb;simp) (by
  show some (if 0<a ^^^ b then 1 else 0)=_;rw[MG];congr 3;refine propext ⟨λh e=>?_,λh=>?_⟩;have:=xor_zero.2 e;omega
  have:=mt xor_zero.1 h;omega) (by omega)
 refine Db.pre (t3.trans t4) (Db.ok (c:=0) (d:=0) (v4.cast ?_) (Int.le_refl 0)) (by omega) (by omega);simp only[Ba,ya,dc];omega;by_cases b2:op=[38,38];subst b2;have hw:jq (X.cc f) [38,38] num name [Cb (X.cc f) x,Cb (X.cc f) y]=[48]::(Cb (X.cc f) x++[[60],[48]]++Cb (X.cc f) y++[[60],[42]]):=rfl;rw[hw] at hc ⊢;have Eg:d.length+max (1+tf (X.Va f) x) (2+tf (X.Va f) y)<=256:=hd;have V2:=VL _ _ mi;have hpy:=VL _ _ Be;obtain⟨w0,hc⟩:=hc.cons;obtain⟨hc,ml⟩:=hc.app;obtain⟨hc,ql⟩:=hc.app;obtain⟨Pm,Oe⟩:=hc.app;obtain⟨w1,Oe⟩:=Oe.cons;obtain⟨w2,_⟩:=Oe.cons;obtain⟨w3,ml⟩:=ml.cons;obtain⟨w4,_⟩:=ml.cons;obtain⟨m1,t1,v1,e1⟩:=v.fw (n:=0) w0 da rfl (by omega);have hq:wE [38,38] num name [x,y].length=7:=rfl;rw[hq];refine Db.pre t1 (c1:=5) (d1:=5) ?_ (by omega) (by omega);refine Db.bind (c2:=5) (d2:=5) (hE f hf x (i+1) s1 m1 (0::d) c nr mi Pm v1 (by rw[Ba];omega) (by omega)) (by omega) (by omega) (by omega) λa s' m' va=>?_
 obtain⟨m2,t2,v2,_⟩:=va.op (x:=nf (decide (0<a))) w1 (by unfold Xb;simp) (by
  show some (if 0<a then 1 else 0)=_;rw[MG]) (by omega)
 obtain⟨m3,t3,v3,_⟩:=v2.fw (n:=0) w2 da rfl (by simp only[Ba];omega);refine Db.pre (t2.trans t3) (c1:=2) (d1:=2) ?_ (by omega) (by omega);refine Db.bind (c2:=2) (d2:=2) (hE f hf y _ s' m3 (0::nf (decide (0<a))::d) c zV Be (by
  rw[ya,<-add_assoc] at ql;exact ql) v3 (by rw[Ba,Ba];omega) (by omega)) (by omega) (by omega) (by omega) λb s2 m4 vb=>?_
 have tW:X.C.W[i+1+(Cb (X.cc f) x).length+1+1+(Cb (X.cc f) y).length]? = some [60]:=by rw[<-w3];congr 1;simp only[ya,Ba,dc];omega
 have rW:X.C.W[i+1+(Cb (X.cc f) x).length+1+1+(Cb (X.cc f) y).length+1]? = some [42]:=by rw[<-w4];congr 1;simp only[ya,Ba,dc];omega
 obtain⟨m5,t5,v5,_⟩:=vb.op (x:=nf (decide (0<b))) tW (by unfold Xb;simp) (by
  show some (if 0<b then 1 else 0)=_;rw[MG]) (by simp only[Ba];omega)
 obtain⟨m6,t6,v6,_⟩:=v5.op (x:=nf (decide (a≠0/\b≠0))) rW (by unfold Xb;simp) (by
  show some (nf (decide (0<a)) * nf (decide (0<b)) % 4294967296)=_;congr 1;unfold nf;by_cases ha:0<a <;> by_cases hb:0<b <;> simp[ha,hb,Nat.pos_iff_ne_zero.1,show a=0 ↔ ¬ 0<a by omega,show b=0 ↔ ¬ 0<b by omega]) (by omega)
 refine Db.pre (t5.trans t6) (Db.ok (c:=0) (d:=0) (v6.cast ?_) (Int.le_refl 0)) (by omega) (by omega);simp only[Ba,ya,dc];omega;by_cases b3:op=[124,124];subst b3;have hw:jq (X.cc f) [124,124] num name [Cb (X.cc f) x,Cb (X.cc f) y]=[48]::[48]::(Cb (X.cc f) x++[[60],[48]]++Cb (X.cc f) y++[[60],[43],[60]]):=rfl;rw[hw] at hc ⊢;have Eg:d.length+max (2+tf (X.Va f) x) (3+tf (X.Va f) y)<=256:=hd;have V2:=VL _ _ mi;have hpy:=VL _ _ Be;obtain⟨w0,hc⟩:=hc.cons;obtain⟨w00,hc⟩:=hc.cons;obtain⟨hc,ml⟩:=hc.app;obtain⟨hc,ql⟩:=hc.app;obtain⟨Pm,Oe⟩:=hc.app;obtain⟨w1,Oe⟩:=Oe.cons;obtain⟨w2,_⟩:=Oe.cons;obtain⟨w3,ml⟩:=ml.cons;obtain⟨w4,ml⟩:=ml.cons;obtain⟨w5,_⟩:=ml.cons;obtain⟨m0,t0,v0,e0⟩:=v.fw (n:=0) w0 da rfl (by omega);obtain⟨m1,t1,v1,e1⟩:=v0.fw (n:=0) w00 da rfl (by simp only[Ba];omega);have hq:wE [124,124] num name [x,y].length=10:=rfl;rw[hq];refine Db.pre (t0.trans t1) (c1:=6) (d1:=6) ?_ (by omega) (by omega);refine Db.bind (c2:=6) (d2:=6) (hE f hf x (i+1+1) s1 m1 (0::0::d) c nr mi Pm v1 (by rw[Ba,Ba];omega) (by omega)) (by omega) (by omega) (by omega) λa s' m' va=>?_
 obtain⟨m2,t2,v2,_⟩:=va.op (x:=nf (decide (0<a))) w1 (by unfold Xb;simp) (by
  show some (if 0<a then 1 else 0)=_;rw[MG]) (by simp only[Ba];omega)
 obtain⟨m3,t3,v3,_⟩:=v2.fw (n:=0) w2 da rfl (by simp only[Ba];omega);refine Db.pre (t2.trans t3) (c1:=3) (d1:=3) ?_ (by omega) (by omega);refine Db.bind (c2:=3) (d2:=3) (hE f hf y _ s' m3 (0::nf (decide (0<a))::0::d) c zV Be (by
  rw[ya,<-add_assoc] at ql;exact ql) v3 (by rw[Ba,Ba,Ba];omega) (by omega)) (by omega) (by omega) (by omega) λb s2 m4 vb=>?_
 have tW:X.C.W[i+1+1+(Cb (X.cc f) x).length+1+1+(Cb (X.cc f) y).length]? = some [60]:=by rw[<-w3];congr 1;simp only[ya,Ba,dc];omega
 have rW:X.C.W[i+1+1+(Cb (X.cc f) x).length+1+1+(Cb (X.cc f) y).length+1]? = some [43]:=by rw[<-w4];congr 1;simp only[ya,Ba,dc];omega
 have w5':X.C.W[i+1+1+(Cb (X.cc f) x).length+1+1+(Cb (X.cc f) y).length+1+1]? = some [60]:=by rw[<-w5];congr 1;simp only[ya,Ba,dc];omega
 obtain⟨m5,t5,v5,_⟩:=vb.op (x:=nf (decide (0<b))) tW (by unfold Xb;simp) (by
  show some (if 0<b then 1 else 0)=_;rw[MG]) (by simp only[Ba];omega)
 obtain⟨m6,t6,v6,_⟩:=v5.op (x:=nf (decide (0<a))+nf (decide (0<b))) rW (by unfold Xb;simp) (by
  show some ((nf (decide (0<a))+nf (decide (0<b))) % 4294967296)=_;have h1:=o9 (decide (0<a));have h2:=o9 (decide (0<b));rw[Nat.mod_eq_of_lt (by omega)]) (by simp only[Ba];omega)
 obtain⟨m7,t7,v7,_⟩:=v6.op (x:=nf (decide (a≠0∨b≠0))) w5' (by unfold Xb;simp) (by
  show some (if 0<nf (decide (0<a))+nf (decide (0<b)) then 1 else 0)=_;congr 1;unfold nf
  by_cases ha:0<a <;> by_cases hb:0<b <;> simp[ha,hb,show a=0 ↔ ¬ 0<a by omega,show b=0 ↔ ¬ 0<b by omega]) (by omega)
 refine Db.pre (t5.trans (t6.trans t7)) (Db.ok (c:=0) (d:=0) (v7.cast ?_) (Int.le_refl 0)) (by omega) (by omega);simp only[Ba,ya,dc];omega;obtain⟨_,o1,o2,o3,o4,o5,o6⟩:=qqp uB.1;have hw:jq (X.cc f) op num name [Cb (X.cc f) x,Cb (X.cc f) y]=Cb (X.cc f) x++Cb (X.cc f) y++(if op=[62] then Kl (X.cc f) else if op=[60,61] then Kl (X.cc f)++[[49],[94]] else if op=[62,61] then [[60],[49],[94]] else if op=[61,61] then [[94],[49],[60]] else [op]):=by unfold jq;rw[zn o1,zn o2,zn o3,zn o6,zn o4,zn o5,zn b1,zn b2,zn b3];try rfl
 rw[hw] at hc ⊢;obtain⟨hc,ql⟩:=hc.app;obtain⟨Pm,Oe⟩:=hc.app;have Eg:d.length+(if op=[62]∨op=[60,61] then max (max 3 (tf (X.Va f) x)) (1+tf (X.Va f) y) else max (max 2 (tf (X.Va f) x)) (1+tf (X.Va f) y))<=256:=by
  have:NA (X.Va f) op name [tf (X.Va f) x,tf (X.Va f) y]=(if op=[62]∨op=[60,61] then max (max 3 (tf (X.Va f) x)) (1+tf (X.Va f) y) else max (max 2 (tf (X.Va f) x)) (1+tf (X.Va f) y)):=by unfold NA;rw[zn (by rintro(h|h);exact o1 h;exact o2 h),zn (by rintro(h|h);exact o3 h;exact o4 h),zn o6,zn o5,zn b1,zn b2,zn b3];try rfl
  rw[this] at hd;exact hd
 have px:d.length+tf (X.Va f) x<=256/\d.length+1+tf (X.Va f) y<=256/\(d.length+3<=256∨(d.length+2<=256/\op≠[62]/\op≠[60,61])):=by split at Eg;exact⟨by omega,by omega,.inl (by omega)⟩;rename_i h;exact⟨by omega,by omega,.inr ⟨by omega,λe=>h (.inl e),λe=>h (.inr e)⟩⟩
 have hq:wE op num name [x,y].length=wB op:=by unfold wE wB;rw[zn o1,zn o2,zn o3,zn o4,zn o5,zn o6];split <;> try rfl
 rw[hq];refine Db.bind (c2:=(wB op:Int)) (d2:=(wB op:Int)) (hE f hf x i s1 m d c nr mi Pm v px.1 (by omega)) (by omega) (by omega) (by omega) λa s' m' va=>?_;refine Db.bind (c2:=(wB op:Int)) (d2:=0) (hE f hf y _ s' m' (a::d) c zV Be Oe va (by rw[Ba];omega) (by omega)) (by omega) (by omega) (by omega) λb s2 m2 vb=>?_;rw[ya,<-add_assoc] at ql;refine Db.post (a:=0) (qzE hX hf Qt b1 b2 b3 vb px.2.2 rfl ql) (by omega) (Int.le_refl _) λr s3 m3 h=>⟨m3,.refl _,h.cast ?_⟩;rw[ya,ya];omega
end
def lz(X:vf)(n:Nat):Prop:=∀ f∈X.P.funcs,∀ st i nl s m d t rest,Io st->xk (X.Va f) st=0->X.C.Code i (kg (X.cc f) nl st).1->X.Vw s i d (t::rest) m->d.length+sC (X.Va f) st<=256->rest.length+1+Jr (X.Va f) st<=64 ->
 Db X.C (o7 X (i+(kg (X.cc f) nl st).1.length) d t rest) 0 0 m s (Ag X.P n f st s)
section
variable{X:vf}{n:Nat}
theorem PI(hS:lz X n){f:ob}(hf:f∈X.P.funcs):∀ (l:List Sm) i nl s m d t rest,Hi l->Gh (X.Va f) l=0->X.C.Code i (Da (X.cc f) nl l).1->X.Vw s i d (t::rest) m->d.length+Wk (X.Va f) l<=256->rest.length+1+Xi (X.Va f) l<=64 ->
  Db X.C (o7 X (i+(Da (X.cc f) nl l).1.length) d t rest) 0 0 m s (bg (Ag X.P n f) l s)
 |[],i,nl,s,m,d,t,rest,_,_,_,v,_,_=>Db.ok (by rw[Da];exact v) (Int.le_refl 0)
 |a::l,i,nl,s,m,d,t,rest,hn,he,hc,v,hd,Gn=>by
  rw[Gh] at he;obtain⟨mi,Mz⟩:=Dc.1 he;rw[Wk] at hd;rw[Xi] at Gn;rw[Da] at hc ⊢;obtain⟨Pm,Oe⟩:=hc.app;unfold bg;refine Db.bind (c2:=0) (d2:=0) (hS f hf a i nl s m d t rest hn.1 mi Pm v (by omega) (by omega)) (by omega) (by omega) (by omega) λr s' m' h=>?_
  cases r with
  |some w=>exact Db.ok h (Int.le_refl 0)
  |none=>have:=PI hS hf l _ _ s' m' d t rest hn.2 Mz Oe h (by omega) (by omega);rw[ya,<-add_assoc];exact this
theorem Db.left{A:Type}{Q:A->IS->MS->Prop}{c d:Int}{m:MS}{s s':IS}{r:IR A}(h:Db X.C Q c d m s r)(hl:s.left=s'.left):Db X.C Q c d m s' r:=by
 cases r with
 |ok v s2=>unfold Db at h ⊢;rw[<-hl];exact h
 |stop e s2=>unfold Db at h ⊢;rw[<-hl];exact h
theorem qyn(hX:Dd X)(hS:lz X n):B8 X n:=by
 intro f hf name vs i s m d c k1 k2 he hc v Eg;obtain⟨g,hg⟩:∃ g,(X.Va f).fn name=some g:=by
  cases hq:(X.Va f).fn name with
  |some g=>exact⟨g,rfl⟩
  |none=>unfold yc at he;rw[zn k1,zn k2,hq] at he;simp only at he;split at he <;> cases he
 have hlen:vs.length=g.params:=by
  unfold yc at he;rw[zn k1,zn k2,hg] at he;simp only at he;split at he
  assumption
  cases he
 obtain⟨n1,n2⟩:=Eg g hg;obtain⟨a1,a2,a3,a4,a5⟩:=hX.fn f hf name g hg;have hci:iy X.P (Ag X.P n) name vs s=(bg (Ag X.P n (aj X.P name)) (aj X.P name).body (Fp (aj X.P name) (aj X.P name).params vs s)).bind λr s=>.ok (r.getD 0) s:=by unfold iy;rw[zn k1,zn k2]
 rw[hci];generalize hk:aj X.P name=k at *;obtain⟨nl,Ye⟩:=hX.code k a1;obtain⟨b1,b2⟩:=hX.body k a1;obtain⟨p1,p2⟩:=hX.YZ k a1;have LH:=hX.Ni k a1;have Nl:=hX.Zy k a1;rw[a2] at LH Nl;unfold Rj at Ye;simp only at Ye;rw[a2] at Ye;obtain⟨Ye,ml⟩:=Ye.app;obtain⟨Ye,ql⟩:=Ye.app;obtain⟨Pm,Oe⟩:=Ye.app;obtain⟨w0,hc⟩:=hc.cons;obtain⟨w1,_⟩:=hc.cons;obtain⟨wd,_⟩:=Pm.cons;have Gz:(vs.reverse++d).length=vs.length+d.length:=by rw[ya,List.length_reverse]
 have t2:=PW.call v.here w0 w1 Nl (hX.label _ _ _ wd LH) (by rw[v.data,Gz];omega) (by rw[v.calls];omega);have v3:X.Vw s (X.fst k+1) (vs.reverse++d) (X.C.Uc (i+1+1)::c) { m with pc:=X.C.Uc (X.fst k+1),calls:=X.C.Uc (i+1+1)::m.calls,digit:=false }:=
  ⟨PW.gh rfl,v.rel.same rfl rfl rfl rfl rfl rfl rfl,v.data,by simp only;rw[v.calls]⟩
 obtain⟨m3,t3,v4⟩:=G' hX k.params.length k.params vs _ s d _ _ rfl (by omega) p1 p2 Oe v3 (by omega);refine Db.pre (t2.trans t3) (c1:=3) (d1:=3) ?_ (by omega) (by omega);have hb:=PI hS a1 k.body _ nl _ m3 d (X.C.Uc (i+1+1)) c b2 b1 ql (v4.cast (by simp only[ya,Ba,dc];omega)) (by omega) (by omega);generalize Yv:X.fst k+([[102,95]++name++[58]]++k.params.reverse.flatMap λp=>[(X.cc k).sc p,[33]]).length=i3 at hb
 have Nt:∀ s' m',X.Vw s' (i3+(Da (X.cc k) nl k.body).1.length) d (X.C.Uc (i+1+1)::c) m'->∃ m2,pf X.C 3 m' m2/\X.Vw s' (i+2) (0::d) c m2:=by intro s' m' v5;obtain⟨w2,ml⟩:=ml.cons;obtain⟨w3,_⟩:=ml.cons;rw[ya,<-add_assoc,Yv] at w2 w3;obtain⟨m6,t6,v6,_⟩:=v5.fw (n:=0) w2 da rfl (by omega);have t7:=PW.back v6.here w3 v6.calls;exact⟨_,(t6.trans t7).mono da,⟨PW.gh rfl,v6.rel.same rfl rfl rfl rfl rfl rfl rfl,v6.data,rfl⟩⟩
 refine Db.bind (c1:=0) (d1:=0) (c2:=3) (d2:=3) (hb.left (qls _ _ _ _)) (by omega) (by omega) (by omega) λr s' m' h=>?_
 cases r with
 |none=>obtain⟨m2,t5,v5⟩:=Nt s' m' h;exact Db.pre t5 (Db.ok (c:=0) (d:=0) v5 (Int.le_refl 0)) (by omega) (by omega)
 |some w=>obtain⟨g1,g2,g3,g4,g5⟩:=h;exact Db.ok ⟨PW.gh g1,g3,g4,g5⟩ (by omega)
theorem k9(hX:Dd X)(hE:pz X n)(hS:lz X n){f:ob}(hf:f∈X.P.funcs){x:Ex}{Ka:List Sm}{i0 k0 k1 nb:Nat}{d:List Nat}{t:List Wd}{rest:List (List Wd)}(nr:vi x)(hex:bf (X.Va f) x=0)(hnt:Hi Ka)(het:Gh (X.Va f) Ka=0)
  (sV:X.C.W[i0]? = some (na k0++[58])) (rq:X.C.Code (i0+1) (Cb (X.cc f) x)) (J4:X.C.Code (i0+1+(Cb (X.cc f) x).length) [38::na k1,[63]]) (rF:X.C.Code (i0+1+(Cb (X.cc f) x).length+2) (Da (X.cc f) nb Ka).1)
  (NM:X.C.Code (i0+1+(Cb (X.cc f) x).length+2+(Da (X.cc f) nb Ka).1.length) [[48],38::na k0,[63]]) (I1:X.C.W[i0+1+(Cb (X.cc f) x).length+2+(Da (X.cc f) nb Ka).1.length+3]? = some (na k1++[58]))
  (px:d.length+tf (X.Va f) x<=256) (C4:d.length+Wk (X.Va f) Ka<=256) (ur:d.length+2<=256) (V2:rest.length+1+Oi (X.Va f) x<=64) (hpt:rest.length+1+Xi (X.Va f) Ka<=64) :
  ∀ (k a:Nat) (s:IS) (m:MS),X.Vw s (i0+1+(Cb (X.cc f) x).length) (a::d) (t::rest) m->Db X.C (o7 X (i0+1+(Cb (X.cc f) x).length+2+(Da (X.cc f) nb Ka).1.length+3+1) d t rest) 8 8 m s (Mu (Rm X.P n f x) (bg (Ag X.P n f) Ka) k a s)
 |0,a,s,m,v=>by unfold Mu;obtain⟨m1,t1,v1⟩:=v.branch hX J4 I1 ur;by_cases ha:a=0;rw[zp ha] at v1 ⊢;exact Db.pre t1 (Db.ok (c:=0) (d:=0) v1 (Int.le_refl 0)) (by omega) (by omega);rw[zn ha];exact Db.ra v.rel.out
 |k+1,a,s,m,v=>by
  unfold Mu;obtain⟨m1,t1,v1⟩:=v.branch hX J4 I1 ur;by_cases ha:a=0;rw[zp ha] at v1 ⊢;exact Db.pre t1 (Db.ok (c:=0) (d:=0) v1 (Int.le_refl 0)) (by omega) (by omega);rw[zn ha] at v1 ⊢;refine Db.pre t1 (c1:=0) (d1:=0) ?_ (by omega) (by omega);refine Db.bind (c1:=0) (d1:=0) (c2:=0) (d2:=0) (PI hS hf Ka _ nb s m1 d t rest hnt het rF v1 (by omega) (by omega)) (by omega) (by omega) (by omega) λr s' m' h=>?_
  cases r with
  |some w=>exact Db.ok h (by omega)
  |none=>have h:X.Vw s' _ d (t::rest) m':=h;refine Db.tick h.rel.out λdx=>?_;have h:=h.steps (s'.left-18);generalize { s' with left:=s'.left-18 }=s1 at h ⊢;obtain⟨m2,t2,v2⟩:=vf.Vw.goto hX h NM sV ur;refine Db.pre t2 (c1:=8) (d1:=8) ?_ (by omega) (by omega);refine Db.bind (c1:=0) (d1:=0) (c2:=8) (d2:=8) (hE f hf x _ s1 m2 d (t::rest) nr hex rq v2 (by omega) (by rw[Ba];omega)) (by omega) (by omega) (by omega) λa' s2 m3 v3=>?_;exact k9 hX hE hS hf nr hex hnt het sV rq J4 rF NM I1 px C4 ur V2 hpt k a' s2 m3 v3
theorem qx4(hX:Dd X)(hE:pz X n)(hS:lz X n):lz X (n+1):=by
 intro f hf st i nl s m d t rest hn he hc v hd Gn;obtain⟨kind,name,index,value,Ka,fb⟩:=st;rw[xk] at he;split at he;cases he;rename_i Ib;obtain⟨ev,he⟩:=Dc.1 he;obtain⟨ei,he⟩:=Dc.1 he;obtain⟨eu,he⟩:=Dc.1 he;obtain⟨et,ee⟩:=Dc.1 he;obtain⟨ni,nv,nt,ne⟩:=hn;rw[Ag];refine Db.tick v.rel.out λdx=>?_;have v:=v.steps (s.left-wS kind fb);generalize { s with left:=s.left-wS kind fb }=s1 at v ⊢;clear dx;rw[CO] at hc ⊢;rw[sC] at hd;rw[Jr] at Gn;unfold yh at Ib;simp only at Ib
 by_cases k7:kind=7;subst k7;rw[zp rfl];have hc:X.C.Code i [[36]]:=hc;obtain⟨w0,_⟩:=hc.cons;exact Db.Td (by omega) (.inl rfl) (by rw[<-v.rel.out];exact PW.halt v.here w0);rw[zn k7];rw[zn k7] at hd;have rm:value.length=1:=by by_cases q1:kind=1;rw[zp q1] at Ib;simp only[Bool.not_eq_false,Mf] at Ib;exact Ib.2.2.1;rw[zn q1] at Ib;by_cases q2:kind=2;rw[zp q2] at Ib;simp only[Bool.not_eq_false,Mf] at Ib;exact Ib.2.2.1;rw[zn q2] at Ib;by_cases q3:kind=3;rw[zp q3] at Ib;simp only[Bool.not_eq_false,Mf] at Ib;exact Ib.2.2;rw[zn q3] at Ib;by_cases q4:kind=4;rw[zp q4] at Ib;simp only[Bool.not_eq_false,Mf] at Ib;exact Ib.2.2.1;rw[zn q4] at Ib;by_cases q5:kind=5;rw[zp q5] at Ib;simp only[Bool.not_eq_false,Mf] at Ib;exact Ib.2.2.1;rw[zn q5] at Ib;by_cases q6:kind=6;rw[zp q6] at Ib;simp only[Bool.not_eq_false,Mf] at Ib;exact Ib.2.2.1;rw[zn q6,zn k7] at Ib;exact absurd rfl Ib
 obtain⟨x,rfl⟩:=H8 rm;have sQ:([x]:List Ex).headD default=x:=rfl;simp only[sQ] at hc hd ⊢;rw[Sf] at ev;have WH:=(Dc.1 ev).1;have fH:=nv.1;have px:(t::rest).length+Oi (X.Va f) x<=64:=by rw[gi] at Gn;rw[Ba];omega
 by_cases k1:kind=1;subst k1;rw[zp rfl] at hc ⊢;rw[zn da,zn da] at hd;simp only at hc ⊢;obtain⟨rq,hc⟩:=hc.app;obtain⟨w0,hc⟩:=hc.cons;obtain⟨w1,_⟩:=hc.cons;have eu:Vr (X.Va f) name=0:=eu;obtain⟨a1,a2⟩:=hX.sc f hf name eu;rw[a1] at w0;have SQ:=hX.low _ (.inl ⟨_,a2,rfl⟩);have hq:wS 1 fb=8:=rfl;rw[hq];refine Db.bind (c1:=0) (d1:=0) (c2:=8) (d2:=8) (hE f hf x i s1 m d (t::rest) fH WH rq v (by omega) px) (by omega) (by omega) (by omega) λa s' m' va=>?_;rw[zp trivial];obtain⟨m1,t1,v1,_⟩:=va.addr w0 (by omega) (by simp only[Ba];omega);obtain⟨m2,t2,v2⟩:=v1.PD hX a2 w1;refine(Db.pre (s:=yf s' (Ub f name) a) (t1.trans t2) (Db.ok (c:=0) (d:=0) (v:=none) (v2.cast ?_) (Int.le_refl 0)) (by omega) (by omega)).left rfl;simp only[ya,Ba,dc];omega
 by_cases k2:kind=2;subst k2;rw[zn da,zp rfl] at hc ⊢;rw[zp rfl] at hd;rw[zn da,zp rfl] at Ib;simp only[Bool.not_eq_false,Mf] at Ib;obtain⟨y,rfl⟩:=H8 Ib.2.1;have hy0:([y]:List Ex).headD default=y:=rfl;simp only[hy0] at hc hd ⊢;rw[Sf] at ei;have eiy:=(Dc.1 ei).1;have niy:=ni.1;have hdy:(t::rest).length+Oi (X.Va f) y<=64:=by rw[gi,gi,gi,gi] at Gn;rw[Ba];omega
 obtain⟨rq,hc⟩:=hc.app;obtain⟨w0,hc⟩:=hc.cons;obtain⟨hcy,hc⟩:=hc.app;obtain⟨w1,hc⟩:=hc.cons;obtain⟨w2,_⟩:=hc.cons;have eu:qy (X.Va f) name=0:=eu;obtain⟨a1,A,hA,rfl⟩:=hX.ar f hf name eu;rw[a1] at w0;have P4:X.aa A.name<1000000:=hX.Dx A hA;have hq:wS 2 fb=9:=rfl;rw[hq];refine Db.bind (c1:=0) (d1:=0) (c2:=9) (d2:=9) (hE f hf x i s1 m d (t::rest) fH WH rq v (by omega) px) (by omega) (by omega) (by omega) λa s' m' va=>?_;rw[zn da,zp trivial];obtain⟨m1,t1,v1,_⟩:=va.addr w0 P4 (by simp only[Ba];omega);refine Db.pre t1 (c1:=2) (d1:=2) ?_ (by omega) (by omega);refine Db.bind (c1:=0) (d1:=0) (c2:=2) (d2:=2) (hE f hf y _ s' m1 (X.aa A.name::a::d) (t::rest) niy eiy hcy v1 (by rw[Ba,Ba];omega) hdy) (by omega) (by omega) (by omega) λb s2 m2 vb=>?_
 cases hg:(s2.ar A.name)[b]? with
 |none=>exact Db.other da
 |some r=>
  obtain⟨za,hr⟩:=List.getElem?_eq_some_iff.1 hg;have gd:=(vb.rel.ar A hA).1;have hb:=hX.low _ (.inr (.inr ⟨A,hA,b,by omega,rfl⟩));obtain⟨m3,t3,v3,_⟩:=vb.op (x:=X.aa A.name+b) w1 (by unfold Xb;simp) (by
   show some ((X.aa A.name+b) % 4294967296)=_;rw[Nat.mod_eq_of_lt (by omega)]) (by simp only[Ba];omega)
  obtain⟨m4,t4,v4⟩:=v3.elem hX hA za w2;refine(Db.pre (s:={ s2 with ar:=λy=>if y=A.name then (s2.ar A.name).set b a else s2.ar y }) (t3.trans t4) (Db.ok (c:=0) (d:=0) (v:=none) (v4.cast ?_) (Int.le_refl 0)) (by omega) (by omega)).left rfl;simp only[ya,Ba,dc];omega
 rw[zn k2] at hd;by_cases k5:kind=5;subst k5;rw[zn da,zn da,zn da,zn da,zp rfl] at hc ⊢;rw[zp rfl] at hd;simp only at hc ⊢;obtain⟨rq,hc⟩:=hc.app;obtain⟨w0,_⟩:=hc.cons;have hq:wS 5 fb=1:=rfl;rw[hq];refine Db.bind (c1:=0) (d1:=0) (c2:=1) (d2:=1) (hE f hf x i s1 m d (t::rest) fH WH rq v (by omega) px) (by omega) (by omega) (by omega) λa s' m' va=>?_;rw[zn da,zn da,zp trivial];have t1:=PW.back va.here w0 va.calls;exact Db.pre t1 (Db.ok (c:=0) (d:=0) (v:=some a) ⟨rfl,rfl,va.rel.same rfl rfl rfl rfl rfl rfl rfl,va.data,rfl⟩ (Int.le_refl 0)) (by omega) (by omega);rw[zn k5] at hd
 by_cases k6:kind=6;subst k6;rw[zn da,zn da,zn da,zn da,zn da,zp rfl] at hc ⊢;simp only at hc ⊢;obtain⟨rq,hc⟩:=hc.app;obtain⟨w0,hc⟩:=hc.cons;obtain⟨w1,_⟩:=hc.cons;obtain⟨t0,_,_⟩:=hX.yw f hf;rw[t0] at w0;have hS:X.S+2<262144:=hX.low _ (.inr (.inl ⟨by omega,by omega⟩));have hq:wS 6 fb=8:=rfl;rw[hq];refine Db.bind (c1:=0) (d1:=0) (c2:=8) (d2:=8) (hE f hf x i s1 m d (t::rest) fH WH rq v (by omega) px) (by omega) (by omega) (by omega) λa s' m' va=>?_;rw[zn da,zn da,zn da,zn da,zn da];obtain⟨m1,t1,v1,_⟩:=va.addr w0 (by omega) (by simp only[Ba];omega);obtain⟨m2,t2,v2,_⟩:=v1.Rx hX w1 ⟨by omega,by omega⟩;refine Db.pre (t1.trans t2) (Db.ok (c:=0) (d:=0) (v:=none) (v2.cast ?_) (Int.le_refl 0)) (by omega) (by omega);simp only[ya,Ba,dc];omega
 by_cases k3:kind=3
 ·subst k3;rw[zn da,zn da,zp rfl] at hc ⊢
  cases fb with
  |nil=>
   simp only at hc ⊢;obtain⟨hc,ml⟩:=hc.app;obtain⟨hc,ql⟩:=hc.app;obtain⟨rq,Oe⟩:=hc.app;obtain⟨wl,_⟩:=ml.cons;have hq:wS 3 ([]:List Sm)=8:=rfl;rw[hq];refine Db.bind (c1:=0) (d1:=0) (c2:=8) (d2:=8) (hE f hf x i s1 m d (t::rest) fH WH rq v (by omega) px) (by omega) (by omega) (by omega) λa s' m' va=>?_;rw[zn da,zn da,zn da,zp trivial];have Yv:i+(Cb (X.cc f) x++[38::na nl,[63]]).length=i+(Cb (X.cc f) x).length+2:=by rw[ya];try rfl
   rw[Yv] at ql;rw[ya,<-add_assoc,Yv] at wl;obtain⟨m1,t1,v1⟩:=va.branch hX Oe wl (by omega);have Oo:i+(Cb (X.cc f) x).length+2+(Da (X.cc f) (nl+1) Ka).1.length+1=i+(Cb (X.cc f) x++[38::na nl,[63]]++(Da (X.cc f) (nl+1) Ka).1++[na nl++[58]]).length:=by simp only[ya,Ba,dc];omega
   refine Db.pre t1 (c1:=0) (d1:=0) ?_ (by omega) (by omega);by_cases ha:a=0;rw[zp ha] at v1;rw[zn (by simp[ha])];exact Db.ok (v1.cast Oo) (by omega);rw[zn ha] at v1;rw[zp ha];refine Db.post (a:=0) (PI hS hf Ka _ (nl+1) s' m1 d t rest nt et ql v1 (by omega) (by omega)) (by omega) (by omega) λr s2 m2 h=>⟨m2,.refl _,?_⟩
   cases r with
   |some w=>exact h
   |none=>have h:X.Vw s2 _ d (t::rest) m2:=h;exact(h.pass wl (hX.Ly _ _ wl)).cast Oo
  |cons e fb=>
   simp only at hc ⊢;obtain⟨hc,hc6⟩:=hc.app;obtain⟨hc,mR⟩:=hc.app;obtain⟨hc,ml⟩:=hc.app;obtain⟨hc,ql⟩:=hc.app;obtain⟨rq,Oe⟩:=hc.app;obtain⟨we,_⟩:=hc6.cons;have Yv:i+(Cb (X.cc f) x++[38::na nl,[63]]).length=i+(Cb (X.cc f) x).length+2:=by rw[ya];try rfl
   rw[Yv] at ql;rw[ya,<-add_assoc,Yv] at ml;generalize hi3:i+(Cb (X.cc f) x).length+2=i3 at *;generalize hB:(Da (X.cc f) (nl+2) Ka).1=tw at *;generalize hN:(Da (X.cc f) (nl+2) Ka).2=n2 at *;have GH:i+(Cb (X.cc f) x++[38::na nl,[63]]++tw++[[48],38::na (nl+1),[63],na nl++[58]]).length=i3+tw.length+3+1:=by rw[<-hi3];simp only[ya,Ba,dc];omega
   rw[GH] at mR;have FH:i+(Cb (X.cc f) x++[38::na nl,[63]]++tw++[[48],38::na (nl+1),[63],na nl++[58]]++(Da (X.cc f) n2 (e::fb)).1).length=i3+tw.length+3+1+(Da (X.cc f) n2 (e::fb)).1.length:=by rw[ya,<-add_assoc,GH]
   rw[FH] at we;have M4:X.C.Code (i3+tw.length) ([[48],38::na (nl+1),[63]]++[na nl++[58]]):=ml;obtain⟨NM,oe⟩:=M4.app;obtain⟨wl,_⟩:=oe.cons;have wl:X.C.W[i3+tw.length+3]? = some (na nl++[58]):=wl;have Oo:i3+tw.length+3+1+(Da (X.cc f) n2 (e::fb)).1.length+1=i+(Cb (X.cc f) x++[38::na nl,[63]]++tw++[[48],38::na (nl+1),[63],na nl++[58]]++(Da (X.cc f) n2 (e::fb)).1++[na (nl+1)++[58]]).length:=by have:=FH;simp only[ya,Ba,dc] at this ⊢;omega
   rw[<-Oo];have hq:wS 3 (e::fb)=18:=rfl;rw[hq];refine Db.bind (c1:=0) (d1:=0) (c2:=18) (d2:=18) (hE f hf x i s1 m d (t::rest) fH WH rq v (by omega) px) (by omega) (by omega) (by omega) λa s' m' va=>?_;rw[zn da,zn da,zn da,zp trivial];obtain⟨m1,t1,v1⟩:=va.branch hX Oe wl (by omega);refine Db.pre t1 (c1:=10) (d1:=10) ?_ (by omega) (by omega)
   by_cases ha:a=0;rw[zp ha] at v1;rw[zn (by simp[ha])];refine Db.post (a:=0) (PI hS hf (e::fb) _ n2 s' m1 d t rest ne ee mR v1 (by omega) (by omega)) (by omega) (by omega) λr s2 m2 h=>⟨m2,.refl _,?_⟩
   cases r with
   |some w=>exact h
   |none=>have h:X.Vw s2 _ d (t::rest) m2:=h;exact h.pass we (hX.Ly _ _ we)
   rw[zn ha] at v1;rw[zp ha];have hb:=PI hS hf Ka i3 (nl+2) s' m1 d t rest nt et (by rw[hB];exact ql) (v1.cast (by omega)) (by omega) (by omega);rw[hB] at hb;refine Db.post (a:=10) hb (by omega) (by omega) λr s2 m2 h=>?_
   cases r with
   |some w=>exact⟨m2,(pf.refl _).mono (by omega),h⟩
   |none=>have h:X.Vw s2 _ d (t::rest) m2:=h;exact h.goto hX NM we (by omega)
 by_cases k4:kind=4;subst k4;rw[zn da,zn da,zn da,zp rfl] at hc ⊢;simp only at hc ⊢;obtain⟨hc,mR⟩:=hc.app;obtain⟨hc,ml⟩:=hc.app;obtain⟨hc,ql⟩:=hc.app;obtain⟨Pm,Oe⟩:=hc.app;obtain⟨w0,_⟩:=Pm.cons;have e3:i+([na nl++[58]]++Cb (X.cc f) x).length=i+1+(Cb (X.cc f) x).length:=by simp only[ya,Ba,dc];omega
 rw[e3] at ql;have e4:i+([na nl++[58]]++Cb (X.cc f) x++[38::na (nl+1),[63]]).length=i+1+(Cb (X.cc f) x).length+2:=by simp only[ya,Ba,dc];omega
 rw[e4] at ml;have e5:i+([na nl++[58]]++Cb (X.cc f) x++[38::na (nl+1),[63]]++(Da (X.cc f) (nl+2) Ka).1).length=i+1+(Cb (X.cc f) x).length+2+(Da (X.cc f) (nl+2) Ka).1.length:=by have:=e4;simp only[ya,Ba,dc] at this ⊢;omega
 rw[e5] at mR;have L4:X.C.Code (i+1+(Cb (X.cc f) x).length+2+(Da (X.cc f) (nl+2) Ka).1.length) ([[48],38::na nl,[63]]++[na (nl+1)++[58]]):=mR;obtain⟨NM,oe⟩:=L4.app;obtain⟨we,_⟩:=oe.cons;have v1:=v.pass w0 (hX.Ly _ _ w0);have hq:wS 4 fb=8:=rfl;rw[hq];refine Db.bind (c1:=0) (d1:=0) (c2:=8) (d2:=8) (hE f hf x (i+1) s1 m d (t::rest) fH WH Oe v1 (by omega) px) (by omega) (by omega) (by omega) λa s' m' va=>?_;rw[zn da,zn da,zn da,zn da,zp trivial];rw[Ba] at px;have:=k9 hX hE hS hf fH WH nt et w0 Oe ql ml NM we (by omega) (by omega) (by omega) (by omega) (by omega) n a s' m' va
 have e6:i+1+(Cb (X.cc f) x).length+2+(Da (X.cc f) (nl+2) Ka).1.length+3+1=i+([na nl++[58]]++Cb (X.cc f) x++[38::na (nl+1),[63]]++(Da (X.cc f) (nl+2) Ka).1++[[48],38::na nl,[63],na (nl+1)++[58]]).length:=by have:=e5;simp only[ya,Ba,dc] at this ⊢;omega
 rw[<-e6];exact this;rw[zn k1,zn k2,zn k3,zn k4,zn k5,zn k6,zn k7] at Ib;exact absurd rfl Ib
theorem Z8(hX:Dd X):∀ n,pz X n/\lz X n
 |0=>⟨λf hf e i s m d c hn he hc v hd Gn=>Db.ra v.rel.out,λf hf st i nl s m d t rest hn he hc v hd Gn=>Db.ra v.rel.out⟩
 |n+1=>by obtain⟨h1,h2⟩:=Z8 hX n;exact⟨qyx hX h1 (qyn hX h2),qx4 hX h1 h2⟩
end
def HK:IR (Option Nat)->Int×IS
 |.ok _ s=>(0,s)
 |.stop e s=>(e,s)
def Zd(P:Pr)(ua:Nat)(xa:List Nat)(ra:Nat):Int×IS:=HK (bg (Ag P ua (Bg P)) (Bg P).body (aq P xa ra))
section
variable{X:vf}
theorem qAa(hX:Dd X)(hW:X.C.Code 0 [[38,102,95,109,97,105,110],[58],decDigits X.S,[33],[36]])(hm:Bg X.P∈X.P.funcs)(pq:(Bg X.P).name=[109,97,105,110])(Qy:(Bg X.P).params=[])
  (Eg:Wk (X.Va (Bg X.P)) (Bg X.P).body<=256) (Gn:Xi (X.Va (Bg X.P)) (Bg X.P).body<=63) (xa:List Nat) (ua ra:Nat) (he:(Zd X.P ua xa ra).1=0∨(Zd X.P ua xa ra).1=12) :
  ∃ k m',k<=ra+100/\wh X.C k (WS X.C xa) m'/\Sa X.C m'=.stop (Zd X.P ua xa ra).1.toNat (Zd X.P ua xa ra).2.out:=by
 have I2:=qsX hX xa ra;generalize vB:WS X.C xa=m0 at *;have v0:X.Vw (aq X.P xa ra) 0 [] [] m0:=by subst vB;exact⟨PW.gh rfl,I2,rfl,rfl⟩
 have JQ:Db X.C (λ(_:Option Nat) s' m'=>∃ m2,wh X.C 0 m' m2/\Sa X.C m2=.stop 0 s'.out) 100 100 m0 (aq X.P xa ra) (bg (Ag X.P ua (Bg X.P)) (Bg X.P).body (aq X.P xa ra)):=by
  generalize Bg X.P=k at *;obtain⟨nl,Ye⟩:=hX.code k hm;obtain⟨b1,b2⟩:=hX.body k hm;have LH:=hX.Ni k hm;have Nl:=hX.Zy k hm;unfold Rj at Ye;simp only at Ye;rw[Qy] at Ye;simp only[List.reverse_nil,List.flatMap_nil,Jd] at Ye;obtain⟨Ye,ml⟩:=Ye.app;obtain⟨Pm,ql⟩:=Ye.app;obtain⟨wd,_⟩:=Pm.cons;obtain⟨w0,hW⟩:=hW.cons;obtain⟨w1,hW⟩:=hW.cons;obtain⟨w2,hW⟩:=hW.cons;obtain⟨w3,hW⟩:=hW.cons;obtain⟨w4,_⟩:=hW.cons;rw[pq] at Nl LH wd;have t2:=PW.call v0.here w0 w1 Nl (hX.label _ _ _ wd LH) (by rw[v0.data];decide) (by rw[v0.calls];decide);have v3:X.Vw (aq X.P xa ra) (X.fst k+1) [] [X.C.Uc (0+1+1)] { m0 with pc:=X.C.Uc (X.fst k+1),calls:=X.C.Uc (0+1+1)::m0.calls,digit:=false }:=
   ⟨PW.gh rfl,v0.rel.same rfl rfl rfl rfl rfl rfl rfl,v0.data,by simp only;rw[v0.calls]⟩
  have hb:=PI (Z8 hX ua).2 hm k.body (X.fst k+1) nl _ _ [] (X.C.Uc (0+1+1)) [] b2 b1 ql v3 (by simpa using Eg) (by simp only[dc];omega);have hS:X.S+2<262144:=hX.low _ (.inr (.inl ⟨by omega,by omega⟩));have fx:∀ s' a m',X.Vw s' (0+1+1) [a] [] m'->∃ m2,pf X.C 10 m' m2/\∃ m3,wh X.C 0 m2 m3/\Sa X.C m3=.stop 0 s'.out:=by intro s' a m' v5;obtain⟨m6,t6,v6,_⟩:=v5.addr w2 (by omega) (by simp);obtain⟨m7,t7,v7,_⟩:=v6.Rx hX w3 ⟨by omega,by omega⟩;exact⟨m7,(t6.trans t7).mono da,by rw[<-v7.rel.out];exact PW.halt v7.here w4⟩
  refine Db.pre t2 (c1:=50) (d1:=50) ?_ (by omega) (by omega);refine Db.post (a:=20) hb (by omega) (by omega) λr s' m' h=>?_
  cases r with
  |some a=>obtain⟨g1,g2,g3,g4,g5⟩:=h;obtain⟨m2,t5,h5⟩:=fx s' a m' ⟨PW.gh g1,g3,g4,g5⟩;exact⟨m2,t5.mono da,h5⟩
  |none=>
   have h:X.Vw s' _ [] [X.C.Uc (0+1+1)] m':=h;obtain⟨q2,ml⟩:=ml.cons;obtain⟨q3,_⟩:=ml.cons;rw[ya,<-add_assoc] at q2 q3;obtain⟨m6,t6,v6,_⟩:=h.fw (n:=0) q2 da rfl da;have t7:=PW.back v6.here q3 v6.calls;have v7:X.Vw s' (0+1+1) [0] [] { m6 with pc:=X.C.Uc (0+1+1),calls:=[],digit:=false }:=
    ⟨PW.gh rfl,v6.rel.same rfl rfl rfl rfl rfl rfl rfl,v6.data,rfl⟩
   obtain⟨m8,t8,h8⟩:=fx s' 0 _ v7;exact⟨m8,(t6.trans (t7.trans t8)).mono da,h8⟩
 unfold Zd at he ⊢;revert JQ he;cases bg (Ag X.P ua (Bg X.P)) (Bg X.P).body (aq X.P xa ra) with
 |ok v s'=>rintro he ⟨h1,k,m',h2,h3,m2,h4,h5⟩;have hl:(aq X.P xa ra).left=ra:=rfl;rw[hl] at h1 h2;exact⟨k+0,m2,by omega,h3.trans h4,h5⟩
 |stop e s'=>rintro he ⟨h1,h2⟩;have hl:(aq X.P xa ra).left=ra:=rfl;rw[hl] at h1;obtain⟨k,m',k1,k2,k3⟩:=h1 he;exact⟨k,m',by omega,k2,k3⟩
end
theorem YR{P:Pr}{o:fk}{t:Wd}(Vb:∀ f∈P.funcs,Hi f.body)(h:Tj P.vars (Ue P) P.funcs o=.ok t)(xa:List Nat)(ua ra:Nat)(he:(Zd P ua xa ra).1=0∨(Zd P ua xa ra).1=12) :
  ∃ k m',k<=ra+100/\wh ⟨Mg P o,XK o.code.toNat⟩ k (WS ⟨Mg P o,XK o.code.toNat⟩ xa) m'/\Sa ⟨Mg P o,XK o.code.toNat⟩ m'=.stop (Zd P ua xa ra).1.toNat (Zd P ua xa ra).2.out:=by
 obtain⟨hc,de,_,_,Oj,hX,hlen⟩:=FO Vb h;have hv:=IG hc;have hF:=zC de;have Kc:(P.funcs.map (·.name)).Nodup:=(Dm (sv _ _ hv.names).1).2.1;have dh:(yb (Mg P o)).Nodup:=by have h1:=(FO Vb h).2.2.2.1;have h2:=(qnb Oj).2.1;have h3:=(FO Vb h).2.2.1;rw[h1] at h2;exact h2
 have hW:Go.ea.PW.Code (qi P o).C 0 [[38,102,95,109,97,105,110],[58],decDigits (qi P o).S,[33],[36]]:=by have h1:Go.ea.PW.Code (qi P o).C 0 ([[38,102,95,109,97,105,110],[58],itoa o.scalars,[33],[36]]++(Cc (Bp P.vars (Ue P) P.funcs o) 0 P.funcs).1):=qpO _ _ _;rw[jv hF.s0] at h1;exact h1.app.1
 have Eg:Wk ((qi P o).Va (Bg P)) (Bg P).body<=200/\Xi ((qi P o).Va (Bg P)) (Bg P).body<=60:=by
  unfold qp Uq at hc;have e1:(P.ba.map λa=>(a.name,(a.size:Int))).map (·.1)=P.ba.map (·.name):=by rw[List.map_map];try rfl
  rw[e1,qow _ _ Kc,nil_append] at hc;have hm:=(Dc.1 (Dc.1 (Dc.1 hc).2).2).2;unfold vO at hm;rw[List.getLast?_map] at hm;have C3:Bg P=(P.funcs.getLast?).getD ⟨[],[],[],[]⟩:=rfl;cases hl:P.funcs.getLast? with
  |none=>rw[hl] at hm;cases hm
  |some f=>rw[hl] at hm C3;simp only[Option.map_some,getD_some] at hm C3;rw[C3];split at hm;split at hm;rename_i hq;have hs:=qY (vars:=P.vars) (ba:=P.ba.map (·.name)) (later:=P.funcs.map (·.name)) (yu P.vars (P.ba.map (·.name)) (P.funcs.map (·.name)) [] P.funcs f) f;exact⟨Se hs.1 hq.2.1,Se hs.2 hq.2.2⟩;cases hm;cases hm
 exact qAa (X:=l8 (qi P o) (XK o.code.toNat)) (qvq hX (qwq hc de) dh) hW hv.main.1 hv.main.2.1 hv.main.2.2 (Se Eg.1 da) (Se Eg.2 da) xa ua ra he
section
variable{P:Pr}{o:fk}{t:Wd}
theorem BZ(Vb:∀ f∈P.funcs,Hi f.body)(h:Tj P.vars (Ue P) P.funcs o=.ok t){xa:List Nat}(hi:∀ v∈xa,v<4294967296)(ua ra:Nat)(he:(Zd P ua xa ra).1=0∨(Zd P ua xa ra).1=12) :
  ∃ x Za y mH K K',vh t o.code=.ok (x,Za)/\vh (join (Uh (xj t)) [32]) o.code=.ok (y,mH)/\x.length<=40000/\y.length<=x.length/\K<=ra+101/\K'<=K /\
   ∀ N,K<=N->runM N (Zu x o.code.toNat xa)=((Zd P ua xa ra).1.toNat,(Zd P ua xa ra).2.out,K)/\runM N (Zu y o.code.toNat xa)=((Zd P ua xa ra).1.toNat,(Zd P ua xa ra).2.out,K'):=by
 obtain⟨hc,de,ht,hw,Oj,hX,hlen⟩:=FO Vb h;have hF:=zC de;have oe:∀ w∈Mg P o,Hj w:=TY hc de;obtain⟨hA,hl⟩:=qtm Oj;rw[hw] at hA;rw[hw];have hty:=qAi hc de Vb hA hX;obtain⟨k,m',k1,k2,k3⟩:=YR Vb h xa ua ra he;have h99:(Zd P ua xa ra).1.toNat≠99:=by rcases he with e|e <;> rw[e] <;> decide
 obtain⟨n,hE⟩:=qwX k2 k3 h99;have MQ:o.code.toNat+40000<=262144:=hF.c1;have hE:Ends ⟨Mg P o,XK o.code.toNat⟩ n ⟨λ_=>0,Mg P o,[],[],xa,[],false⟩ (Zd P ua xa ra).1.toNat (Zd P ua xa ra).2.out (k+1):=hE;obtain⟨n',K',Er,hK⟩:=qvc hi hA hE;obtain⟨VM,Ml⟩:=qx8 hA;have cw:=quH oe;have htx:=AY (oG P o) (Mg P o) λw hw=>(oe w hw).1;have hl:(Uk (oG P o) (Mg P o)).length<=40000:=hl;obtain⟨b1,b2⟩:=S8 VM cw (og:=o.code) hF.c0 (by omega) (by omega);refine⟨_,_,_,_,k+1,K',Oj,b1,hl,by rw[b2,htx];exact Ml,by omega,hK,λN hN=>⟨?_,?_⟩⟩;exact qlD hA (λw hw=>(oe w hw).1) hty rfl hl MQ hE N hN;exact qlD VM (λw hw=>(cw w hw).1) (qzU hty) rfl (by rw[b2];omega) MQ Er N (by omega)
end
end Go.ea.Wi.Wc
