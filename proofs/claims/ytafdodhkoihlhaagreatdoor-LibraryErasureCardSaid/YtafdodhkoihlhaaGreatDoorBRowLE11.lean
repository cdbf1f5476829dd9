import Derived.Test.YtafdodhkoihlhaaGreatDoorBRowLE10
set_option linter.unusedVariables false
set_option linter.unusedSimpArgs false
set_option maxRecDepth 100000
set_option maxHeartbeats 0
open Go.GL (zk)
open List (not_mem_nil all_cons filterMap_cons filterMap_nil map_nil mem_append nil_append mem_singleton)
namespace Go.Proofs.Y.Lb
open Go.GL Go.RowKit Go.ia
open Go.Lib (join)
theorem qkk{s:List UInt8}(h:(Di s).2.2=0):∃ T p i op,Pz s 1=.ok T/\Ll T (10 * T.length+20) Ej 0 0=some (.ok p i op)/\Di s=(p,0,0)/\s.length<=60000:=by unfold Di at h ⊢;split at h;rename_i l e he;exact absurd h (qkE he);rename_i T hT;have JX:=hT;unfold aA at JX;split at JX;cases JX;rename_i ma;split at h;rename_i p i op hp;exact⟨T,p,i,op,JX,hp,rfl,by omega⟩;rename_i l e he;exact absurd h (sV _ _ _ _ _ _ _ he);rename_i hn;obtain⟨q,hq⟩:=dO T (10 * T.length+20) Ej 0 0 (Nat.zero_le _) zo;rw[hn] at hq;cases hq
theorem qtN{a b:List UInt8}(ha:(Di a).2.2=0)(hb:(Di b).2.2=0)(JB:a.length<=20000)(zO:b.length<=20000):Di (a++[10]++b)=((Di a).1.app (Di b).1,0,0):=by
 obtain⟨A,p,i1,o1,h1,h2,h3,_⟩:=qkk ha;obtain⟨B,q,i2,o2,h4,h5,h6,_⟩:=qkk hb;rw[h3,h6];obtain⟨B',h7,h8⟩:=U2 b.length b 1 (1+(a.count 10:Nat)+1) B h4;have h9:Pz (a++10::b) 1=.ok (A++B'):=by rw[vW b a.length a 1 A (Pb _) h1];unfold Pz;rw[h7];rfl
 have fw:aA (a++[10]++b)=.ok (A++B'):=by rw[Yc,List.singleton_append];unfold aA;rw[zn (by simp only[Ga,Ma];omega)];exact h9
 obtain⟨i,op,RT⟩:=qw3 (p:=p) (q:=q) h2 h5 (B':=B') h8;unfold Di;rw[fw];simp only;rw[show(Ej:Pr)=Ts from rfl,RT]
def Dv:List Nat->List UInt8->List (List UInt8)
 |[],s=>[s]
 |n::ns,s=>s.take n::Dv ns (s.drop (n+1))
def ah:List (List UInt8)->List UInt8
 |[]=>[]
 |p::l=>p++10::ah l
theorem LK:∀ a b:List (List UInt8),ah (a++b)=ah a++ah b
 |[],b=>rfl
 |p::a,b=>by show p++10::ah (a++b)=(p++10::ah a)++ah b;rw[LK a b,Yc];rfl
def dX:List (List UInt8)->Pr
 |[]=>Ts
 |p::l=>(Di p).1.app (dX l)
theorem qtL:Di []=(Ts,0,0):=zk
theorem qnG:∀ l:List (List UInt8),(∀ p∈l,(Di p).2.2=0)->(ah l).length<=20000->Di (ah l)=(dX l,0,0)
 |[],_,_=>qtL
 |p::l,h,hl=>by
  have h1:=h p (by simp);have Et:p.length+((ah l).length+1)<=20000:=by
   have:(ah (p::l)).length=p.length+((ah l).length+1):=by show(p++10::ah l).length=_;rw[Ga,Ma]
   omega
  have ih:=qnG l (λq hq=>h q (by simp[hq])) zo;have:=qtN (a:=p) (b:=ah l) h1 (by rw[ih]) zo zo;rw[ih,Yc,List.singleton_append] at this;exact this
noncomputable def C5:List (List UInt8):=Dv [260,90] (OP.dropLast)
theorem ZP:OP=ah C5:=zk
noncomputable def nL:List (List UInt8):=Dv [] (Dz.dropLast)
theorem qA5:Dz=ah nL:=zk
noncomputable def Xp:List (List UInt8):=Dv [464,197,667] (Bi.dropLast)
theorem qsj:Bi=ah Xp:=zk
noncomputable def B5:List (List UInt8):=Dv [404,812,127,281] (LM.dropLast)
theorem YP:LM=ah B5:=zk
noncomputable def Rw:List (List UInt8):=Dv [334,306,202,345,268,187,150] (cn.dropLast)
theorem qwg:cn=ah Rw:=zk
noncomputable def Yp:List (List UInt8):=Dv [] (Rj.dropLast)
theorem qr1:Rj=ah Yp:=zk
noncomputable def dj:List (List UInt8):=Dv [] (tf.dropLast)
theorem qk3:tf=ah dj:=zk
end Go.Proofs.Y.Lb
namespace Go.ia.Wi
open Go.Lib
variable{k m n:Nat}{s:Nm}
def Pl(w:Wd):Prop:=ya w=none/\Va w=none/\Ay w=true
def rk(F:List Wd)(ws:List Wd):Prop:=∀ x∈ws,Pl x∨ya x=none/\∃ d,Va x=some d/\d∈F
section
variable{F:List Wd}{a b ws:List Wd}{w d:Wd}
theorem rk.nil:rk F []:=λx h=>(not_mem_nil h).elim
theorem rk.cons(h:Pl w)(k:rk F ws):rk F (w::ws):=λx hx=>by rcases Dc.1 hx with rfl|hx;exact .inl h;exact k x hx
theorem rk.call(h:Va w=some d)(hd:d∈F)(k:rk F ws):rk F (w::ws):=λx hx=>by rcases Dc.1 hx with rfl|hx;exact .inr ⟨gu h,d,h,hd⟩;exact k x hx
theorem rk.app(h:rk F a)(k:rk F b):rk F (a++b):=λx hx=>by rcases xj hx with hx|hx;exact h x hx;exact k x hx
theorem rk.flat{l:List (List Wd)}(h:∀ ws∈l,rk F ws):rk F l.flatten:=λx hx=>by obtain⟨ws,h1,h2⟩:=List.mem_flatten.1 hx;exact h ws h1 x h2
theorem qv7:∀ (w:Wd),(∀ c∈w,qe c=true)->Ay w=true:=λw h=>by
 unfold Ay;rw[List.all_eq_true];intro c hc;have h0:=h c hc;have h2:48<=c.toNat:=(oN.1 h0).1;have h3:c.toNat<=57:=(oN.1 h0).2;have h4:c=UInt8.ofNat c.toNat:=by simp
 have h5:c.toNat=48∨c.toNat=49∨c.toNat=50∨c.toNat=51∨c.toNat=52∨c.toNat=53∨c.toNat=54∨c.toNat=55∨c.toNat=56∨c.toNat=57:=by omega
 rw[h4];rcases h5 with e|e|e|e|e|e|e|e|e|e <;> rw[e] <;> decide
theorem qz1(h:Db w=some n):decDigits n=w:=by unfold Db at h;split at h;split at h;rename_i q;injection h with h;rw[<-h];exact q;cases h;cases h
theorem qB(h:fp w):Pl w:=by obtain⟨n,h⟩:=h;obtain⟨k1,k2⟩:=sr h;refine⟨k1,k2,qv7 w λc hc=>?_⟩;rw[<-qz1 h] at hc;exact XN n c hc
theorem sg{c:UInt8}(h:c∈([43,45,42,47,37,94,60,64,33,63,58,59,44,46,36,48,49]:Wd)):Pl [c]:=by simp only[Dc,not_mem_nil,or_false] at h;unfold Pl;rcases h with rfl|rfl|rfl|rfl|rfl|rfl|rfl|rfl|rfl|rfl|rfl|rfl|rfl|rfl|rfl|rfl|rfl <;> decide +kernel
theorem qlA{c:CC}(hc:qk c):rk F (Om c):=
 .cons (qB hc.t2) (.cons (sg ea) (.cons (qB hc.t1) (.cons (sg ea) (.cons (qB hc.t2) (.cons (sg ea) (.cons (qB hc.t1) (.cons (sg ea) (.cons (sg ea) .nil))))))))
def SO(F:List Wd)(env:Cb):Prop:=∀ name g,env.fn name=some g->Va ([38,102,95]++name)=some ([102,95]++name)/\[102,95]++name∈F
theorem qt0{l:List (List Wd)}(h:∀ ws∈l,rk F ws):rk F (l.headD []):=by
 cases l with
 |nil=>exact .nil
 |cons a l=>exact h a Qe
mutual
theorem qxY{c:CC}(hc:qk c){env:Cb}(ed:SO F env):∀ e,fj e->Gf env e=0->rk F (Qb c e)
 |.mk op num name args,hn,h=>by
  rw[Gf] at h;split at h
  case isFalse=>cases h
  rename_i ld;obtain⟨h1,h2⟩:=Tc.1 h;obtain⟨lc,hn⟩:=hn;have ha:=qu6 hc ed args hn h1;have hd:rk F (((Ib c args).drop 1).headD []):=qt0 λws hw=>ha ws (List.mem_of_mem_drop hw);have hh:rk F ((Ib c args).headD []):=qt0 ha;rw[Qb];unfold Cr
  by_cases o1:op=Af;rw[zp o1];exact .cons (qB ⟨num,vG lc⟩) .nil;rw[zn o1];by_cases o2:op=bg;rw[zp o2];exact .cons (qB (hc.sc name)) (.cons (sg ea) .nil);rw[zn o2];by_cases o3:op=Vj;rw[zp o3];exact .cons (qB (hc.ar name)) (hh.app (.cons (sg ea) (.cons (sg ea) .nil)));rw[zn o3];by_cases o4:op=tg;rw[zp o4];refine(rk.flat ha).app ?_;subst o4;have Ze:Qc env name args.length=0:=h2;by_cases k1:name=[105,110];rw[zp k1];exact .cons (sg ea) .nil;by_cases k2:name=[111,117,116];rw[zn k1,zp k2];exact .cons (sg ea) (.cons (sg ea) .nil);rw[zn k1,zn k2];unfold Qc at Ze;rw[zn k1,zn k2] at Ze;cases hq:env.fn name with
  |none=>rw[hq] at Ze;simp only at Ze;split at Ze <;> cases Ze
  |some g=>obtain⟨q1,q2⟩:=ed name g hq;exact .call q1 q2 (.cons (sg ea) .nil)
  rw[zn o4];by_cases o5:op=Ng;rw[zp o5];exact .cons (sg ea) (hh.app (.cons (sg ea) .nil));rw[zn o5];by_cases o6:op=yg;rw[zp o6];exact hh.app (.cons (sg ea) (.cons (sg ea) .nil));rw[zn o6];have MG:ug op=args.length:=by
   have:ug op ≠ -1:=by unfold ug;rw[zn (by simp[o1,o2])];by_cases q:op=Vj∨op=Ng∨op=yg;rw[zp q];decide;rw[zn q,zn o4];split <;> decide
   rcases ld with h|h;exact absurd h this;exact h
  have hb:op∈Fw:=by
   unfold ug at MG;rw[zn (by simp[o1,o2]),zn (by simp[o3,o5,o6]),zn o4] at MG;split at MG
   assumption
   omega
  by_cases b1:op=[33,61];rw[zp b1];exact .cons (sg ea) ((hh.app hd).app (.cons (sg ea) (.cons (sg ea) .nil)));rw[zn b1];by_cases b2:op=[38,38];rw[zp b2];exact .cons (sg ea) (((hh.app (.cons (sg ea) (.cons (sg ea) .nil))).app hd).app (.cons (sg ea) (.cons (sg ea) .nil)));rw[zn b2];by_cases b3:op=[124,124];rw[zp b3];exact .cons (sg ea) (.cons (sg ea) (((hh.app (.cons (sg ea) (.cons (sg ea) .nil))).app hd).app (.cons (sg ea) (.cons (sg ea) (.cons (sg ea) .nil)))));rw[zn b3];refine(hh.app hd).app ?_;simp only[Fw,Dc,not_mem_nil,or_false] at hb;rcases hb with rfl|rfl|rfl|rfl|rfl|rfl|rfl|rfl|rfl|rfl|rfl|rfl|rfl|rfl;exact absurd rfl b3;exact absurd rfl b2;exact .cons (sg ea) (.cons (sg ea) (.cons (sg ea) .nil));exact absurd rfl b1;exact .cons (sg ea) .nil;exact qlA hc;exact(qlA hc).app (.cons (sg ea) (.cons (sg ea) .nil));exact .cons (sg ea) (.cons (sg ea) (.cons (sg ea) .nil));exact .cons (sg ea) .nil;exact .cons (sg ea) .nil;exact .cons (sg ea) .nil;exact .cons (sg ea) .nil;exact .cons (sg ea) .nil;exact .cons (sg ea) .nil
theorem qu6{c:CC}(hc:qk c){env:Cb}(ed:SO F env):∀ l,ml l->vg env l=0->∀ ws∈Ib c l,rk F ws
 |[],_,_=>by rw[Ib];exact λws hw=>(not_mem_nil hw).elim
 |x::l,hn,h=>by rw[vg] at h;obtain⟨h1,h2⟩:=Tc.1 h;rw[Ib];intro ws hw;rcases Dc.1 hw with rfl|hw;exact qxY hc ed x hn.1 h1;exact qu6 hc ed l hn.2 h2 ws hw
end
theorem qqf(h:k<=4000000000):Sv (za k)=true:=by have h1:=xN h;unfold za at h1 ⊢;unfold Sv;simp only[Ed,Rg];refine⟨⟨by omega,by decide⟩,?_⟩;rw[all_cons];rw[Ed];refine⟨by decide,?_⟩;rw[List.all_eq_true];intro c hc;have:=XN k c hc;unfold Si;rw[this];simp
theorem qvz(h:k<=4000000000):ya (za k++[58])=some (za k):=by unfold ya;have e:(za k++[58]).dropLast=za k:=List.dropLast_concat;rw[e,zp ⟨by simp,qqf h⟩]
theorem rZ(h:k<=4000000000):Va (38::za k)=some (za k):=by show(if (38:UInt8)=38/\Sv (za k)=true then some (za k) else none)=some (za k);rw[zp ⟨rfl,qqf h⟩]
def Rf(F:List Wd)(n m:Nat)(ws:List Wd):Prop:=∀ x∈ws,(∃ d,ya x=some d)∨Pl x∨ya x=none/\∃ d,Va x=some d/\(d∈F∨∃ k,d=za k/\n<=k/\k<m)
def Df(ks:List Nat)(ws:List Wd):Prop:=Jb ws=ks.map za
theorem Rf.mono{n' m':Nat}(h:Rf F n m ws)(h1:n'<=n)(h2:m<=m'):Rf F n' m' ws:=λx hx=>by rcases h x hx with h|h|⟨a1,d,a2,h|⟨k,e,k1,k2⟩⟩;exact .inl h;exact .inr (.inl h);exact .inr (.inr ⟨a1,d,a2,.inl h⟩);exact .inr (.inr ⟨a1,d,a2,.inr ⟨k,e,by omega,by omega⟩⟩)
theorem Rf.app(h:Rf F n m a)(k:Rf F n m b):Rf F n m (a++b):=λx hx=>by rcases xj hx with hx|hx;exact h x hx;exact k x hx
theorem rk.rf(h:rk F ws):Rf F n m ws:=λx hx=>by rcases h x hx with h|⟨h1,d,h2,h3⟩;exact .inr (.inl h);exact .inr (.inr ⟨h1,d,h2,.inl h3⟩)
theorem Rf.ref(hk:k<=4000000000)(h1:n<=k)(h2:k<m):Rf F n m [38::za k]:=λx hx=>by rw[aj hx];exact .inr (.inr ⟨gu (rZ hk),_,rZ hk,.inr ⟨k,rfl,h1,h2⟩⟩)
theorem Rf.jD(hk:k<=4000000000):Rf F n m [za k++[58]]:=λx hx=>by rw[aj hx];exact .inl ⟨_,qvz hk⟩
theorem Rf.pl(h:Pl w):Rf F n m [w]:=(rk.cons h .nil).rf
theorem Df.app{ks ls:List Nat}(h:Df ks a)(k:Df ls b):Df (ks++ls) (a++b):=by unfold Df at h k ⊢;rw[zB,h,k,Te]
theorem rk.df(h:rk F ws):Df [] ws:=by unfold Df Jb;rw[List.filterMap_eq_nil_iff.2];rfl;intro x hx;rcases h x hx with h|⟨h,_⟩;exact h.1;exact h
theorem Df.jD(hk:k<=4000000000):Df [k] [za k++[58]]:=by unfold Df Jb;simp only[filterMap_cons,qvz hk,filterMap_nil,yd,map_nil]
theorem Df.ref(hk:k<=4000000000):Df [] [38::za k]:=by unfold Df Jb;simp only[filterMap_cons,gu (rZ hk),filterMap_nil,map_nil]
theorem Df.pl(h:Pl w):Df [] [w]:=by unfold Df Jb;simp only[filterMap_cons,h.1,filterMap_nil,map_nil]
def Lw(F:List Wd)(n m:Nat)(ws:List Wd):Prop:=∃ ks:List Nat,Df ks ws/\ks.Nodup/\(∀ k,k∈ks ↔ n<=k/\k<m)/\Rf F n m ws/\n<=m
theorem Lw.none(h:rk F ws):Lw F n n ws:=⟨[],h.df,List.nodup_nil,λk=>⟨λh=>(not_mem_nil h).elim,λh=>by omega⟩,h.rf,Pb _⟩
theorem Lw.app{n m p:Nat}(h:Lw F n m a)(k:Lw F m p b):Lw F n p (a++b):=by obtain⟨ks,h1,h2,h3,h4,h5⟩:=h;obtain⟨ls,k1,k2,k3,k4,k5⟩:=k;refine⟨ks++ls,h1.app k1,List.nodup_append.2 ⟨h2,k2,λx hx y hy e=>?_⟩,λx=>?_,(h4.mono (Pb _) k5).app (k4.mono h5 (Pb _)),Xf h5 k5⟩;have a1:=(h3 x).1 hx;have a2:=(k3 y).1 hy;omega;rw[mem_append,h3,k3];omega
mutual
theorem qAW(c:CC):∀ (s:Sm) (n:Nat),n<=(Ig c n s).2
 |.mk kind name index value Ua Bb,n=>by
  rw[nQ];have e1:=zN c Ua (n+1);have e2:=zN c Ua (n+2);have e3:=zN c Bb (Pa c (n+2) Ua).2;split;exact Pb _;split;exact Pb _;split;cases Bb with
  |nil=>show n<=(Pa c (n+1) Ua).2;omega
  |cons a q=>show n<=(Pa c (Pa c (n+2) Ua).2 (a::q)).2;omega
  split;show n<=(Pa c (n+2) Ua).2;omega;split;exact Pb _;split;exact Pb _;split;exact Pb _;exact Pb _
theorem zN(c:CC):∀ (l:List Sm) (n:Nat),n<=(Pa c n l).2
 |[],n=>by rw[Pa];exact Pb _
 |s::l,n=>by rw[Pa];exact Xf (qAW c s n) (zN c l _)
end
mutual
theorem qA3{c:CC}(hc:qk c){env:Cb}(ed:SO F env):∀ (s:Sm) (n:Nat),aq s->Dl env s=0->(Ig c n s).2<=4000000000->Lw F n (Ig c n s).2 (Ig c n s).1
 |.mk kind name index value Ua Bb,n,hn,h,hN=>by
  rw[Dl] at h;by_cases hf:Zh (.mk kind name index value Ua Bb)=false;rw[zp hf] at h;cases h;rw[zn hf] at h;obtain⟨h1,h⟩:=Tc.1 h;obtain⟨h2,h⟩:=Tc.1 h;obtain⟨h3,h⟩:=Tc.1 h;obtain⟨h4,h5⟩:=Tc.1 h;rw[Bool.not_eq_false] at hf;unfold Zh at hf;obtain⟨n1,n2,n3,n4⟩:=hn;have one:∀ {l:List Ex},l.length=1->ml l->vg env l=0->rk F (Qb c (l.headD default)):=λ{l} hl Ir um=>by obtain⟨x,rfl⟩:=nw hl;rw[vg] at um;exact qxY hc ed x Ir.1 (Tc.1 um).1
  rw[nQ] at hN ⊢;by_cases k1:kind=1;rw[zp k1] at hN ⊢;have hv:value.length=1:=by subst k1;simp at hf;exact hf.2.2.1
  exact .none ((one hv n2 h1).app (.cons (qB (hc.sc name)) (.cons (sg ea) .nil)));rw[zn k1] at hN ⊢;by_cases k2:kind=2;rw[zp k2] at hN ⊢;have hv:index.length=1/\value.length=1:=by subst k2;simp at hf;exact⟨hf.2.1,hf.2.2.1⟩
  exact .none ((one hv.2 n2 h1).app (.cons (qB (hc.ar name)) ((one hv.1 n1 h2).app (.cons (sg ea) (.cons (sg ea) .nil)))));rw[zn k2] at hN ⊢;by_cases k3:kind=3;rw[zp k3] at hN ⊢;have hv:value.length=1:=by subst k3;simp at hf;exact hf.2.2
  have hx:=one hv n2 h1;cases Bb with
  |nil=>
   simp only at hN ⊢;obtain⟨ks,d1,d2,d3,d4,d5⟩:=AN hc ed Ua (n+1) n3 h4 hN;have hk:n<=4000000000:=by omega
   refine⟨(([]++[]++[])++ks)++[n],?_,?_,λx=>?_,?_,by omega⟩;exact(((by rw[Yc];exact hx.df.app ((Df.ref hk).app (Df.pl (sg (c:=63) ea)))):Df ([]++[]++[]) _).app d1).app (Df.jD hk);simp only[nil_append]
   exact List.nodup_append.2 ⟨d2,by simp,λx hx y hy e=>by
    have:=(d3 x).1 hx;rw[mem_singleton] at hy;omega⟩
   simp only[nil_append,mem_append,mem_singleton,d3];omega;refine Rf.app (Rf.app (Rf.app hx.rf ?_) (d4.mono ga (Pb _))) (Rf.jD hk);exact(Rf.ref hk (Pb _) ga).app (Rf.pl (w:=[63]) (sg ea))
  |cons a q=>
   simp only at hN ⊢;have hle:=zN c (a::q) (Pa c (n+2) Ua).2;obtain⟨ks,d1,d2,d3,d4,d5⟩:=AN hc ed Ua (n+2) n3 h4 ga;obtain⟨ls,e1,e2,e3,e4,e5⟩:=AN hc ed (a::q) (Pa c (n+2) Ua).2 n4 h5 hN;have hk:n<=4000000000:=by omega
   have fi:n+1<=4000000000:=by omega
   have m1:Df [n] [[48],38::za (n+1),[63],za n++[58]]:=(Df.pl (sg (c:=48) ea)).app ((Df.ref fi).app ((Df.pl (sg (c:=63) ea)).app (Df.jD hk)));refine⟨(((([]++[]++[])++ks)++[n])++ls)++[n+1],?_,?_,λx=>?_,?_,by omega⟩;exact((((by rw[Yc];exact hx.df.app ((Df.ref hk).app (Df.pl (sg (c:=63) ea)))):Df ([]++[]++[]) _).app d1).app m1 |>.app e1).app (Df.jD fi);simp only[nil_append];refine List.nodup_append.2 ⟨List.nodup_append.2 ⟨List.nodup_append.2 ⟨d2,by simp,λx hx y hy e=>?_⟩,e2,λx hx y hy e=>?_⟩,by simp,λx hx y hy e=>?_⟩;have:=(d3 x).1 hx;rw[mem_singleton] at hy;omega;have b2:=(e3 y).1 hy;rcases xj hx with hx|hx;have:=(d3 x).1 hx;omega;rw[mem_singleton] at hx;omega;rw[mem_singleton] at hy;rcases xj hx with hx|hx;rcases xj hx with hx|hx;have:=(d3 x).1 hx;omega;rw[mem_singleton] at hx;omega;have:=(e3 x).1 hx;omega;simp only[nil_append,mem_append,mem_singleton,d3,e3];omega;refine Rf.app (Rf.app (Rf.app (Rf.app (Rf.app hx.rf ?_) (d4.mono ga ga)) ?_) (e4.mono ga (Pb _))) (Rf.jD fi);exact(Rf.ref hk (Pb _) ga).app (Rf.pl (w:=[63]) (sg ea));exact(Rf.pl (w:=[48]) (sg ea)).app ((Rf.ref fi ga ga).app ((Rf.pl (w:=[63]) (sg ea)).app (Rf.jD hk)))
  rw[zn k3] at hN ⊢;by_cases k4:kind=4;rw[zp k4] at hN ⊢;have hv:value.length=1:=by subst k4;simp at hf;exact hf.2.2.1
  have hx:=one hv n2 h1;simp only at hN ⊢;obtain⟨ks,d1,d2,d3,d4,d5⟩:=AN hc ed Ua (n+2) n3 h4 hN;have hk:n<=4000000000:=by omega
  have fi:n+1<=4000000000:=by omega
  refine⟨((([n]++[])++[])++ks)++[n+1],?_,?_,λx=>?_,?_,by omega⟩;exact((((Df.jD hk).app hx.df).app ((Df.ref fi).app (Df.pl (sg (c:=63) ea)))).app d1).app ((Df.pl (sg (c:=48) ea)).app ((Df.ref hk).app ((Df.pl (sg (c:=63) ea)).app (Df.jD fi))));simp only[ue];refine List.nodup_append.2 ⟨List.nodup_append.2 ⟨by simp,d2,λx hx y hy e=>?_⟩,by simp,λx hx y hy e=>?_⟩;have:=(d3 y).1 hy;rw[mem_singleton] at hx;omega;rw[mem_singleton] at hy;rcases xj hx with hx|hx;rw[mem_singleton] at hx;omega;have:=(d3 x).1 hx;omega;simp only[ue,mem_append,mem_singleton,d3];omega;refine Rf.app (Rf.app (Rf.app (Rf.app (Rf.jD hk) hx.rf) ?_) (d4.mono ga (Pb _))) ?_;exact(Rf.ref fi ga ga).app (Rf.pl (w:=[63]) (sg ea));exact(Rf.pl (w:=[48]) (sg ea)).app ((Rf.ref hk (Pb _) ga).app ((Rf.pl (w:=[63]) (sg ea)).app (Rf.jD fi)));rw[zn k4] at hN ⊢
  by_cases k5:kind=5;rw[zp k5] at hN ⊢;have hv:value.length=1:=by subst k5;simp at hf;exact hf.2.2.1
  exact .none ((one hv n2 h1).app (.cons (sg ea) .nil));rw[zn k5] at hN ⊢;by_cases k6:kind=6;rw[zp k6] at hN ⊢;have hv:value.length=1:=by subst k6;simp at hf;exact hf.2.2.1
  exact .none ((one hv n2 h1).app (.cons (qB hc.t0) (.cons (sg ea) .nil)));rw[zn k6] at hN ⊢;by_cases k7:kind=7;rw[zp k7] at hN ⊢;exact .none (.cons (sg ea) .nil);rw[zn k7] at hN ⊢;exact .none .nil
theorem AN{c:CC}(hc:qk c){env:Cb}(ed:SO F env):∀ (l:List Sm) (n:Nat),Bj l->mi env l=0->(Pa c n l).2<=4000000000->Lw F n (Pa c n l).2 (Pa c n l).1
 |[],n,_,_,_=>by rw[Pa];exact .none .nil
 |s::l,n,hn,h,hN=>by rw[mi] at h;obtain⟨h1,h2⟩:=Tc.1 h;rw[Pa] at hN ⊢;simp only at hN ⊢;have hle:=zN c l (Ig c n s).2;exact(qA3 hc ed s n hn.1 h1 ga).app (AN hc ed l _ hn.2 h2 hN)
end
def Fp(s:Nm):Wd:=[102,95]++s
theorem qsX(h:kf s=true):Sv (Fp s)=true:=by
 unfold kf at h;rw[Ed,Ed,Rg] at h;obtain⟨⟨h1,_⟩,h2⟩:=h;show(decide ((102::95::s).length<=40) && Ml 102 && (102::95::s).all Si)=true;have h3:s.all Si=true:=by
  cases s with
  |nil=>rfl
  |cons c r=>simp only[Ed] at h2;rw[all_cons,h2.2];have:=h2.1;unfold Si;rw[this];simp
 rw[all_cons,all_cons,h3];simp only[Ed,Rg];refine⟨⟨by simp only[Ma];omega,by decide⟩,by decide⟩
theorem A'(h:kf s=true):ya (Fp s++[58])=some (Fp s):=by unfold ya;rw[List.dropLast_concat,zp ⟨by simp,qsX h⟩]
theorem qxP(h:kf s=true):Va (38::Fp s)=some (Fp s):=by show(if (38:UInt8)=38/\Sv (Fp s)=true then some (Fp s) else none)=some (Fp s);rw[zp ⟨rfl,qsX h⟩]
theorem dZ(s:Nm)(k:Nat):Fp s≠za k:=by unfold Fp za;intro h;injection h with h _;exact absurd h ea
theorem qBs{t:Nm}(h:Fp s=Fp t):s=t:=by unfold Fp at h;exact List.append_cancel_left h
theorem qtd{j:Nat}(h:za j=za k)(hj:j<=4000000000)(hk:k<=4000000000):j=k:=by unfold za at h;injection h with _ h;have h1:=vG (n:=j) ga;have h2:=vG (n:=k) ga;rw[h,h2] at h1;injection h1 with h1;exact h1.symm
theorem qvC{c:CC}(hc:qk c):∀ (ps:List Nm),rk F (ps.flatMap λp=>[c.sc p,[33]])
 |[]=>.nil
 |p::ps=>by rw[List.flatMap_cons];exact rk.app (.cons (qB (hc.sc p)) (.cons (sg ea) .nil)) (qvC hc ps)
theorem qvL{cc:Nm->CC}(hc:∀ n,qk (cc n)):∀ (fs:List yb) (n:Nat),(∀ f∈fs,∃ env,SO F env/\mi env f.body=0/\Bj f.body/\kf f.name=true)->(fs.map (·.name)).Nodup->(Rc cc n fs).2<=4000000000 ->
  (∀ x∈Jb (Rc cc n fs).1,(∃ f∈fs,x=Fp f.name)∨∃ k,x=za k/\n<=k/\k<(Rc cc n fs).2)/\(Jb (Rc cc n fs).1).Nodup/\(∀ k,n<=k->k<(Rc cc n fs).2->za k∈Jb (Rc cc n fs).1) /\
  (∀ f∈fs,Fp f.name∈Jb (Rc cc n fs).1)/\Rf F n (Rc cc n fs).2 (Rc cc n fs).1/\n<=(Rc cc n fs).2
 |[],n,_,_,_=>by rw[Rc];exact⟨λx hx=>(not_mem_nil hx).elim,List.nodup_nil,λk h1 h2=>by have h2:k<n:=h2;omega,λf hf=>(not_mem_nil hf).elim,λx hx=>(not_mem_nil hx).elim,Pb _⟩
 |f::fs,n,h,Bh,hN=>by
  obtain⟨env,h1,h2,h3,h4⟩:=h f Qe;rw[yd,List.nodup_cons] at Bh;rw[Rc] at hN ⊢;simp only at hN ⊢;have e2:(Sk (cc f.name) n f).2=(Pa (cc f.name) n f.body).2:=rfl;have ih:=qvL hc fs (Sk (cc f.name) n f).2 (λg hg=>h g (Oc _ hg)) Bh.2 hN;rw[e2] at ih hN ⊢;obtain⟨a1,a2,a3,a4,a5,a6⟩:=ih;obtain⟨ks,b1,b2,b3,b4,b5⟩:=AN (hc f.name) h1 f.body n h3 h2 ga;have hp:rk F (f.params.reverse.flatMap λp=>[(cc f.name).sc p,[33]]):=qvC (hc f.name) _;have he:rk F [[48],[59]]:=.cons (sg ea) (.cons (sg ea) .nil)
  have hD:Jb (Sk (cc f.name) n f).1=Fp f.name::ks.map za:=by
   show Jb ([Fp f.name++[58]]++(f.params.reverse.flatMap λp=>[(cc f.name).sc p,[33]])++(Pa (cc f.name) n f.body).1++[[48],[59]])=_;rw[zB,zB,zB,hp.df,b1,he.df]
   have:Jb [Fp f.name++[58]]=[Fp f.name]:=by unfold Jb;simp only[filterMap_cons,A' h4,filterMap_nil]
   rw[this];simp
  have hR:Rf F n (Pa (cc f.name) n f.body).2 (Sk (cc f.name) n f).1:=by show Rf F n _ ([Fp f.name++[58]]++(f.params.reverse.flatMap λp=>[(cc f.name).sc p,[33]])++(Pa (cc f.name) n f.body).1++[[48],[59]]);refine Rf.app (Rf.app (Rf.app (λx hx=>?_) hp.rf) b4) he.rf;rw[aj hx];exact .inl ⟨_,A' h4⟩
  rw[zB,hD];refine⟨λx hx=>?_,?_,λk k1 k2=>?_,λg hg=>?_,(hR.mono (Pb _) a6).app (a5.mono b5 (Pb _)),Xf b5 a6⟩;rcases xj hx with hx|hx;rcases Dc.1 hx with rfl|hx;exact .inl ⟨f,List.mem_cons_self ..,rfl⟩;obtain⟨k,k1,rfl⟩:=Ni hx;have:=(b3 k).1 k1;exact .inr ⟨k,rfl,this.1,by omega⟩;rcases a1 x hx with⟨g,hg,e⟩|⟨k,e,k1,k2⟩;exact .inl ⟨g,Oc _ hg,e⟩;exact .inr ⟨k,e,by omega,k2⟩;refine List.nodup_append.2 ⟨List.nodup_cons.2 ⟨λhx=>?_,?_⟩,a2,λx hx y hy e=>?_⟩;obtain⟨k,_,e⟩:=Ni hx;exact dZ f.name k e.symm;exact List.pairwise_map.2 (b2.imp_of_mem λ{a b} ha hb AH he=>AH (qtd he (by have:=(b3 a).1 ha;omega) (by have:=(b3 b).1 hb;omega)));subst e;rcases Dc.1 hx with rfl|hx;rcases a1 _ hy with⟨g,hg,e⟩|⟨k,e,_,_⟩;exact Bh.1 (jl ⟨g,hg,(qBs e).symm⟩);exact dZ _ _ e;obtain⟨k,k1,rfl⟩:=Ni hx;have:=(b3 k).1 k1;rcases a1 _ hy with⟨g,hg,e⟩|⟨j,e,j1,j2⟩;exact dZ _ _ e.symm;have:=qtd e ga ga;omega
  by_cases hk:k<(Pa (cc f.name) n f.body).2;exact zq (.inl (Oc _ (jl ⟨k,(b3 k).2 ⟨k1,hk⟩,rfl⟩)));exact zq (.inr (a3 k ga k2));rcases Dc.1 hg with rfl|hg;exact zq (.inl Qe);exact zq (.inr (a4 g hg))
theorem qy5{P:Pr}{o:il}(hc:Lq P=0)(lc:∀ f∈P.funcs,Bj f.body)(Ge:Ls P.vars (vf P) P.funcs o=true)(Bh:ze P.funcs<=2000000):yu (fh P o):=by
 have hv:=BI hc;have hF:=NE Ge;have Hn:=(Nw _ _ hv.names).1;have ed:(P.funcs.map (·.name)).Nodup:=(On Hn).2.1;have CA:∀ f∈P.funcs,kf f.name=true:=λf hf=>((Nw _ _ hv.names).2 f.name (zq (.inr (jl ⟨f,hf,rfl⟩)))).2
 have tm:cu P.vars (P.ba.map (·.name)) (P.funcs.map (·.name)) [] P.funcs=0:=by
  unfold Lq Ws at hc;have e1:(P.ba.map λa=>(a.name,(a.size:Int))).map (·.1)=P.ba.map (·.name):=by rw[List.map_map];try rfl
  rw[e1] at hc;exact(Tc.1 (Tc.1 (Tc.1 hc).2).2).1
 have vH:=(EZ (o:=o) hc lc Ge Bh).2;have hk:=XY P.funcs [] tm ed;have hA:∀ f∈P.funcs,SO (P.funcs.map λf=>Fp f.name) (Bg P.vars (P.ba.map (·.name)) (P.funcs.map (·.name)) (bw P.vars (P.ba.map (·.name)) (P.funcs.map (·.name)) [] P.funcs f) f):=λf hf name g hg=>by
  have h1:g∈bw P.vars (P.ba.map (·.name)) (P.funcs.map (·.name)) [] P.funcs f:=List.mem_of_find?_eq_some hg;have h2:g.name=name:=qg (List.find?_some (p:=λg:ye=>decide (g.name=name)) hg);rcases OY P.funcs [] ed f hf g h1 with h3|⟨x,h3,h4⟩;exact(not_mem_nil h3).elim;have h5:x.name=name:=by rw[<-h2,h4];try rfl
  rw[<-h5];exact⟨qxP (CA x h3),jl ⟨x,h3,rfl⟩⟩
 obtain⟨a1,a2,a3,a4,a5,_⟩:=qvL (F:=P.funcs.map λf=>Fp f.name) (λn=>R9 hF n) P.funcs 0 (λf hf=>⟨_,hA f hf,hk f hf,lc f hf,CA f hf⟩) ed ga;have hm:=hv.main;have h0:rk (P.funcs.map λf=>Fp f.name) [[38,102,95,109,97,105,110],[58],itoa o.scalars,[33],[36]]:=by have hmn:(Tg P).name=[109,97,105,110]:=hm.2.1;have h1:=CA _ hm.1;rw[hmn] at h1;refine .call (qxP h1) (jl ⟨Tg P,hm.1,by rw[hmn]⟩) (.cons (sg ea) (.cons (qB (GI hF.s0 (by have:=hF.s1;omega))) (.cons (sg ea) (.cons (sg ea) .nil))))
 have hW:fh P o=[[38,102,95,109,97,105,110],[58],itoa o.scalars,[33],[36]]++(Rc (Rq P.vars (vf P) P.funcs o) 0 P.funcs).1:=rfl;have hD:Jb (fh P o)=Jb (Rc (Rq P.vars (vf P) P.funcs o) 0 P.funcs).1:=by rw[hW,zB,h0.df];try rfl
 refine⟨by rw[hD];exact a2,λx hx=>?_⟩;rw[hD]
 have hR:Rf (P.funcs.map λf=>Fp f.name) 0 (Rc (Rq P.vars (vf P) P.funcs o) 0 P.funcs).2 (fh P o):=by rw[hW];exact h0.rf.app a5
 unfold Hp;rcases hR x hx with⟨d,e⟩|⟨e1,e2,e3⟩|⟨e1,d,e2,h⟩;rw[e];trivial;rw[e1,e2];exact e3;rw[e1,e2];simp only;rcases h with h|⟨k,rfl,k1,k2⟩;obtain⟨f,hf,rfl⟩:=Ni h;exact a4 f hf;exact a3 k k1 k2
end
end Go.ia.Wi
namespace Go.ia.Wi.Wc.Q
open Go.Lib
mutual
def F5:Ex->Bool
 |.mk op num name args=>decide (num<4294967296) && nA args
def nA:List Ex->Bool
 |[]=>true
 |x::l=>F5 x && nA l
end
mutual
def E5:Sm->Bool
 |.mk kind name index value Ua Bb=>nA index && (nA value && (mA Ua && mA Bb))
def mA:List Sm->Bool
 |[]=>true
 |x::l=>E5 x && mA l
end
mutual
theorem qyY:∀ x:Ex,F5 x=true->fj x
 |.mk op num name args,h=>by rw[F5,Ed] at h;rw[fj];exact⟨(qg h.1:num<4294967296),NV args h.2⟩
theorem NV:∀ l:List Ex,nA l=true->ml l
 |[],_=>by rw[ml];trivial
 |x::l,h=>by rw[nA,Ed] at h;rw[ml];exact⟨qyY x h.1,NV l h.2⟩
end
mutual
theorem qzK:∀ x:Sm,E5 x=true->aq x
 |.mk kind name index value Ua Bb,h=>by rw[E5,Ed,Ed,Ed] at h;rw[aq];exact⟨NV index h.1,NV value h.2.1,IV Ua h.2.2.1,IV Bb h.2.2.2⟩
theorem IV:∀ l:List Sm,mA l=true->Bj l
 |[],_=>by rw[Bj];trivial
 |x::l,h=>by rw[mA,Ed] at h;rw[Bj];exact⟨qzK x h.1,IV l h.2⟩
end
def O0:il:=⟨10000,0,100000⟩
def IH(P:Pr)(n:Nat):Bool:=decide (P.vars.length<=n) && decide (P.ba.length<=n) && (P.ba.all λa=>decide (a.size<4294967296)) && decide (ze P.funcs<=n) && (P.funcs.all λf=>mA f.body) && decide (Lq P=0) && Ls P.vars (vf P) P.funcs O0 && decide (ic false (fh P O0)<=40000) && decide (n<=3100)
theorem HH{P:Pr}{n:Nat}(h:IH P n=true):OH P n/\n<=3100/\Lq P=0/\∃ x,Uk P.vars (vf P) P.funcs O0=.ok x:=by unfold IH at h;simp only[Ed] at h;obtain⟨⟨⟨⟨⟨⟨⟨⟨h1,h2⟩,h3⟩,h4⟩,h5⟩,h6⟩,h7⟩,h8⟩,h9⟩:=h;have h1:=qg h1;have h2:=qg h2;have h4:=qg h4;have GA:=qg h6;have h8:=qg h8;have h9:=qg h9;have ae:OH P n:=⟨h1,h2,λa ha=>qg (List.all_eq_true.1 h3 a ha),h4,λf hf=>IV _ (List.all_eq_true.1 h5 f hf)⟩;refine⟨ae,h9,GA,join (fh P O0) [32],?_⟩;have hc:Ws P.vars (vf P) P.funcs=0:=GA;have Rk:yu (fh P O0):=qy5 GA ae.jA h7 ga;have cf:∀ w∈fh P O0,Gk w:=J1 GA h7;have e3:join (PC P.vars (vf P) P.funcs O0) [32]=join (fh P O0) [32]:=rfl;have e:=(G' Rk cf (og:=O0.code) ea ea h8).1;unfold Uk;rw[zn λh=>h hc,zn (by rw[h7];decide),e3,e]
theorem qt2{P:Pr}{l:List Nat}{Ca:Nat}{r:Option Nat}{o:List UInt8}(h:∃ Ba s2,Cg (Sg P Ba (Tg P)) (Tg P).body (rr P l Ca)=.ok r s2/\s2.out=o):∃ Ba,(Ue P Ba l Ca).1=0/\(Ue P Ba l Ca).2.out=o:=by obtain⟨Ba,s2,h1,h2⟩:=h;refine⟨Ba,?_⟩;unfold Ue;rw[h1];exact⟨rfl,h2⟩
end Go.ia.Wi.Wc.Q
namespace Go.Proofs.Y.Lb
open Go.GL Go.RowKit Go.ia
open nj (u32)
open XX (us)
open Go.ia.Wi.Wc (Ue AM Sg)
open Go.Lib (join)
theorem qBO{P:Pr}{n:Nat}(hf:Go.ia.Wi.Wc.Q.IH P n=true){names:List (List UInt8)}{src:List UInt8}(hn:names.length<=1000)(G6:xh names []=(src,0))(hp:Di src=(P,0,0))
  {i0:List Nat} (K7:∀ v∈i0,v<4294967296) {l0:Nat} (h0:∃ Ba,(Ue P Ba i0 l0).1=0) :
  ∃ code,WA names code/\∀ (Ia:List Nat),(∀ v∈Ia,v<4294967296)->∀ Ca o,(∃ Ba,(Ue P Ba Ia Ca).1=0/\(Ue P Ba Ia Ca).2.out=o)->∃ K,∀ N,Ca+101<=N->runM N (Ew code 10000 Ia)=(0,o,K):=by
 obtain⟨ae,CD,GA,x,hm⟩:=Go.ia.Wi.Wc.Q.HH hf;obtain⟨f0,h0⟩:=h0;obtain⟨y,code,ub,a1,a2,a3,a4,a5,a6⟩:=qvR ae CD hm K7 h0;refine⟨code,⟨hn,⟨src,P,n,x,y,ub,0,G6,hp,ae,by omega,GA,hm,a1,a2,a3,a4⟩,a5⟩,?_⟩;rintro Ia hi Ca o ⟨Ba,e1,e2⟩;obtain⟨K,hK⟩:=a6 Ia hi Ba Ca e1;exact⟨K,λN hN=>by rw[hK N hN,e2]⟩
attribute [local irreducible] Ea kb ab ca Go.GL.Pure Ie pf ke LQ Rb oi Nj LS
theorem qAE{B0:Nat}{w0:World}(hG:Pp.GW B0 w0){names:List (List UInt8)}{code:Wd}(h1:WA names code){Ia:List Nat}(hi:∀ v∈Ia,v<4294967296){N K:Nat}{o:List UInt8}(hN:0<N)(r8:N<=100000000)(hK:runM N (Ew code 10000 Ia)=(0,o,K)) :
  ca (KC B0 w0) 8 [.list (Ia.map u32),int .i64 (N:Nat),.list (names.map str)] [] (Ub (.agg [str o,int .i64 0,int .i64 (K:Nat)])):=by
 have:=qiS hG h1 (Ia:=Ia) hi (steps:=N) hN r8;rw[hK] at this;exact this
