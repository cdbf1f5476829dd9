import Derived.Test.YtafdodhkoihlhaaGreatDoorBRowLE3
set_option linter.unusedVariables false
set_option linter.unusedSimpArgs false
set_option maxRecDepth 100000
set_option maxHeartbeats 0
open List (not_mem_nil sum_cons cons_append nil_append foldl_cons eq_nil_of_length_eq_zero length_singleton drop_drop length_drop take_succ_cons)
open Nat (add_assoc add_zero zero_add add_comm)
namespace Go.ia
open Go.Lib
variable{c:CC}{n:Nat}
theorem VE(n:Nat):Gk (za n)/\Gk (38::za n)/\Gk (za n++[58]):=by
 have h:=(iR n).2;have h1:∀ {c:UInt8} {w:Wd},(c≠10/\c≠32/\c≠35)->pr w->pr (c::w):=λhc hw x hx=>by rcases Dc.1 hx with rfl|hx;exact hc;exact hw x hx
 have h2:pr (za n):=h1 ea h;exact⟨⟨by simp[za],h2⟩,⟨by simp,h1 ea h2⟩,B2 h2 (h1 ea λx hx=>(not_mem_nil hx).elim) (by simp[za])⟩
section
variable{c:CC}{env:Cb}
theorem NK{k:UInt8}(h:k≠10/\k≠32/\k≠35):Gk [k]:=⟨by simp,λx hx=>by rw[aj hx];exact h⟩
theorem qlp(hc:vF c)(ed:∀ k∈env.funcs,pr k.name){l:List Ex}(h1:l.length=1)(h:vg env l=0):kg (Qb c (l.headD default)):=by obtain⟨x,rfl⟩:=nw h1;rw[vg] at h;exact qnO hc ed x (Tc.1 h).1
mutual
theorem qtW(hc:vF c)(ed:∀ k∈env.funcs,pr k.name):∀ (s:Sm) (n:Nat),Dl env s=0->kg (Ig c n s).1
 |.mk kind name index value Ua Bb,n,h=>by
  rw[Dl] at h;by_cases hf:Zh (.mk kind name index value Ua Bb)=false;rw[zp hf] at h;cases h;rw[zn hf] at h;obtain⟨h1,h⟩:=Tc.1 h;obtain⟨h2,h⟩:=Tc.1 h;obtain⟨h3,h⟩:=Tc.1 h;obtain⟨h4,h5⟩:=Tc.1 h;rw[Bool.not_eq_false] at hf;unfold Zh at hf;have hv:kind=1∨kind=2∨kind=3∨kind=4∨kind=5∨kind=6->kg (Qb c (value.headD default)):=λhk=>qlp hc ed (by
   rcases hk with rfl|rfl|rfl|rfl|rfl|rfl <;> simp at hf <;> simp[hf]) h1
  have ht:=λn=>HW hc ed Ua n h4;have he:=λn=>HW hc ed Bb n h5;unfold Ig
  by_cases k1:kind=1;rw[zp k1];exact wk.2 ⟨hv (by simp[k1]),Jk.2 ⟨hc.sc _,Wv ea⟩⟩;rw[zn k1];by_cases k2:kind=2;rw[zp k2];refine wk.2 ⟨hv (by simp[k2]),Jk.2 ⟨hc.ar _,wk.2 ⟨qlp hc ed ?_ h2,Wv ea⟩⟩⟩;subst k2;simp at hf;simp[hf];rw[zn k2];by_cases k3:kind=3;rw[zp k3];have h8:=hv (by simp[k3]);cases Bb with
  |nil=>simp only;exact wk.2 ⟨wk.2 ⟨wk.2 ⟨h8,Jk.2 ⟨(VE n).2.1,Wv ea⟩⟩,ht _⟩,Jk.2 ⟨(VE n).2.2,Vp⟩⟩
  |cons a r=>simp only;exact wk.2 ⟨wk.2 ⟨wk.2 ⟨wk.2 ⟨wk.2 ⟨h8,Jk.2 ⟨(VE n).2.1,Wv ea⟩⟩,ht _⟩,Jk.2 ⟨NK ea,Jk.2 ⟨(VE (n+1)).2.1,Jk.2 ⟨NK ea,Jk.2 ⟨(VE n).2.2,Vp⟩⟩⟩⟩⟩,he _⟩,Jk.2 ⟨(VE (n+1)).2.2,Vp⟩⟩
  rw[zn k3];by_cases k4:kind=4;rw[zp k4];have h8:=hv (by simp[k4]);exact wk.2 ⟨wk.2 ⟨wk.2 ⟨wk.2 ⟨Jk.2 ⟨(VE n).2.2,Vp⟩,h8⟩,Jk.2 ⟨(VE (n+1)).2.1,Wv ea⟩⟩,ht _⟩,Jk.2 ⟨NK ea,Jk.2 ⟨(VE n).2.1,Jk.2 ⟨NK ea,Jk.2 ⟨(VE (n+1)).2.2,Vp⟩⟩⟩⟩⟩;rw[zn k4];by_cases k5:kind=5;rw[zp k5];exact wk.2 ⟨hv (by simp[k5]),Wv ea⟩;rw[zn k5];by_cases k6:kind=6;rw[zp k6];exact wk.2 ⟨hv (by simp[k6]),Jk.2 ⟨hc.t0,Wv ea⟩⟩;rw[zn k6];by_cases k7:kind=7;rw[zp k7];exact Jk.2 ⟨NK ea,Vp⟩;rw[zn k7];exact Vp
theorem HW(hc:vF c)(ed:∀ k∈env.funcs,pr k.name):∀ (l:List Sm) (n:Nat),mi env l=0->kg (Pa c n l).1
 |[],n,h=>by rw[Pa];exact Vp
 |s::l,n,h=>by rw[mi] at h;obtain⟨h1,h2⟩:=Tc.1 h;rw[Pa];exact wk.2 ⟨qtW hc ed s n h1,HW hc ed l _ h2⟩
end
theorem qus(hc:vF c)(ed:∀ k∈env.funcs,pr k.name)(f:yb)(n:Nat)(Jr:pr f.name)(h:mi env f.body=0):kg (Sk c n f).1:=by unfold Sk;simp only;refine wk.2 ⟨wk.2 ⟨wk.2 ⟨Jk.2 ⟨?_,Vp⟩,λw hw=>?_⟩,HW hc ed _ _ h⟩,Wv ea⟩;rw[Yc];refine B2 (λx hx=>?_) (λx hx=>?_) (by simp);exact qg (List.all_eq_true.1 (show([102,95]:Wd).all (λc=>decide (c≠10/\c≠32/\c≠35))=true by decide) x hx);rcases xj hx with h|h;exact Jr x h;exact(NK (k:=58) ea).2 x h;obtain⟨p,h1,h2⟩:=List.mem_flatMap.1 hw;rcases Dc.1 h2 with rfl|h2;exact hc.sc _;rw[aj h2];exact NK ea
end
theorem qk4{cc:Nm->CC}(hc:∀ n,vF (cc n)):∀ (fs:List yb) (n:Nat),(∀ f∈fs,∀ m,kg (Sk (cc f.name) m f).1)->kg (Rc cc n fs).1
 |[],n,_=>by rw[Rc];exact Vp
 |f::l,n,h=>by rw[Rc];exact wk.2 ⟨h f Qe n,qk4 hc l _ λg hg=>h g (Oc _ hg)⟩
section
variable{P:Pr}{o:il}
theorem RQ:∀ (l:List (Nm×Int)) (a:Int),0<=a->(∀ p∈l,0<=p.2)->∀ n,0<=Jj a l n
 |[],a,_,_,n=>by simp[Jj]
 |(x,k)::l,a,h,hl,n=>by rw[Jj];split;exact h;have:0<=k:=hl (x,k) Qe;exact RQ l _ ga (λp hp=>hl p (Oc _ hp)) n
theorem qp1(hF:iy P o)(own:Nm):vF (Rq P.vars (vf P) P.funcs o own):=by have s0:=hF.s0;refine⟨λn=>?_,λn=>?_,?_,?_,?_⟩;refine fO ?_;unfold Gy;split <;> omega;refine fO (RQ _ _ hF.a0 (λp hp=>?_) n);obtain⟨a,_,rfl⟩:=Ni hp;exact Int.natCast_nonneg _;exact fO s0;exact fO (z:=o.scalars+1) ga;exact fO (z:=o.scalars+2) ga
theorem J1(hc:Lq P=0)(Ge:Ls P.vars (vf P) P.funcs o=true):kg (fh P o):=by have hv:=BI hc;have hF:=NE Ge;have Vm:=Nw _ _ hv.names;have Ct:∀ f∈P.funcs,pr f.name:=λf hf=>qxx (Vm.2 _ (zq (.inr (jl ⟨f,hf,rfl⟩)))).2;have h1:kg ([[38,102,95,109,97,105,110],[58],itoa o.scalars,[33],[36]]:List Wd):=Jk.2 ⟨hZ ea,Jk.2 ⟨hZ ea,Jk.2 ⟨fO hF.s0,Wv ea⟩⟩⟩;refine wk.2 ⟨h1,qk4 (λn=>qp1 hF n) P.funcs 0 λf hf m=>?_⟩;obtain⟨kn,k1,k2⟩:=hv.Rx f hf;refine qus (qp1 hF f.name) (λk hk=>?_) f m (Ct f hf) k1;obtain⟨g,g1,g2,_⟩:=k2 k hk;rw[<-g2];exact Ct g g1
theorem sQ{t:Wd}(lc:∀ f∈P.funcs,Bj f.body)(h:Uk P.vars (vf P) P.funcs o=.ok t) :
  Lq P=0/\Ls P.vars (vf P) P.funcs o=true/\t=join (fh P o) [32]/\vk t=fh P o/\Th t o.code=.ok (Vl (bI P o) (fh P o),Dq (λ_=>0) o.code.toNat (fh P o))/\oe (bj P o)/\o.code.toNat+(Vl (bI P o) (fh P o)).length<=262144:=by
 unfold Uk at h;split at h;cases h;rename_i h1;split at h;cases h;rename_i h2;have hc:Lq P=0:=by have:=Classical.not_not.1 h1;exact this
 have Ge:Ls P.vars (vf P) P.funcs o=true:=by simpa using h2
 have cf:=J1 hc Ge;have hw:vk (join (fh P o) [32])=fh P o:=KW cf;split at h;cases h;rename_i x hx;injection h with h;have hx:Th (join (fh P o) [32]) o.code=.ok x:=hx;have ht:t=join (fh P o) [32]:=h.symm;rw[ht];have cH:=hx;unfold Th at hx;rw[hw] at hx;split at hx;cases hx;split at hx;cases hx;rename_i h4;split at hx;cases hx;rename_i h5;injection hx with hx;have hA:yu (fh P o):=by have:=bV (src:=join (fh P o) [32]) (by rw[hw];exact Classical.not_not.1 h4);rwa [hw] at this
 have ma:(Vl (bI P o) (fh P o)).length<=40000:=Nat.le_of_not_lt h5;have hF:=NE Ge;refine⟨hc,Ge,rfl,hw,by rw[cH,<-hx];try rfl,qAJ hc lc Ge hA (λw hw=>(cf w hw).1) ma,?_⟩;have:=hF.c1;omega
end
structure QH(c:CC):Prop where
 sc:∀ n,(c.sc n).length<=10
 ar:∀ n,(c.ar n).length<=10
 t0:c.t0.length<=10
 t1:c.t1.length<=10
 t2:c.t2.length<=10
def Hs(l:List (List Wd)):Nat:=(l.map Mf).sum
theorem nW(a:List Wd)(l:List (List Wd)):Hs (a::l)=Mf a+Hs l:=by simp[Hs]
theorem qw9(l:List (List Wd)):Mf (l.headD [])+Mf ((l.drop 1).headD [])<=Hs l:=by
 cases l with
 |nil=>simp[Mf,Hs]
 |cons a r=>
  rw[nW];cases r with
  |nil=>simp[Mf,Hs]
  |cons b r=>rw[nW];simp only[List.headD_cons,List.drop_one,List.tail_cons];omega
theorem qqB:∀ l:List (List Wd),Mf l.flatten=Hs l
 |[]=>rfl
 |a::l=>by rw[List.flatten_cons,Km,qqB l,nW]
theorem Hw{p:Prop} [Decidable p]{a b:List Wd}(h1:p->Mf a<=n)(h2:¬ p->Mf b<=n):Mf (if p then a else b)<=n:=by by_cases h:p;rw[zp h];exact h1 h;rw[zn h];exact h2 h
theorem qAT{op:Nm}(h:op∈Fw):op.length<=2:=by
 have:∀ o∈Fw,o.length<=2:=by decide
 exact this op h
theorem qAx(hc:QH c){op name:Nm}{num:Nat}{l:List (List Wd)}(hn:num<4294967296)(ld:ug op ≠ -2)(QD:op=tg->name.length<=24):Mf (Cr c op num name l)<=60+Hs l:=by
 have hh:=qw9 l;have hf:=qqB l;have hd:=sN hn;have h0:=hc.t0;have h1:=hc.t1;have h2:=hc.t2;have hs:=hc.sc name;have ha:=hc.ar name;have gv:¬ (op=Af)->¬ (op=bg)->¬ (op=Vj)->¬ (op=tg)->¬ (op=Ng)->¬ (op=yg)->op.length<=2:=by intro a1 a2 a3 a4 a5 a6;unfold ug at ld;rw[zn (by simp[a1,a2]),zn (by simp[a3,a5,a6]),zn a4] at ld;split at ld;rename_i h;exact qAT h;exact absurd rfl ld
 have hg:Mf (Om c)<=54:=by unfold Om;simp only[Ik,Wl,Ma,qc];omega
 unfold Cr;refine Hw (λn1=>?_) λn1=>Hw (λn2=>?_) λn2=>Hw (λn3=>?_) λn3=>Hw (λn4=>?_) λn4=>Hw (λn5=>?_) λn5=>Hw (λn6=>?_) λn6=>Hw (λn7=>?_) λn7=>Hw (λn8=>?_) λn8=>Hw (λn9=>?_) λn9=>?_;simp only[Ik,Wl];omega;simp only[Ik,Wl,Ma,qc];omega;simp only[Ik,Km,Wl,Ma,qc];omega;have Ir:=QD n4;rw[Km,hf]
 have:Mf (if name=[105,110] then ([[44]]:List Wd) else if name=[111,117,116] then [[46],[48]] else [[38,102,95]++name,[58]])<=60:=Hw (λ_=>by decide) λ_=>Hw (λ_=>by decide) λ_=>by simp only[Ik,Wl,Ga,Ma,qc];omega
 omega;simp only[Ik,Km,Wl,Ma,qc];omega;simp only[Ik,Km,Wl,Ma,qc];omega;simp only[Ik,Km,Wl,Ma,qc];omega;simp only[Ik,Km,Wl,Ma,qc];omega;simp only[Ik,Km,Wl,Ma,qc];omega;have hb:=gv n1 n2 n3 n4 n5 n6;rw[Km,Km];have:Mf (if op=[62] then Om c else if op=[60,61] then Om c++[[49],[94]] else if op=[62,61] then ([[60],[49],[94]]:List Wd) else if op=[61,61] then [[94],[49],[60]] else [op])<=60:=Hw (λ_=>by omega) λ_=>Hw (λ_=>by
  simp only[Ik,Km,Wl,Ma,qc];omega) λ_=>Hw (λ_=>by decide) λ_=>Hw (λ_=>by decide) λ_=>by
  simp only[Ik,Wl];omega
 omega
mutual
theorem qtB{c:CC}(hc:QH c){env:Cb}(ed:∀ k∈env.funcs,k.name.length<=24):∀ e,fj e->Gf env e=0->Mf (Qb c e)<=60 * Zl e
 |.mk op num name args,hn,h=>by
  rw[Gf] at h;rw[fj] at hn;rw[Zl];split at h;rename_i ho;obtain⟨h1,h3⟩:=Tc.1 h;rw[Qb];have:=qqZ hc ed args hn.2 h1;have h5:=qAx hc (op:=op) (name:=name) (num:=num) (l:=Ib c args) hn.1 ga λcf=>?_;omega;subst cf;unfold yz at h3;rw[zn ea,zn ea,zp rfl] at h3;unfold Qc at h3;split at h3
  rename_i e;rw[e];decide;split at h3;rename_i e;rw[e];decide;unfold Cb.fn at h3;cases hf:env.funcs.find? λf=>decide (f.name=name) with
  |none=>rw[hf] at h3;simp only at h3;split at h3 <;> cases h3
  |some k=>have e:k.name=name:=qg (List.find?_some (p:=λg:ye=>decide (g.name=name)) hf);rw[<-e];exact ed k (List.mem_of_find?_eq_some hf)
  cases h
theorem qqZ{c:CC}(hc:QH c){env:Cb}(ed:∀ k∈env.funcs,k.name.length<=24):∀ l,ml l->vg env l=0->Hs (Ib c l)<=60 * Vb l
 |[],_,h=>by rw[Ib];exact Nat.zero_le _
 |x::l,hn,h=>by rw[vg] at h;rw[ml] at hn;obtain⟨h1,h2⟩:=Tc.1 h;have a1:=qtB hc ed x hn.1 h1;have a2:=qqZ hc ed l hn.2 h2;rw[Ib,nW,Vb];omega
end
theorem qqI(hc:QH c){env:Cb}(ed:∀ k∈env.funcs,k.name.length<=24){l:List Ex}(h1:l.length=1)(hn:ml l)(h:vg env l=0):Mf (Qb c (l.headD default))<=60 * Vb l:=by obtain⟨x,rfl⟩:=nw h1;rw[vg] at h;rw[ml] at hn;have:=qtB hc ed x hn.1 (Tc.1 h).1;rw[Vb];simp only[List.headD_cons];omega
theorem xN(h:n<=4000000000):(za n).length<=11:=by have:=sN (u:=n) ga;simp only[za,Ma];omega
mutual
theorem qzo{c:CC}(hc:QH c){env:Cb}(ed:∀ k∈env.funcs,k.name.length<=24):∀ (s:Sm) (n:Nat),aq s->Dl env s=0->n+2 * Oq s<=4000000000->Mf (Ig c n s).1<=60 * Oq s/\(Ig c n s).2<=n+2 * Oq s
 |.mk kind name index value Ua Bb,n,CA,h,hN=>by
  rw[Dl] at h;rw[aq] at CA;rw[Oq] at hN ⊢;obtain⟨m1,m2,m3,m4⟩:=CA;by_cases hf:Zh (.mk kind name index value Ua Bb)=false;rw[zp hf] at h;cases h;rw[zn hf] at h;obtain⟨h1,h⟩:=Tc.1 h;obtain⟨h2,h⟩:=Tc.1 h;obtain⟨h3,h⟩:=Tc.1 h;obtain⟨h4,h5⟩:=Tc.1 h;rw[Bool.not_eq_false] at hf;unfold Zh at hf;have hv:kind=1∨kind=2∨kind=3∨kind=4∨kind=5∨kind=6->Mf (Qb c (value.headD default))<=60 * Vb value:=λhk=>qqI hc ed (by
   rcases hk with rfl|rfl|rfl|rfl|rfl|rfl <;> simp at hf <;> simp[hf]) m2 h1
  have ht:=λn hn=>aW hc ed Ua n m3 h4 hn;have he:=λn hn=>aW hc ed Bb n m4 h5 hn;have l0:=xN (n:=n) ga;have l1:=xN (n:=n+1) ga;have t0:=hc.t0;have ts:=hc.sc name;have ta:=hc.ar name;unfold Ig
  by_cases k1:kind=1;have:=hv (by simp[k1]);rw[zp k1];simp only[Ik,Km,Wl,Ma,qc];omega;rw[zn k1];by_cases k2:kind=2;have:=hv (by simp[k2]);have hi:Mf (Qb c (index.headD default))<=60 * Vb index:=by refine qqI hc ed ?_ m1 h2;subst k2;simp at hf;simp[hf]
  rw[zp k2];simp only[Ik,Km,Wl,Ma,qc];omega;rw[zn k2];by_cases k3:kind=3;rw[zp k3];have h8:=hv (by simp[k3]);cases Bb with
  |nil=>have h9:=ht (n+1) ga;simp only[Ik,Km,Wl,Ma,qc,Ga];omega
  |cons a r=>have h9:=ht (n+2) ga;have fw:=he (Pa c (n+2) Ua).2 ga;simp only[Ik,Km,Wl,Ma,qc,Ga];omega
  rw[zn k3];by_cases k4:kind=4;rw[zp k4];have h8:=hv (by simp[k4]);have h9:=ht (n+2) ga;simp only[Ik,Km,Wl,Ma,qc,Ga];omega;rw[zn k4];by_cases k5:kind=5;have:=hv (by simp[k5]);rw[zp k5];simp only[Ik,Km,Wl,Ma,qc];omega;rw[zn k5];by_cases k6:kind=6;have:=hv (by simp[k6]);rw[zp k6];simp only[Ik,Km,Wl,Ma,qc];omega;rw[zn k6];by_cases k7:kind=7;rw[zp k7];simp only[Ik,Wl,Ma,qc];omega;rw[zn k7];simp only[Wl];omega
theorem aW{c:CC}(hc:QH c){env:Cb}(ed:∀ k∈env.funcs,k.name.length<=24):∀ (l:List Sm) (n:Nat),Bj l->mi env l=0->n+2 * Td l<=4000000000->Mf (Pa c n l).1<=60 * Td l/\(Pa c n l).2<=n+2 * Td l
 |[],n,_,h,_=>by rw[Pa];simp[Wl]
 |s::l,n,CA,h,hN=>by rw[mi] at h;rw[Bj] at CA;rw[Td] at hN ⊢;obtain⟨h1,h2⟩:=Tc.1 h;have a1:=qzo hc ed s n CA.1 h1 ga;have a2:=aW hc ed l (Ig c n s).2 CA.2 h2 ga;rw[Pa];simp only[Km];omega
end
theorem qnQ{c:CC}(hc:QH c):∀ l:List Nm,Mf (l.flatMap λp=>[c.sc p,[33]])<=20 * l.length
 |[]=>Pb _
 |p::l=>by have:=qnQ hc l;have:=hc.sc p;rw[List.flatMap_cons,Km];simp only[Ik,Wl,Ma,qc];omega
theorem qyZ(hc:QH c){env:Cb}(ed:∀ k∈env.funcs,k.name.length<=24)(f:yb)(n:Nat)(Jr:f.name.length<=24)(CA:Bj f.body)(h:mi env f.body=0)(hN:n+2 * Dr f<=4000000000):Mf (Sk c n f).1<=60 * Dr f/\(Sk c n f).2<=n+2 * Dr f:=by unfold Dr at hN ⊢;have h1:=aW hc ed f.body n CA h ga;have h2:=qnQ hc f.params.reverse;rw[List.length_reverse] at h2;unfold Sk;simp only[Ik,Km,Wl,Ma,qc,Ga];omega
theorem qp2{cc:Nm->CC}:∀ (fs:List yb) (n:Nat),(∀ f∈fs,∀ m,m+2 * Dr f<=4000000000->Mf (Sk (cc f.name) m f).1<=60 * Dr f/\(Sk (cc f.name) m f).2<=m+2 * Dr f)->n+2 * ze fs<=4000000000->Mf (Rc cc n fs).1<=60 * ze fs/\(Rc cc n fs).2<=n+2 * ze fs
 |[],n,_,_=>by rw[Rc];simp[Wl]
 |f::l,n,h,hN=>by rw[ze] at hN ⊢;have a1:=h f Qe n ga;have a2:=qp2 l (Sk (cc f.name) n f).2 (λg hg=>h g (Oc _ hg)) ga;rw[Rc];simp only[Km];omega
section
variable{P:Pr}{o:il}
theorem JN{z:Int}(h:0<=z)(h2:z<4294967296):(itoa z).length<=10:=by rw[Iw h];exact sN ga
theorem tN:∀ (l:List (Nm×Int)) (a:Int),0<=a->(∀ p∈l,0<=p.2)->∀ n,Jj a l n<=a+(l.map (·.2)).sum
 |[],a,h,_,n=>by simp[Jj];exact h
 |(x,k)::l,a,h,hl,n=>by
  have hk:0<=k:=hl (x,k) Qe;have az:=λp hp=>hl p (Oc (x,k) hp)
  have hs:∀ m:List (Nm×Int),(∀ p∈m,0<=p.2)->0<=(m.map (·.2)).sum:=by
   intro m;induction m with
   |nil=>intro _;simp
   |cons q m ih=>intro hm;have h1:=hm q Qe;have h2:=ih λp hp=>hm p (Oc _ hp);rw[yd,sum_cons];omega
  have gr:=hs l az;rw[Jj,yd,sum_cons];split;show a<=a+(k+_);omega;have:=tN l (a+k) ga az n;show _<=a+(k+_);omega
theorem qxt(hF:iy P o)(own:Nm):QH (Rq P.vars (vf P) P.funcs o own):=by
 have s0:=hF.s0;have s1:=hF.s1;have a0:=hF.a0;have a1:=hF.a1;have hp:∀ p∈vf P,0<=p.2:=λp hp=>by obtain⟨a,_,rfl⟩:=Ni hp;exact Int.natCast_nonneg _
 refine⟨λn=>?_,λn=>?_,?_,?_,?_⟩;refine JN ?_ ?_;unfold Gy;split <;> omega;unfold Gy;split
 rename_i h;have:=List.idxOf_lt_length_of_mem h;omega;omega;refine JN (RQ _ _ a0 hp n) ?_;have h1:=tN (vf P) o.ba a0 hp n;have h2:((vf P).map (·.2)).sum=((Dk P.ba:Nat):Int):=NQ P.ba;rw[h2] at h1;omega;exact JN s0 ga;exact JN (z:=o.scalars+1) ga ga;exact JN (z:=o.scalars+2) ga ga
theorem EZ(hc:Lq P=0)(lc:∀ f∈P.funcs,Bj f.body)(Ge:Ls P.vars (vf P) P.funcs o=true)(Bh:ze P.funcs<=2000000):Mf (fh P o)<=60+60 * ze P.funcs/\(Rc (Rq P.vars (vf P) P.funcs o) 0 P.funcs).2<=2 * ze P.funcs:=by
 have hv:=BI hc;have hF:=NE Ge;have Vm:=Nw _ _ hv.names;have Ct:∀ f∈P.funcs,f.name.length<=24:=λf hf=>by have h:=(Vm.2 _ (zq (.inr (jl ⟨f,hf,rfl⟩)))).2;unfold kf at h;rw[Ed,Ed,Rg] at h;exact h.1.1
 have hb:=qp2 (cc:=Rq P.vars (vf P) P.funcs o) P.funcs 0 (λf hf m hm=>by
  obtain⟨kn,k1,k2⟩:=hv.Rx f hf;refine qyZ (qxt hF f.name) (λk hk=>?_) f m (Ct f hf) (lc f hf) k1 hm;obtain⟨g,g1,g2,_⟩:=k2 k hk;rw[<-g2];exact Ct g g1) ga
 have ht:=JN (z:=o.scalars) hF.s0 (by have:=hF.s1;omega);refine⟨?_,by omega⟩;unfold fh PC;rw[Km];simp only[Ik,Wl,Ma,qc];omega
end
def Ei(vars:List Nm)(ba:List (Nm×Int))(fs:List yb):Pr:=⟨vars,ba.map λa=>⟨a.1,a.2.toNat⟩,fs⟩
theorem quY{vars:List Nm}{ba:List (Nm×Int)}{fs:List yb}(h:∀ a∈ba,0<=a.2):vf (Ei vars ba fs)=ba:=by
 unfold vf Ei;simp only[List.map_map]
 conv=>rhs;rw[<-List.map_id ba]
 refine List.map_congr_left λa ha=>?_;have:=h a ha;simp only[Function.comp,id];rw[Int.toNat_of_nonneg this]
theorem qof:∀ (l:List Int) (t:Int),0<=t->t<=150000->iG t l=0->t+l.sum<=150000/\∀ n∈l,0<n
 |[],t,h0,h1,_=>by rw[List.sum_nil];exact⟨by omega,λn hn=>(not_mem_nil hn).elim⟩
 |a::l,t,h0,h1,h=>by rw[iG] at h;split at h;cases h;split at h;cases h;obtain⟨g1,g2⟩:=qof l (t+a) ga ga h;rw[sum_cons];refine⟨by omega,λn hn=>?_⟩;rcases Dc.1 hn with rfl|hn;omega;exact g2 n hn
theorem qoY{vars:List Nm}{ba:List (Nm×Int)}{fs:List yb}(h:Ws vars ba fs=0):(ba.map (·.2)).sum<=150000/\(∀ a∈ba,0<a.2)/\vf (Ei vars ba fs)=ba/\Lq (Ei vars ba fs)=0/\Valid (Ei vars ba fs):=by
 have h0:=h;unfold Ws at h;obtain⟨h1,h⟩:=Tc.1 h;obtain⟨h2,h⟩:=Tc.1 h;obtain⟨s1,s2⟩:=qof _ 0 ea ea h2;have hp:∀ a∈ba,0<a.2:=λa ha=>s2 a.2 (List.mem_map_of_mem ha);have ha:=quY (vars:=vars) (fs:=fs) λa ha=>Int.le_of_lt (hp a ha)
 have hc:Lq (Ei vars ba fs)=0:=by have:(Ei vars ba fs).ba.map (λa=>(a.name,(a.size:Int)))=ba:=ha;unfold Lq;rw[this];exact h0
 exact⟨by omega,hp,ha,hc,BI hc⟩
def Hg:Int->List (Nm×Int)->List (Nm×Int)
 |_,[]=>[]
 |a,(x,n)::r=>(x,a)::Hg (a+n) r
theorem qlK:∀ (l:List (Nm×Int)) (a:Int),(Hg a l).map (·.1)=l.map (·.1)
 |[],_=>rfl
 |(x,n)::r,a=>by rw[Hg,yd,yd,qlK r]
theorem VZ:∀ (l:List (Nm×Int)) (a:Int),(Hg a l).length=l.length
 |[],_=>rfl
 |(x,n)::r,a=>by rw[Hg,Ma,Ma,VZ r]
theorem qqA:∀ (l m:List (Nm×Int)) (a:Int),Hg a (l++m)=Hg a l++Hg (a+(l.map (·.2)).sum) m
 |[],m,a=>by simp[Hg]
 |(x,n)::r,m,a=>by rw[cons_append,Hg,qqA r m,Hg,cons_append,yd,sum_cons,Int.add_assoc]
def vI(r:Int×Int):Bool:=yI r.1 r.2
def yK(r s:Int×Int):Bool:=kI r.1 r.2 s.1 s.2
def ZD:List (Int×Int)->List (Int×Int)->Bool
 |_,[]=>true
 |prev,r::rest=>vI r && (prev.all λs=>!yK r s) && ZD (prev++[r]) rest
theorem qzN(vars:List Nm)(ba:List (Nm×Int))(fs:List yb)(o:il):Ls vars ba fs o=ZD [] [(o.scalars,3+((je vars fs).length:Nat)),(o.code,40000),(o.ba,(ba.map (·.2)).sum)]:=by unfold Ls ZD ZD ZD ZD vI yK;simp only[List.all_nil,nil_append,List.all_cons,List.singleton_append,cons_append,Bool.and_true];generalize yI o.scalars _=a;generalize yI o.code 40000=b;generalize yI o.ba _=c;generalize kI o.code 40000 o.scalars _=d;generalize kI o.ba _ o.scalars _=e;generalize kI o.ba _ o.code 40000=f;revert a b c d e f;decide
section
variable{P:Pr}{o o':il}{t t' x x':Wd}{ub YI:List (Wd×Nat)}
end
theorem qoE{ds:List Wd}{known:Wd->Nat}{w:Wd}(h:Hp ds w)(hd:ya w=none):∀ c∈jf known w,tB.contains c=true:=by
 unfold Hp at h;rw[hd] at h;unfold jf;cases hr:Va w with
 |some x=>intro c hc;exact qlh ((aR (known x)).2 c hc)
 |none=>rw[hr] at h;simp only at h;exact λc hc=>List.all_eq_true.1 h c hc
theorem qkr{ds:List Wd}{known:Wd->Nat}:∀ (l:List Wd) (t:Wd),(∀ w∈l,Hp ds w)->(∀ c∈t,tB.contains c=true∨c=32)->∀ c∈l.foldl (Ee known) t,tB.contains c=true∨c=32
 |[],t,_,h=>h
 |w::l,t,hw,h=>by
  rw[foldl_cons];refine qkr l _ (λx hx=>hw x (Oc _ hx)) λc hc=>?_;unfold Ee at hc
  cases hd:ya w with
  |some y=>rw[hd] at hc;exact h c hc
  |none=>rw[hd] at hc;simp only at hc;rcases xj hc with hc|hc;rcases xj hc with hc|hc;exact h c hc;split at hc;exact .inr (aj hc);exact(not_mem_nil hc).elim;exact .inl (qoE (hw w Qe) hd c hc)
theorem qm0{src x:Wd}{og:Int}{ub:List (Wd×Nat)}(h:Th src og=.ok (x,ub)):x.length<=40000/\(Jb (vk src)).Nodup/\∀ c∈x,tB.contains c=true∨c=32:=by unfold Th at h;split at h;cases h;split at h;cases h;rename_i h1;split at h;cases h;rename_i h2;injection h with h;injection h with h _;have hA:=bV (Classical.not_not.1 h1);refine⟨by rw[<-h];exact Nat.le_of_not_lt h2,hA.1,?_⟩;rw[<-h];exact qkr _ _ hA.2 λc hc=>(not_mem_nil hc).elim
theorem jW(all:List Wd):∀ (l:List (Wd×Nat)) (met:List Wd),(Ye all met l).2=0∨(Ye all met l).2=8∨(Ye all met l).2=7∨(Ye all met l).2=3
 |[],met=>.inl rfl
 |(w,ln)::r,met=>by
  rw[Ye];cases hd:ya w with
  |some x=>simp only;split;exact .inr (.inl rfl);exact jW all r _
  |none=>
   simp only;cases hr:Va w with
   |some x=>simp only;split;exact jW all r _;exact .inr (.inr (.inl rfl))
   |none=>simp only;split;exact jW all r _;exact .inr (.inr (.inr rfl))
theorem qwq{src:Wd}{og:Int}(h:0<=og/\og<262144){e:Nat×Nat}(he:Th src og=.error e):e.2=8∨e.2=7∨e.2=3∨e.2=6:=by unfold Th at he;split at he;omega;split at he;rename_i h1;injection he with he;rw[<-he];rcases jW (Jb (vk src)) (Tv src) [] with h2|h2|h2|h2;exact absurd h2 h1;exact .inl h2;exact .inr (.inl h2);exact .inr (.inr (.inl h2));split at he;injection he with he;rw[<-he];exact .inr (.inr (.inr rfl));cases he
section
variable{vars:List Nm}{ba:List (Nm×Int)}{fs:List yb}{o:il}
end
section
variable{W:List Wd}{ok:Nat->Bool}{w x:Wd}{r:List Wd}
end
theorem qvU{a b:Nat}{op:Wd}(h:Tp a op b=some n):∃ c:UInt8,op=[c]/\tc c/\Hd c.toNat a b=some n:=by unfold Tp at h;unfold tc;split at h;rename_i e;exact⟨43,e,by decide,h⟩;split at h;rename_i e;exact⟨45,e,by decide,h⟩;split at h;rename_i e;exact⟨42,e,by decide,h⟩;split at h;rename_i e;exact⟨94,e,by decide,h⟩;split at h;rename_i e;refine⟨60,e,by decide,?_⟩;rw[<-h];unfold Hd;simp;split at h;rename_i e;exact⟨47,e,by decide,h⟩;split at h;rename_i e;exact⟨37,e,by decide,h⟩;cases h
section
variable{W W':List Wd}{ok ok':Nat->Bool}{r q:List Wd}
theorem qoZ{c:UInt8}(hc:c=43∨c=42∨c=94)(a x y:Nat):∃ u z,Hd c.toNat a x=some u/\Hd c.toNat x y=some z/\Hd c.toNat u y=Hd c.toNat a z:=by rcases hc with rfl|rfl|rfl;refine⟨_,_,rfl,rfl,?_⟩;unfold Hd;simp[add_assoc];refine⟨_,_,rfl,rfl,?_⟩;unfold Hd;simp[Nat.mul_assoc];refine⟨_,_,rfl,rfl,?_⟩;unfold Hd;simp[Nat.xor_assoc]
end
open Go.Lib (decDigits)
theorem PW.bU{C:PW}{s:MS}{i:Nat}{w:Wd}(hk:C.Ok s.mem)(h:C.At s i)(hw:C.W[i]? = some w)(hd:ya w=none)(xb:jf C.known w≠[])(hg:∀ c∈jf C.known w,qe c=true)(hv:Zg 0 (jf C.known w)<4294967296)(Wa:s.data.length<256) :
  (C.zd i<=C.zd (i+1)/\Uh (C.zd (i+1)-C.zd i) s { s with pc:=C.zd (i+1),data:=Zg 0 (jf C.known w)::s.data,digit:=true })/\Qf (C.pre (i+1))=true:=by
 obtain⟨h1,h2,h3⟩:=C.piece hk hw hd;have hf:Mm (jf C.known w)=true:=by
  cases hp:jf C.known w with
  |nil=>exact absurd hp xb
  |cons c r=>exact hg c (by rw[hp];simp)
 have hl:Qf (C.pre (i+1))=true:=by rw[h1,N1 xb];unfold Qf;rw[List.getLast?_eq_some_getLast xb];exact hg _ (List.getLast_mem xb)
 refine⟨?_,hl⟩;obtain⟨ir,Qq⟩:=h;have Gn:C.zd (i+1)=C.zd i+(if Qf (C.pre i) && Mm (jf C.known w) then [32] else []:Wd).length+(jf C.known w).length:=by unfold PW.zd;rw[h1,Ga,Ga];omega
 rw[hf,Bool.and_true] at h2 Gn;refine⟨by omega,?_⟩;by_cases xt:Qf (C.pre i)=true
 ·rw[zp xt] at h2 Gn;obtain⟨m1,m2⟩:=h2.app;have m0:=m1 0 (by simp);simp only[add_zero,List.getElem_cons_zero] at m0;simp only[Ma,qc] at Gn m2
  have gk:Za s=.run { s with pc:=s.pc+1,digit:=false }:=by unfold Za;rw[zp (by rw[ir];omega),ir,m0];unfold fe;rw[zn ea,zp ea];try rfl
  have Lr:=qq0 (s:={ s with pc:=s.pc+1,digit:=false }) xb hg rfl Wa (by simp only;rw[ir];exact m2) (by simp only;rw[ir];omega) hv;have:=(Uh.one gk).trans Lr;simp only at this;rw[show C.zd (i+1)-C.zd i=1+(jf C.known w).length by omega,Gn,<-ir];exact this
 rw[zn xt] at h2 Gn;rw[nil_append] at h2;have hdf:s.digit=false:=by
  cases hx:s.digit with
  |false=>rfl
  |true=>exact absurd (Qq hx) xt
 have Lr:=qq0 (s:=s) xb hg hdf Wa (by rw[ir];exact h2) (by rw[ir];simp only[qc] at Gn;omega) hv;simp only[qc,add_zero] at Gn;rw[show C.zd (i+1)-C.zd i=(jf C.known w).length by omega,Gn,<-ir];exact Lr
theorem PW.qC{C:PW}{mem:Nat->Nat}{i:Nat}{c:UInt8}(hk:C.Ok mem)(hw:C.W[i]? = some [c])(hd:ya [c]=none)(hr:Va [c]=none)(hc:qe c=false):C.zd (i+1)=C.zd i+1:=by
 obtain⟨h1,h2,h3⟩:=C.piece hk hw hd;have hp:jf C.known [c]=[c]:=by unfold jf;rw[hr]
 have hf:Mm [c]=false:=hc;rw[hp,hf,Bool.and_false,zn ea,ue] at h1;unfold PW.zd;rw[h1,Ga];try rfl
end Go.ia
namespace Go.ia.Wi
open Go.Lib
variable{P:Pr}{W p r rest:List Wd}{a b e i k n v:Nat}{c:UInt8}{d Ia:List Nat}{l o w x:Wd}
structure PW where
 W:List Wd
 D:Nat->Bool
structure MS where
 mem:Nat->Nat
 pc:List Wd
 data:List Nat
 calls:List (List Wd)
 Ia:List Nat
 out:Wd
 digit:Bool
variable{m m' s s':MS}
inductive MR where
 |run (s:MS)
 |stop (e:Nat) (out:Wd)
def Yk(x:Wd):List Wd->Option (List Wd)
 |[]=>none
 |w::r=>if ya w=some x then some r else Yk x r
def lost(s:MS):MR:=.stop 99 s.out
def jn(s:MS)(r:List Wd)(d:List Nat)(n:Nat)(f:Bool):MR:=if d.length<256 then .run { s with pc:=r,data:=n::d,digit:=f } else lost s
def pK(D:Nat->Bool)(s:MS)(r:List Wd):MR:=match s.data with
 |a::d=>if D a=true then jn s r d (s.mem a) false else lost s
 |[]=>lost s
def AK(D:Nat->Bool)(s:MS)(r:List Wd):MR:=match s.data with
 |a::x::d=>if D a=true then .run { s with pc:=r,data:=d,mem:=λi=>if i=a then x else s.mem i,digit:=false } else lost s
 |_=>lost s
def aI(s:MS):MR:=match s.calls with
 |k::l=>.run { s with pc:=k,calls:=l,digit:=false }
 |[]=>lost s
def qQ(s:MS)(r:List Wd):MR:=match s.data with
 |x::d=>.run { s with pc:=r,data:=d,out:=s.out++[UInt8.ofNat x],digit:=false }
 |[]=>lost s
def El(s:MS)(c:UInt8)(r:List Wd):MR:=match s.data with
 |b::a::d=>(match Hd c.toNat a b with
  |some x=>jn s r d x false
  |none=>.stop 12 s.out)
 |_=>lost s
def Rv(D:Nat->Bool)(s:MS)(c:UInt8)(r:List Wd):MR:=
 if c=64 then pK D s r
 else if c=33 then AK D s r
 else if c=59 then aI s
 else if c=44 then jn { s with Ia:=s.Ia.tail } r s.data (s.Ia.headD 4294967295) false
 else if c=46 then qQ s r
 else if c=36 then .stop 0 s.out
 else if c=43∨c=45∨c=42∨c=47∨c=37∨c=94∨c=60 then El s c r
 else lost s
def WH(s:MS)(k r:List Wd):MR:=match s.data with
 |a::d=>.run { s with pc:=if a=0 then k else r,data:=d,digit:=false }
 |[]=>lost s
def Kz(C:PW)(s:MS)(x:Wd)(r:List Wd):MR:=match Yk x C.W,r with
 |some k,o::r=>if s.data.length<256 then (if o=[63] then WH s k r else if o=[58] then (if s.calls.length<64 then .run { s with pc:=k,calls:=r::s.calls,digit:=false } else lost s) else lost s) else lost s
 |_,_=>lost s
def Qz(C:PW)(s:MS)(w:Wd)(r:List Wd):MR:=match ya w with
 |some _=>.run { s with pc:=r }
 |none=>match Db w with
  |some n=>jn s r s.data n true
  |none=>match Va w with
   |some x=>Kz C s x r
   |none=>match w with
    |[c]=>Rv C.D s c r
    |_=>lost s
def Za(C:PW)(s:MS):MR:=match s.pc with
 |[]=>lost s
 |w::r=>Qz C s w r
def zC(f:Bool)(w:Wd):Nat:=if (ya w).isSome=true then 0 else if (Db w).isSome=true then w.length+one f else if (Va w).isSome=true then 7+one f else 1
def Ri(s:MS):Nat:=zC s.digit (s.pc.headD [])
inductive Uh (C:PW):Nat->MS->MS->Prop
 |zero (s:MS):Uh C 0 s s
 |step {k:Nat} {s s' s2:MS}:Za C s=.run s'->Uh C k s' s2->Uh C (Ri s+k) s s2
section
variable{C:PW}
theorem Uh.one(h:Za C s=.run s'):Uh C (Ri s) s s':=.step h (.zero _)
theorem Uh.trans{s2:MS}(h:Uh C a s s')(k:Uh C b s' s2):Uh C (a+b) s s2:=by
 induction h with
 |zero s=>rw[zero_add];exact k
 |step h1 _ ih=>rw[add_assoc];exact .step h1 (ih k)
def Nf(C:PW)(m:Nat)(s s':MS):Prop:=∃ k,k<=m/\Uh C k s s'
theorem Nf.refl(s:MS):Nf C 0 s s:=⟨0,Pb _,.zero _⟩
theorem Nf.trans{a b:Nat}{s s' s2:MS}(h:Nf C a s s')(k:Nf C b s' s2):Nf C (a+b) s s2:=by obtain⟨i,h1,h2⟩:=h;obtain⟨j,k1,k2⟩:=k;exact⟨i+j,by omega,h2.trans k2⟩
theorem Nf.mono(h:Nf C a s s')(AH:a<=b):Nf C b s s':=by obtain⟨i,h1,h2⟩:=h;exact⟨i,by omega,h2⟩
def PW.zd(C:PW)(i:Nat):List Wd:=C.W.drop i
def PW.At(C:PW)(s:MS)(i:Nat):Prop:=∃ ds,s.pc=ds++C.zd i/\∀ w∈ds,(ya w).isSome=true
def PW.Ok(C:PW)(mem:Nat->Nat):Prop:=True
def PW.Code(C:PW)(i:Nat)(ws:List Wd):Prop:=∀ k (h:k<ws.length),C.W[i+k]? = some ws[k]
theorem PW.Code.app{a b:List Wd}(h:C.Code i (a++b)):C.Code i a/\C.Code (i+a.length) b:=by constructor;intro k hk;have:=h k (by rw[Ga];omega);rwa [List.getElem_append_left hk] at this;intro k hk;have:=h (a.length+k) (by rw[Ga];omega);rw[List.getElem_append_right (by omega)] at this;rw[add_assoc];simpa using this
theorem PW.Code.cons{b:List Wd}(h:C.Code i (w::b)):C.W[i]? = some w/\C.Code (i+1) b:=by have h1:=PW.Code.app (a:=[w]) (b:=b) h;have h2:=h1.1 0 (by simp);exact⟨by simpa using h2,h1.2⟩
def PW.put(C:PW)(s:MS)(i:Nat)(d:List Nat):MS:={ s with pc:=C.zd i,data:=d,digit:=false }
theorem PW.OC(C:PW)(s:MS)(i:Nat)(d:List Nat):C.At (C.put s i d) i:=⟨[],rfl,λw hw=>by cases hw⟩
theorem PW.Gh(h:s.pc=C.zd i):C.At s i:=⟨[],h,λw hw=>by cases hw⟩
theorem bW(hw:C.W[i]? = some w):C.zd i=w::C.zd (i+1):=by obtain⟨hi,rfl⟩:=List.getElem?_eq_some_iff.1 hw;exact List.drop_eq_getElem_cons hi
theorem al(hv:s.pc=w::r):Za C s=Qz C s w r:=by unfold Za;rw[hv]
theorem QV(hv:s.pc=w::r)(h:ya w=some x):Za C s=.run { s with pc:=r }:=by unfold Za Qz;rw[hv];simp only;rw[h]
theorem OQ(hv:s.pc=w::r)(h:ya w=some x):Ri s=0:=by unfold Ri zC;rw[hv];simp[h]
theorem D2:∀ (ds:List Wd) (s:MS) (r:List Wd),s.pc=ds++r->(∀ w∈ds,(ya w).isSome=true)->Uh C 0 s { s with pc:=r }
 |[],s,r,h,_=>by
  have:s={ s with pc:=r }:=by rw[<-show s.pc=r from h]
  rw[<-this];exact .zero s
 |w::ds,s,r,h,hd=>by obtain⟨x,hx⟩:=zR (hd w Qe);have h1:=Uh.step (QV (C:=C) h hx) (D2 ds { s with pc:=ds++r } r rfl λy hy=>hd y (Oc _ hy));rw[OQ h hx] at h1;exact h1
theorem PW.lU(h:C.At s i)(hw:C.W[i]? = some w)(hd:ya w=some x):C.At s (i+1):=by obtain⟨ds,h1,h2⟩:=h;refine⟨ds++[w],by rw[h1,bW hw,Yc];try rfl,λy hy=>?_⟩;rcases xj hy with hy|hy;exact h2 y hy;rw[aj hy,hd];try rfl
theorem PW.ahead(h:C.At s i)(hw:C.W[i]? = some w):Uh C 0 s { s with pc:=w::C.zd (i+1) }:=by obtain⟨ds,h1,h2⟩:=h;rw[bW hw] at h1;exact D2 ds s _ h1 h2
theorem PW.once{m:Nat}(h:C.At s i)(hw:C.W[i]? = some w)(hs:Za C { s with pc:=w::C.zd (i+1) }=.run s')(hc:zC s.digit w<=m):Nf C m s s':=by have h1:=(PW.ahead h hw).trans (.one hs);rw[zero_add] at h1;exact⟨_,hc,h1⟩
theorem J2{w:Wd}(h:Db w=some n):w≠[]/\∀ c∈w,qe c=true:=by obtain⟨h1,h2⟩:=(IC w n).1 h;rw[<-h2];exact⟨WK n,XN n⟩
theorem Q3(h:qe c=false):Db [c]=none:=by
 cases hn:Db [c] with
 |none=>rfl
 |some n=>have h1:=(J2 hn).2 c (Sq rfl);rw[h] at h1;cases h1
theorem sr(h:Db w=some n):ya w=none/\Va w=none:=by have:=FQ h;exact⟨this.1,this.2⟩
theorem gW(h:Va w=some x):Db w=none:=by
 cases hn:Db w with
 |none=>rfl
 |some n=>rw[(sr hn).2] at h;cases h
theorem IK(h:Db w=some n):Qz C s w r=jn s r s.data n true:=by unfold Qz;rw[(sr h).1];simp only;rw[h]
theorem HK{f:Bool}(h:Db w=some n):zC f w=w.length+one f:=by unfold zC;rw[(sr h).1,h];try rfl
theorem yG(h:Va w=some x):Qz C s w r=Kz C s x r:=by unfold Qz;rw[gu h];simp only;rw[gW h];simp only;rw[h]
theorem HI{f:Bool}(h:Va w=some x):zC f w=7+one f:=by unfold zC;rw[gu h,gW h,h];try rfl
abbrev Kl:Wd:=[43,45,42,47,37,94,60,64,33,63,58,59,44,46,36]
theorem Ow(h:c∈Kl):Qz C s [c] r=Rv C.D s c r:=by obtain⟨e1,e2,e3⟩:=Ny h;unfold Qz;rw[e1];simp only;rw[Q3 e3];simp only;rw[e2]
theorem y3{f:Bool}(h:c∈Kl):zC f [c]=1:=by obtain⟨e1,e2,e3⟩:=Ny h;unfold zC;rw[e1,Q3 e3,e2];try rfl
theorem Ly(h:tc c):c∈Kl:=by unfold tc at h;rcases h with rfl|rfl|rfl|rfl|rfl|rfl|rfl <;> decide
theorem DQ{D:Nat->Bool}(h:tc c):Rv D s c r=El s c r:=by unfold tc at h;unfold Rv;rcases h with rfl|rfl|rfl|rfl|rfl|rfl|rfl <;> rfl
theorem kZ(f:Bool):Go.ia.one f<=1:=Go.ia.one_le f
section
variable{s:MS}{i:Nat}
theorem PW.num(h:C.At s i){m:Nat}(hw:C.W[i]? = some (decDigits n))(hn:n<4294967296)(Wa:s.data.length<256)(hm:(decDigits n).length+1<=m):Nf C m s { s with pc:=C.zd (i+1),data:=n::s.data,digit:=true }:=by have hN:=vG hn;refine PW.once h hw ?_ (by rw[HK hN];have:=kZ s.digit;omega);rw[al rfl,IK hN];unfold jn;rw[zp Wa]
theorem PW.load(h:C.At s i)(hw:C.W[i]? = some [64]){r:List Nat}(hd:s.data=a::r)(ha:C.D a=true)(Wa:r.length<256):Nf C 1 s (C.put s (i+1) (s.mem a::r)):=by refine fC ?_;rw[al rfl,Ow ea];show pK C.D _ _=_;unfold pK jn;simp[hd,ha,Wa,PW.put]
theorem PW.store(h:C.At s i)(hw:C.W[i]? = some [33]){r:List Nat}(hd:s.data=a::v::r)(ha:C.D a=true):Nf C 1 s { C.put s (i+1) r with mem:=λi=>if i=a then v else s.mem i }:=by refine fC ?_;rw[al rfl,Ow ea];show AK C.D _ _=_;unfold AK;simp[hd,ha,PW.put]
theorem PW.back(h:C.At s i)(hw:C.W[i]? = some [59]){t:List Wd}{r:List (List Wd)}(hd:s.calls=t::r):Nf C 1 s { s with pc:=t,calls:=r,digit:=false }:=by refine fC ?_;rw[al rfl,Ow ea];show aI _=_;unfold aI;simp[hd]
theorem PW.read(h:C.At s i)(hw:C.W[i]? = some [44])(Wa:s.data.length<256):Nf C 1 s { C.put s (i+1) ((s.Ia.headD 4294967295)::s.data) with Ia:=s.Ia.tail }:=by refine fC ?_;rw[al rfl,Ow ea];show jn _ _ _ _ _=_;unfold jn;simp[Wa,PW.put]
theorem PW.write(h:C.At s i)(hw:C.W[i]? = some [46]){r:List Nat}(hd:s.data=v::r):Nf C 1 s { C.put s (i+1) r with out:=s.out++[UInt8.ofNat v] }:=by refine fC ?_;rw[al rfl,Ow ea];show qQ _ _=_;unfold qQ;simp[hd,PW.put]
theorem PW.halt(h:C.At s i)(hw:C.W[i]? = some [36]):∃ m,Uh C 0 s m/\Za C m=.stop 0 s.out:=by refine⟨_,PW.ahead h hw,?_⟩;rw[al rfl,Ow ea];try rfl
theorem PW.op(h:C.At s i)(hc:tc c)(hw:C.W[i]? = some [c]){r:List Nat}(hd:s.data=b::a::r)(hv:Hd c.toNat a b=some v)(Wa:r.length<256):Nf C 1 s (C.put s (i+1) (v::r)):=by refine PW.once h hw ?_ (by rw[y3 (Ly hc)];exact Pb 1);rw[al rfl,Ow (Ly hc),DQ hc];unfold El jn;simp[hd,hv,Wa,PW.put]
theorem PW.Sw(h:C.At s i)(hc:tc c)(hw:C.W[i]? = some [c]){r:List Nat}(hd:s.data=b::a::r)(hv:Hd c.toNat a b=none):∃ m,Uh C 0 s m/\Za C m=.stop 12 s.out:=by refine⟨_,PW.ahead h hw,?_⟩;rw[al rfl,Ow (Ly hc),DQ hc];unfold El;simp[hd,hv]
theorem PW.jump(h:C.At s i){k:List Wd}(hw:C.W[i]? = some w)(fS:C.W[i+1]? = some [63])(hr:Va w=some x)(hk:Yk x C.W=some k){r:List Nat}(hd:s.data=v::r)(Wa:r.length+1<256):Nf C 8 s { C.put s (i+2) r with pc:=if v=0 then k else C.zd (i+2) }:=by refine PW.once h hw ?_ (by rw[HI hr];have:=kZ s.digit;omega);rw[al rfl,yG hr,bW fS];unfold Kz WH;simp[hk,hd,Wa,PW.put]
theorem PW.call(h:C.At s i){k:List Wd}(hw:C.W[i]? = some w)(fS:C.W[i+1]? = some [58])(hr:Va w=some x)(hk:Yk x C.W=some k)(Wa:s.data.length<256)(hc:s.calls.length<64):Nf C 8 s { s with pc:=k,calls:=C.zd (i+2)::s.calls,digit:=false }:=by refine PW.once h hw ?_ (by rw[HI hr];have:=kZ s.digit;omega);rw[al rfl,yG hr,bW fS];unfold Kz;simp[hk,Wa,hc]
end
end
def lB(C:PW)(B:Int)(m:MS)(e:Int)(s:IS):Prop:=
 (e=0∨e=12->∃ k:Nat,∃ m',(k:Int)<=B/\Uh C k m m'/\Za C m'=.stop e.toNat s.out)/\(e=13->∃ k m',Uh C k m m'/\m'.out=s.out)
variable{C:PW}
theorem lB.pre{B:Int}{m1:MS}{e:Int}{s:IS}(h:Uh C k m m1)(g:lB C B m1 e s):lB C (k+B) m e s:=by refine⟨λhe=>?_,λhe=>?_⟩;obtain⟨y,m',k1,k2,k3⟩:=g.1 he;exact⟨k+y,m',by omega,h.trans k2,k3⟩;obtain⟨y,m',k2,k3⟩:=g.2 he;exact⟨k+y,m',h.trans k2,k3⟩
theorem lB.mono{B B':Int}{e:Int}{s:IS}(h:lB C B m e s)(hb:B<=B'):lB C B' m e s:=
 ⟨λhe=>by
  obtain⟨y,m',k1,k2,k3⟩:=h.1 he;exact⟨y,m',by omega,k2,k3⟩,h.2⟩
section
variable{A B:Type}{Q:A->IS->MS->Prop}{R:B->IS->MS->Prop}{c d c1 d1 c2 d2:Int}{m m1:MS}{s:IS}
end
theorem UK{A B D:Type}(r:IR A)(f:A->IS->IR B)(g:B->IS->IR D):(r.bind f).bind g=r.bind λv s=>(f v s).bind g:=by cases r <;> rfl
structure Uf where
 C:PW
 P:Pr
 cc:yb->CC
 ib:yb->Cb
 sa:Nm->Nat
 aa:Nm->Nat
 S:Nat
 fst:yb->Nat
variable{X:Uf}
def Uf.keys(X:Uf):List Nm:=je X.P.vars X.P.funcs
def Uf.Data(X:Uf)(x:Nat):Prop:=(∃ k∈X.keys,x=X.sa k)∨(X.S<=x/\x<=X.S+2)∨∃ a∈X.P.ba,∃ i,i<a.size/\x=X.aa a.name+i
structure oe(X:Uf):Prop where
 sc:∀ f∈X.P.funcs,∀ name,du (X.ib f) name=0->(X.cc f).sc name=decDigits (X.sa (jc f name))/\jc f name∈X.keys
 ar:∀ f∈X.P.funcs,∀ name,Xz (X.ib f) name=0->(X.cc f).ar name=decDigits (X.aa name)/\∃ a∈X.P.ba,a.name=name
 qy:∀ f∈X.P.funcs,(X.cc f).t0=decDigits X.S/\(X.cc f).t1=decDigits (X.S+1)/\(X.cc f).t2=decDigits (X.S+2)
 low:∀ x,X.Data x->x<262144
 BM:∀ x,X.Data x->X.C.D x=true
 cx:∀ k∈X.keys,X.S+3<=X.sa k
 inj:∀ k∈X.keys,∀ k'∈X.keys,X.sa k=X.sa k'->k=k'
 apart:∀ a∈X.P.ba,∀ i,i<a.size->(∀ k∈X.keys,X.sa k≠X.aa a.name+i)/\¬ (X.S<=X.aa a.name+i/\X.aa a.name+i<=X.S+2)
 yE:∀ a∈X.P.ba,∀ b∈X.P.ba,∀ i j,i<a.size->j<b.size->X.aa a.name+i=X.aa b.name+j->a.name=b.name/\i=j
 rz:∀ a∈X.P.ba,X.aa a.name<1000000
 Wt:∀ a∈X.P.ba,∀ b∈X.P.ba,a.name=b.name->a.size=b.size
 body:∀ f∈X.P.funcs,mi (X.ib f) f.body=0/\Bj f.body
 fn:∀ f∈X.P.funcs,∀ name g,(X.ib f).fn name=some g->Xg X.P name∈X.P.funcs/\(Xg X.P name).name=name/\g.params=(Xg X.P name).params.length/\Xl (X.ib (Xg X.P name)) (Xg X.P name).body<=g.need/\Mj (X.ib (Xg X.P name)) (Xg X.P name).body<=g.depth
 A5:∀ f∈X.P.funcs,(∀ p∈f.params,jc f p∈X.keys/\(X.cc f).sc p=decDigits (X.sa (jc f p)))/\(f.params.map (jc f)).Nodup
 code:∀ f∈X.P.funcs,∃ nl,X.C.Code (X.fst f) (Sk (X.cc f) nl f).1
 wA:∀ (j n:Nat),X.C.W[j]? = some (za n++[58])->ya (za n++[58])=some (za n)
 jt:∀ (j n:Nat),X.C.W[j]? = some (38::za n)->Va (38::za n)=some (za n)
 Gj:∀ f∈X.P.funcs,ya ([102,95]++f.name++[58])=some ([102,95]++f.name)
 KA:∀ f∈X.P.funcs,Va ([38,102,95]++f.name)=some ([102,95]++f.name)
 label:∀ (j:Nat) (w x:Wd),X.C.W[j]? = some w->ya w=some x->Yk x X.C.W=some (X.C.zd (j+1))
structure Uf.Rel(X:Uf)(s:IS)(m:MS):Prop where
 ok:X.C.Ok m.mem
 sc:∀ k∈X.keys,m.mem (X.sa k)=s.sc k
 ar:∀ a∈X.P.ba,(s.ar a.name).length=a.size/\∀ i (h:i<(s.ar a.name).length),m.mem (X.aa a.name+i)=(s.ar a.name)[i]
 Ia:m.Ia=s.Ia
 out:m.out=s.out
theorem Uf.Rel.same{s s':IS}(h:X.Rel s m)(h1:m'.mem=m.mem)(h2:m'.Ia=m.Ia)(h3:m'.out=m.out)(k1:s'.sc=s.sc)(k2:s'.ar=s.ar)(k3:s'.Ia=s.Ia)(k4:s'.out=s.out):X.Rel s' m':=
 ⟨by rw[h1];exact h.ok,by rw[h1,k1];exact h.sc,by rw[h1,k2];exact h.ar,by rw[h2,k3];exact h.Ia,by rw[h3,k4];exact h.out⟩
theorem Uf.ak(hX:oe X){mem:Nat->Nat}(h:X.C.Ok mem){x:Nat}(hx:X.Data x):X.C.Ok (λi=>if i=x then v else mem i):=trivial
theorem Uf.Rel.Bz(hX:oe X){s:IS}(h:X.Rel s m){x:Nat}(hx:X.S<=x/\x<=X.S+2)(h1:m'.mem=λi=>if i=x then v else m.mem i)(h2:m'.Ia=m.Ia)(h3:m'.out=m.out):X.Rel s m':=by refine⟨by rw[h1];exact X.ak hX h.ok (.inr (.inl hx)),λk hk=>?_,λa ha=>?_,by rw[h2];exact h.Ia,by rw[h3];exact h.out⟩;rw[h1];simp only;have:=hX.cx k hk;rw[zn (by omega)];exact h.sc k hk;obtain⟨e1,e2⟩:=h.ar a ha;refine⟨e1,λi hi=>?_⟩;rw[h1];simp only;have:=(hX.apart a ha i ga).2;rw[zn (λh=>this (by rw[h];exact hx))];exact e2 i hi
theorem Uf.Rel.VF(hX:oe X){s:IS}(h:X.Rel s m){k:Nm}(hk:k∈X.keys)(h1:m'.mem=λi=>if i=X.sa k then v else m.mem i)(h2:m'.Ia=m.Ia)(h3:m'.out=m.out):X.Rel (Yf s k v) m':=by
 refine⟨by rw[h1];exact X.ak hX h.ok (.inl ⟨k,hk,rfl⟩),λk' Dp=>?_,λa ha=>?_,by rw[h2];exact h.Ia,by rw[h3];exact h.out⟩;rw[h1];unfold Yf;simp only
 by_cases he:k'=k;subst he;rw[zp rfl,zp rfl];rw[zn λh=>he (hX.inj _ Dp _ hk h),zn he];exact h.sc k' Dp;obtain⟨e1,e2⟩:=h.ar a ha;refine⟨e1,λi hi=>?_⟩;rw[h1];simp only;have Dx:i<(s.ar a.name).length:=hi;have:=(hX.apart a ha i ga).1 k hk;rw[zn (λh=>this h.symm)];exact e2 i Dx
theorem Uf.Rel.elem(hX:oe X){s:IS}(h:X.Rel s m){a:Ar}(ha:a∈X.P.ba)(hi:i<(s.ar a.name).length)(h1:m'.mem=λx=>if x=X.aa a.name+i then v else m.mem x)(h2:m'.Ia=m.Ia)(h3:m'.out=m.out) :
  X.Rel { s with ar:=λx=>if x=a.name then (s.ar a.name).set i v else s.ar x } m':=by
 have hs:=(h.ar a ha).1;refine⟨by rw[h1];exact X.ak hX h.ok (.inr (.inr ⟨a,ha,i,by omega,rfl⟩)),λk' Dp=>?_,λb hb=>?_,by rw[h2];exact h.Ia,by rw[h3];exact h.out⟩;rw[h1];simp only;rw[zn ((hX.apart a ha i (by omega)).1 k' Dp)];exact h.sc k' Dp;obtain⟨e1,e2⟩:=h.ar b hb
 by_cases he:b.name=a.name;have AH:=hX.Wt b hb a ha he;simp only[he,if_true,List.length_set];refine⟨by omega,λj hj=>?_⟩;rw[h1];simp only
 by_cases Gc:j=i;subst Gc;rw[zp rfl,List.getElem_set_self];rw[zn (by omega),List.getElem_set_ne (λh=>Gc h.symm)];exact(h.ar a ha).2 j hj;simp only[he,if_false];refine⟨e1,λj hj=>?_⟩;rw[h1];simp only;rw[zn (λh=>he (hX.yE b hb a ha j i (by omega) (by omega) h).1)];exact e2 j hj
structure Uf.Vw(X:Uf)(s:IS)(i:Nat)(d:List Nat)(c:List (List Wd))(m:MS):Prop where
 here:X.C.At m i
 rel:X.Rel s m
 data:m.data=d
 calls:m.calls=c
theorem Uf.Vw.cast{s:IS}{j:Nat}{c:List (List Wd)}(v:X.Vw s i d c m)(h:i=j):X.Vw s j d c m:=h▸v
section
variable{X:Uf}{s:IS}{i:Nat}{d:List Nat}{c:List (List Wd)}{m:MS}
theorem Uf.Vw.steps(v:X.Vw s i d c m)(l:Nat):X.Vw { s with left:=l } i d c m:=⟨v.here,v.rel.same rfl rfl rfl rfl rfl rfl rfl,v.data,v.calls⟩
theorem Uf.Vw.num(v:X.Vw s i d c m){n k:Nat}(hw:X.C.W[i]? = some (decDigits n))(hn:n<4294967296)(hl:(decDigits n).length+1<=k)(hd:d.length<256):∃ m',Nf X.C k m m'/\X.Vw s (i+1) (n::d) c m'/\m'.mem=m.mem:=
 ⟨_,PW.num v.here hw hn (by rw[v.data];exact hd) hl,⟨PW.Gh rfl,v.rel.same rfl rfl rfl rfl rfl rfl rfl,by simp only;rw[v.data],v.calls⟩,rfl⟩
theorem N5(h:n<1000000):(decDigits n).length+1<=7:=by have:=RE 5 n h;omega
theorem Uf.Vw.addr(v:X.Vw s i d c m)(hw:X.C.W[i]? = some (decDigits n))(hn:n<1000000)(hd:d.length<256):∃ m',Nf X.C 7 m m'/\X.Vw s (i+1) (n::d) c m'/\m'.mem=m.mem:=v.num hw ga (N5 hn) hd
theorem qn4(h:n<10):decDigits n=[UInt8.ofNat (48+n)]:=by rw[decDigits,dif_pos h]
theorem Uf.Vw.Px(v:X.Vw s i d c m)(hw:X.C.W[i]? = some w)(hn:n<10)(he:w=[UInt8.ofNat (48+n)])(hd:d.length<256):∃ m',Nf X.C 2 m m'/\X.Vw s (i+1) (n::d) c m'/\m'.mem=m.mem:=by rw[he,<-qn4 hn] at hw;exact v.num hw ga (by rw[qn4 hn];exact Pb 2) hd
theorem Uf.Vw.load{a:Nat}(v:X.Vw s i (a::d) c m)(hw:X.C.W[i]? = some [64])(ha:X.C.D a=true)(hd:d.length<256):∃ m',Nf X.C 1 m m'/\X.Vw s (i+1) (m.mem a::d) c m'/\m'.mem=m.mem:=
 ⟨_,PW.load v.here hw v.data ha hd,⟨X.C.OC _ _ _,v.rel.same rfl rfl rfl rfl rfl rfl rfl,rfl,v.calls⟩,rfl⟩
theorem Uf.Vw.op{a b x:Nat}{ch:UInt8}(v:X.Vw s i (b::a::d) c m)(hw:X.C.W[i]? = some [ch])(ho:tc ch)(hv:Hd ch.toNat a b=some x)(hd:d.length<256):∃ m',Nf X.C 1 m m'/\X.Vw s (i+1) (x::d) c m'/\m'.mem=m.mem:=
 ⟨_,PW.op v.here ho hw v.data hv hd,⟨X.C.OC _ _ _,v.rel.same rfl rfl rfl rfl rfl rfl rfl,rfl,v.calls⟩,rfl⟩
theorem Uf.Vw.Bz(hX:oe X){a x:Nat}(v:X.Vw s i (a::x::d) c m)(hw:X.C.W[i]? = some [33])(ha:X.S<=a/\a<=X.S+2):∃ m',Nf X.C 1 m m'/\X.Vw s (i+1) d c m'/\m'.mem=λy=>if y=a then x else m.mem y:=
 ⟨_,PW.store v.here hw v.data (hX.BM a (.inr (.inl ha))),⟨PW.Gh rfl,v.rel.Bz hX ha rfl rfl rfl,rfl,v.calls⟩,rfl⟩
theorem Uf.Vw.VF(hX:oe X){k:Nm}{x:Nat}(hk:k∈X.keys)(v:X.Vw s i (X.sa k::x::d) c m)(hw:X.C.W[i]? = some [33]):∃ m',Nf X.C 1 m m'/\X.Vw (Yf s k x) (i+1) d c m':=
 ⟨_,PW.store v.here hw v.data (hX.BM _ (.inl ⟨k,hk,rfl⟩)),⟨PW.Gh rfl,v.rel.VF hX hk rfl rfl rfl,rfl,v.calls⟩⟩
theorem Uf.Vw.read(v:X.Vw s i d c m)(hw:X.C.W[i]? = some [44])(hd:d.length<256):∃ m',Nf X.C 1 m m'/\X.Vw { s with Ia:=s.Ia.tail } (i+1) (s.Ia.headD 4294967295::d) c m':=by refine⟨_,PW.read v.here hw (by rw[v.data];exact hd),⟨PW.Gh rfl,⟨v.rel.ok,v.rel.sc,v.rel.ar,?_,v.rel.out⟩,?_,v.calls⟩⟩;simp only;rw[v.rel.Ia];simp only[PW.put];rw[v.rel.Ia,v.data]
theorem Uf.Vw.write{x:Nat}(v:X.Vw s i (x::d) c m)(hw:X.C.W[i]? = some [46]):∃ m',Nf X.C 1 m m'/\X.Vw { s with out:=s.out++[UInt8.ofNat x] } (i+1) d c m':=by refine⟨_,PW.write v.here hw v.data,⟨PW.Gh rfl,⟨v.rel.ok,v.rel.sc,v.rel.ar,v.rel.Ia,?_⟩,rfl,v.calls⟩⟩;simp only;rw[v.rel.out]
theorem Uf.Vw.fz(hX:oe X){f:yb}(hf:f∈X.P.funcs)(v:X.Vw s i (b::a::d) c m)(hc:X.C.Code i (Om (X.cc f)))(hd:d.length+3<=256):∃ m',Nf X.C 33 m m'/\X.Vw s (i+9) (sf (decide (b<a))::d) c m':=by
 obtain⟨_,t1,t2⟩:=hX.qy f hf;unfold Om at hc;rw[t1,t2] at hc;have hS:X.S+2<262144:=hX.low _ (.inr (.inl ⟨by omega,by omega⟩));obtain⟨w0,hc⟩:=hc.cons;obtain⟨w1,hc⟩:=hc.cons;obtain⟨w2,hc⟩:=hc.cons;obtain⟨w3,hc⟩:=hc.cons;obtain⟨w4,hc⟩:=hc.cons;obtain⟨w5,hc⟩:=hc.cons;obtain⟨w6,hc⟩:=hc.cons;obtain⟨w7,hc⟩:=hc.cons;obtain⟨w8,hc⟩:=hc.cons;obtain⟨m1,s1,v1,e1⟩:=v.addr w0 ga (by simp only[Ma];omega);obtain⟨m2,s2,v2,e2⟩:=v1.Bz hX w1 ⟨by omega,by omega⟩;obtain⟨m3,s3,v3,e3⟩:=v2.addr w2 ga (by simp only[Ma];omega);obtain⟨m4,s4,v4,e4⟩:=v3.Bz hX w3 ⟨by omega,by omega⟩;obtain⟨m5,s5,v5,e5⟩:=v4.addr w4 ga ga;obtain⟨m6,s6,v6,e6⟩:=v5.load w5 (hX.BM _ (.inr (.inl ⟨by omega,by omega⟩))) ga;obtain⟨m7,s7,v7,e7⟩:=v6.addr w6 ga (by simp only[Ma];omega);obtain⟨m8,s8,v8,e8⟩:=v7.load w7 (hX.BM _ (.inr (.inl ⟨by omega,by omega⟩))) (by simp only[Ma];omega);have q1:m5.mem (X.S+2)=b:=by rw[e5,e4];simp only;rw[zn (by omega),e3,e2];simp
 have q2:m7.mem (X.S+1)=a:=by rw[e7,e6,e5,e4];simp
 rw[q1] at v6 v7 v8;rw[q2] at v8;obtain⟨m9,s9,v9,_⟩:=v8.op (x:=sf (decide (b<a))) w8 (by unfold tc;simp) (by
  unfold Hd sf;simp) ga
 exact⟨m9,(s1.trans (s2.trans (s3.trans (s4.trans (s5.trans (s6.trans (s7.trans (s8.trans s9)))))))).mono ga,v9⟩
end
theorem XQ{A:Type}(g:A->IS->IR Nat)(x:A)(s:IS):Nk g [x] s=(g x s).bind λv s=>.ok [v] s:=by unfold Nk;cases g x s <;> rfl
theorem qw4{A:Type}(g:A->IS->IR Nat)(x y:A)(s:IS):Nk g [x,y] s=(g x s).bind λa s=>(g y s).bind λb s=>.ok [a,b] s:=by
 unfold Nk;cases g x s with
 |stop e s=>rfl
 |ok a s=>show(Nk g [y] s).bind _=(g y s).bind _;rw[XQ];try cases g y s <;> rfl
section
variable{X:Uf}{n:Nat}
theorem EI(a b:Nat):(if a<b then 1 else 0)=sf (decide (a<b)):=by unfold sf;simp
theorem xor_zero:a ^^^ b<1 ↔ a=b:=by
 constructor;intro h;have h0:a ^^^ b=0:=by omega
 exact Nat.eq_of_testBit_eq λj=>by have h2:=congrArg (λx=>x.testBit j) h0;simp only[Nat.testBit_xor,Nat.zero_testBit] at h2;revert h2;cases a.testBit j <;> cases b.testBit j <;> simp
 rintro rfl;rw[Nat.xor_self];decide
theorem qmX:∀ (ns:List Nat) (i m B:Nat),Mz i ns m<=B->m<=B/\∀ k (h:k<ns.length),i+k+ns[k]<=B
 |[],i,m,B,h=>⟨h,λk hk=>by cases hk⟩
 |a::ns,i,m,B,h=>by
  rw[Mz] at h;obtain⟨h1,h2⟩:=qmX ns (i+1) _ B h;refine⟨by omega,λk hk=>?_⟩
  cases k with
  |zero=>simp only[List.getElem_cons_zero];omega
  |succ k=>have:=h2 k (by simpa using hk);simp only[List.getElem_cons_succ];omega
theorem qlu(c:Cb):∀ (l:List Ex),(zh c l).length=l.length/\∀ k (h:k<l.length) (h2:k<(zh c l).length),(zh c l)[k]=Sf c l[k]
 |[]=>⟨by simp[zh],λk h=>by cases h⟩
 |x::l=>by
  obtain⟨h1,h2⟩:=qlu c l;refine⟨by simp[zh,h1],λk hk fi=>?_⟩
  cases k with
  |zero=>simp[zh]
  |succ k=>simp only[zh,List.getElem_cons_succ];exact h2 k (by simpa using hk) _
end
theorem qxO(b:Bool):sf b<=1:=by unfold sf;split <;> omega
theorem qqz{op:Nm}(h:ug op=2):op∈Fw/\op≠Af/\op≠bg/\op≠Vj/\op≠Ng/\op≠yg/\op≠tg:=by unfold ug at h;split at h;cases h;rename_i h1;split at h;cases h;rename_i h2;split at h;cases h;rename_i h3;split at h;rename_i h4;exact⟨h4,λe=>h1 (.inl e),λe=>h1 (.inr e),λe=>h2 (.inl e),λe=>h2 (.inr (.inl e)),λe=>h2 (.inr (.inr e)),h3⟩;cases h
theorem qzI(P:Pr)(g:yb->Sm->IS->IR (Option Nat))(f:yb){op:Nm}(h:op∈Fw)(num:Nat)(name:Nm)(a b:Nat)(s:IS):JG P g f op num name [a,b] s=match Ij op a b with
  |some r=>.ok r s
  |none=>.stop 12 s:=by
 simp only[Fw,Dc,not_mem_nil,or_false] at h;rcases h with rfl|rfl|rfl|rfl|rfl|rfl|rfl|rfl|rfl|rfl|rfl|rfl|rfl|rfl <;> rfl
theorem qqK:∀ (ns:List Nat) (i m:Nat),m<=Mz i ns m
 |[],i,m=>Pb _
 |a::ns,i,m=>by rw[Mz];have:=qqK ns (i+1) (max m (i+a));omega
theorem FN(c:Cb):∀ e:Ex,Gf c e=0->1<=Sf c e
 |.mk op num name args,h=>by
  rw[Gf] at h;split at h
  case isFalse=>cases h
  rename_i ld;obtain⟨h1,h2⟩:=Tc.1 h;rw[Sf];unfold UC;split;omega;split;omega;split;rename_i hc;subst hc;have Ze:Qc c name args.length=0:=h2;unfold aB;split;omega;rename_i k1;split;rename_i k2;unfold Qc at Ze;rw[zn k1,zp k2] at Ze;split at Ze;rename_i hl;obtain⟨x,rfl⟩:=nw hl;rw[vg] at h1;have:=FN c x (Tc.1 h1).1;rw[zh];exact this;cases Ze;rename_i k2;unfold Qc at Ze;rw[zn k1,zn k2] at Ze;split;rename_i g hg;have:=qqK (zh c args) 0 (max (g.params+1) g.need);omega;rename_i hg;rw[hg] at Ze;simp only at Ze;split at Ze <;> cases Ze
  repeat' split
  all_goals omega
section
variable{X:Uf}{n:Nat}
end
def p9(X:Uf)(j:Nat)(d:List Nat)(t:List Wd)(rest:List (List Wd)):Option Nat->IS->MS->Prop
 |none,s',m'=>X.Vw s' j d (t::rest) m'
 |some v,s',m'=>m'.pc=t/\m'.digit=false/\X.Rel s' m'/\m'.data=v::d/\m'.calls=rest
section
variable{X:Uf}{n:Nat}
section
variable{s:IS}{i j:Nat}{d:List Nat}{c:List (List Wd)}{m:MS}
theorem Uf.Vw.branch(hX:oe X)(v:X.Vw s i (a::d) c m)(hc:X.C.Code i [38::za k,[63]])(hj:X.C.W[j]? = some (za k++[58]))(hd:d.length+2<=256):∃ m',Nf X.C 8 m m'/\X.Vw s (if a=0 then j+1 else i+2) d c m':=by obtain⟨w0,hc⟩:=hc.cons;obtain⟨w1,_⟩:=hc.cons;have h1:=hX.wA j k hj;have t2:=PW.jump v.here w0 w1 (hX.jt _ _ w0) (hX.label j _ _ hj h1) v.data ga;by_cases ha:a=0;subst ha;rw[zp rfl] at t2 ⊢;exact⟨_,t2,⟨PW.Gh rfl,v.rel.same rfl rfl rfl rfl rfl rfl rfl,rfl,v.calls⟩⟩;rw[zn ha] at t2 ⊢;exact⟨_,t2,⟨PW.Gh rfl,v.rel.same rfl rfl rfl rfl rfl rfl rfl,rfl,v.calls⟩⟩
theorem Uf.Vw.goto(hX:oe X)(v:X.Vw s i d c m)(hc:X.C.Code i [[48],38::za k,[63]])(hj:X.C.W[j]? = some (za k++[58]))(hd:d.length+2<=256):∃ m',Nf X.C 10 m m'/\X.Vw s (j+1) d c m':=by obtain⟨w0,hc⟩:=hc.cons;obtain⟨m1,t1,v1,_⟩:=v.Px (n:=0) w0 ea rfl ga;obtain⟨m2,t2,v2⟩:=v1.branch hX hc hj hd;rw[zp rfl] at v2;exact⟨m2,(t1.trans t2).mono ga,v2⟩
theorem Uf.Vw.pass(v:X.Vw s i d c m)(hw:X.C.W[i]? = some w)(hd:ya w=some x):X.Vw s (i+1) d c m:=⟨PW.lU v.here hw hd,v.rel,v.data,v.calls⟩
end
theorem qrD(s:IS){k k':Nm}(h:k≠k')(v v':Nat):Yf (Yf s k v) k' v'=Yf (Yf s k' v') k v:=by unfold Yf;congr 1;funext x;by_cases h1:x=k;subst h1;simp[h];simp[h1]
theorem qlL(g:yb):∀ (ps:List Nm) (vs:List Nat) (s:IS) (k:Nm) (v:Nat),k ∉ ps.map (jc g)->Wq g ps vs (Yf s k v)=Yf (Wq g ps vs s) k v
 |[],vs,s,k,v,_=>by cases vs <;> rfl
 |p::ps,[],s,k,v,_=>rfl
 |p::ps,w::vs,s,k,v,h=>by rw[yd,Dc,not_or] at h;rw[Wq,Wq,qrD s h.1,qlL g ps vs _ k v h.2]
theorem qk9(g:yb):∀ (ps:List Nm) (vs:List Nat) (s:IS) (p:Nm) (v:Nat),ps.length=vs.length->Wq g (ps++[p]) (vs++[v]) s=Yf (Wq g ps vs s) (jc g p) v
 |[],[],s,p,v,_=>rfl
 |q::ps,w::vs,s,p,v,h=>by rw[cons_append,cons_append,Wq,Wq,qk9 g ps vs _ p v (by simpa using h)]
theorem qlk(g:yb):∀ (ps:List Nm) (vs:List Nat) (s:IS),(Wq g ps vs s).left=s.left
 |[],vs,s=>by cases vs <;> rfl
 |p::ps,[],s=>rfl
 |p::ps,w::vs,s=>by rw[Wq,qlk g ps vs];try rfl
theorem quf(hX:oe X){g:yb}:∀ (k:Nat) (ps:List Nm) (vs:List Nat) (i:Nat) (s:IS) (d:List Nat) (c:List (List Wd)) (m:MS),ps.length=k->ps.length=vs.length->(∀ p∈ps,jc g p∈X.keys/\(X.cc g).sc p=decDigits (X.sa (jc g p)))->(ps.map (jc g)).Nodup->X.C.Code i (ps.reverse.flatMap λp=>[(X.cc g).sc p,[33]])->X.Vw s i (vs.reverse++d) c m->d.length+ps.length+1<=256 ->
  ∃ m',Nf X.C (8 * ps.length) m m'/\X.Vw (Wq g ps vs s) (i+(ps.reverse.flatMap λp=>[(X.cc g).sc p,[33]]).length) d c m'
 |0,ps,vs,i,s,d,c,m,hk,hl,_,_,_,v,_=>by obtain rfl:=eq_nil_of_length_eq_zero hk;obtain rfl:vs=[]:=eq_nil_of_length_eq_zero (by rw[<-hl];try rfl);exact⟨m,.refl _,v⟩
 |k+1,ps,vs,i,s,d,c,m,hk,hl,hp,Bh,hc,v,hd=>by
  have xb:ps≠[]:=λh=>by rw[h] at hk;cases hk
  have hnv:vs≠[]:=λh=>by rw[h] at hl;rw[hk] at hl;cases hl
  have e1:=(List.dropLast_concat_getLast xb).symm;have e2:=(List.dropLast_concat_getLast hnv).symm;generalize ps.dropLast=x5 at e1;generalize ps.getLast xb=p at e1;generalize vs.dropLast=EE at e2;generalize vs.getLast hnv=w at e2;subst e1 e2;rw[Ga,length_singleton] at hk hd;rw[Ga,Ga,length_singleton,length_singleton] at hl;rw[List.reverse_append] at hc v ⊢;simp only[List.reverse_cons,List.reverse_nil,nil_append,cons_append,List.flatMap_cons] at hc v ⊢;rw[Te,List.map_singleton] at Bh;obtain⟨n1,n2,n3⟩:=On Bh;obtain⟨q1,q2⟩:=hp p (by simp);rw[q2] at hc;obtain⟨w0,hc⟩:=hc.cons;obtain⟨w1,hc⟩:=hc.cons;have PS:=hX.low _ (.inl ⟨_,q1,rfl⟩);obtain⟨m1,t1,v1,_⟩:=v.addr w0 ga (by simp only[Ma,Ga,List.length_reverse];omega);obtain⟨m2,t2,v2⟩:=v1.VF hX q1 w1;obtain⟨m3,t3,v3⟩:=quf hX k x5 EE (i+1+1) (Yf s (jc g p) w) d c m2 ga ga (λx hx=>hp x (by simp[hx])) n1 hc v2 ga;refine⟨m3,(t1.trans (t2.trans t3)).mono (by rw[Ga,length_singleton];omega),?_⟩;rw[qk9 g x5 EE s p w (by omega),<-qlL g x5 EE s (jc g p) w (λh=>n3 _ h _ (Sq rfl) rfl)];exact v3.cast (by simp only[Ma];omega)
end
section
variable{X:Uf}{n:Nat}
theorem Uf.Vw.elem(hX:oe X){s:IS}{i:Nat}{d:List Nat}{c:List (List Wd)}{m:MS}{A:Ar}(hA:A∈X.P.ba){j x:Nat}(v:X.Vw s i ((X.aa A.name+j)::x::d) c m)(hj:j<(s.ar A.name).length)(hw:X.C.W[i]? = some [33]):∃ m',Nf X.C 1 m m'/\X.Vw { s with ar:=λy=>if y=A.name then (s.ar A.name).set j x else s.ar y } (i+1) d c m':=
 ⟨_,PW.store v.here hw v.data (hX.BM _ (.inr (.inr ⟨A,hA,j,by have:=(v.rel.ar A hA).1;omega,rfl⟩))),⟨PW.Gh rfl,v.rel.elem hX hA hj rfl rfl rfl,rfl,v.calls⟩⟩
theorem nQ(c:CC)(n:Nat)(kind:Int)(name:Nm)(index value:List Ex)(Ua Bb:List Sm):Ig c n (.mk kind name index value Ua Bb) =
  if kind=1 then (Qb c (value.headD default)++[c.sc name,[33]],n)
  else if kind=2 then (Qb c (value.headD default)++c.ar name::(Qb c (index.headD default)++[[43],[33]]),n)
  else if kind=3 then
   (match Bb with
   |[]=>(Qb c (value.headD default)++[38::za n,[63]]++(Pa c (n+1) Ua).1++[za n++[58]],(Pa c (n+1) Ua).2)
   |_::_=>(Qb c (value.headD default)++[38::za n,[63]]++(Pa c (n+2) Ua).1++[[48],38::za (n+1),[63],za n++[58]]++(Pa c (Pa c (n+2) Ua).2 Bb).1++[za (n+1)++[58]],(Pa c (Pa c (n+2) Ua).2 Bb).2))
  else if kind=4 then ([za n++[58]]++Qb c (value.headD default)++[38::za (n+1),[63]]++(Pa c (n+2) Ua).1++[[48],38::za n,[63],za (n+1)++[58]],(Pa c (n+2) Ua).2)
  else if kind=5 then (Qb c (value.headD default)++[[59]],n)
  else if kind=6 then (Qb c (value.headD default)++[c.t0,[33]],n)
  else if kind=7 then ([[36]],n)
  else ([],n):=by
 rw[Ig.eq_def];try rfl
theorem qyA{A:Type}{l:List A}(h:l.length=1):∃ x,l=[x]:=nw h
end
def V0(n:Nat)(c:UInt8):Prop:=n=0/\(c=43∨c=45∨c=94)∨n=1/\(c=42∨c=47)
inductive Kind (la:Wd->Bool):List Wd->List Wd->List Wd->Prop
 |fold {x y op z:Wd} {rest:List Wd}:Mk x op y=some z->Kind la (x::y::op::rest) [z] rest
 |neutral {x:Wd} {n:Nat} {c:UInt8} {rest:List Wd}:Db x=some n->V0 n c->Kind la (x::[c]::rest) [] rest
 |bh {x y z:Wd} {c:UInt8} {rest:List Wd}:(c=43∨c=42∨c=94)->Mk x [c] y=some z->Kind la (x::[c]::y::[c]::rest) [z,[c]] rest
 |same {x:Wd} {n:Nat} {rest:List Wd}:Db x=some n->Kind la (x::[64]::x::[33]::rest) [] rest
 |double {w l:Wd} {rest:List Wd}:Va w=some l->Kind la ([49]::[60]::[49]::[60]::w::[63]::rest) [w,[63]] rest
 |never {x w l:Wd} {n:Nat} {rest:List Wd}:Db x=some n->n≠0->Va w=some l->Kind la (x::w::[63]::rest) [] rest
 |next {w l:Wd} {rest:List Wd}:Va w=some l->vu l rest=true->Kind la ([48]::w::[63]::rest) [] rest
 |sq {w l:Wd} {dead rest:List Wd}:Va w=some l->(∀ y∈dead,ya y=none)->(∀ y r,rest=y::r->(ya y).isSome=true)->Kind la ([48]::w::[63]::(dead++rest)) [[48],w,[63]] rest
 |uo {c:UInt8} {dead rest:List Wd}:(c=59∨c=36)->(∀ y∈dead,ya y=none)->(∀ y r,rest=y::r->(ya y).isSome=true)->Kind la ([c]::(dead++rest)) [[c]] rest
 |unused {w l:Wd} {rest:List Wd}:ya w=some l->la l=false->Kind la (w::rest) [] rest
theorem nr:Db [48]=some 0:=by decide +kernel
theorem eG:Db [49]=some 1:=by decide +kernel
theorem qlv(l:List Wd):∃ dead rest,l=dead++rest/\dead.length=zr l/\(∀ y∈dead,ya y=none)/\(∀ y r,rest=y::r->(ya y).isSome=true):=by
 refine⟨l.takeWhile λw=>(ya w).isNone,l.dropWhile λw=>(ya w).isNone,(List.takeWhile_append_dropWhile).symm,rfl,λy hy=>?_,λy r h=>?_⟩
 have:(ya y).isNone=true:=by
  have key:∀ {p:Wd->Bool} {l:List Wd} {x:Wd},x∈l.takeWhile p->p x=true:=by
   intro p l;induction l with
   |nil=>intro x hx;simp at hx
   |cons a r ih=>intro x hx;rw[List.takeWhile_cons] at hx;split at hx;rename_i hp;rcases Dc.1 hx with rfl|hx;exact hp;exact ih hx;simp at hx
  exact key (p:=λw=>(ya w).isNone) hy
 cases h:ya y with
 |none=>rfl
 |some x=>rw[h] at this;cases this
 have h2:=List.head?_dropWhile_not (λw=>(ya w).isNone) l;rw[h] at h2;simp only[List.head?_cons] at h2
 cases hd:ya y with
 |none=>rw[hd] at h2;simp at h2
 |some x=>rfl
theorem quE(la:Wd->Bool)(v:List Wd)(h:(Se la v).1≠0):Kind la v (Se la v).2 (v.drop (Se la v).1):=by
 by_cases h1:∃ s,Fo v=some s;obtain⟨s,h1⟩:=h1;rw[SU h1];have Ka:=Br (HG h1).2.1;match v,Ka,h1 with
 |a::b::c::r,_,h1=>exact .fold h1
 have h1:Fo v=Option.none:=by
  cases h:Fo v with
  |none=>rfl
  |some s=>exact absurd ⟨s,h⟩ h1
 by_cases h2:Yv v;rw[ZU h1 h2];have Ka:1<v.length:=Br (by
  rcases h2 with⟨_,h|h|h⟩|⟨_,h|h⟩ <;> (rw[h];decide))
 match v,Ka,h2 with
 |a::b::r,_,h2=>have h2:a=[48]/\(b=[43]∨b=[45]∨b=[94])∨a=[49]/\(b=[42]∨b=[47]):=h2;rcases h2 with⟨rfl,rfl|rfl|rfl⟩|⟨rfl,rfl|rfl⟩;exact .neutral nr (.inl ⟨rfl,.inl rfl⟩);exact .neutral nr (.inl ⟨rfl,.inr (.inl rfl)⟩);exact .neutral nr (.inl ⟨rfl,.inr (.inr rfl)⟩);exact .neutral eG (.inr ⟨rfl,.inl rfl⟩);exact .neutral eG (.inr ⟨rfl,.inr rfl⟩)
 by_cases h3:xn v/\∃ s,ur v=some s;obtain⟨h3,s,h4⟩:=h3;rw[VU h1 h2 h3 h4];have h5:na v 3≠[]:=by rw[h3.2];exact(HG h4).2.1
 have Ka:=Br h5;match v,Ka,h3,h4 with
 |a::b::c::e::r,_,h3,h4=>obtain⟨k1,k2⟩:=h3;have k1:b=[43]∨b=[42]∨b=[94]:=k1;have k2:e=b:=k2;subst k2;have h4:Mk a e c=some s:=h4;rcases k1 with rfl|rfl|rfl;exact .bh (.inl rfl) h4;exact .bh (.inr (.inl rfl)) h4;exact .bh (.inr (.inr rfl)) h4
 have h3:¬ xn v∨ur v=Option.none:=by by_cases hc:xn v;exact yF;exact .inl hc
 by_cases h4:Cy v;rw[LU h1 h2 h3 h4];have Ka:3<v.length:=Br (by rw[h4.2.2.2];decide);match v,Ka,h4 with
 |a::b::c::e::r,_,h4=>obtain⟨k1,k2,k3,k4⟩:=h4;have k1:(Db a).isSome=true:=k1;have k2:b=[64]:=k2;have k3:c=a:=k3;have k4:e=[33]:=k4;obtain⟨n,hn⟩:=zR k1;rw[k2,k3,k4];exact .same hn
 by_cases h5:Zz v;rw[NU h1 h2 h3 h4 h5];obtain⟨l,hl⟩:=zR h5.1;have h6:=BB hl;match v,h6,h5,hl with
 |a::b::c::e::f::g::r,_,h5,hl=>obtain⟨_,k2,k3,k4,k5⟩:=h5;have k2:a=[49]:=k2;have k3:b=[60]:=k3;have k4:c=[49]:=k4;have k5:e=[60]:=k5;subst k2 k3 k4 k5;unfold mn at hl;split at hl;rename_i x hx;split at hl;rename_i hy;have hx:Va f=some x:=hx;have hy:g=[63]:=hy;subst hy;exact .double hx;cases hl;cases hl
 have jk:∀ {v:List Wd} {l:Wd},mn v 1=some l->∃ a w r,v=a::w::[63]::r/\Va w=some l:=by
  intro v l hl;have h6:=BB hl;match v,h6,hl with
  |a::b::c::r,_,hl=>unfold mn at hl;split at hl;rename_i x hx;split at hl;rename_i hy;have hx:Va b=some x:=hx;have hy:c=[63]:=hy;subst hy;injection hl with hl;subst hl;exact⟨_,_,_,rfl,hx⟩;cases hl;cases hl
 cases h6:Ey v with
 |true=>
  rw[QU h1 h2 h3 h4 h5 h6];unfold Ey at h6;split at h6;rename_i n hn;have h7:n≠0/\(mn v 1).isSome=true:=by simpa using h6
  obtain⟨l,hl⟩:=zR h7.2;obtain⟨a,w,r,rfl,hw⟩:=jk hl;exact .never hn h7.1 hw;cases h6
 |false=>
  cases h7:Oz v with
  |true=>
   rw[UU h1 h2 h3 h4 h5 h6 h7];unfold Oz at h7;split at h7
   ·rename_i l hl
    obtain⟨a,w,r,rfl,hw⟩:=jk hl;have h8:a=[48]/\vu l r=true:=by simpa [na] using h7
    obtain⟨rfl,h8⟩:=h8;exact .next hw h8
   cases h7
  |false=>
   by_cases h8:KE v;rw[PU h1 h2 h3 h4 h5 h6 h7 h8];obtain⟨k1,k2⟩:=h8;simp only;unfold uk at k1 k2 ⊢;split at k1;rename_i hj;rw[zp hj] at k2 ⊢;obtain⟨l,hl⟩:=zR hj.1;obtain⟨a,w,r,rfl,hw⟩:=jk hl;have ha:a=[48]:=hj.2;subst ha;obtain⟨dead,rest,e1,e2,e3,e4⟩:=qlv r;have hd:([48]::w::[63]::r).drop 3=r:=rfl;rw[hd,<-e2,e1];have h9:([48]::w::[63]::(dead++rest)).drop (3+dead.length)=rest:=by rw[add_comm,<-drop_drop];simp
   rw[h9];exact .sq hw e3 e4;rename_i hj;rw[zn hj] at k2 ⊢;split at k1;rename_i hs;rw[zp hs] at k2 ⊢;match v,hs,k2 with
   |[],hs,_=>rcases hs with h|h <;> (exact absurd h ea)
   |a::r,hs,k2=>
    have hs:a=[59]∨a=[36]:=hs;obtain⟨dead,rest,e1,e2,e3,e4⟩:=qlv r;have hd:(a::r).drop 1=r:=rfl;rw[hd,<-e2,e1];have h9:(a::(dead++rest)).drop (1+dead.length)=rest:=by rw[add_comm,<-drop_drop];simp
    rw[h9];rcases hs with rfl|rfl;exact .uo (.inl rfl) e3 e4;exact .uo (.inr rfl) e3 e4
   exact absurd k1 ea;rw[YU h1 h2 h3 h4 h5 h6 h7 h8] at h ⊢;unfold Xv at h ⊢;split at h;rename_i l hl;split at h;exact absurd rfl h;rename_i hu;rw[zn hu];match v,hl with
   |[],hl=>
    have h0:ya (na [] 0)=none:=by decide
    rw[h0] at hl;cases hl
   |a::r,hl=>have hl:ya a=some l:=hl;exact .unused hl (by simpa using hu)
   exact absurd rfl h
theorem CR(la:Wd->Bool):∀ (f:Nat) (v:List Wd),v.length<=f->Xk la f v=Xk la v.length v
 |0,v,h=>by obtain rfl:=eq_nil_of_length_eq_zero (Nat.le_zero.1 h);rfl
 |f+1,[],_=>rfl
 |f+1,w::r,h=>by
  simp only[Ma] at h ⊢;rw[Xk,Xk];split;rw[CR la f r (by omega)];rename_i h0;have:=wI la (w::r) h0;have hl:((w::r).drop (Se la (w::r)).1).length<=r.length:=by rw[length_drop,Ma];omega
  rw[CR la f _ (by omega),CR la r.length _ hl]
def O(la:Wd->Bool)(v:List Wd):List Wd:=Xk la v.length v
theorem jN(la:Wd->Bool)(w:Wd)(r:List Wd):(O la (w::r)=w::O la r/\(Se la (w::r)).1=0)∨∃ p rest,Kind la (w::r) p rest/\O la (w::r)=p++O la rest/\rest.length<=r.length:=by
 unfold O;rw[Ma,Xk];split;rename_i h;exact .inl ⟨rfl,h⟩;rename_i h;have Kc:=wI la (w::r) h;have hl:((w::r).drop (Se la (w::r)).1).length<=r.length:=by rw[length_drop,Ma];omega
 exact .inr ⟨_,_,quE la _ h,by rw[CR la r.length _ hl],hl⟩
theorem qiW(h:V0 n c):tc c:=by unfold tc;rcases h with⟨_,rfl|rfl|rfl⟩|⟨_,rfl|rfl⟩ <;> decide
theorem qsH{la:Wd->Bool}(hc:c=63∨c=58)(h:Kind la ([c]::r) p rest):False:=by
 have hn:Db [c]=none/\ya [c]=none:=by rcases hc with rfl|rfl <;> decide +kernel
 generalize hv:[c]::r=v at h;have hj:∀ {x op y z:Wd},Mk x op y=some z->Db x≠none:=λhj e=>by unfold Mk at hj;rw[e] at hj;cases hj
 cases h with
 |fold h1=>injection hv with e _;exact hj h1 (by rw[<-e];exact hn.1)
 |neutral h1 _=>injection hv with e _;rw[<-e,hn.1] at h1;cases h1
 |bh _ h1=>injection hv with e _;exact hj h1 (by rw[<-e];exact hn.1)
 |same h1=>injection hv with e _;rw[<-e,hn.1] at h1;cases h1
 |double _=>injection hv with e _;injection e with e _;rcases hc with rfl|rfl <;> exact absurd e ea
 |never h1 _ _=>injection hv with e _;rw[<-e,hn.1] at h1;cases h1
 |next _ _=>injection hv with e _;injection e with e _;rcases hc with rfl|rfl <;> exact absurd e ea
 |sq _ _ _=>injection hv with e _;injection e with e _;rcases hc with rfl|rfl <;> exact absurd e ea
 |uo h1 _ _=>injection hv with e _;injection e with e _;rw[<-e] at h1;rcases hc with rfl|rfl <;> exact absurd h1 ea
 |unused h1 _=>injection hv with e _;rw[<-e,hn.2] at h1;cases h1
theorem xQ(la:Wd->Bool)(hc:c=63∨c=58)(r:List Wd):O la ([c]::r)=[c]::O la r:=by rcases jN la [c] r with⟨h,_⟩|⟨p,rest,h,_⟩;exact h;exact(qsH hc h).elim
theorem qwn{la:Wd->Bool}(hw:Va w=some x)(h:Kind la (w::r) p rest):False:=by
 have hn:Db w=none/\ya w=none:=⟨gW hw,gu hw⟩;have hc:∀ c:UInt8,c≠38->w≠[c]:=λc h38 e=>by rw[e] at hw;unfold Va at hw;simp only[h38,false_and,if_false] at hw;cases hw
 generalize hv:w::r=v at h;have hj:∀ {x op y z:Wd},Mk x op y=some z->Db x≠none:=λhj e=>by unfold Mk at hj;rw[e] at hj;cases hj
 cases h with
 |fold h1=>injection hv with e _;exact hj h1 (by rw[<-e];exact hn.1)
 |neutral h1 _=>injection hv with e _;rw[<-e,hn.1] at h1;cases h1
 |bh _ h1=>injection hv with e _;exact hj h1 (by rw[<-e];exact hn.1)
 |same h1=>injection hv with e _;rw[<-e,hn.1] at h1;cases h1
 |double _=>injection hv with e _;exact hc 49 ea e
 |never h1 _ _=>injection hv with e _;rw[<-e,hn.1] at h1;cases h1
 |next _ _=>injection hv with e _;exact hc 48 ea e
 |sq _ _ _=>injection hv with e _;exact hc 48 ea e
 |uo h1 _ _=>injection hv with e _;rcases h1 with rfl|rfl;exact hc 59 ea e;exact hc 36 ea e
 |unused h1 _=>injection hv with e _;rw[<-e,hn.2] at h1;cases h1
theorem uU(la:Wd->Bool)(hw:Va w=some x)(r:List Wd):O la (w::r)=w::O la r:=by rcases jN la w r with⟨h,_⟩|⟨p,rest,h,_⟩;exact h;exact(qwn hw h).elim
inductive Ends (C:PW):Nat->MS->Nat->Wd->Nat->Prop
 |stop {s:MS} {e:Nat} {o:Wd}:Za C s=.stop e o->e≠99->Ends C 0 s e o 1
 |step {n k e:Nat} {o:Wd} {s s':MS}:Za C s=.run s'->Ends C n s' e o k->Ends C (n+1) s e o (Ri s+k)
theorem qxN{C:PW}(h:Uh C k s s')(hs:Za C s'=.stop e o)(he:e≠99):∃ n,Ends C n s e o (k+1):=by
 induction h with
 |zero s=>exact⟨0,.stop hs he⟩
 |@step k s s' s2 h1 _ ih=>obtain⟨n,h2⟩:=ih hs;refine⟨n+1,?_⟩;rw[add_assoc];exact .step h1 h2
section
variable{C:PW}{n k e:Nat}{o:Wd}{s s':MS}{r:List Wd}
theorem wG(h:Ends C n s e o k)(hs:Za C s=.run s'):∃ m j,n=m+1/\k=Ri s+j/\Ends C m s' e o j:=by
 cases h with
 |stop h1 _=>rw[h1] at hs;cases hs
 |step h1 h2=>rw[h1] at hs;injection hs with hs;subst hs;exact⟨_,_,rfl,rfl,h2⟩
theorem Fu(h:Ends C n s e o k){o':Wd}(hs:Za C s=.stop 99 o'):False:=by
 cases h with
 |stop h1 h2=>rw[h1] at hs;injection hs with hs;exact h2 hs
 |step h1 _=>rw[h1] at hs;cases hs
theorem P2{t:MS}{f:Bool}(h:Ends C n s e o k)(hs:Za C s=jn t r d v f)(ht:t.out=s.out):d.length<256/\∃ m j,n=m+1/\k=Ri s+j/\Ends C m { t with pc:=r,data:=v::d,digit:=f } e o j:=by unfold jn at hs;split at hs;rename_i hl;exact⟨hl,wG h hs⟩;exact(Fu h hs).elim
theorem dA(hw:Db w=some v)(hv:s.pc=w::r)(h:Ends C n s e o k):s.data.length<256/\∃ m j,n=m+1/\k=w.length+Go.ia.one s.digit+j/\Ends C m { s with pc:=r,data:=v::s.data,digit:=true } e o j:=by
 have h1:=P2 (t:=s) h (by rw[al hv,IK hw]) rfl;have hc:Ri s=w.length+Go.ia.one s.digit:=by unfold Ri;rw[hv];exact HK hw
 rw[hc] at h1;exact h1
theorem gN(hc:c∈Kl)(hv:s.pc=[c]::r):Ri s=1:=by unfold Ri;rw[hv];exact y3 hc
theorem kN(hc:tc c)(hv:s.pc=[c]::r)(hd:s.data=b::a::d)(hb:Hd c.toNat a b=some v)(h:Ends C n s e o k):∃ m j,n=m+1/\k=1+j/\Ends C m { s with pc:=r,data:=v::d,digit:=false } e o j:=by
 have h1:=P2 (t:=s) h (by
  rw[al hv,Ow (Ly hc),DQ hc];unfold El;rw[hd];simp only;rw[hb]) rfl
 rw[gN (Ly hc) hv] at h1;exact h1.2
theorem wW(hr:Va w=some l)(hv:s.pc=w::[63]::r)(hd:s.data=a::d)(h:Ends C n s e o k):∃ t,Yk l C.W=some t/\s.data.length<256/\∃ m j,n=m+1/\k=7+Go.ia.one s.digit+j/\Ends C m { s with pc:=if a=0 then t else r,data:=d,digit:=false } e o j:=by
 have hs:Za C s=Kz C s l ([63]::r):=by rw[al hv,yG hr]
 have hc:Ri s=7+Go.ia.one s.digit:=by unfold Ri;rw[hv];exact HI hr
 unfold Kz at hs;cases ht:Yk l C.W with
 |none=>rw[ht] at hs;exact(Fu h hs).elim
 |some t=>rw[ht] at hs;simp only at hs;split at hs;rename_i hl;unfold WH at hs;rw[hd] at hs;simp only[if_true] at hs;have h1:=wG h hs;rw[hc] at h1;exact⟨t,rfl,hl,h1⟩;exact(Fu h hs).elim
end
theorem rW{x:Wd}:∀ (a b:List Wd),x ∉ Jb a->Yk x (a++b)=Yk x b
 |[],b,_=>rfl
 |w::a,b,h=>by rw[GG] at h;have xb:¬ ya w=some x:=λe=>h (by rw[e];simp);rw[cons_append,Yk,zn xb];exact rW a b λhx=>h (zq (.inr hx))
theorem qrT{la:Wd->Bool}{w:Wd}{r:List Wd}(h:(Se la (w::r)).1≠0):(∀ d∈Jb ((w::r).take (Se la (w::r)).1),la d=false)/\Jb (Se la (w::r)).2=[]:=⟨(mW la _ h).KP,(mW la _ h).put⟩
theorem qAa(la:Wd->Bool)(hx:la x=true):∀ (n:Nat) (v k:List Wd),v.length<=n->Yk x v=some k->Yk x (O la v)=some (O la k):=by
 intro n;induction n with
 |zero=>intro v k hn h;obtain rfl:=eq_nil_of_length_eq_zero (Nat.le_zero.1 hn);cases h
 |succ n ih=>
  intro v k hn h;cases v with
  |nil=>cases h
  |cons w r=>
   rw[Ma] at hn;by_cases h0:(Se la (w::r)).1=0;have e:O la (w::r)=w::O la r:=by unfold O;rw[Ma,Xk,zp h0]
   rw[e,Yk];rw[Yk] at h;split at h;rename_i hd;rw[zp hd];injection h with h;rw[h];rename_i hd;rw[zn hd];exact ih r k ga h;have Kc:=wI la (w::r) h0;obtain⟨f1,f2⟩:=qrT h0;have e:O la (w::r)=(Se la (w::r)).2++O la ((w::r).drop (Se la (w::r)).1):=by unfold O;rw[Ma,Xk,zn h0,CR la r.length _ (by rw[length_drop,Ma];omega)]
   rw[e,rW _ _ (by rw[f2];simp)];have h2:Yk x (w::r)=Yk x ((w::r).drop (Se la (w::r)).1):=by
    conv=>lhs;rw[<-List.take_append_drop (Se la (w::r)).1 (w::r)]
    exact rW _ _ λhm=>by rw[f1 x hm] at hx;cases hx
   rw[h2] at h;exact ih _ k (by rw[length_drop,Ma];omega) h
theorem UW{x:Wd}:∀ {W k:List Wd},Yk x W=some k->∃ p w,W=p++w::k/\ya w=some x
 |[],k,h=>by cases h
 |w::r,k,h=>by rw[Yk] at h;split at h;rename_i hd;injection h with h;subst h;exact⟨[],w,rfl,hd⟩;obtain⟨p,w',h1,h2⟩:=UW h;exact⟨w::p,w',by rw[h1];try rfl,h2⟩
theorem qww{l:List Wd}(h:w∈l)(hd:ya w=some x):x∈Jb l:=List.mem_filterMap.2 ⟨w,h,hd⟩
theorem qk6{l:Wd}:∀ {rest:List Wd},vu l rest=true->∃ ds k,rest=ds++k/\Yk l rest=some k/\(∀ w∈ds,(ya w).isSome=true)
 |[],h=>by cases h
 |w::r,h=>by
  rw[vu] at h;cases hd:ya w with
  |none=>rw[hd] at h;cases h
  |some d=>
   rw[hd] at h;simp only[Bool.or_eq_true,Rg] at h;by_cases he:d=l
   ·subst he;exact⟨[w],r,rfl,by rw[Yk,zp hd],λy hy=>by rw[aj hy,hd];try rfl⟩
   obtain⟨ds,k,h1,h2,h3⟩:=qk6 (rest:=r) (by rcases h with h|h;exact absurd h he;exact h);refine⟨w::ds,k,by rw[h1];try rfl,?_,λy hy=>?_⟩;rw[Yk,zn (by rw[hd];intro e;injection e with e;exact he e)];exact h2;rcases Dc.1 hy with rfl|hy
   ·rw[hd];try rfl
   exact h3 y hy
theorem qr0{k:List Wd}(hn:(Jb W).Nodup)(hW:W=p++rest)(h:Yk l rest=some k):Yk l W=some k:=by obtain⟨q,w,h1,h2⟩:=UW h;rw[hW,zB] at hn;have h3:=(On hn).2.2;rw[hW,rW _ _ λhm=>h3 l hm l (qww (by rw[h1];simp) h2) rfl];exact h
theorem P9(la:Wd->Bool):∀ (ds k:List Wd),(∀ w∈ds,(ya w).isSome=true)->∃ es,O la (ds++k)=es++O la k/\∀ w∈es,(ya w).isSome=true
 |[],k,_=>⟨[],rfl,λw hw=>by cases hw⟩
 |w::ds,k,h=>by
  obtain⟨es,h1,h2⟩:=P9 la ds k λy hy=>h y (Oc _ hy);obtain⟨x,hx⟩:=zR (h w Qe);rw[cons_append];rcases jN la w (ds++k) with⟨e,_⟩|⟨p,rest,q,e,_⟩
  ·refine⟨w::es,by rw[e,h1];try rfl,λy hy=>?_⟩;rcases Dc.1 hy with rfl|hy
   ·rw[hx];try rfl
   exact h2 y hy
  rw[e];generalize hv:w::(ds++k)=v at q;have lc:Db w=none:=by
   cases hq:Db w with
   |none=>rfl
   |some n=>rw[(sr hq).1] at hx;cases hx
  have xb:∀ c:UInt8,ya [c]=none->w≠[c]:=λc hc e=>by rw[e,hc] at hx;cases hx
  have hj:∀ {x op y z:Wd},Mk x op y=some z->Db x≠none:=λhj e=>by unfold Mk at hj;rw[e] at hj;cases hj
  cases q with
  |fold q=>injection hv with e _;exact absurd (by rw[<-e];exact lc) (hj q)
  |neutral q _=>injection hv with e _;rw[<-e,lc] at q;cases q
  |bh _ q=>injection hv with e _;exact absurd (by rw[<-e];exact lc) (hj q)
  |same q=>injection hv with e _;rw[<-e,lc] at q;cases q
  |double _=>injection hv with e _;exact absurd e (xb 49 (sr eG).1)
  |never q _ _=>injection hv with e _;rw[<-e,lc] at q;cases q
  |next _ _=>injection hv with e _;exact absurd e (xb 48 (sr nr).1)
  |sq _ _ _=>injection hv with e _;exact absurd e (xb 48 (sr nr).1)
  |@uo c _ _ q _ _=>injection hv with e _;exact absurd e (xb c (by rcases q with rfl|rfl <;> decide +kernel))
  |unused q _=>injection hv with e1 e2;subst e2;exact⟨es,h1,h2⟩
structure WX(la:Wd->Bool)(s t:MS):Prop where
 pc:t.pc=O la s.pc
 data:t.data=s.data
 calls:t.calls=s.calls.map (O la)
 mem:t.mem=s.mem
 Ia:t.Ia=s.Ia
 out:t.out=s.out
structure jy(W:List Wd)(s:MS):Prop where
 data:∀ v∈s.data,v<4294967296
 mem:∀ a,s.mem a<4294967296
 Ia:∀ v∈s.Ia,v<4294967296
 here:∃ p,W=p++s.pc
 calls:∀ c∈s.calls,∃ p,W=p++c
def fX(g f:Bool):Nat:=if g=true/\f=false then 1 else 0
theorem qzg(g f:Bool):Go.ia.one g<=Go.ia.one f+fX g f:=by cases g <;> cases f <;> decide
theorem bN(g f:Bool):fX g f<=1:=by cases g <;> cases f <;> decide
theorem FI(f:Bool):fX f f=0:=by cases f <;> decide
theorem fV{c:Nat}(ha:a<4294967296)(hb:b<4294967296)(h:Hd c a b=some v):v<4294967296:=by unfold Hd at h;split at h;injection h with h;omega;split at h;injection h with h;omega;split at h;injection h with h;rw[<-h];exact Nat.mod_lt _ ea;split at h;split at h;cases h;injection h with h;rw[<-h];exact Nat.lt_of_le_of_lt (Nat.div_le_self a b) ha;split at h;split at h;cases h;injection h with h;rw[<-h];exact Nat.lt_of_le_of_lt (Nat.mod_le a b) ha;split at h;injection h with h;rw[<-h];exact Nat.xor_lt_two_pow (n:=32) ha hb;injection h with h;rw[<-h];split <;> decide
theorem qoG(ha:a<4294967296)(h:V0 n c):Hd c.toNat a n=some a:=by rcases h with⟨rfl,rfl|rfl|rfl⟩|⟨rfl,rfl|rfl⟩;show some ((a+0) % 4294967296)=_;rw[add_zero,Nat.mod_eq_of_lt ha];show some ((a+4294967296-0) % 4294967296)=_;rw[Nat.sub_zero,Nat.add_mod_right,Nat.mod_eq_of_lt ha];show some (a ^^^ 0)=_;rw[Nat.xor_zero];show some (a * 1 % 4294967296)=_;rw[Nat.mul_one,Nat.mod_eq_of_lt ha];show some (a / 1)=_;rw[Nat.div_one]
section
variable{W:List Wd}{D:Nat->Bool}{n k e:Nat}{o:Wd}{s s' t:MS}{r:List Wd}
theorem qwo{C:PW}{c:Nat}(h:Uh C c s s')(g:Ends C n s' e o k):∃ m,Ends C m s e o (c+k):=by
 induction h with
 |zero s=>exact⟨n,by rw[zero_add];exact g⟩
 |@step c s s' s2 h1 _ ih=>obtain⟨m,h2⟩:=ih g;exact⟨m+1,by rw[add_assoc];exact .step h1 h2⟩
theorem Z0{C:PW}(hc:tc c)(hv:s.pc=[c]::r)(h:Ends C n s e o k):∃ b a d,s.data=b::a::d:=by
 have hs:Za C s=El s c r:=by rw[al hv,Ow (Ly hc),DQ hc]
 unfold El at hs;match hd:s.data with
 |b::a::d=>exact⟨b,a,d,rfl⟩
 |[]=>rw[hd] at hs;exact(Fu h hs).elim
 |[_]=>rw[hd] at hs;exact(Fu h hs).elim
theorem qvm{C:PW}(hv:s.pc=[64]::r)(hd:s.data=a::d)(h:Ends C n s e o k):C.D a=true/\∃ m j,n=m+1/\k=1+j/\Ends C m { s with pc:=r,data:=s.mem a::d,digit:=false } e o j:=by
 have hs:Za C s=pK C.D s r:=by rw[al hv,Ow ea];try rfl
 unfold pK at hs;rw[hd] at hs;simp only at hs;split at hs;rename_i hD;have h1:=P2 (t:=s) h hs rfl;rw[gN ea hv] at h1;exact⟨hD,h1.2⟩;exact(Fu h hs).elim
theorem qrB{C:PW}{x:Nat}(hv:s.pc=[33]::r)(hd:s.data=a::x::d)(h:Ends C n s e o k):∃ m j,n=m+1/\k=1+j/\Ends C m { s with pc:=r,data:=d,mem:=λi=>if i=a then x else s.mem i,digit:=false } e o j:=by
 have hs:Za C s=AK C.D s r:=by rw[al hv,Ow ea];try rfl
 unfold AK at hs;rw[hd] at hs;simp only at hs;split at hs;have h1:=wG h hs;rw[gN ea hv] at h1;exact h1;exact(Fu h hs).elim
theorem jy.to(h:jy W s)(ir:∃ p,W=p++s'.pc)(hd:∀ v∈s'.data,v<4294967296)(hm:s'.mem=s.mem)(hi:s'.Ia=s.Ia)(hc:s'.calls=s.calls):jy W s':=
 ⟨hd,by rw[hm];exact h.mem,by rw[hi];exact h.Ia,ir,by rw[hc];exact h.calls⟩
theorem Xj(h:∃ p,W=p++w::r):∃ p,W=p++r:=by obtain⟨p,hp⟩:=h;exact⟨p++[w],by rw[hp,Yc];try rfl⟩
theorem eR{q:List Wd}(h:Yk x W=some q):∃ p,W=p++q:=by obtain⟨p,w,h1,_⟩:=UW h;exact Xj ⟨p,h1⟩
theorem uZ(h:∃ p,W=p++w::r)(hx:Va w=some x):Jd W x=true:=by obtain⟨p,hp⟩:=h;exact List.any_eq_true.2 ⟨w,by rw[hp];simp,by simp[hx]⟩
theorem A3{q:List Wd}(hu:Jd W x=true)(h:Yk x W=some q):Yk x (O (Jd W) W)=some (O (Jd W) q):=qAa _ hu _ _ _ (Pb _) h
theorem qxh(hS:WX (Jd W) s t)(hF:jy W s)(hr:∃ p,W=p++r):match Rv D s c r with
  |.run s1=>∃ t1,Rv D t c (O (Jd W) r)=.run t1/\WX (Jd W) s1 t1/\t1.digit=false/\s1.digit=false/\jy W s1
  |.stop e o=>Rv D t c (O (Jd W) r)=.stop e o:=by
 obtain⟨mem,pc,data,calls,Ia,out,digit⟩:=s;obtain⟨yL,pc',wo,R8,ZR,bt,N8⟩:=t;obtain⟨h1,h2,h3,h4,h5,h6⟩:=hS;simp only at h1 h2 h3 h4 h5 h6;subst h1 h2 h3 h4 h5 h6;obtain⟨f1,f2,f3,f4,f5⟩:=hF;simp only at f1 f2 f3 f4 f5;have BS:∀ (i:List Nat) (d:List Nat) (v:Nat),(∀ x∈i,x<4294967296)->(∀ x∈d,x<4294967296)->v<4294967296->∀ (q q':List Wd) (b b':Bool),match jn ⟨yL,q,wo,calls,i,bt,b⟩ r d v false with
   |.run s1=>∃ t1,jn ⟨yL,q',wo,calls.map (O (Jd W)),i,bt,b'⟩ (O (Jd W) r) d v false=.run t1/\WX (Jd W) s1 t1/\t1.digit=false/\s1.digit=false/\jy W s1
   |.stop e o=>jn ⟨yL,q',wo,calls.map (O (Jd W)),i,bt,b'⟩ (O (Jd W) r) d v false=.stop e o:=by
  intro i d v hi hd hv q q' b b';unfold jn;by_cases hl:d.length<256;rw[zp hl,zp hl];refine⟨_,rfl,⟨rfl,rfl,rfl,rfl,rfl,rfl⟩,rfl,rfl,⟨λx hx=>?_,f2,hi,hr,f5⟩⟩;rcases Dc.1 hx with rfl|hx;exact hv;exact hd x hx;rw[zn hl,zn hl]
  try rfl
 unfold Rv;by_cases c1:c=64
 ·rw[zp c1,zp c1];unfold pK
  cases wo with
  |nil=>rfl
  |cons a d=>
   simp only;by_cases hD:D a=true
   ·rw[zp hD,zp hD];have hd:=λx hx=>f1 x (Oc a hx);unfold jn
    by_cases hl:d.length<256;rw[zp hl,zp hl];refine⟨_,rfl,⟨rfl,rfl,rfl,rfl,rfl,rfl⟩,rfl,rfl,⟨λx hx=>?_,f2,f3,hr,f5⟩⟩;rcases Dc.1 hx with rfl|hx;exact f2 a;exact hd x hx;rw[zn hl,zn hl]
    try rfl
   rw[zn hD,zn hD];try rfl
 rw[zn c1,zn c1];by_cases c2:c=33
 ·rw[zp c2,zp c2];unfold AK
  match wo,f1 with
  |[],_=>rfl
  |[_],_=>rfl
  |a::x::d,f1=>
   simp only;by_cases hD:D a=true;rw[zp hD,zp hD];refine⟨_,rfl,⟨rfl,rfl,rfl,rfl,rfl,rfl⟩,rfl,rfl,⟨λy hy=>f1 y (Oc _ (Oc _ hy)),λi=>?_,f3,hr,f5⟩⟩;simp only;split;exact f1 x (by simp);exact f2 i;rw[zn hD,zn hD]
   try rfl
 rw[zn c2,zn c2];by_cases c3:c=59;rw[zp c3,zp c3];unfold aI;cases calls with
 |nil=>rfl
 |cons q l=>exact⟨_,rfl,⟨rfl,rfl,rfl,rfl,rfl,rfl⟩,rfl,rfl,⟨f1,f2,f3,f5 q Qe,λc hc=>f5 c (Oc _ hc)⟩⟩
 rw[zn c3,zn c3];by_cases c4:c=44;rw[zp c4,zp c4];refine BS ZR.tail wo _ (λx hx=>f3 x (List.mem_of_mem_tail hx)) f1 ?_ _ _ _ _
 cases ZR with
 |nil=>show(4294967295:Nat)<_;decide
 |cons v l=>exact f3 v Qe
 rw[zn c4,zn c4];by_cases c5:c=46;rw[zp c5,zp c5];unfold qQ;cases wo with
 |nil=>rfl
 |cons a d=>exact⟨_,rfl,⟨rfl,rfl,rfl,rfl,rfl,rfl⟩,rfl,rfl,⟨λx hx=>f1 x (Oc _ hx),f2,f3,hr,f5⟩⟩
 rw[zn c5,zn c5];by_cases c6:c=36;rw[zp c6,zp c6];rw[zn c6,zn c6];by_cases c7:c=43∨c=45∨c=42∨c=47∨c=37∨c=94∨c=60
 ·rw[zp c7,zp c7];unfold El
  match wo,f1 with
  |[],_=>rfl
  |[_],_=>rfl
  |b::a::d,f1=>
   simp only;cases hb:Hd c.toNat a b with
   |none=>rfl
   |some v=>
    simp only;have hv:=fV (f1 a (by simp)) (f1 b (by simp)) hb;unfold jn;by_cases hl:d.length<256;rw[zp hl,zp hl];refine⟨_,rfl,⟨rfl,rfl,rfl,rfl,rfl,rfl⟩,rfl,rfl,⟨λx hx=>?_,f2,f3,hr,f5⟩⟩;rcases Dc.1 hx with rfl|hx;exact hv;exact f1 x (Oc _ (Oc _ hx));rw[zn hl,zn hl]
    try rfl
 rw[zn c7,zn c7];try rfl
def tL(C:PW)(u:MS)(w:Wd)(v:List Wd):MR:=match w with
 |[c]=>Rv C.D u c v
 |_=>lost u
theorem F3{C:PW}{u:MS}{v:List Wd}(hd:ya w=none)(hn:Db w=none)(hr:Va w=none):Qz C u w v=tL C u w v:=by unfold Qz tL;rw[hd];simp only;rw[hn];simp only;rw[hr];try rfl
theorem qi5{op y z:Wd}(h:Mk x op y=some z):∃ a b c ch,Db x=some a/\Db y=some b/\op=[ch]/\tc ch/\Hd ch.toNat a b=some c/\Db z=some c/\z.length<=x.length+y.length+1/\c<4294967296:=by have hl:=yR h;unfold Mk at h;split at h;rename_i a b ha hb;split at h;rename_i c hc;split at h;injection h with h;have Ka:=EQ ((IC _ _).1 ha).1 ((IC _ _).1 hb).1 hc;obtain⟨ch,h1,h2,h3⟩:=qvU hc;exact⟨a,b,c,ch,ha,hb,h1,h2,h3,by rw[<-h];exact vG Ka,hl,Ka⟩;cases h;cases h;cases h
end
theorem qsW{D:Nat->Bool}(hn:(Jb W).Nodup):∀ (n:Nat) (s t:MS) (e:Nat) (o:Wd) (k:Nat),Ends ⟨W,D⟩ n s e o k->WX (Jd W) s t->jy W s->∃ n' k',Ends ⟨O (Jd W) W,D⟩ n' t e o k'/\k'<=k+fX t.digit s.digit:=by
 intro n;induction n using Nat.strongRecOn with
 |ind n ih=>
 intro s t e o k h hS hF;have hT:=hF.here;cases hv:s.pc with
 |nil=>exact(Fu h (o':=s.out) (by unfold Za;rw[hv];try rfl)).elim
 |cons w r=>
  rw[hv] at hT;have hp:=hS.pc;rw[hv] at hp;have hpo:=qzg t.digit s.digit;have aak:=bN t.digit s.digit;rcases jN (Jd W) w r with⟨eO,_⟩|⟨p,rest,q,eO,_⟩
  ·rw[eO] at hp
   cases hd:ya w with
   |some x=>obtain⟨m,j,rfl,rfl,h1⟩:=wG h (QV hv hd);obtain⟨n',k',g1,g2⟩:=ih m ga _ { t with pc:=O (Jd W) r } e o j h1 ⟨rfl,hS.data,hS.calls,hS.mem,hS.Ia,hS.out⟩ (hF.to (Xj hT) hF.data rfl rfl rfl);refine⟨_,_,.step (QV hp hd) g1,?_⟩;rw[OQ hp hd,OQ hv hd];simp only at g2;omega
   |none=>
    cases lc:Db w with
    |some v=>
     obtain⟨hl,m,j,rfl,rfl,h1⟩:=dA lc hv h;obtain⟨n',k',g1,g2⟩:=ih m ga _ { t with pc:=O (Jd W) r,data:=v::s.data,digit:=true } e o j h1 ⟨rfl,rfl,hS.calls,hS.mem,hS.Ia,hS.out⟩ (hF.to (Xj hT) (λx hx=>by
      rcases Dc.1 hx with rfl|hx;exact IQ lc;exact hF.data x hx) rfl rfl rfl)
     refine⟨_,_,.step (s':={ t with pc:=O (Jd W) r,data:=v::s.data,digit:=true }) ?_ g1,?_⟩;rw[al hp,IK lc];unfold jn;rw[hS.data,zp hl];have hc:Ri t=w.length+Go.ia.one t.digit:=by unfold Ri;rw[hp];exact HK lc
     rw[hc];simp only[FI] at g2;omega
    |none=>
     cases hr:Va w with
     |some x=>
      have hu:=uZ hT hr;have hs:Za ⟨W,D⟩ s=Kz ⟨W,D⟩ s x r:=by rw[al hv,yG hr]
      have hc:Ri s=7+Go.ia.one s.digit:=by unfold Ri;rw[hv];exact HI hr
      have zH:Ri t=7+Go.ia.one t.digit:=by unfold Ri;rw[hp];exact HI hr
      unfold Kz at hs;cases hk:Yk x W with
      |none=>simp only[hk] at hs;exact(Fu h hs).elim
      |some kk=>
       have fi:=A3 hu hk;cases r with
       |nil=>simp only[hk] at hs;exact(Fu h hs).elim
       |cons y r=>
        simp only[hk] at hs;by_cases hl:s.data.length<256;rotate_left;rw[zn hl] at hs;exact(Fu h hs).elim;rw[zp hl] at hs;by_cases hy:y=[63];subst hy;rw[zp rfl] at hs;rw[xQ _ (.inl rfl)] at hp;unfold WH at hs;cases qi:s.data with
        |nil=>rw[qi] at hs;exact(Fu h hs).elim
        |cons a d=>
         rw[qi] at hs;simp only at hs;obtain⟨m,j,rfl,rfl,h1⟩:=wG h hs;have hf:=hF.data;rw[qi] at hf;obtain⟨n',k',g1,g2⟩:=ih m ga _ { t with pc:=if a=0 then O (Jd W) kk else O (Jd W) r,data:=d,digit:=false } e o j h1 ⟨by simp only;split <;> rfl,rfl,hS.calls,hS.mem,hS.Ia,hS.out⟩ (hF.to (by
          simp only;split;exact eR hk;exact Xj (Xj hT)) (λx hx=>hf x (Oc _ hx)) rfl rfl rfl)
         refine⟨_,_,.step (s':={ t with pc:=if a=0 then O (Jd W) kk else O (Jd W) r,data:=d,digit:=false }) ?_ g1,?_⟩;rw[al hp,yG hr];unfold Kz WH;have az:(a::d).length<256:=by rw[<-qi];exact hl
         simp only[fi,hS.data,qi,if_true];rw[zp az];rw[zH,hc];simp only[FI] at g2;omega
        rw[zn hy] at hs;by_cases eS:y=[58];rotate_left;rw[zn eS] at hs;exact(Fu h hs).elim;subst eS;rw[zp rfl] at hs;rw[xQ _ (.inr rfl)] at hp;by_cases cf:s.calls.length<64;rotate_left;rw[zn cf] at hs;exact(Fu h hs).elim;rw[zp cf] at hs;obtain⟨m,j,rfl,rfl,h1⟩:=wG h hs;obtain⟨n',k',g1,g2⟩:=ih m ga _ { t with pc:=O (Jd W) kk,calls:=O (Jd W) r::t.calls,digit:=false } e o j h1 ⟨rfl,hS.data,by simp only[yd];rw[hS.calls],hS.mem,hS.Ia,hS.out⟩ ⟨hF.data,hF.mem,hF.Ia,eR hk,λc hc=>by
         rcases Dc.1 hc with rfl|hc;exact Xj (Xj hT);exact hF.calls c hc⟩
        refine⟨_,_,.step (s':={ t with pc:=O (Jd W) kk,calls:=O (Jd W) r::t.calls,digit:=false }) ?_ g1,?_⟩;rw[al hp,yG hr];unfold Kz;have Jx:t.calls.length<64:=by rw[hS.calls,Mb];exact cf
        simp[fi,hS.data,hl,Jx];rw[zH,hc];simp only[FI] at g2;omega
     |none=>
      have AJ:∀ (u:MS) (v:List Wd),u.pc=w::v->Ri u=1:=λu v hu=>by unfold Ri zC;rw[hu];simp[hd,lc,hr]
      have hs:Za ⟨W,D⟩ s=_:=(al hv).trans (F3 hd lc hr);have Ol:Za ⟨O (Jd W) W,D⟩ t=_:=(al hp).trans (F3 hd lc hr);rcases w with _|⟨c,_|⟨c2,w2⟩⟩;exact(Fu h hs).elim;rotate_left;exact(Fu h hs).elim;have hs:Za ⟨W,D⟩ s=Rv D s c r:=hs;have Ol:Za ⟨O (Jd W) W,D⟩ t=Rv D t c (O (Jd W) r):=Ol;have key:=qxh (D:=D) (c:=c) hS hF (Xj hT);cases aF:Rv D s c r with
      |stop e2 o2=>
       rw[aF] at key hs;simp only at key;rw[key] at Ol;cases h with
       |stop h1 h2=>rw[hs] at h1;injection h1 with h1 h3;subst h1 h3;exact⟨_,_,.stop Ol h2,by omega⟩
       |step h1 _=>rw[hs] at h1;cases h1
      |run s1=>rw[aF] at key hs;obtain⟨t1,k1,k2,k3,k4,k5⟩:=key;rw[k1] at Ol;obtain⟨m,j,rfl,rfl,h1⟩:=wG h hs;obtain⟨n',k',g1,g2⟩:=ih m ga _ t1 e o j h1 k2 k5;refine⟨_,_,.step Ol g1,?_⟩;rw[AJ t _ hp,AJ s _ hv];rw[k3,k4,FI] at g2;omega
  rw[eO] at hp;generalize hvv:w::r=v at q;rw[hvv] at hv hT;clear hvv eO;cases q with
  |@fold x y op z rest h1=>
   obtain⟨a,b,c,ch,p1,p2,rfl,p4,p5,p6,p7,p8⟩:=qi5 h1;obtain⟨hl,m1,j1,rfl,rfl,h2⟩:=dA p1 hv h;obtain⟨Et,m2,j2,rfl,rfl,h3⟩:=dA p2 rfl h2;obtain⟨m3,j3,rfl,rfl,h4⟩:=kN p4 rfl rfl p5 h3;obtain⟨n',k',g1,g2⟩:=ih m3 ga _ { t with pc:=O (Jd W) rest,data:=c::s.data,digit:=true } e o j3 h4 ⟨rfl,rfl,hS.calls,hS.mem,hS.Ia,hS.out⟩ (hF.to (Xj (Xj (Xj hT))) (λx hx=>by
     rcases Dc.1 hx with rfl|hx;exact p8;exact hF.data x hx) rfl rfl rfl)
   have hp:t.pc=z::O (Jd W) rest:=hp;refine⟨_,_,.step (s':={ t with pc:=O (Jd W) rest,data:=c::s.data,digit:=true }) ?_ g1,?_⟩;rw[al hp,IK p6];unfold jn;rw[hS.data,zp hl];have hc:Ri t=z.length+Go.ia.one t.digit:=by unfold Ri;rw[hp];exact HK p6
   rw[hc];simp only at g2 ⊢;have:=bN true false;have e1:Go.ia.one true=1:=rfl;omega
  |@neutral x nn c rest h1 h2=>have ld:=qiW h2;obtain⟨hl,m1,j1,rfl,rfl,h3⟩:=dA h1 hv h;obtain⟨b,a,d,hd⟩:=Z0 ld rfl h3;simp only at hd;injection hd with Lr hd;subst Lr;obtain⟨m2,j2,rfl,rfl,h4⟩:=kN ld rfl (by simp only;rw[hd]) (qoG (hF.data a (by rw[hd];simp)) h2) h3;obtain⟨n',k',g1,g2⟩:=ih m2 ga _ t e o j2 h4 ⟨hp,by simp only;rw[hS.data,hd],hS.calls,hS.mem,hS.Ia,hS.out⟩ (hF.to (Xj (Xj hT)) (by simp only;rw[<-hd];exact hF.data) rfl rfl rfl);refine⟨n',k',g1,?_⟩;have:=bN t.digit false;simp only at g2;omega
  |@bh x y z c rest hc h1=>
   obtain⟨a,b,cc,ch,p1,p2,p3,p4,p5,p6,p7,p8⟩:=qi5 h1;injection p3 with p3 _;subst p3;obtain⟨hl,m1,j1,rfl,rfl,h3⟩:=dA p1 hv h;obtain⟨b',a',d,hd⟩:=Z0 p4 rfl h3;simp only at hd;injection hd with Lr hd;subst Lr;obtain⟨u,z',b1,b2,b3⟩:=qoZ hc a' a b;rw[p5] at b2;injection b2 with b2;subst b2;obtain⟨m2,j2,rfl,rfl,h4⟩:=kN p4 rfl (by simp only;rw[hd]) b1 h3;obtain⟨Et,m3,j3,rfl,rfl,h5⟩:=dA p2 rfl h4;have dH:∃ v,Hd c.toNat u b=some v:=by rcases hc with rfl|rfl|rfl <;> exact⟨_,rfl⟩
   obtain⟨v,dH⟩:=dH;obtain⟨m4,j4,rfl,rfl,h6⟩:=kN p4 rfl rfl dH h5;have ha:=hF.data a' (by rw[hd];simp);have x6:=fV ha p8 (by rw[<-b3];exact dH);obtain⟨n',k',g1,g2⟩:=ih m4 ga _ { t with pc:=O (Jd W) rest,data:=v::d,digit:=false } e o j4 h6 ⟨rfl,rfl,hS.calls,hS.mem,hS.Ia,hS.out⟩ (hF.to (Xj (Xj (Xj (Xj hT)))) (λx hx=>by
     rcases Dc.1 hx with rfl|hx;exact x6;exact hF.data x (by rw[hd];exact Oc _ hx)) rfl rfl rfl)
   have hp:t.pc=z::[c]::O (Jd W) rest:=hp;rw[hd] at hl;simp only[Ma] at hl;refine⟨_,_,.step (s':={ t with pc:=[c]::O (Jd W) rest,data:=cc::s.data,digit:=true }) ?_ (.step (s':={ t with pc:=O (Jd W) rest,data:=v::d,digit:=false }) ?_ g1),?_⟩;rw[al hp,IK p6];unfold jn;rw[hS.data,hd,zp (by simp only[Ma];omega)];rw[al rfl,Ow (Ly p4),DQ p4];unfold El;simp only[hd];rw[<-b3,dH];simp only;unfold jn;rw[zp (by omega)];have hc:Ri t=z.length+Go.ia.one t.digit:=by unfold Ri;rw[hp];exact HK p6
   rw[hc,gN (Ly p4) rfl];simp only[FI] at g2 ⊢;have e1:Go.ia.one false=0:=rfl;omega
  |@same x nn rest h1=>
   obtain⟨hl,m1,j1,rfl,rfl,h3⟩:=dA h1 hv h;obtain⟨hD,m2,j2,rfl,rfl,h4⟩:=qvm rfl rfl h3;obtain⟨Et,m3,j3,rfl,rfl,h5⟩:=dA h1 rfl h4;obtain⟨m4,j4,rfl,rfl,h6⟩:=qrB rfl rfl h5;have hm:(λi=>if i=nn then s.mem nn else s.mem i)=s.mem:=by funext i;split;rename_i e;rw[e];rfl
   obtain⟨n',k',g1,g2⟩:=ih m4 ga _ t e o j4 h6 ⟨hp,hS.data,hS.calls,hS.mem.trans hm.symm,hS.Ia,hS.out⟩ (hF.to (Xj (Xj (Xj (Xj hT)))) hF.data hm rfl rfl);refine⟨n',k',g1,?_⟩;have:=bN t.digit false;simp only at g2;omega
  |@double w l rest h1=>
   have ho:tc 60:=by unfold tc;decide
   obtain⟨hl,m1,j1,rfl,rfl,h3⟩:=dA eG hv h;obtain⟨b',a,d,hd⟩:=Z0 ho rfl h3;simp only at hd;injection hd with Lr hd;subst Lr;obtain⟨m2,j2,rfl,rfl,h4⟩:=kN ho rfl (v:=if a<1 then 1 else 0) (by simp only;rw[hd]) (by unfold Hd;simp) h3;obtain⟨Et,m3,j3,rfl,rfl,h5⟩:=dA eG rfl h4;obtain⟨m4,j4,rfl,rfl,h6⟩:=kN ho rfl (v:=if (if a<1 then 1 else 0)<1 then 1 else 0) rfl (by unfold Hd;simp) h5;obtain⟨kk,hk,_,m5,j5,rfl,rfl,h7⟩:=wW h1 rfl rfl h6;have hT5:=Xj (Xj (Xj (Xj hT)));have fi:=A3 (uZ hT5 h1) hk;have hz:((if (if a<1 then 1 else 0)<1 then 1 else 0)=0)=(a=0):=by by_cases ha:a=0;subst ha;simp;rw[zn (show ¬ a<1 by omega)];simp[ha]
   simp only[hz] at h7;obtain⟨n',k',g1,g2⟩:=ih m5 ga _ { t with pc:=if a=0 then O (Jd W) kk else O (Jd W) rest,data:=d,digit:=false } e o j5 h7 ⟨by simp only;split <;> rfl,rfl,hS.calls,hS.mem,hS.Ia,hS.out⟩ (hF.to (by
     simp only;split;exact eR hk;exact Xj (Xj hT5)) (λx hx=>hF.data x (by rw[hd];exact Oc _ hx)) rfl rfl rfl)
   have hp:t.pc=w::[63]::O (Jd W) rest:=hp;have zH:Ri t=7+Go.ia.one t.digit:=by unfold Ri;rw[hp];exact HI h1
   refine⟨_,_,.step (s':={ t with pc:=if a=0 then O (Jd W) kk else O (Jd W) rest,data:=d,digit:=false }) ?_ g1,?_⟩;rw[al hp,yG h1];unfold Kz WH;have az:(a::d).length<256:=by rw[<-hd];exact hl
   simp only[fi,hS.data,hd,if_true];rw[zp az];rw[zH];simp only[FI] at g2 ⊢;have e1:Go.ia.one false=0:=rfl;have e2:([49]:Wd).length=1:=rfl;omega
  |@never x w l nn rest h1 h2 h3=>obtain⟨hl,m1,j1,rfl,rfl,h4⟩:=dA h1 hv h;obtain⟨kk,hk,_,m2,j2,rfl,rfl,h5⟩:=wW h3 rfl rfl h4;rw[zn h2] at h5;obtain⟨n',k',g1,g2⟩:=ih m2 ga _ t e o j2 h5 ⟨hp,hS.data,hS.calls,hS.mem,hS.Ia,hS.out⟩ (hF.to (Xj (Xj (Xj hT))) hF.data rfl rfl rfl);refine⟨n',k',g1,?_⟩;have:=bN t.digit false;simp only at g2;omega
  |@next w l rest h1 h2=>
   obtain⟨hl,m1,j1,rfl,rfl,h4⟩:=dA nr hv h;obtain⟨kk,hk,_,m2,j2,rfl,rfl,h5⟩:=wW h1 rfl rfl h4;rw[zp rfl] at h5;obtain⟨ds,k2,e1,e2,e3⟩:=qk6 h2;have hT3:=Xj (Xj (Xj hT));obtain⟨p0,cF⟩:=hT3;have Dp:=qr0 hn cF e2;rw[hk] at Dp;injection Dp with Dp;subst Dp;obtain⟨es,q1,q2⟩:=P9 (Jd W) ds kk e3;have hp:t.pc=es++O (Jd W) kk:=by rw[<-q1,<-e1];exact hp
   obtain⟨n',k',g1,g2⟩:=ih m2 ga _ { t with pc:=O (Jd W) kk } e o j2 h5 ⟨rfl,hS.data,hS.calls,hS.mem,hS.Ia,hS.out⟩ (hF.to (eR hk) hF.data rfl rfl rfl);obtain⟨n2,g3⟩:=qwo (D2 es t _ hp q2) g1;refine⟨n2,_,g3,?_⟩;have:=bN t.digit false;simp only at g2;omega
  |@sq w l dead rest h1 h2 h3=>
   obtain⟨hl,m1,j1,rfl,rfl,h4⟩:=dA nr hv h;obtain⟨kk,hk,Et,m2,j2,rfl,rfl,h5⟩:=wW h1 rfl rfl h4;rw[zp rfl] at h5;have fi:=A3 (uZ (Xj hT) h1) hk;have hp:t.pc=[48]::w::[63]::O (Jd W) rest:=hp;obtain⟨n',k',g1,g2⟩:=ih m2 ga _ { t with pc:=O (Jd W) kk,digit:=false } e o j2 h5 ⟨rfl,hS.data,hS.calls,hS.mem,hS.Ia,hS.out⟩ (hF.to (eR hk) hF.data rfl rfl rfl);refine⟨_,_,.step (s':={ t with pc:=w::[63]::O (Jd W) rest,data:=0::s.data,digit:=true }) ?_ (.step (s':={ t with pc:=O (Jd W) kk,digit:=false }) ?_ g1),?_⟩;rw[al hp,IK nr];unfold jn;rw[hS.data,zp hl];rw[al rfl,yG h1];unfold Kz WH;have YL:(0::s.data).length<256:=Et;simp only[fi,if_true];rw[zp YL,<-hS.data];have hc:Ri t=([48]:Wd).length+Go.ia.one t.digit:=by unfold Ri;rw[hp];exact HK nr
   have We:Ri { t with pc:=w::[63]::O (Jd W) rest,data:=0::s.data,digit:=true }=7+Go.ia.one true:=HI h1;rw[hc,We];simp only[FI] at g2 ⊢;omega
  |@uo c dead rest h1 h2 h3=>
   have hp:t.pc=[c]::O (Jd W) rest:=hp;have jH:c∈Kl:=by rcases h1 with rfl|rfl <;> decide
   have hs:Za ⟨W,D⟩ s=Rv D s c (dead++rest):=by rw[al hv,Ow jH]
   have Ol:Za ⟨O (Jd W) W,D⟩ t=Rv D t c (O (Jd W) rest):=by rw[al hp,Ow jH]
   have hc:=gN jH hv;have zH:=gN jH hp;rcases h1 with rfl|rfl;have hs:Za ⟨W,D⟩ s=aI s:=hs;have Ol:Za ⟨O (Jd W) W,D⟩ t=aI t:=Ol;unfold aI at hs Ol;cases cf:s.calls with
   |nil=>rw[cf] at hs;exact(Fu h hs).elim
   |cons kk l=>rw[cf] at hs;rw[hS.calls,cf,yd] at Ol;simp only at hs Ol;obtain⟨m1,j1,rfl,rfl,h4⟩:=wG h hs;obtain⟨n',k',g1,g2⟩:=ih m1 ga _ { t with pc:=O (Jd W) kk,calls:=l.map (O (Jd W)),digit:=false } e o j1 h4 ⟨rfl,hS.data,rfl,hS.mem,hS.Ia,hS.out⟩ ⟨hF.data,hF.mem,hF.Ia,hF.calls kk (by rw[cf];simp),λc hc=>hF.calls c (by rw[cf];exact Oc _ hc)⟩;refine⟨_,_,.step Ol g1,?_⟩;rw[zH,hc];simp only[FI] at g2;omega
   have hs:Za ⟨W,D⟩ s=.stop 0 s.out:=hs;have Ol:Za ⟨O (Jd W) W,D⟩ t=.stop 0 t.out:=Ol;cases h with
   |stop h4 h5=>rw[hs] at h4;injection h4 with h4 h6;subst h4 h6;rw[hS.out] at Ol;exact⟨_,_,.stop Ol h5,by omega⟩
   |step h4 _=>rw[hs] at h4;cases h4
  |@unused w l rest h1 h2=>obtain⟨m1,j1,rfl,rfl,h4⟩:=wG h (QV hv h1);obtain⟨n',k',g1,g2⟩:=ih m1 ga _ t e o j1 h4 ⟨hp,hS.data,hS.calls,hS.mem,hS.Ia,hS.out⟩ (hF.to (Xj hT) hF.data rfl rfl rfl);refine⟨n',k',g1,?_⟩;rw[OQ hv h1];simp only at g2;omega
theorem qst{D:Nat->Bool}{Ia:List Nat}(hn:(Jb W).Nodup)(hi:∀ v∈Ia,v<4294967296)(h:Ends ⟨W,D⟩ n ⟨λ_=>0,W,[],[],Ia,[],false⟩ e o k):∃ n' k',Ends ⟨Gq W,D⟩ n' ⟨λ_=>0,Gq W,[],[],Ia,[],false⟩ e o k'/\k'<=k:=
 qsW hn n _ ⟨λ_=>0,Gq W,[],[],Ia,[],false⟩ e o k h ⟨rfl,rfl,rfl,rfl,rfl,rfl⟩ ⟨λv hv=>(not_mem_nil hv).elim,λ_=>(by show(0:Nat)<_;decide),hi,⟨[],rfl⟩,λc hc=>(not_mem_nil hc).elim⟩
theorem qll{D:Nat->Bool}{Ia:List Nat}(hi:∀ v∈Ia,v<4294967296){e:Nat}{o:Wd}:∀ (f:Nat) {W:List Wd} {n k:Nat},yu W->Ends ⟨W,D⟩ n ⟨λ_=>0,W,[],[],Ia,[],false⟩ e o k->∃ n' k',Ends ⟨gh f W,D⟩ n' ⟨λ_=>0,gh f W,[],[],Ia,[],false⟩ e o k'/\k'<=k
 |0,W,n,k,_,h=>⟨n,k,h,Pb _⟩
 |f+1,W,n,k,hA,h=>by rw[gh];split;exact⟨n,k,h,Pb _⟩;obtain⟨n1,k1,h1,h2⟩:=qst hA.1 hi h;obtain⟨n2,k2,h3,h4⟩:=qll hi f (qqs hA) h1;exact⟨n2,k2,h3,Xf h4 h2⟩
theorem qvS{D:Nat->Bool}{Ia:List Nat}(hi:∀ v∈Ia,v<4294967296)(hA:yu W)(h:Ends ⟨W,D⟩ n ⟨λ_=>0,W,[],[],Ia,[],false⟩ e o k):∃ n' k',Ends ⟨Fi W,D⟩ n' ⟨λ_=>0,Fi W,[],[],Ia,[],false⟩ e o k'/\k'<=k:=qll hi _ hA h
def kE(c:UInt8):Option (Nat×Nat):=
 if c=64 then some (1,1) else if c=33 then some (2,0) else if c=44 then some (0,1) else if c=46 then some (1,0)
 else if c=43∨c=45∨c=42∨c=47∨c=37∨c=94∨c=60 then some (2,1) else none
inductive Ty (L:Wd->Nat):Option Nat->List Wd->Prop
 |nil {o:Option Nat}:Ty L o []
 |free {d:Nat} {v:List Wd}:Ty L (some d) v->Ty L none v
 |Tk {w x:Wd} {r:List Wd}:ya w=some x->L x=0->Ty L (some 0) r->Ty L (some 0) (w::r)
 |Gj {w x:Wd} {r:List Wd}:ya w=some x->Ty L (some (L x)) r->Ty L none (w::r)
 |num {d n:Nat} {w:Wd} {r:List Wd}:Db w=some n->Ty L (some (d+1)) r->Ty L (some d) (w::r)
 |jump {w x:Wd} {r:List Wd}:Va w=some x->L x=0->Ty L (some 0) r->Ty L (some 1) (w::[63]::r)
 |goto {w x:Wd} {r:List Wd}:Va w=some x->L x=0->Ty L none r->Ty L (some 0) ([48]::w::[63]::r)
 |call {d:Nat} {w x:Wd} {r:List Wd}:Va w=some x->Ty L (some (d+1)) r->Ty L (some (d+L x)) (w::[58]::r)
 |sign {d a b:Nat} {c:UInt8} {r:List Wd}:kE c=some (a,b)->Ty L (some (d+b)) r->Ty L (some (d+a)) ([c]::r)
 |stop {d:Nat} {c:UInt8} {r:List Wd}:(c=59∨c=36)->Ty L none r->Ty L (some d) ([c]::r)
theorem AG{p:Nat×Nat}(h:kE c=some p):c∈Kl/\c≠59/\c≠36:=by
 have key:∀ n:Nat,n<256->(kE (UInt8.ofNat n)).isSome=true->UInt8.ofNat n∈Kl/\UInt8.ofNat n≠59/\UInt8.ofNat n≠36:=by decide +kernel
 have:=key c.toNat c.toNat_lt;rw[UInt8.ofNat_toNat] at this;exact this (by rw[h];try rfl)
theorem Eu(h:c∈Kl):ya [c]=none/\Db [c]=none/\Va [c]=none:=by obtain⟨e1,e2,e3⟩:=Ny h;exact⟨e1,Q3 e3,e2⟩
theorem JI(h:c=59∨c=36):c∈Kl:=by rcases h with rfl|rfl <;> decide
section
variable{L:Wd->Nat}{d:Nat}{o:Option Nat}{w x:Wd}{r:List Wd}
theorem oG(hn:Db w=some n)(hr:∀ y q,r=y::q->Va y=none)(h:Ty L (some d) (w::r)):Ty L (some (d+1)) r:=by
 obtain⟨k1,k2⟩:=sr hn;generalize hv:w::r=v at h;generalize ho:some d=o at h;cases h with
 |nil=>cases hv
 |free _=>cases ho
 |Tk h1 _ _=>injection hv with e _;rw[<-e,k1] at h1;cases h1
 |Gj _ _=>cases ho
 |num _ h2=>injection hv with _ e;injection ho with ho;subst e ho;exact h2
 |jump h1 _ _=>injection hv with e _;rw[<-e,k2] at h1;cases h1
 |goto h1 _ _=>injection hv with _ e;rw[hr _ _ e] at h1;cases h1
 |call h1 _=>injection hv with e _;rw[<-e,k2] at h1;cases h1
 |sign h1 _=>injection hv with e _;rw[e,(Eu (AG h1).1).2.1] at hn;cases hn
 |stop h1 _=>injection hv with e _;rw[e,(Eu (JI h1)).2.1] at hn;cases hn
theorem nI(hc:kE c=some (a,b))(h:Ty L (some d) ([c]::r)):∃ e,d=e+a/\Ty L (some (e+b)) r:=by
 obtain⟨k0,k4,k5⟩:=AG hc;obtain⟨k1,k2,k3⟩:=Eu k0;generalize hv:[c]::r=v at h;generalize ho:some d=o at h;cases h with
 |nil=>cases hv
 |free _=>cases ho
 |Tk h1 _ _=>injection hv with e _;rw[<-e,k1] at h1;cases h1
 |Gj _ _=>cases ho
 |num h1 h2=>injection hv with e _;rw[<-e,k2] at h1;cases h1
 |jump h1 _ _=>injection hv with e _;rw[<-e,k3] at h1;cases h1
 |goto h1 _ _=>injection hv with e _;rw[e,nr] at k2;cases k2
 |call h1 _=>injection hv with e _;rw[<-e,k3] at h1;cases h1
 |sign h1 h2=>injection hv with e e2;injection e with e _;subst e e2;rw[hc] at h1;injection h1 with h1;injection h1 with e1 e2;subst e1 e2;injection ho with ho;exact⟨_,ho,h2⟩
 |stop h1 _=>injection hv with e _;injection e with e _;rw[<-e] at h1;rcases h1 with h1|h1;exact absurd h1 k4;exact absurd h1 k5
theorem qsZ(hr:Va w=some x)(h:Ty L (some d) (w::[63]::r)):d=1/\L x=0/\Ty L (some 0) r:=by
 have k1:=gu hr;have k2:=gW hr;generalize hv:w::[63]::r=v at h;generalize ho:some d=o at h;cases h with
 |nil=>cases hv
 |free _=>cases ho
 |Tk h1 _ _=>injection hv with e _;rw[<-e,k1] at h1;cases h1
 |Gj _ _=>cases ho
 |num h1 h2=>injection hv with e _;rw[<-e,k2] at h1;cases h1
 |jump h1 h2 h3=>injection hv with e e2;injection e2 with _ e2;subst e e2;rw[hr] at h1;injection h1 with h1;subst h1;injection ho with ho;exact⟨ho,h2,h3⟩
 |goto h1 _ _=>injection hv with e _;rw[e,nr] at k2;cases k2
 |call h1 _=>injection hv with _ e;injection e with e _;exact absurd e ea
 |sign h1 _=>injection hv with e _;rw[e,(Eu (AG h1).1).2.2] at hr;cases hr
 |stop h1 _=>injection hv with e _;rw[e,(Eu (JI h1)).2.2] at hr;cases hr
theorem wZ{z:Wd}(hz:Db z=some n)(hr:Va w=some x)(h:Ty L (some d) (z::w::[63]::r)):d=0/\L x=0/\Ty L none r/\(n≠0->Ty L (some 0) r):=by
 obtain⟨k1,k2⟩:=sr hz;generalize hv:z::w::[63]::r=v at h;generalize ho:some d=o at h;cases h with
 |nil=>cases hv
 |free _=>cases ho
 |Tk h1 _ _=>injection hv with e _;rw[<-e,k1] at h1;cases h1
 |Gj _ _=>cases ho
 |num h1 h2=>injection hv with _ e;injection ho with ho;subst e ho;obtain⟨e1,e2,e3⟩:=qsZ hr h2;exact⟨by omega,e2,.free e3,λ_=>e3⟩
 |jump h1 _ _=>injection hv with e _;rw[<-e,k2] at h1;cases h1
 |goto h1 h2 h3=>
  injection hv with e0 e;injection e with e e2;injection e2 with _ e2;subst e e2;rw[hr] at h1;injection h1 with h1;subst h1;injection ho with ho;refine⟨ho,h2,h3,λhn=>?_⟩;rw[e0,nr] at hz;injection hz with hz
  exact absurd hz.symm hn
 |call h1 _=>injection hv with e _;rw[<-e,k2] at h1;cases h1
 |sign h1 _=>injection hv with e _;rw[e,(Eu (AG h1).1).2.1] at hz;cases hz
 |stop h1 _=>injection hv with e _;rw[e,(Eu (JI h1)).2.1] at hz;cases hz
theorem qzs(hc:c=59∨c=36)(h:Ty L (some d) ([c]::r)):Ty L none r:=by
 obtain⟨k1,k2,k3⟩:=Eu (JI hc);generalize hv:[c]::r=v at h;generalize ho:some d=o at h;cases h with
 |nil=>cases hv
 |free _=>cases ho
 |Tk h1 _ _=>injection hv with e _;rw[<-e,k1] at h1;cases h1
 |Gj _ _=>cases ho
 |num h1 h2=>injection hv with e _;rw[<-e,k2] at h1;cases h1
 |jump h1 _ _=>injection hv with e _;rw[<-e,k3] at h1;cases h1
 |goto h1 _ _=>injection hv with e _;rw[e,nr] at k2;cases k2
 |call h1 _=>injection hv with e _;rw[<-e,k3] at h1;cases h1
 |sign h1 h2=>injection hv with e e2;injection e with e _;subst e;rcases hc with rfl|rfl;exact absurd rfl (AG h1).2.1;exact absurd rfl (AG h1).2.2
 |stop h1 h2=>injection hv with _ e;subst e;exact h2
theorem WY(hd:ya w=some x)(h:Ty L (some d) (w::r)):d=0/\L x=0/\Ty L (some 0) r:=by
 generalize hv:w::r=v at h;generalize ho:some d=o at h;cases h with
 |nil=>cases hv
 |free _=>cases ho
 |Tk h1 h2 h3=>injection hv with e e2;subst e e2;rw[hd] at h1;injection h1 with h1;subst h1;injection ho with ho;exact⟨ho,h2,h3⟩
 |Gj _ _=>cases ho
 |num h1 h2=>injection hv with e _;rw[e,(sr h1).1] at hd;cases hd
 |jump h1 _ _=>injection hv with e _;rw[e,gu h1] at hd;cases hd
 |goto h1 _ _=>injection hv with e _;rw[e,(sr nr).1] at hd;cases hd
 |call h1 _=>injection hv with e _;rw[e,gu h1] at hd;cases hd
 |sign h1 h2=>injection hv with e _;rw[e,(Eu (AG h1).1).1] at hd;cases hd
 |stop h1 h2=>injection hv with e _;rw[e,(Eu (JI h1)).1] at hd;cases hd
theorem MZ(h:Ty L none (w::r)):(∃ d,Ty L (some d) (w::r))∨∃ x,ya w=some x/\Ty L (some (L x)) r:=by
 cases h with
 |free h=>exact .inl ⟨_,h⟩
 |Gj h1 h2=>exact .inr ⟨_,h1,h2⟩
end
section
variable{L:Wd->Nat}
theorem qtY(iq:∀ y r,rest=y::r->(ya y).isSome=true):∀ (n:Nat) (dead:List Wd) (o:Option Nat),dead.length<=n->(∀ y∈dead,ya y=none)->Ty L o (dead++rest)->Ty L none rest:=by
 have Yb:∀ {o:Option Nat} {v:List Wd},Ty L o v->Ty L none v:=λ{o v} h=>by
  cases o with
  |none=>exact h
  |some d=>exact .free h
 have cut:∀ {dead r:List Wd} {z:Wd},dead++rest=z::r->ya z=none->∃ KJ,dead=z::KJ/\r=KJ++rest:=by
  intro dead r z e hz;cases dead with
  |nil=>have:=iq z r e;rw[hz] at this;cases this
  |cons y dead=>rw[cons_append] at e;injection e with e1 e2;subst e1 e2;exact⟨dead,rfl,rfl⟩
 intro n;induction n with
 |zero=>intro dead o hn hd h;obtain rfl:=eq_nil_of_length_eq_zero (Nat.le_zero.1 hn);exact Yb h
 |succ n ih=>
  intro dead o hn hd h;cases dead with
  |nil=>exact Yb h
  |cons y dead=>
   have hy:=hd y Qe;have FA:=λz hz=>hd z (Oc y hz);rw[Ma] at hn
   have main:∀ d,Ty L (some d) (y::(dead++rest))->Ty L none rest:=by
    intro d h;generalize hv:y::(dead++rest)=v at h;generalize ho:some d=o at h;cases h with
    |nil=>cases hv
    |free _=>cases ho
    |Tk h1 _ _=>injection hv with e _;rw[<-e,hy] at h1;cases h1
    |Gj _ _=>cases ho
    |num h1 h2=>injection hv with _ e;subst e;exact ih dead _ ga FA h2
    |jump h1 _ h2=>injection hv with _ e;obtain⟨q,rfl,rfl⟩:=cut e (by decide +kernel);exact ih q _ (by simp only[Ma] at hn;omega) (λz hz=>FA z (Oc _ hz)) h2
    |goto h1 _ h2=>injection hv with _ e;obtain⟨q,rfl,e2⟩:=cut e (gu h1);obtain⟨q2,rfl,rfl⟩:=cut e2.symm (by decide +kernel);exact ih q2 _ (by simp only[Ma] at hn;omega) (λz hz=>FA z (Oc _ (Oc _ hz))) h2
    |call h1 h2=>injection hv with _ e;obtain⟨q,rfl,rfl⟩:=cut e (by decide +kernel);exact ih q _ (by simp only[Ma] at hn;omega) (λz hz=>FA z (Oc _ hz)) h2
    |sign h1 h2=>injection hv with _ e;subst e;exact ih dead _ ga FA h2
    |stop h1 h2=>injection hv with _ e;subst e;exact ih dead _ ga FA h2
   cases o with
   |some d=>exact main d h
   |none=>rcases MZ h with⟨d,h⟩|⟨x,h1,_⟩;exact main d h;rw[hy] at h1;cases h1
theorem qAb(hl:L l=0):∀ {rest:List Wd},vu l rest=true->Ty L none rest->Ty L (some 0) rest
 |[],h,_=>by cases h
 |w::r,h,ht=>by
  rcases MZ ht with⟨d,ht⟩|⟨x,h1,h2⟩;cases hd:ya w with
  |none=>rw[vu,hd] at h;cases h
  |some x=>obtain⟨rfl,_,_⟩:=WY hd ht;exact ht
  rw[vu,h1] at h;simp only[Bool.or_eq_true,Rg] at h;have h0:L x=0:=by
   rcases h with rfl|h;exact hl;cases r with
   |nil=>cases h
   |cons y q=>
    cases hd:ya y with
    |none=>rw[vu,hd] at h;cases h
    |some z=>exact(WY hd h2).1
  rw[h0] at h2;exact .Tk h1 h0 h2
theorem cN(h:tc c):kE c=some (2,1):=by unfold tc at h;rcases h with rfl|rfl|rfl|rfl|rfl|rfl|rfl <;> decide
theorem qsz{y:Wd}(h:Db y=some n):Va y=none:=(sr h).2
theorem qzL{la:Wd->Bool}{v:List Wd}(h:Kind la v p rest){d:Nat}(ht:Ty L (some d) v)(T:List Wd)(hT:∀ o,Ty L o rest->Ty L o T):Ty L (some d) (p++T):=by
 have uy:∀ {c:UInt8} {q:List Wd},c∈Kl->∀ y s,[c]::q=y::s->Va y=none:=λhc y s e=>by injection e with e _;rw[<-e];exact(Eu hc).2.2
 cases h with
 |@fold x y op z rest h1=>
  obtain⟨k1,k2,k3,k4⟩:=W3 h1;unfold Mk at h1;split at h1;rename_i a b ha hb;split at h1;rename_i c hc;split at h1;injection h1 with h1;have Ka:=EQ ((IC _ _).1 ha).1 ((IC _ _).1 hb).1 hc;have ld:∃ ch,op=[ch]/\tc ch:=by unfold Tp at hc;unfold tc;split at hc;rename_i e;exact⟨_,e,by decide⟩;split at hc;rename_i e;exact⟨_,e,by decide⟩;split at hc;rename_i e;exact⟨_,e,by decide⟩;split at hc;rename_i e;exact⟨_,e,by decide⟩;split at hc;rename_i e;exact⟨_,e,by decide⟩;split at hc;rename_i e;exact⟨_,e,by decide⟩;split at hc;rename_i e;exact⟨_,e,by decide⟩;cases hc
  obtain⟨ch,rfl,ld⟩:=ld;have t1:=oG ha (λy s e=>by injection e with e _;rw[<-e];exact qsz hb) ht;have t2:=oG hb (uy (Ly ld)) t1;obtain⟨e,he,t3⟩:=nI (cN ld) t2;obtain rfl:e=d:=by omega
  subst h1;exact .num (vG Ka) (hT _ t3);cases h1;cases h1;cases h1
 |@neutral x n c rest h1 h2=>
  have ld:=qiW h2;have t1:=oG h1 (uy (Ly ld)) ht;obtain⟨e,he,t3⟩:=nI (cN ld) t1;obtain rfl:e+1=d:=by omega
  exact hT _ t3
 |@bh x y z c rest hc h1=>
  have ld:tc c:=by unfold tc;rcases hc with rfl|rfl|rfl <;> decide
  unfold Mk at h1;split at h1;rename_i a b ha hb;split at h1;rename_i k hk;split at h1;injection h1 with h1;have Ka:=EQ ((IC _ _).1 ha).1 ((IC _ _).1 hb).1 hk;have t1:=oG ha (uy (Ly ld)) ht;obtain⟨e,he,t2⟩:=nI (cN ld) t1;have t3:=oG hb (uy (Ly ld)) t2;obtain⟨e',Na,t4⟩:=nI (cN ld) t3;subst h1;refine .num (vG Ka) ?_;have e1:d+1=e'+2:=by omega
  rw[e1];exact .sign (cN ld) (hT _ t4);cases h1;cases h1;cases h1
 |@same x n rest h1=>
  have t1:=oG h1 (uy ea) ht;obtain⟨e,he,t2⟩:=nI (a:=1) (b:=1) ea t1;have t3:=oG h1 (uy ea) t2;obtain⟨e',Na,t4⟩:=nI (a:=2) (b:=0) ea t3;obtain rfl:e'=d:=by omega
  exact hT _ t4
 |@double w l rest h1=>
  have t1:=oG eG (uy ea) ht;obtain⟨e,he,t2⟩:=nI (a:=2) (b:=1) ea t1;have t3:=oG eG (uy ea) t2;obtain⟨e',Na,t4⟩:=nI (a:=2) (b:=1) ea t3;obtain⟨j1,j2,j3⟩:=qsZ h1 t4;obtain rfl:d=1:=by omega
  exact .jump h1 j2 (hT _ j3)
 |@never x w l n rest h1 h2 h3=>obtain⟨j1,j2,j3,j4⟩:=wZ h1 h3 ht;subst j1;exact hT _ (j4 h2)
 |@next w l rest h1 h2=>obtain⟨j1,j2,j3,j4⟩:=wZ nr h1 ht;subst j1;exact hT _ (qAb j2 h2 j3)
 |@sq w l dead rest h1 h2 h3=>obtain⟨j1,j2,j3,j4⟩:=wZ nr h1 ht;subst j1;exact .goto h1 j2 (hT _ (qtY h3 _ dead _ (Pb _) h2 j3))
 |@uo c dead rest h1 h2 h3=>exact .stop h1 (hT _ (qtY h3 _ dead _ (Pb _) h2 (qzs h1 ht)))
 |@unused w l rest h1 h2=>obtain⟨j1,j2,j3⟩:=WY h1 ht;subst j1;exact hT _ j3
theorem qy9(la:Wd->Bool):∀ (n:Nat) (v:List Wd) (o:Option Nat),v.length<=n->Ty L o v->Ty L o (O la v):=by
 intro n;induction n with
 |zero=>intro v o hn h;obtain rfl:=eq_nil_of_length_eq_zero (Nat.le_zero.1 hn);exact .nil
 |succ n ih=>
  intro v o hn h;cases v with
  |nil=>exact .nil
  |cons w r=>
   rw[Ma] at hn;have main:∀ d,Ty L (some d) (w::r)->Ty L (some d) (O la (w::r)):=by
    intro d h;rcases jN la w r with⟨e,_⟩|⟨p,rest,k,e,hl⟩
    ·rw[e];generalize hv:w::r=v at h;generalize ho:some d=o at h
     cases h with
     |nil=>cases hv
     |free _=>cases ho
     |Tk h1 h2 h3=>injection hv with e1 e2;subst e1 e2;exact .Tk h1 h2 (ih _ _ ga h3)
     |Gj _ _=>cases ho
     |num h1 h2=>injection hv with e1 e2;subst e1 e2;exact .num h1 (ih _ _ ga h2)
     |jump h1 h2 h3=>injection hv with e1 e2;subst e1 e2;rw[xQ la (.inl rfl)];simp only[Ma] at hn;exact .jump h1 h2 (ih _ _ ga h3)
     |goto h1 h2 h3=>injection hv with e1 e2;subst e1 e2;rw[uU la h1,xQ la (.inl rfl)];simp only[Ma] at hn;exact .goto h1 h2 (ih _ _ ga h3)
     |call h1 h2=>injection hv with e1 e2;subst e1 e2;rw[xQ la (.inr rfl)];simp only[Ma] at hn;exact .call h1 (ih _ _ ga h2)
     |sign h1 h2=>injection hv with e1 e2;subst e1 e2;exact .sign h1 (ih _ _ ga h2)
     |stop h1 h2=>injection hv with e1 e2;subst e1 e2;exact .stop h1 (ih _ _ ga h2)
    rw[e];exact qzL k h _ λo ho=>ih _ _ ga ho
   cases o with
   |some d=>exact main d h
   |none=>
    rcases MZ h with⟨d,h⟩|⟨x,h1,h2⟩;exact .free (main d h);have h3:=ih r _ ga h2;rcases jN la w r with⟨e,_⟩|⟨p,rest,k,e,hl⟩;rw[e];exact .Gj h1 h3;rw[e];generalize hv:w::r=v at k;have lc:Db w=none:=by
     cases hq:Db w with
     |none=>rfl
     |some n=>rw[(sr hq).1] at h1;cases h1
    have xb:∀ c:UInt8,ya [c]=none->w≠[c]:=λc hc e=>by rw[e,hc] at h1;cases h1
    have hj:∀ {x op y z:Wd},Mk x op y=some z->Db x≠none:=λhj e=>by unfold Mk at hj;rw[e] at hj;cases hj
    cases k with
    |fold q=>injection hv with e _;exact absurd (by rw[<-e];exact lc) (hj q)
    |neutral q _=>injection hv with e _;rw[<-e,lc] at q;cases q
    |bh _ q=>injection hv with e _;exact absurd (by rw[<-e];exact lc) (hj q)
    |same q=>injection hv with e _;rw[<-e,lc] at q;cases q
    |double _=>injection hv with e _;exact absurd e (xb 49 (sr eG).1)
    |never q _ _=>injection hv with e _;rw[<-e,lc] at q;cases q
    |next _ _=>injection hv with e _;exact absurd e (xb 48 (sr nr).1)
    |sq _ _ _=>injection hv with e _;exact absurd e (xb 48 (sr nr).1)
    |@uo c _ _ q _ _=>injection hv with e _;exact absurd e (xb c (Eu (JI q)).1)
    |unused q _=>injection hv with e1 e2;subst e1 e2;exact .free h3
theorem qy6{o:Option Nat}{v:List Wd}(h:Ty L o v):Ty L o (Gq v):=qy9 _ _ v o (Pb _) h
theorem qs9{o:Option Nat}:∀ (f:Nat) {v:List Wd},Ty L o v->Ty L o (gh f v)
 |0,v,h=>h
 |f+1,v,h=>by rw[gh];split;exact h;exact qs9 f (qy6 h)
theorem qBn{o:Option Nat}{v:List Wd}(h:Ty L o v):Ty L o (Fi v):=qs9 _ h
theorem JP(known:Wd->Nat){o:Option Nat}{v:List Wd}(h:Ty L o v):∀ (t:Wd),(Qf t=true->∃ d,o=some (d+1))->∀ (j:Nat) (w x:Wd),v[j]? = some w->ya w=some x->Qf ((v.take j).foldl (Ee known) t)=false:=by
 have uy:∀ {c:UInt8} (t:Wd),c∈Kl->Qf (Ee known t [c])=false:=λ{c} t hc=>by obtain⟨e1,e2,e3⟩:=Ny hc;have h1:=(ZQ known t [c] e1 (by simp)).2.1;rw[h1];unfold jf;rw[e2];unfold Qf;simp[e3]
 have pass:∀ {t w x:Wd},ya w=some x->Ee known t w=t:=λhd=>by unfold Ee;rw[hd]
 have no:∀ {t:Wd},Qf t=false->∀ {P:Prop},Qf t=true->P:=λh1 _ h2=>by rw[h1] at h2;cases h2
 induction h with
 |nil=>intro t ht j w x hw;simp at hw
 |free _ ih=>intro t ht;exact ih t λh=>by obtain⟨d,hd⟩:=ht h;cases hd
 |@Tk w x r h1 h2 h3 ih=>
  intro t ht j y z hy hz;have h0:Qf t=false:=by
   cases hl:Qf t with
   |false=>rfl
   |true=>obtain⟨d,hd⟩:=ht hl;injection hd with hd;omega
  cases j with
  |zero=>exact h0
  |succ j=>rw[take_succ_cons,foldl_cons,pass h1];exact ih t (no h0) j y z (by simpa using hy) hz
 |@Gj w x r h1 h2 ih=>
  intro t ht j y z hy hz;have h0:Qf t=false:=by
   cases hl:Qf t with
   |false=>rfl
   |true=>obtain⟨d,hd⟩:=ht hl;cases hd
  cases j with
  |zero=>exact h0
  |succ j=>rw[take_succ_cons,foldl_cons,pass h1];exact ih t (no h0) j y z (by simpa using hy) hz
 |@num d n w r h1 h2 ih=>
  intro t ht j y z hy hz;cases j with
  |zero=>simp only[Jl,Ym] at hy;rw[<-hy,(sr h1).1] at hz;cases hz
  |succ j=>rw[take_succ_cons,foldl_cons];exact ih _ (λ_=>⟨d,rfl⟩) j y z (by simpa using hy) hz
 |@jump w x r h1 h2 h3 ih=>
  intro t ht j y z hy hz;match j,hy with
  |0,hy=>simp only[Jl,Ym] at hy;rw[<-hy,gu h1] at hz;cases hz
  |1,hy=>simp only[Jl,Bs,Ym] at hy;rw[<-hy,(Eu (c:=63) ea).1] at hz;cases hz
  |j+2,hy=>rw[take_succ_cons,take_succ_cons,foldl_cons,foldl_cons];exact ih _ (no (uy _ ea)) j y z (by simpa using hy) hz
 |@goto w x r h1 h2 h3 ih=>
  intro t ht j y z hy hz;match j,hy with
  |0,hy=>simp only[Jl,Ym] at hy;rw[<-hy,(sr nr).1] at hz;cases hz
  |1,hy=>simp only[Jl,Bs,Ym] at hy;rw[<-hy,gu h1] at hz;cases hz
  |2,hy=>simp only[Jl,Bs,Ym] at hy;rw[<-hy,(Eu (c:=63) ea).1] at hz;cases hz
  |j+3,hy=>rw[take_succ_cons,take_succ_cons,take_succ_cons,foldl_cons,foldl_cons,foldl_cons];exact ih _ (no (uy _ ea)) j y z (by simpa using hy) hz
 |@call d w x r h1 h2 ih=>
  intro t ht j y z hy hz;match j,hy with
  |0,hy=>simp only[Jl,Ym] at hy;rw[<-hy,gu h1] at hz;cases hz
  |1,hy=>simp only[Jl,Bs,Ym] at hy;rw[<-hy,(Eu (c:=58) ea).1] at hz;cases hz
  |j+2,hy=>rw[take_succ_cons,take_succ_cons,foldl_cons,foldl_cons];exact ih _ (no (uy _ ea)) j y z (by simpa using hy) hz
 |@sign d a b c r h1 h2 ih=>
  intro t ht j y z hy hz;cases j with
  |zero=>simp only[Jl,Ym] at hy;rw[<-hy,(Eu (AG h1).1).1] at hz;cases hz
  |succ j=>rw[take_succ_cons,foldl_cons];exact ih _ (no (uy _ (AG h1).1)) j y z (by simpa using hy) hz
 |@stop d c r h1 h2 ih=>
  intro t ht j y z hy hz;cases j with
  |zero=>simp only[Jl,Ym] at hy;rw[<-hy,(Eu (JI h1)).1] at hz;cases hz
  |succ j=>rw[take_succ_cons,foldl_cons];exact ih _ (no (uy _ (JI h1))) j y z (by simpa using hy) hz
end
abbrev PM:=Go.ia.PW
abbrev SM:=Go.ia.MS
structure Lk(C:PM)(D:Nat->Bool):Prop where
 label:∀ (j:Nat) (w x:Wd),C.W[j]? = some w->ya w=some x->C.known x=C.zd j
 nb:∀ (j:Nat) (w x:Wd),C.W[j]? = some w->ya w=some x->Qf (C.pre j)=false
 data:∀ a,D a=true->a<262144/\(a<C.og∨C.og+(Vl C.known C.W).length<=a)
def PH(C:PM)(k:List Wd)(t:Nat)(f:Bool):Prop:=∃ i,k=C.W.drop i/\t=C.zd i/\Qf (C.pre i)=f
inductive ly {A B:Type} (R:A->B->Prop):List A->List B->Prop
 |nil:ly R [] []
 |cons {a:A} {b:B} {l:List A} {m:List B}:R a b->ly R l m->ly R (a::l) (b::m)
theorem ly.len{A B:Type}{R:A->B->Prop}{l:List A}{m:List B}(h:ly R l m):l.length=m.length:=by
 induction h with
 |nil=>rfl
 |cons _ _ ih=>rw[Ma,Ma,ih]
structure q9(C:PM)(D:Nat->Bool)(s:MS)(m:SM):Prop where
 ok:C.Ok m.mem
 here:PH C s.pc m.pc s.digit
 digit:m.digit=s.digit
 data:m.data=s.data
 calls:ly (λk t=>PH C k t false) s.calls m.calls
 mem:∀ a,D a=true->m.mem a=s.mem a
 Ia:m.Ia=s.Ia
 out:m.out=s.out
section
variable{C:PM}{D:Nat->Bool}{s:MS}{m:SM}{i:Nat}{w x:Wd}{r:List Wd}
theorem que(h:w::r=C.W.drop i):C.W[i]? = some w/\r=C.W.drop (i+1):=by have h1:=congrArg (λl=>l[0]?) h;simp only[Jl,List.getElem?_drop,add_zero] at h1;refine⟨h1.symm,?_⟩;rw[<-drop_drop,<-h];try rfl
theorem qqR(hw:C.W[i]? = some w)(hd:ya w=some x):C.zd (i+1)=C.zd i/\C.pre (i+1)=C.pre i:=by
 have h1:=C.Gu hw;have h2:Ee C.known (C.pre i) w=C.pre i:=by unfold Ee;rw[hd]
 rw[h2] at h1;refine⟨?_,h1⟩;unfold Go.ia.PW.zd;rw[h1]
theorem qro(hL:Lk C D){k:List Wd}(h:Yk x C.W=some k):PH C k (C.known x) false:=by
 obtain⟨p,w,h1,h2⟩:=UW h;have hw:C.W[p.length]? = some w:=by rw[h1,List.getElem?_append_right (Pb _)];simp
 obtain⟨e1,e2⟩:=qqR hw h2;refine⟨p.length+1,?_,?_,?_⟩
 ·conv=>rhs;rw[h1]
  rw[<-drop_drop,List.drop_left];try rfl
 rw[e1];exact hL.label _ _ _ hw h2;rw[e2];exact hL.nb _ _ _ hw h2
theorem qqv(hk:C.Ok m.mem)(ir:m.pc=C.zd i)(Qq:Qf (C.pre i)=m.digit)(hw:C.W[i]? = some w)(hd:ya w=none)(xb:jf C.known w≠[])(hg:∀ c∈jf C.known w,qe c=true)(hv:Zg 0 (jf C.known w)<4294967296)(Wa:m.data.length<256) :
  Go.ia.Uh ((jf C.known w).length+one m.digit) m { m with pc:=C.zd (i+1),data:=Zg 0 (jf C.known w)::m.data,digit:=true }/\Qf (C.pre (i+1))=true:=by
 obtain⟨⟨h1,h2⟩,h3⟩:=C.bU hk ⟨ir,λh=>by rw[Qq];exact h⟩ hw hd xb hg hv Wa;refine⟨?_,h3⟩
 have hf:Mm (jf C.known w)=true:=by
  cases hp:jf C.known w with
  |nil=>exact absurd hp xb
  |cons c r=>exact hg c (by rw[hp];simp)
 have h4:=(C.piece hk hw hd).1;have Gn:C.zd (i+1)=C.zd i+((jf C.known w).length+one m.digit):=by unfold Go.ia.PW.zd;rw[h4,Ga,Ga,hf,Bool.and_true,Qq];unfold one;cases m.digit <;> simp <;> omega
 rw[Gn,Nat.add_sub_cancel_left,<-Gn] at h2;exact h2
theorem xI{m':SM}(h:Go.ia.Nf 1 m m')(xb:m≠m'):Go.ia.Uh 1 m m':=by
 obtain⟨k,h1,h2⟩:=h;rcases Nat.lt_or_ge k 1 with h0|h0;obtain rfl:k=0:=by omega
 cases h2;exact absurd rfl xb;obtain rfl:k=1:=by omega
 exact h2
theorem PV(hk:C.Ok m.mem)(hc:c∈Kl)(hw:C.W[i]? = some [c]):C.zd (i+1)=C.zd i+1/\Qf (C.pre (i+1))=false:=by
 obtain⟨e1,e2,e3⟩:=Ny hc;refine⟨C.qC hk hw e1 e2 e3,?_⟩;have h1:=(C.piece hk hw e1).1;have hp:jf C.known [c]=[c]:=by unfold jf;rw[e2]
 rw[h1,hp,N1 (by simp)];unfold Qf;simp[e3]
theorem ak(hL:Lk C D){mem:Nat->Nat}(hk:C.Ok mem)(ha:D a=true):C.Ok λi=>if i=a then v else mem i:=by refine⟨λk h=>?_,hk.fits⟩;have h1:=hk.here k h;have h2:=(hL.data a ha).2;rw[zn (by omega)];exact h1
theorem qnL(hL:Lk C D)(h:q9 C D s m):match Za ⟨C.W,D⟩ s with
  |.run s'=>∃ m',Go.ia.Uh (Ri s) m m'/\q9 C D s' m'
  |.stop e o=>e≠99->Go.ia.Za m=.stop e o:=by
 obtain⟨hk,⟨i,h1,h2,h3⟩,Qq,qi,Al,pi,kq,zg⟩:=h;have GJ:C.At m i:=⟨h2,λh=>by rw[h3,<-Qq];exact h⟩;have aad:C.zd i<=262144:=Xf (C.Qw i) hk.fits
 cases hv:s.pc with
 |nil=>
  have:Za ⟨C.W,D⟩ s=lost s:=by unfold Za;rw[hv]
  rw[this];exact λh=>absurd rfl h
 |cons w r=>
  rw[hv] at h1;obtain⟨hw,hr⟩:=que h1;rw[al hv];cases hd:ya w with
  |some x=>
   have hs:Qz ⟨C.W,D⟩ s w r=.run { s with pc:=r }:=by unfold Qz;rw[hd]
   obtain⟨e1,e2⟩:=qqR hw hd;rw[hs];refine⟨m,?_,⟨hk,⟨i+1,hr,h2.trans e1.symm,by rw[e2];exact h3⟩,Qq,qi,Al,pi,kq,zg⟩⟩;rw[OQ hv hd];exact .zero m
  |none=>
   cases hn:Db w with
   |some n=>
    rw[IK hn];obtain⟨n1,n2⟩:=(IC w n).1 hn;have TL:=(sr hn).2;have hp:jf C.known w=w:=by unfold jf;rw[TL]
    unfold jn;by_cases hl:s.data.length<256;rw[zp hl];have Pk:Zg 0 w=n:=by rw[<-n2,K0]
    obtain⟨k1,k2⟩:=qqv hk h2 (by rw[h3,Qq]) hw hd (by rw[hp];exact(J2 hn).1) (by rw[hp];exact(J2 hn).2) (by rw[hp,Pk];exact n1) (by rw[qi];exact hl);rw[hp,Pk] at k1;have hc:Ri s=w.length+one s.digit:=by unfold Ri;rw[hv];exact HK hn
    rw[hc,<-Qq];exact⟨_,k1,⟨hk,⟨i+1,hr,rfl,k2⟩,rfl,by simp only;rw[qi],Al,pi,kq,zg⟩⟩;rw[zn hl];exact λh=>absurd rfl h
   |none=>
    cases TL:Va w with
    |some x=>
     rw[yG TL];have hc:Ri s=7+one s.digit:=by unfold Ri;rw[hv];exact HI TL
     unfold Kz;cases hka:Yk x C.W with
     |none=>exact λh=>absurd rfl h
     |some k=>
      have xt:=qro hL hka;have sJ:C.known x<1000000:=by obtain⟨j,_,j2,_⟩:=xt;have:=Xf (C.Qw j) hk.fits;omega
      cases r with
      |nil=>exact λh=>absurd rfl h
      |cons y r=>
       simp only;obtain⟨Vy,Ae⟩:=que hr;by_cases hl:s.data.length<256;rotate_left;rw[zn hl];exact λh=>absurd rfl h;rw[zp hl];obtain⟨b1,b2⟩:=aR (C.known x);have hp:jf C.known w=Iq (C.known x):=by unfold jf;rw[TL]
       obtain⟨k1,k2⟩:=qqv hk h2 (by rw[h3,Qq]) hw hd (by rw[hp];intro h;rw[h] at b1;cases b1) (by rw[hp];exact b2) (by rw[hp,qon sJ];omega) (by rw[qi];exact hl);rw[hp,qon sJ,b1] at k1;generalize DA:({ m with pc:=C.zd (i+1),data:=C.known x::m.data,digit:=true }:SM)=m1 at k1;have q1:m1.mem=m.mem:=by rw[<-DA]
       have q2:m1.data=C.known x::m.data:=by rw[<-DA]
       have q3:m1.calls=m.calls:=by rw[<-DA]
       have q4:m1.Ia=m.Ia:=by rw[<-DA]
       have q5:m1.out=m.out:=by rw[<-DA]
       have NT:C.At m1 (i+1):=by rw[<-DA];exact⟨rfl,λ_=>k2⟩
       have ju:C.Ok m1.mem:=by rw[q1];exact hk
       have dz:6+one m.digit+1=Ri s:=by rw[hc,Qq];omega
       by_cases hy:y=[63];subst hy;rw[zp rfl];unfold WH;cases xD:s.data with
       |nil=>exact λh=>absurd rfl h
       |cons a d=>
        simp only;have t1:=C.jump ju NT Vy (t:=C.known x) (v:=a) (r:=d) (by rw[q2,qi,xD]);have t2:=xI t1 (by
         intro he;have:=congrArg (λz:SM=>z.data.length) he;simp only[Go.ia.PW.put,q2,qi,xD,Ma] at this;omega)
        have t3:=k1.trans t2;rw[dz] at t3;refine⟨_,t3,⟨ju,?_,rfl,rfl,by show ly _ s.calls m1.calls;rw[q3];exact Al,by show ∀ a,D a=true->m1.mem a=s.mem a;rw[q1];exact pi,by show m1.Ia=_;rw[q4];exact kq,by show m1.out=_;rw[q5];exact zg⟩⟩;by_cases ha:a=0;subst ha;simp only[if_true];exact xt;simp only[zn ha];exact⟨i+1+1,Ae,rfl,(PV hk ea Vy).2⟩
       rw[zn hy];by_cases eS:y=[58];rotate_left;rw[zn eS];exact λh=>absurd rfl h;subst eS;rw[zp rfl];have cf:m.calls.length=s.calls.length:=(Al.len).symm
       by_cases Et:s.calls.length<64;rotate_left;rw[zn Et];exact λh=>absurd rfl h;rw[zp Et];have t1:=C.call ju NT Vy (t:=C.known x) (r:=m.data) q2 (by rw[q3,cf];exact Et)
       have t2:=xI t1 (by
        intro he;have:=congrArg (λz:SM=>z.calls.length) he;simp only[Ma] at this;omega)
       have t3:=k1.trans t2;rw[dz] at t3;exact⟨_,t3,⟨ju,xt,rfl,qi,.cons ⟨i+1+1,Ae,rfl,(PV hk ea Vy).2⟩ (by rw[q3];exact Al),by show ∀ a,D a=true->m1.mem a=s.mem a;rw[q1];exact pi,by show m1.Ia=_;rw[q4];exact kq,by show m1.out=_;rw[q5];exact zg⟩⟩
    |none=>
     rw[F3 hd hn TL];have hc:Ri s=1:=by unfold Ri zC;rw[hv];simp[hd,hn,TL]
     rw[hc];rcases w with _|⟨c,_|⟨c2,w2⟩⟩;exact λh=>absurd rfl h;rotate_left;exact λh=>absurd rfl h;have Yu:tL ⟨C.W,D⟩ s [c] r=Rv D s c r:=rfl;rw[Yu];have spot:c∈Kl->PH C r (C.zd (i+1)) false:=λdz=>⟨i+1,hr,rfl,(PV hk dz hw).2⟩
     have RC:c∈Kl->∀ {m':SM},m'.pc=C.zd (i+1)->m≠m':=λdz m' hp he=>by have h4:=(PV hk dz hw).1;rw[<-he,h2] at hp;omega
     unfold Rv;by_cases c1:c=64
     ·subst c1;rw[zp rfl];unfold pK
      cases xD:s.data with
      |nil=>exact λh=>absurd rfl h
      |cons a d=>
       simp only;by_cases hD:D a=true;rotate_left;rw[zn hD];exact λh=>absurd rfl h;rw[zp hD];unfold jn
       by_cases hl:d.length<256;rotate_left;rw[zn hl];exact λh=>absurd rfl h;rw[zp hl];have t1:=C.load hk GJ hw (by rw[qi,xD]) (hL.data a hD).1 hl;exact⟨_,xI t1 (RC ea rfl),⟨hk,spot ea,rfl,by simp only[Go.ia.PW.put];rw[pi a hD],Al,pi,kq,zg⟩⟩
     rw[zn c1];by_cases c2:c=33
     ·subst c2;rw[zp rfl];unfold AK
      match xD:s.data with
      |[]=>exact λh=>absurd rfl h
      |[_]=>exact λh=>absurd rfl h
      |a::v::d=>simp only;by_cases hD:D a=true;rotate_left;rw[zn hD];exact λh=>absurd rfl h;rw[zp hD];have t1:=C.store hk GJ hw (by rw[qi,xD]) (hL.data a hD).1;refine⟨_,xI t1 (RC ea rfl),⟨ak hL hk hD,spot ea,rfl,rfl,Al,λb hb=>?_,kq,zg⟩⟩;simp only;split;rfl;exact pi b hb
     rw[zn c2];by_cases c3:c=59;subst c3;rw[zp rfl];unfold aI;cases cf:s.calls with
     |nil=>exact λh=>absurd rfl h
     |cons kk l=>
      rw[cf] at Al;simp only;cases BX:m.calls with
      |nil=>rw[BX] at Al;cases Al
      |cons tt l2=>
       rw[BX] at Al;cases Al with
       |cons g1 g2=>
        have t1:=C.back hk GJ hw BX;exact⟨_,xI t1 (by
         intro he;have:=congrArg (λz:SM=>z.calls.length) he;simp only[BX,Ma] at this;omega),⟨hk,g1,rfl,qi,g2,pi,kq,zg⟩⟩
     rw[zn c3];by_cases c4:c=44
     ·subst c4;rw[zp rfl];unfold jn
      by_cases hl:s.data.length<256;rotate_left;rw[zn hl];exact λh=>absurd rfl h;rw[zp hl];have t1:=C.read hk GJ hw (by rw[qi];exact hl);exact⟨_,xI t1 (RC ea rfl),⟨hk,spot ea,rfl,by simp only[Go.ia.PW.put];rw[kq,qi],Al,pi,by simp only;rw[kq],zg⟩⟩
     rw[zn c4];by_cases c5:c=46;subst c5;rw[zp rfl];unfold qQ;cases xD:s.data with
     |nil=>exact λh=>absurd rfl h
     |cons v d=>have t1:=C.write hk GJ hw (v:=v) (r:=d) (by rw[qi,xD]);exact⟨_,xI t1 (RC ea rfl),⟨hk,spot ea,rfl,rfl,Al,pi,kq,by simp only;rw[zg]⟩⟩
     rw[zn c5];by_cases c6:c=36;subst c6;rw[zp rfl];intro _;rw[C.halt hk GJ hw,zg];rw[zn c6];by_cases c7:c=43∨c=45∨c=42∨c=47∨c=37∨c=94∨c=60;rotate_left;rw[zn c7];exact λh=>absurd rfl h;rw[zp c7]
     have ld:tc c:=by unfold tc;rcases c7 with h|h|h|h|h|h|h <;> simp[h]
     unfold El;match xD:s.data with
     |[]=>exact λh=>absurd rfl h
     |[_]=>exact λh=>absurd rfl h
     |b::a::d=>
      simp only;cases hb:Hd c.toNat a b with
      |none=>intro _;rw[C.Sw hk GJ ld hw (by rw[qi,xD]) hb,zg]
      |some v=>simp only;unfold jn;by_cases hl:d.length<256;rotate_left;rw[zn hl];exact λh=>absurd rfl h;rw[zp hl];have t1:=C.op hk GJ ld hw (by rw[qi,xD]) hb hl;exact⟨_,xI t1 (RC (Ly ld) rfl),⟨hk,spot (Ly ld),rfl,rfl,Al,pi,kq,zg⟩⟩
theorem qv0(hL:Lk C D):∀ {n e k:Nat} {o:Wd} {s:MS} {m:SM},Ends ⟨C.W,D⟩ n s e o k->q9 C D s m->∀ N,k<=N->runM N m=(e,o,k):=by
 intro n e k o s m h;induction h generalizing m with
 |@stop s e o h1 h2=>intro hl N hN;have key:=qnL hL hl;rw[h1] at key;have key:=key h2;obtain⟨n,rfl⟩:∃ n,N=n+1:=⟨N-1,by omega⟩;rw[runM,key]
 |@step n k e o s s' h1 _ ih=>intro hl N hN;have key:=qnL hL hl;rw[h1] at key;obtain⟨m',k1,k2⟩:=key;obtain⟨n,rfl⟩:∃ n,N=Ri s+n:=⟨N-Ri s,by omega⟩;rw[qzV k1,ih k2 n (by omega)];simp only[add_comm]
end
theorem qlx{W:List Wd}{L:Wd->Nat}{og:Nat}(hA:yu W)(xb:∀ w∈W,w≠[])(hT:Ty L (some 0) W){known:Wd->Nat}(gF:known=lp (Dq (λ_=>0) og W))(ma:(Vl known W).length<=40000)(ES:og+40000<=262144)
  (h:Ends ⟨W,λx=>decide (x<262144/\(x<og∨og+40000<=x))⟩ n ⟨λ_=>0,W,[],[],Ia,[],false⟩ e o k) (N:Nat) (hN:k<=N):runM N (Ew (Vl known W) og Ia)=(e,o,k):=by
 subst gF;generalize hk:lp (Dq (λ_=>0) og W)=known at *;have hL:Lk ⟨W,og,known⟩ λx=>decide (x<262144/\(x<og∨og+40000<=x)):=by refine⟨λj w x hw hd=>?_,λj w x hw hd=>?_,λa ha=>?_⟩;have:=qol og hA.1 xb hw hd;rw[hk] at this;exact this;exact JP known hT [] (λh=>by cases h) j w x hw hd;have:=qg ha;show _/\(a<og∨og+(Vl known W).length<=a);omega
 refine qv0 hL h (C:=⟨W,og,known⟩) ⟨⟨qzn _ _,by show og+(Vl known W).length<=262144;omega⟩,⟨0,rfl,rfl,rfl⟩,rfl,rfl,.nil,λa ha=>?_,rfl,rfl⟩ N hN;have:=qg ha;show bu (Vl known W) og a=0;unfold bu;split;rw[List.getElem?_eq_none (by omega)];rfl
def WU(C:PW)(Ia:List Nat):MS:=⟨λ_=>0,C.zd 0,[],[],Ia,[],false⟩
section
variable{X:Uf}
theorem qtf(hX:oe X)(Ia:List Nat)(Ca:Nat):X.Rel (rr X.P Ia Ca) (WU X.C Ia):=by
 refine⟨trivial,λk hk=>rfl,λa ha=>?_,rfl,rfl⟩
 have mM:(rr X.P Ia Ca).ar a.name=List.replicate a.size 0:=by
  show(match X.P.ba.find? λb=>decide (b.name=a.name) with
   |some b=>List.replicate b.size 0
   |none=>[])=_
  cases hf:X.P.ba.find? λb=>decide (b.name=a.name) with
  |none=>exact absurd (List.find?_eq_none.1 hf a ha) (by simp)
  |some b=>have h1:=List.mem_of_find?_eq_some hf;have h2:b.name=a.name:=qg (List.find?_some (p:=λb:Ar=>decide (b.name=a.name)) hf);simp only;rw[hX.Wt b h1 a ha h2]
 rw[mM];refine⟨List.length_replicate,λi hi=>?_⟩;rw[List.length_replicate] at hi;rw[List.getElem_replicate]
 try rfl
end
theorem qpV{x w:Wd}:∀ (W:List Wd) (j:Nat),(Jb W).Nodup->W[j]? = some w->ya w=some x->Yk x W=some (W.drop (j+1))
 |[],j,_,h,_=>by simp at h
 |v::W,0,hn,h,hd=>by simp only[Jl,Ym] at h;subst h;rw[Yk,zp hd];try rfl
 |v::W,j+1,hn,h,hd=>by
  rw[Bs] at h;have hm:x∈Jb W:=List.mem_filterMap.2 ⟨w,List.mem_of_getElem? h,hd⟩;rw[GG] at hn;have CD:=On hn;have xb:¬ ya v=some x:=λe=>by rw[e] at CD;exact CD.2.2 x (Sq rfl) x hm rfl
  rw[Yk,zn xb,List.drop_succ_cons];exact qpV W j CD.2.1 h hd
def qBu(X:Go.ia.Uf)(D:Nat->Bool):Uf:=⟨⟨X.C.W,D⟩,X.P,X.cc,X.ib,X.sa,X.aa,X.S,X.fst⟩
theorem qv8{X:Go.ia.Uf}{D:Nat->Bool}(h:Go.ia.oe X)(hD:∀ x,X.Data x->D x=true)(hn:(Jb X.C.W).Nodup):oe (qBu X D):=
 ⟨h.sc,h.ar,h.qy,h.low,hD,h.cx,h.inj,h.apart,h.yE,h.rz,h.Wt,h.body,h.fn,h.A5,h.code,h.wA,h.jt,h.Gj,h.KA,λj w x hw hd=>qpV _ _ hn hw hd⟩
def QM(og:Nat):Nat->Bool:=λx=>decide (x<262144/\(x<og∨og+40000<=x))
theorem qxb{o:il}(hc:Lq P=0)(Ge:Ls P.vars (vf P) P.funcs o=true):∀ x,(bj P o).Data x->QM o.code.toNat x=true:=λx hx=>by have hv:=BI hc;have hF:=NE Ge;have Hn:=(Nw _ _ hv.names).1;have PB:(P.ba.map (·.name)).Nodup:=(On (On Hn).1).2.1;obtain⟨s0,c0,a0,s1,c1,a1,cs,U8,ac⟩:=hF;refine Dg ?_;rcases hx with⟨k,hk,rfl⟩|hx|⟨a,ha,i,hi,rfl⟩;have h1:(je P.vars P.funcs).idxOf k<_:=BK hk;show o.scalars.toNat+3+(je P.vars P.funcs).idxOf k<262144/\(o.scalars.toNat+3+(je P.vars P.funcs).idxOf k<_∨_<=o.scalars.toNat+3+(je P.vars P.funcs).idxOf k);omega;have h1:o.scalars.toNat<=x/\x<=o.scalars.toNat+2:=hx;omega;have h1:=aN _ PB a ha;have h2:=ac (by have:i<a.size:=hi;omega);have h3:i<a.size:=hi;show o.ba.toNat+Lg P.ba a.name+i<262144/\(o.ba.toNat+Lg P.ba a.name+i<_∨_<=o.ba.toNat+Lg P.ba a.name+i);omega
section
variable{L:Wd->Nat}
def Up(L:Wd->Nat)(ws:List Wd):Prop:=∀ d r,Ty L (some (d+1)) r->Ty L (some d) (ws++r)
def Flat(L:Wd->Nat)(ws:List Wd):Prop:=∀ r,Ty L (some 0) r->Ty L (some 0) (ws++r)
def fp(w:Wd):Prop:=∃ k,Db w=some k
structure qk(c:CC):Prop where
 sc:∀ n,fp (c.sc n)
 ar:∀ n,fp (c.ar n)
 t0:fp c.t0
 t1:fp c.t1
 t2:fp c.t2
variable{d:Nat}{w:Wd}{r:List Wd}
theorem Gg(h:fp w)(ht:Ty L (some (d+1)) r):Ty L (some d) (w::r):=by obtain⟨k,hk⟩:=h;exact .num hk ht
theorem OG:fp [48]:=⟨0,nr⟩
theorem n49:fp [49]:=⟨1,eG⟩
theorem top(h:tc c)(ht:Ty L (some (d+1)) r):Ty L (some (d+2)) ([c]::r):=.sign (cN h) ht
theorem dK(ht:Ty L (some d) r):Ty L (some (d+2)) ([33]::r):=.sign (a:=2) (b:=0) ea ht
theorem HU(ht:Ty L (some (d+1)) r):Ty L (some (d+1)) ([64]::r):=.sign (a:=1) (b:=1) ea ht
theorem trd(ht:Ty L (some (d+1)) r):Ty L (some d) ([44]::r):=.sign (d:=d) (a:=0) (b:=1) ea ht
theorem twr(ht:Ty L (some d) r):Ty L (some (d+1)) ([46]::r):=.sign (a:=1) (b:=0) ea ht
theorem Tn(h:c∈([43,45,42,47,37,94,60]:Wd)):tc c:=by unfold tc;simpa using h
theorem qlo{c:CC}(hc:qk c)(ht:Ty L (some (d+1)) r):Ty L (some (d+2)) (Om c++r):=
 Gg hc.t2 (dK (Gg hc.t1 (dK (Gg hc.t2 (HU (Gg hc.t1 (HU (top (Tn ea) ht))))))))
theorem qAw{c:CC}(hc:qk c){op:Nm}(ld:op∈Fw)(h1:op≠[33,61])(h2:op≠[38,38])(h3:op≠[124,124])(ht:Ty L (some (d+1)) r) :
  Ty L (some (d+2)) ((if op=[62] then Om c else if op=[60,61] then Om c++[[49],[94]] else if op=[62,61] then [[60],[49],[94]] else if op=[61,61] then [[94],[49],[60]] else [op])++r):=by
 simp only[Fw,Dc,not_mem_nil,or_false] at ld;rcases ld with rfl|rfl|rfl|rfl|rfl|rfl|rfl|rfl|rfl|rfl|rfl|rfl|rfl|rfl;exact absurd rfl h3;exact absurd rfl h2;exact top (Tn ea) (Gg n49 (top (Tn ea) ht));exact absurd rfl h1;exact top (Tn ea) ht;exact qlo hc ht;show Ty L (some (d+2)) ((Om c++[[49],[94]])++r);rw[Yc];exact qlo hc (Gg n49 (top (Tn ea) ht));exact top (Tn ea) (Gg n49 (top (Tn ea) ht));exact top (Tn ea) ht;exact top (Tn ea) ht;exact top (Tn ea) ht;exact top (Tn ea) ht;exact top (Tn ea) ht;exact top (Tn ea) ht
def YA(L:Wd->Nat)(env:Cb):Prop:=∀ name g,env.fn name=some g->Va ([38,102,95]++name)=some ([102,95]++name)/\L ([102,95]++name)=g.params
mutual
theorem qxQ{c:CC}(hc:qk c){env:Cb}(ed:YA L env):∀ e,fj e->Gf env e=0->Up L (Qb c e)
 |.mk op num name args,hn,h=>λd r ht=>by
  rw[Gf] at h;split at h
  case isFalse=>cases h
  rename_i ld;obtain⟨h1,h2⟩:=Tc.1 h;obtain⟨lc,hn⟩:=hn;have ha:=qs5 hc ed args hn h1;rw[Qb];by_cases o1:op=Af;subst o1;exact Gg ⟨num,vG lc⟩ ht;by_cases o2:op=bg;subst o2;exact Gg (hc.sc name) (HU ht);by_cases o3:op=Vj
  ·subst o3
   have hl:args.length=1:=by have e:ug Vj=1:=rfl;rw[e] at ld;omega
   obtain⟨x,rfl⟩:=nw hl;have hx:=ha.2 (Qb c x) (by rw[Ib];simp);show Ty L (some d) ((c.ar name::((Ib c [x]).headD []++[[43],[64]]))++r);have e:(Ib c [x]).headD []=Qb c x:=by rw[Ib];try rfl
   rw[e,cons_append,Yc];exact Gg (hc.ar name) (hx _ _ (top (Tn ea) (HU ht)))
  by_cases o4:op=tg;subst o4;have Ze:Qc env name args.length=0:=h2;show Ty L (some d) (((Ib c args).flatten++(if name=[105,110] then [[44]] else if name=[111,117,116] then [[46],[48]] else [[38,102,95]++name,[58]]))++r);rw[Yc];refine ha.1 _ _ ?_;by_cases k1:name=[105,110];rw[zp k1];have hl:args.length=0:=by
   unfold Qc at Ze;rw[zp k1] at Ze;split at Ze
   assumption
   cases Ze
  rw[hl];exact trd ht;by_cases k2:name=[111,117,116];rw[zn k1,zp k2];have hl:args.length=1:=by
   unfold Qc at Ze;rw[zn k1,zp k2] at Ze;split at Ze
   assumption
   cases Ze
  rw[hl];exact twr (Gg OG ht);rw[zn k1,zn k2];unfold Qc at Ze;rw[zn k1,zn k2] at Ze;cases hq:env.fn name with
  |none=>rw[hq] at Ze;simp only at Ze;split at Ze <;> cases Ze
  |some g=>rw[hq] at Ze;simp only at Ze;obtain⟨q1,q2⟩:=ed name g hq;split at Ze;rename_i hl;rw[hl,<-q2];exact .call q1 ht;cases Ze
  have MG:ug op=args.length:=by
   have:ug op ≠ -1:=by unfold ug;rw[zn (by simp[o1,o2])];by_cases q:op=Vj∨op=Ng∨op=yg;rw[zp q];decide;rw[zn q,zn o4];split <;> decide
   rcases ld with h|h;exact absurd h this;exact h
  by_cases o5:op=Ng
  ·subst o5
   have hl:args.length=1:=by have e:ug Ng=1:=rfl;rw[e] at MG;omega
   obtain⟨x,rfl⟩:=nw hl;have hx:=ha.2 (Qb c x) (by rw[Ib];simp);show Ty L (some d) (([48]::((Ib c [x]).headD []++[[45]]))++r);have e:(Ib c [x]).headD []=Qb c x:=by rw[Ib];try rfl
   rw[e,cons_append,Yc];exact Gg OG (hx _ _ (top (Tn ea) ht))
  by_cases o6:op=yg
  ·subst o6
   have hl:args.length=1:=by have e:ug yg=1:=rfl;rw[e] at MG;omega
   obtain⟨x,rfl⟩:=nw hl;have hx:=ha.2 (Qb c x) (by rw[Ib];simp);show Ty L (some d) (((Ib c [x]).headD []++[[49],[60]])++r);have e:(Ib c [x]).headD []=Qb c x:=by rw[Ib];try rfl
   rw[e,Yc];exact hx _ _ (Gg n49 (top (Tn ea) ht))
  have hb:op∈Fw/\args.length=2:=by unfold ug at MG;rw[zn (by simp[o1,o2]),zn (by simp[o3,o5,o6]),zn o4] at MG;split at MG;rename_i hm;exact⟨hm,by omega⟩;omega
  obtain⟨hb,hl⟩:=hb;obtain⟨x,y,rfl⟩:∃ x y,args=[x,y]:=by
   match args,hl with
   |[x,y],_=>exact⟨x,y,rfl⟩
  have hx:=ha.2 (Qb c x) (by rw[Ib];simp);have hy:=ha.2 (Qb c y) (by rw[Ib,Ib];simp);have e1:(Ib c [x,y]).headD []=Qb c x:=by rw[Ib];try rfl
  have e2:((Ib c [x,y]).drop 1).headD []=Qb c y:=by rw[Ib,Ib];try rfl
  unfold Cr;rw[zn o1,zn o2,zn o3,zn o4,zn o5,zn o6,e1,e2];by_cases b1:op=[33,61];rw[zp b1,cons_append,Yc,Yc];exact Gg OG (hx _ _ (hy _ _ (top (Tn ea) (top (Tn ea) ht))));rw[zn b1];by_cases b2:op=[38,38];rw[zp b2];simp only[cons_append,Yc,nil_append];exact Gg OG (hx _ _ (top (Tn ea) (Gg OG (hy _ _ (top (Tn ea) (top (Tn ea) ht))))));rw[zn b2];by_cases b3:op=[124,124];rw[zp b3];simp only[cons_append,Yc,nil_append];exact Gg OG (Gg OG (hx _ _ (top (Tn ea) (Gg OG (hy _ _ (top (Tn ea) (top (Tn ea) (top (Tn ea) ht))))))));rw[zn b3,Yc,Yc];exact hx _ _ (hy _ _ (qAw hc hb b1 b2 b3 ht))
theorem qs5{c:CC}(hc:qk c){env:Cb}(ed:YA L env):∀ l,ml l->vg env l=0->(∀ d r,Ty L (some (d+l.length)) r->Ty L (some d) ((Ib c l).flatten++r))/\∀ ws∈Ib c l,Up L ws
 |[],_,_=>by rw[Ib];exact⟨λd r h=>h,λws hw=>(not_mem_nil hw).elim⟩
 |x::l,hn,h=>by rw[vg] at h;obtain⟨h1,h2⟩:=Tc.1 h;have hx:=qxQ hc ed x hn.1 h1;obtain⟨k1,k2⟩:=qs5 hc ed l hn.2 h2;rw[Ib,List.flatten_cons];refine⟨λd r ht=>?_,λws hw=>?_⟩;rw[Yc];refine hx _ _ (k1 _ _ ?_);rw[Ma] at ht;rw[show d+1+l.length=d+(l.length+1) by omega];exact ht;rcases Dc.1 hw with rfl|hw;exact hx;exact k2 ws hw
end
theorem YQ{ds:List Wd}(h:Hp ds (za n++[58])):ya (za n++[58])=some (za n):=eZ (c:=106) (x:=decDigits n) h ea ea
mutual
theorem qBa{c:CC}(hc:qk c){env:Cb}(ed:YA L env){ds:List Wd}(hL:∀ n,L (za n)=0):∀ (s:Sm) (n:Nat),aq s->Dl env s=0->(∀ w∈(Ig c n s).1,Hp ds w)->Flat L (Ig c n s).1
 |.mk kind name index value Ua Bb,n,hn,h,Kc=>λr ht=>by
  rw[Dl] at h;by_cases hf:Zh (.mk kind name index value Ua Bb)=false;rw[zp hf] at h;cases h;rw[zn hf] at h;obtain⟨h1,h⟩:=Tc.1 h;obtain⟨h2,h⟩:=Tc.1 h;obtain⟨h3,h⟩:=Tc.1 h;obtain⟨h4,h5⟩:=Tc.1 h;rw[Bool.not_eq_false] at hf;unfold Zh at hf;obtain⟨n1,n2,n3,n4⟩:=hn;have one:∀ {l:List Ex},l.length=1->ml l->vg env l=0->Up L (Qb c (l.headD default)):=λ{l} hl Ir um=>by obtain⟨x,rfl⟩:=nw hl;rw[vg] at um;exact qxQ hc ed x Ir.1 (Tc.1 um).1
  have jt:∀ {k:Nat},Hp ds (38::za k)->Va (38::za k)=some (za k):=λh=>N9 h;rw[nQ] at Kc ⊢
  by_cases k1:kind=1;rw[zp k1] at Kc ⊢;have hv:value.length=1:=by subst k1;simp at hf;exact hf.2.2.1
  rw[Yc];exact one hv n2 h1 _ _ (Gg (hc.sc name) (dK ht));rw[zn k1] at Kc ⊢;by_cases k2:kind=2;rw[zp k2] at Kc ⊢;have hv:index.length=1/\value.length=1:=by subst k2;simp at hf;exact⟨hf.2.1,hf.2.2.1⟩
  simp only[Yc,cons_append,nil_append];exact one hv.2 n2 h1 _ _ (Gg (hc.ar name) (one hv.1 n1 h2 _ _ (top (Tn ea) (dK ht))));rw[zn k2] at Kc ⊢;by_cases k3:kind=3;rw[zp k3] at Kc ⊢;have hv:value.length=1:=by subst k3;simp at hf;exact hf.2.2
  cases Bb with
  |nil=>
   simp only at Kc ⊢;have iH:=mN hc ed hL Ua (n+1) n3 h4 (λw hw=>Kc w (by simp[hw]));have d1:=YQ (Kc (za n++[58]) (by simp));have r1:=jt (Kc (38::za n) (by simp));simp only[Yc,cons_append,nil_append]
   exact one hv n2 h1 _ _ (.jump r1 (hL n) (iH _ (.Tk d1 (hL n) ht)))
  |cons a q=>simp only at Kc ⊢;have iH:=mN hc ed hL Ua (n+2) n3 h4 (λw hw=>Kc w (by simp[hw]));have QL:=mN hc ed hL (a::q) (Pa c (n+2) Ua).2 n4 h5 (λw hw=>Kc w (by simp[hw]));have d1:=YQ (Kc (za n++[58]) (by simp));have d2:=YQ (Kc (za (n+1)++[58]) (by simp));have r1:=jt (Kc (38::za n) (by simp));have r2:=jt (Kc (38::za (n+1)) (by simp));simp only[Yc,cons_append,nil_append];exact one hv n2 h1 _ _ (.jump r1 (hL n) (iH _ (.goto r2 (hL _) (.free (.Tk d1 (hL n) (QL _ (.Tk d2 (hL _) ht)))))))
  rw[zn k3] at Kc ⊢;by_cases k4:kind=4;rw[zp k4] at Kc ⊢;have hv:value.length=1:=by subst k4;simp at hf;exact hf.2.2.1
  have iH:=mN hc ed hL Ua (n+2) n3 h4 (λw hw=>Kc w (by simp[hw]));have d1:=YQ (Kc (za n++[58]) (by simp));have d2:=YQ (Kc (za (n+1)++[58]) (by simp));have r1:=jt (Kc (38::za n) (by simp));have r2:=jt (Kc (38::za (n+1)) (by simp));simp only[Yc,cons_append,nil_append];exact .Tk d1 (hL n) (one hv n2 h1 _ _ (.jump r2 (hL _) (iH _ (.goto r1 (hL n) (.free (.Tk d2 (hL _) ht))))));rw[zn k4] at Kc ⊢
  by_cases k5:kind=5
  ·rw[zp k5] at Kc ⊢;have hv:value.length=1:=by subst k5;simp at hf;exact hf.2.2.1
   simp only[Yc,cons_append,nil_append];exact one hv n2 h1 _ _ (.stop (.inl rfl) (.free ht))
  rw[zn k5] at Kc ⊢;by_cases k6:kind=6;rw[zp k6] at Kc ⊢;have hv:value.length=1:=by subst k6;simp at hf;exact hf.2.2.1
  simp only[Yc,cons_append,nil_append];exact one hv n2 h1 _ _ (Gg hc.t0 (dK ht));rw[zn k6] at Kc ⊢;by_cases k7:kind=7
  ·rw[zp k7] at Kc ⊢;exact .stop (.inr rfl) (.free ht)
  rw[zn k7] at Kc ⊢;exact ht
theorem mN{c:CC}(hc:qk c){env:Cb}(ed:YA L env){ds:List Wd}(hL:∀ n,L (za n)=0):∀ (l:List Sm) (n:Nat),Bj l->mi env l=0->(∀ w∈(Pa c n l).1,Hp ds w)->Flat L (Pa c n l).1
 |[],n,_,_,_=>λr ht=>by rw[Pa];exact ht
 |s::l,n,hn,h,Kc=>λr ht=>by rw[mi] at h;obtain⟨h1,h2⟩:=Tc.1 h;rw[Pa] at Kc ⊢;simp only at Kc ⊢;rw[Yc];exact qBa hc ed hL s n hn.1 h1 (λw hw=>Kc w (zq (.inl hw))) _ (mN hc ed hL l _ hn.2 h2 (λw hw=>Kc w (zq (.inr hw))) _ ht)
end
theorem qt4{c:CC}(hc:qk c):∀ (ps:List Nm),Ty L (some 0) r->Ty L (some ps.length) ((ps.flatMap λp=>[c.sc p,[33]])++r)
 |[],h=>h
 |p::ps,h=>by rw[List.flatMap_cons,Ma];simp only[cons_append,nil_append];exact Gg (hc.sc p) (dK (qt4 hc ps h))
theorem qBG{c:CC}(hc:qk c){env:Cb}(ed:YA L env){ds:List Wd}(hL:∀ n,L (za n)=0){f:yb}{n:Nat}(hd:ya ([102,95]++f.name++[58])=some ([102,95]++f.name))(hp:L ([102,95]++f.name)=f.params.length)(hn:Bj f.body)(he:mi env f.body=0)
  (Kc:∀ w∈(Sk c n f).1,Hp ds w) (ht:Ty L none r):Ty L none ((Sk c n f).1++r):=by
 unfold Sk at Kc ⊢;simp only at Kc ⊢;rw[Yc,Yc,Yc];have hb:=mN hc ed hL f.body n hn he (λw hw=>Kc w (by simp[hw]));have h1:Ty L (some 0) ((Pa c n f.body).1++([[48],[59]]++r)):=hb _ (Gg OG (.stop (.inl rfl) ht));refine .Gj hd ?_;rw[hp,<-List.length_reverse];exact qt4 hc f.params.reverse h1
theorem qsB{cc:Nm->CC}(hc:∀ n,qk (cc n)){ds:List Wd}(hL:∀ n,L (za n)=0):∀ (fs:List yb) (n:Nat),(∀ f∈fs,∃ env,YA L env/\mi env f.body=0/\Bj f.body/\ya ([102,95]++f.name++[58])=some ([102,95]++f.name)/\L ([102,95]++f.name)=f.params.length) ->
  (∀ w∈(Rc cc n fs).1,Hp ds w)->Ty L none (Rc cc n fs).1
 |[],n,_,_=>by rw[Rc];exact .nil
 |f::fs,n,h,Kc=>by rw[Rc] at Kc ⊢;simp only at Kc ⊢;obtain⟨env,h1,h2,h3,h4,h5⟩:=h f Qe;exact qBG (hc f.name) h1 hL h4 h5 h3 h2 (λw hw=>Kc w (zq (.inl hw))) (qsB hc hL fs _ (λg hg=>h g (Oc _ hg)) λw hw=>Kc w (zq (.inr hw)))
end
theorem GI{z:Int}(h0:0<=z)(h1:z<4294967296):fp (itoa z):=by rw[Iw h0];exact⟨z.toNat,vG ga⟩
theorem tN:∀ (l:List (Nm×Int)) (a:Int),0<=a->(∀ p∈l,0<=p.2)->∀ n,Jj a l n<=a+(l.map (·.2)).sum
 |[],a,h,_,n=>by simp[Jj];exact h
 |(x,k)::l,a,h,hl,n=>by
  have hk:0<=k:=hl (x,k) Qe;have hs:0<=(l.map (·.2)).sum:=by
   have:∀ (m:List (Nm×Int)),(∀ p∈m,0<=p.2)->0<=(m.map (·.2)).sum:=by
    intro m;induction m with
    |nil=>intro _;simp
    |cons p m ih=>intro hm;have:=ih λq hq=>hm q (Oc _ hq);have:=hm p Qe;rw[yd,sum_cons];omega
   exact this l λp hp=>hl p (Oc _ hp)
  rw[Jj,yd,sum_cons];split;simp only;omega;have:=tN l (a+k) ga (λp hp=>hl p (Oc _ hp)) n;simp only;omega
theorem R9{o:il}(hF:iy P o)(own:Nm):qk (Rq P.vars (vf P) P.funcs o own):=by
 have s0:=hF.s0;have s1:=hF.s1;have a0:=hF.a0;have a1:=hF.a1;have qH:∀ p∈vf P,0<=p.2:=λp hp=>by obtain⟨a,_,rfl⟩:=Ni hp;exact Int.natCast_nonneg _
 refine⟨λn=>?_,λn=>?_,?_,?_,?_⟩;show fp (itoa (Gy (je P.vars P.funcs) o.scalars (Vu (je P.vars P.funcs) own n)));generalize Vu (je P.vars P.funcs) own n=k;unfold Gy;split
 rename_i hk;have:=BK hk;exact GI ga ga;exact GI ea ea;show fp (itoa (Jj o.ba (vf P) n));have h1:=RQ _ _ a0 qH n;have h2:=tN _ _ a0 qH n;have ht:((vf P).map (·.2)).sum=((Dk P.ba:Nat):Int):=NQ P.ba;exact GI h1 ga;exact GI s0 ga;exact GI (z:=o.scalars+1) ga ga;exact GI (z:=o.scalars+2) ga ga
def So(P:Pr)(x:Wd):Nat:=match x with
 |a::b::nm=>if a=102/\b=95 then (Xg P nm).params.length else 0
 |_=>0
theorem qwK(P:Pr)(n:Nat):So P (za n)=0:=by
 unfold za So;cases h:decDigits n with
 |nil=>rfl
 |cons c r=>simp
theorem GZ(P:Pr)(nm:Nm):So P ([102,95]++nm)=(Xg P nm).params.length:=by show So P (102::95::nm)=_;unfold So;simp
theorem qBM{P:Pr}{o:il}(hc:Lq P=0)(Ge:Ls P.vars (vf P) P.funcs o=true)(lc:∀ f∈P.funcs,Bj f.body)(Rk:yu (fh P o))(hX:Go.ia.oe (bj P o)):Ty (So P) (some 0) (fh P o):=by
 have hv:=BI hc;have hF:=NE Ge;have ed:(P.funcs.map (·.name)).Nodup:=(On (Nw _ _ hv.names).1).2.1;have hm:=hv.main;have Vm:Va ([38,102,95]++(Tg P).name)=some ([102,95]++(Tg P).name):=hX.KA (Tg P) hm.1;have BA:So P ([102,95]++(Tg P).name)=0:=by rw[GZ,yZ ed hm.1,hm.2.2];try rfl
 have Jr:(Tg P).name=[109,97,105,110]:=hm.2.1;rw[Jr] at Vm BA;have oT:Ty (So P) none (Rc (Rq P.vars (vf P) P.funcs o) 0 P.funcs).1:=by refine qsB (ds:=Jb (fh P o)) (λn=>R9 hF n) (qwK P) P.funcs 0 (λf hf=>⟨(bj P o).ib f,λname g hg=>?_,(hX.body f hf).1,lc f hf,hX.Gj f hf,?_⟩) λw hw=>Rk.2 w ?_;obtain⟨a1,a2,a3,_,_⟩:=hX.fn f hf name g hg;have h1:=hX.KA (Xg P name) a1;have a2:(Xg P name).name=name:=a2;rw[a2] at h1;exact⟨h1,by rw[GZ];exact a3.symm⟩;rw[GZ,yZ ed hf];show w∈[[38,102,95,109,97,105,110],[58],itoa o.scalars,[33],[36]]++_;exact zq (.inr hw)
 show Ty (So P) (some 0) ([[38,102,95,109,97,105,110],[58],itoa o.scalars,[33],[36]]++_);have h3:Ty (So P) (some (0+So P [102,95,109,97,105,110])) ([38,102,95,109,97,105,110]::[58]::itoa o.scalars::[33]::[36]::(Rc (Rq P.vars (vf P) P.funcs o) 0 P.funcs).1):=by refine .call Vm ?_;exact Gg (GI hF.s0 (by have:=hF.s1;omega)) (dK (.stop (.inr rfl) oT))
 have e:So P [102,95,109,97,105,110]=0:=BA;rw[e] at h3;exact h3
