import Derived.Test.YtmnjklgnhpnckaaGreatDoorBRowLV6
set_option linter.unusedVariables false
set_option linter.unusedSimpArgs false
set_option maxRecDepth 100000
set_option maxHeartbeats 4000000
open List (not_mem_nil cons_append nil_append all_cons filterMap_cons filterMap_nil map_nil mem_append mem_singleton)
open Nat (add_assoc)
open Option (getD_some)
namespace Go.ia.Wi
open Go.Lib
variable{P:Pr}{c:CC}{k m n:Nat}{s:Nm}
section
variable{L:Wd->Nat}
def Up(L:Wd->Nat)(ws:List Wd):Prop:=∀ d r,Ty L (some (d+1)) r->Ty L (some d) (ws++r)
def Flat(L:Wd->Nat)(ws:List Wd):Prop:=∀ r,Ty L (some 0) r->Ty L (some 0) (ws++r)
def oo(w:Wd):Prop:=∃ k,Eb w=some k
structure Kj(c:CC):Prop where
 sc:∀ n,oo (c.sc n)
 ar:∀ n,oo (c.ar n)
 t0:oo c.t0
 t1:oo c.t1
 t2:oo c.t2
variable{d:Nat}{w:Wd}{r:List Wd}
theorem tg(h:oo w)(ht:Ty L (some (d+1)) r):Ty L (some d) (w::r):=by obtain⟨k,hk⟩:=h;exact .num hk ht
theorem KF:oo [48]:=⟨0,wq⟩
theorem EV:oo [49]:=⟨1,cF⟩
theorem top{c:UInt8}(h:jc c)(ht:Ty L (some (d+1)) r):Ty L (some (d+2)) ([c]::r):=.sign (fM h) ht
theorem nJ(ht:Ty L (some d) r):Ty L (some (d+2)) ([33]::r):=.sign (a:=2) (b:=0) fa ht
theorem nT(ht:Ty L (some (d+1)) r):Ty L (some (d+1)) ([64]::r):=.sign (a:=1) (b:=1) fa ht
theorem trd(ht:Ty L (some (d+1)) r):Ty L (some d) ([44]::r):=.sign (d:=d) (a:=0) (b:=1) fa ht
theorem twr(ht:Ty L (some d) r):Ty L (some (d+1)) ([46]::r):=.sign (a:=1) (b:=0) fa ht
theorem cn{c:UInt8}(h:c∈([43,45,42,47,37,94,60]:Wd)):jc c:=by unfold jc;simpa using h
theorem qlm(hc:Kj c)(ht:Ty L (some (d+1)) r):Ty L (some (d+2)) (Xl c++r):=
 tg hc.t2 (nJ (tg hc.t1 (nJ (tg hc.t2 (nT (tg hc.t1 (nT (top (cn fa) ht))))))))
theorem qy6(hc:Kj c){op:Nm}(Xc:op∈Fv)(h1:op≠[33,61])(h2:op≠[38,38])(h3:op≠[124,124])(ht:Ty L (some (d+1)) r) :
  Ty L (some (d+2)) ((if op=[62] then Xl c else if op=[60,61] then Xl c++[[49],[94]] else if op=[62,61] then [[60],[49],[94]] else if op=[61,61] then [[94],[49],[60]] else [op])++r):=by
 simp only[Fv,zc,not_mem_nil,or_false] at Xc;rcases Xc with rfl|rfl|rfl|rfl|rfl|rfl|rfl|rfl|rfl|rfl|rfl|rfl|rfl|rfl;exact absurd rfl h3;exact absurd rfl h2;exact top (cn fa) (tg EV (top (cn fa) ht));exact absurd rfl h1;exact top (cn fa) ht;exact qlm hc ht;show Ty L (some (d+2)) ((Xl c++[[49],[94]])++r);rw[Sc];exact qlm hc (tg EV (top (cn fa) ht));exact top (cn fa) (tg EV (top (cn fa) ht));exact top (cn fa) ht;exact top (cn fa) ht;exact top (cn fa) ht;exact top (cn fa) ht;exact top (cn fa) ht;exact top (cn fa) ht
def Qz(L:Wd->Nat)(env:Bb):Prop:=∀ name g,env.fn name=some g->Va ([38,102,95]++name)=some ([102,95]++name)/\L ([102,95]++name)=g.params
mutual
theorem M8{c:CC}(hc:Kj c){env:Bb}(Vc:Qz L env):∀ e,Ji e->yf env e=0->Up L (Mb c e)
 |.mk op num name args,hn,h=>λd r ht=>by
  rw[yf] at h;split at h
  case isFalse=>cases h
  rename_i Xc;obtain⟨h1,h2⟩:=Rc.1 h;obtain⟨ec,hn⟩:=hn;have ha:=qsM hc Vc args hn h1;rw[Mb];by_cases o1:op=tf;subst o1;exact tg ⟨num,qF ec⟩ ht;by_cases o2:op=Uf;subst o2;exact tg (hc.sc name) (nT ht);by_cases o3:op=Bj
  ·subst o3
   have hl:args.length=1:=by have e:fg Bj=1:=rfl;rw[e] at Xc;omega
   obtain⟨x,rfl⟩:=gv hl;have hx:=ha.2 (Mb c x) (by rw[Hb];simp);show Ty L (some d) ((c.ar name::((Hb c [x]).headD []++[[43],[64]]))++r);have e:(Hb c [x]).headD []=Mb c x:=by rw[Hb];try rfl
   rw[e,cons_append,Sc];exact tg (hc.ar name) (hx _ _ (top (cn fa) (nT ht)))
  by_cases o4:op=eg;subst o4;have Se:Lc env name args.length=0:=h2;show Ty L (some d) (((Hb c args).flatten++(if name=[105,110] then [[44]] else if name=[111,117,116] then [[46],[48]] else [[38,102,95]++name,[58]]))++r);rw[Sc];refine ha.1 _ _ ?_;by_cases k1:name=[105,110];rw[zp k1];have hl:args.length=0:=by
   unfold Lc at Se;rw[zp k1] at Se;split at Se
   assumption
   cases Se
  rw[hl];exact trd ht;by_cases k2:name=[111,117,116];rw[zn k1,zp k2];have hl:args.length=1:=by
   unfold Lc at Se;rw[zn k1,zp k2] at Se;split at Se
   assumption
   cases Se
  rw[hl];exact twr (tg KF ht);rw[zn k1,zn k2];unfold Lc at Se;rw[zn k1,zn k2] at Se;cases hq:env.fn name with
  |none=>rw[hq] at Se;simp only at Se;split at Se <;> cases Se
  |some g=>rw[hq] at Se;simp only at Se;obtain⟨q1,q2⟩:=Vc name g hq;split at Se;rename_i hl;rw[hl,<-q2];exact .call q1 ht;cases Se
  have JF:fg op=args.length:=by
   have:fg op ≠ -1:=by unfold fg;rw[zn (by simp[o1,o2])];by_cases q:op=Bj∨op=Ag∨op=jg;rw[zp q];decide;rw[zn q,zn o4];split <;> decide
   rcases Xc with h|h;exact absurd h this;exact h
  by_cases o5:op=Ag
  ·subst o5
   have hl:args.length=1:=by have e:fg Ag=1:=rfl;rw[e] at JF;omega
   obtain⟨x,rfl⟩:=gv hl;have hx:=ha.2 (Mb c x) (by rw[Hb];simp);show Ty L (some d) (([48]::((Hb c [x]).headD []++[[45]]))++r);have e:(Hb c [x]).headD []=Mb c x:=by rw[Hb];try rfl
   rw[e,cons_append,Sc];exact tg KF (hx _ _ (top (cn fa) ht))
  by_cases o6:op=jg
  ·subst o6
   have hl:args.length=1:=by have e:fg jg=1:=rfl;rw[e] at JF;omega
   obtain⟨x,rfl⟩:=gv hl;have hx:=ha.2 (Mb c x) (by rw[Hb];simp);show Ty L (some d) (((Hb c [x]).headD []++[[49],[60]])++r);have e:(Hb c [x]).headD []=Mb c x:=by rw[Hb];try rfl
   rw[e,Sc];exact hx _ _ (tg EV (top (cn fa) ht))
  have hb:op∈Fv/\args.length=2:=by unfold fg at JF;rw[zn (by simp[o1,o2]),zn (by simp[o3,o5,o6]),zn o4] at JF;split at JF;rename_i hm;exact⟨hm,by omega⟩;omega
  obtain⟨hb,hl⟩:=hb;obtain⟨x,y,rfl⟩:∃ x y,args=[x,y]:=by
   match args,hl with
   |[x,y],_=>exact⟨x,y,rfl⟩
  have hx:=ha.2 (Mb c x) (by rw[Hb];simp);have hy:=ha.2 (Mb c y) (by rw[Hb,Hb];simp);have e1:(Hb c [x,y]).headD []=Mb c x:=by rw[Hb];try rfl
  have e2:((Hb c [x,y]).drop 1).headD []=Mb c y:=by rw[Hb,Hb];try rfl
  unfold Iq;rw[zn o1,zn o2,zn o3,zn o4,zn o5,zn o6,e1,e2];by_cases b1:op=[33,61];rw[zp b1,cons_append,Sc,Sc];exact tg KF (hx _ _ (hy _ _ (top (cn fa) (top (cn fa) ht))));rw[zn b1];by_cases b2:op=[38,38];rw[zp b2];simp only[cons_append,Sc,nil_append];exact tg KF (hx _ _ (top (cn fa) (tg KF (hy _ _ (top (cn fa) (top (cn fa) ht))))));rw[zn b2];by_cases b3:op=[124,124];rw[zp b3];simp only[cons_append,Sc,nil_append];exact tg KF (tg KF (hx _ _ (top (cn fa) (tg KF (hy _ _ (top (cn fa) (top (cn fa) (top (cn fa) ht))))))));rw[zn b3,Sc,Sc];exact hx _ _ (hy _ _ (qy6 hc hb b1 b2 b3 ht))
theorem qsM{c:CC}(hc:Kj c){env:Bb}(Vc:Qz L env):∀ l,Ck l->ig env l=0->(∀ d r,Ty L (some (d+l.length)) r->Ty L (some d) ((Hb c l).flatten++r))/\∀ ws∈Hb c l,Up L ws
 |[],_,_=>by rw[Hb];exact⟨λd r h=>h,λws hw=>(not_mem_nil hw).elim⟩
 |x::l,hn,h=>by rw[ig] at h;obtain⟨h1,h2⟩:=Rc.1 h;have hx:=M8 hc Vc x hn.1 h1;obtain⟨k1,k2⟩:=qsM hc Vc l hn.2 h2;rw[Hb,List.flatten_cons];refine⟨λd r ht=>?_,λws hw=>?_⟩;rw[Sc];refine hx _ _ (k1 _ _ ?_);rw[La] at ht;rw[show d+1+l.length=d+(l.length+1) by omega];exact ht;rcases zc.1 hw with rfl|hw;exact hx;exact k2 ws hw
end
theorem TP{ds:List Wd}(h:Ko ds (za n++[58])):ya (za n++[58])=some (za n):=HX (c:=106) (x:=decDigits n) h fa fa
mutual
theorem qzH{c:CC}(hc:Kj c){env:Bb}(Vc:Qz L env){ds:List Wd}(hL:∀ n,L (za n)=0):∀ (s:Sm) (n:Nat),ep s->Pk env s=0->(∀ w∈(vg c n s).1,Ko ds w)->Flat L (vg c n s).1
 |.mk kind name index value Ua Cb,n,hn,h,Dc=>λr ht=>by
  rw[Pk] at h;by_cases hf:Jh (.mk kind name index value Ua Cb)=false;rw[zp hf] at h;cases h;rw[zn hf] at h;obtain⟨h1,h⟩:=Rc.1 h;obtain⟨h2,h⟩:=Rc.1 h;obtain⟨h3,h⟩:=Rc.1 h;obtain⟨h4,h5⟩:=Rc.1 h;rw[Bool.not_eq_false] at hf;unfold Jh at hf;obtain⟨n1,n2,n3,n4⟩:=hn;have one:∀ {l:List Ex},l.length=1->Ck l->ig env l=0->Up L (Mb c (l.headD default)):=λ{l} hl Nq Mm=>by obtain⟨x,rfl⟩:=gv hl;rw[ig] at Mm;exact M8 hc Vc x Nq.1 (Rc.1 Mm).1
  have Ur:∀ {k:Nat},Ko ds (38::za k)->Va (38::za k)=some (za k):=λh=>l8 h;rw[kP] at Dc ⊢
  by_cases k1:kind=1;rw[zp k1] at Dc ⊢;have hv:value.length=1:=by subst k1;simp at hf;exact hf.2.2.1
  rw[Sc];exact one hv n2 h1 _ _ (tg (hc.sc name) (nJ ht));rw[zn k1] at Dc ⊢;by_cases k2:kind=2;rw[zp k2] at Dc ⊢;have hv:index.length=1/\value.length=1:=by subst k2;simp at hf;exact⟨hf.2.1,hf.2.2.1⟩
  simp only[Sc,cons_append,nil_append];exact one hv.2 n2 h1 _ _ (tg (hc.ar name) (one hv.1 n1 h2 _ _ (top (cn fa) (nJ ht))));rw[zn k2] at Dc ⊢;by_cases k3:kind=3;rw[zp k3] at Dc ⊢;have hv:value.length=1:=by subst k3;simp at hf;exact hf.2.2
  cases Cb with
  |nil=>
   simp only at Dc ⊢;have gG:=mM hc Vc hL Ua (n+1) n3 h4 (λw hw=>Dc w (by simp[hw]));have d1:=TP (Dc (za n++[58]) (by simp));have r1:=Ur (Dc (38::za n) (by simp));simp only[Sc,cons_append,nil_append]
   exact one hv n2 h1 _ _ (.jump r1 (hL n) (gG _ (.nk d1 (hL n) ht)))
  |cons a q=>simp only at Dc ⊢;have gG:=mM hc Vc hL Ua (n+2) n3 h4 (λw hw=>Dc w (by simp[hw]));have HK:=mM hc Vc hL (a::q) (Pa c (n+2) Ua).2 n4 h5 (λw hw=>Dc w (by simp[hw]));have d1:=TP (Dc (za n++[58]) (by simp));have d2:=TP (Dc (za (n+1)++[58]) (by simp));have r1:=Ur (Dc (38::za n) (by simp));have r2:=Ur (Dc (38::za (n+1)) (by simp));simp only[Sc,cons_append,nil_append];exact one hv n2 h1 _ _ (.jump r1 (hL n) (gG _ (.goto r2 (hL _) (.free (.nk d1 (hL n) (HK _ (.nk d2 (hL _) ht)))))))
  rw[zn k3] at Dc ⊢;by_cases k4:kind=4;rw[zp k4] at Dc ⊢;have hv:value.length=1:=by subst k4;simp at hf;exact hf.2.2.1
  have gG:=mM hc Vc hL Ua (n+2) n3 h4 (λw hw=>Dc w (by simp[hw]));have d1:=TP (Dc (za n++[58]) (by simp));have d2:=TP (Dc (za (n+1)++[58]) (by simp));have r1:=Ur (Dc (38::za n) (by simp));have r2:=Ur (Dc (38::za (n+1)) (by simp));simp only[Sc,cons_append,nil_append];exact .nk d1 (hL n) (one hv n2 h1 _ _ (.jump r2 (hL _) (gG _ (.goto r1 (hL n) (.free (.nk d2 (hL _) ht))))));rw[zn k4] at Dc ⊢
  by_cases k5:kind=5
  ·rw[zp k5] at Dc ⊢;have hv:value.length=1:=by subst k5;simp at hf;exact hf.2.2.1
   simp only[Sc,cons_append,nil_append];exact one hv n2 h1 _ _ (.stop (.inl rfl) (.free ht))
  rw[zn k5] at Dc ⊢;by_cases k6:kind=6;rw[zp k6] at Dc ⊢;have hv:value.length=1:=by subst k6;simp at hf;exact hf.2.2.1
  simp only[Sc,cons_append,nil_append];exact one hv n2 h1 _ _ (tg hc.t0 (nJ ht));rw[zn k6] at Dc ⊢;by_cases k7:kind=7
  ·rw[zp k7] at Dc ⊢;exact .stop (.inr rfl) (.free ht)
  rw[zn k7] at Dc ⊢;exact ht
theorem mM{c:CC}(hc:Kj c){env:Bb}(Vc:Qz L env){ds:List Wd}(hL:∀ n,L (za n)=0):∀ (l:List Sm) (n:Nat),cj l->Th env l=0->(∀ w∈(Pa c n l).1,Ko ds w)->Flat L (Pa c n l).1
 |[],n,_,_,_=>λr ht=>by rw[Pa];exact ht
 |s::l,n,hn,h,Dc=>λr ht=>by rw[Th] at h;obtain⟨h1,h2⟩:=Rc.1 h;rw[Pa] at Dc ⊢;simp only at Dc ⊢;rw[Sc];exact qzH hc Vc hL s n hn.1 h1 (λw hw=>Dc w (Ip (.inl hw))) _ (mM hc Vc hL l _ hn.2 h2 (λw hw=>Dc w (Ip (.inr hw))) _ ht)
end
theorem j'{c:CC}(hc:Kj c):∀ (ps:List Nm),Ty L (some 0) r->Ty L (some ps.length) ((ps.flatMap λp=>[c.sc p,[33]])++r)
 |[],h=>h
 |p::ps,h=>by rw[List.flatMap_cons,La];simp only[cons_append,nil_append];exact tg (hc.sc p) (nJ (j' hc ps h))
theorem qz6{c:CC}(hc:Kj c){env:Bb}(Vc:Qz L env){ds:List Wd}(hL:∀ n,L (za n)=0){f:Pb}{n:Nat}(hd:ya ([102,95]++f.name++[58])=some ([102,95]++f.name))(hp:L ([102,95]++f.name)=f.params.length)(hn:cj f.body)(he:Th env f.body=0)
  (Dc:∀ w∈(lk c n f).1,Ko ds w) (ht:Ty L none r):Ty L none ((lk c n f).1++r):=by
 unfold lk at Dc ⊢;simp only at Dc ⊢;rw[Sc,Sc,Sc];have hb:=mM hc Vc hL f.body n hn he (λw hw=>Dc w (by simp[hw]));have h1:Ty L (some 0) ((Pa c n f.body).1++([[48],[59]]++r)):=hb _ (tg KF (.stop (.inl rfl) ht));refine .mj hd ?_;rw[hp,<-List.length_reverse];exact j' hc f.params.reverse h1
theorem O'{cc:Nm->CC}(hc:∀ n,Kj (cc n)){ds:List Wd}(hL:∀ n,L (za n)=0):∀ (fs:List Pb) (n:Nat),(∀ f∈fs,∃ env,Qz L env/\Th env f.body=0/\cj f.body/\ya ([102,95]++f.name++[58])=some ([102,95]++f.name)/\L ([102,95]++f.name)=f.params.length) ->
  (∀ w∈(Oc cc n fs).1,Ko ds w)->Ty L none (Oc cc n fs).1
 |[],n,_,_=>by rw[Oc];exact .nil
 |f::fs,n,h,Dc=>by rw[Oc] at Dc ⊢;simp only at Dc ⊢;obtain⟨env,h1,h2,h3,h4,h5⟩:=h f We;exact qz6 (hc f.name) h1 hL h4 h5 h3 h2 (λw hw=>Dc w (Ip (.inl hw))) (O' hc hL fs _ (λg hg=>h g (Pc _ hg)) λw hw=>Dc w (Ip (.inr hw)))
end
theorem FH{z:Int}(h0:0<=z)(h1:z<4294967296):oo (itoa z):=by rw[Jv h0];exact⟨z.toNat,qF ga⟩
theorem uM:∀ (l:List (Nm×Int)) (a:Int),0<=a->(∀ p∈l,0<=p.2)->∀ n,qj a l n<=a+(l.map (·.2)).sum
 |[],a,h,_,n=>by simp[qj];exact h
 |(x,k)::l,a,h,hl,n=>by
  have hk:0<=k:=hl (x,k) We;have hs:0<=(l.map (·.2)).sum:=by
   have:∀ (m:List (Nm×Int)),(∀ p∈m,0<=p.2)->0<=(m.map (·.2)).sum:=by
    intro m;induction m with
    |nil=>intro _;simp
    |cons p m ih=>intro hm;have:=ih λq hq=>hm q (Pc _ hq);have:=hm p We;rw[jd,List.sum_cons];omega
   exact this l λp hp=>hl p (Pc _ hp)
  rw[qj,jd,List.sum_cons];split;simp only;omega;have:=uM l (a+k) ga (λp hp=>hl p (Pc _ hp)) n;simp only;omega
theorem y8{o:xk}(hF:Ow P o)(own:Nm):Kj (dq P.vars (sf P) P.funcs o own):=by
 have s0:=hF.s0;have s1:=hF.s1;have a0:=hF.a0;have a1:=hF.a1;have nG:∀ p∈sf P,0<=p.2:=λp hp=>by obtain⟨a,_,rfl⟩:=Qh hp;exact Int.natCast_nonneg _
 refine⟨λn=>?_,λn=>?_,?_,?_,?_⟩;show oo (itoa (px (Vd P.vars P.funcs) o.scalars (ju (Vd P.vars P.funcs) own n)));generalize ju (Vd P.vars P.funcs) own n=k;unfold px;split
 rename_i hk;have:=GJ hk;exact FH ga ga;exact FH fa fa;show oo (itoa (qj o.ba (sf P) n));have h1:=cQ _ _ a0 nG n;have h2:=uM _ _ a0 nG n;have ht:((sf P).map (·.2)).sum=((Uj P.ba:Nat):Int):=QP P.ba;exact FH h1 ga;exact FH s0 ga;exact FH (z:=o.scalars+1) ga ga;exact FH (z:=o.scalars+2) ga ga
def Qn(P:Pr)(x:Wd):Nat:=match x with
 |a::b::nm=>if a=102/\b=95 then (Lh P nm).params.length else 0
 |_=>0
theorem qvV(P:Pr)(n:Nat):Qn P (za n)=0:=by
 unfold za Qn;cases h:decDigits n with
 |nil=>rfl
 |cons c r=>simp
theorem XX(P:Pr)(nm:Nm):Qn P ([102,95]++nm)=(Lh P nm).params.length:=by show Qn P (102::95::nm)=_;unfold Qn;simp
theorem qAc{P:Pr}{o:xk}(hc:Vp P=0)(Be:zr P.vars (sf P) P.funcs o=true)(ec:∀ f∈P.funcs,cj f.body)(ik:Et (Ug P o))(hX:Go.ia.Zd (Hi P o)):Ty (Qn P) (some 0) (Ug P o):=by
 have hv:=yH hc;have hF:=JD Be;have Vc:(P.funcs.map (·.name)).Nodup:=(Xm (Nv _ _ hv.names).1).2.1;have hm:=hv.main;have cm:Va ([38,102,95]++(Ig P).name)=some ([102,95]++(Ig P).name):=hX.Cz (Ig P) hm.1;have rz:Qn P ([102,95]++(Ig P).name)=0:=by rw[XX,gY Vc hm.1,hm.2.2];try rfl
 have Oq:(Ig P).name=[109,97,105,110]:=hm.2.1;rw[Oq] at cm rz;have bS:Ty (Qn P) none (Oc (dq P.vars (sf P) P.funcs o) 0 P.funcs).1:=by refine O' (ds:=Ib (Ug P o)) (λn=>y8 hF n) (qvV P) P.funcs 0 (λf hf=>⟨(Hi P o).jb f,λname g hg=>?_,(hX.body f hf).1,ec f hf,hX.mj f hf,?_⟩) λw hw=>ik.2 w ?_;obtain⟨a1,a2,a3,_,_⟩:=hX.fn f hf name g hg;have h1:=hX.Cz (Lh P name) a1;have a2:(Lh P name).name=name:=a2;rw[a2] at h1;exact⟨h1,by rw[XX];exact a3.symm⟩;rw[XX,gY Vc hf];show w∈[[38,102,95,109,97,105,110],[58],itoa o.scalars,[33],[36]]++_;exact Ip (.inr hw)
 show Ty (Qn P) (some 0) ([[38,102,95,109,97,105,110],[58],itoa o.scalars,[33],[36]]++_);have h3:Ty (Qn P) (some (0+Qn P [102,95,109,97,105,110])) ([38,102,95,109,97,105,110]::[58]::itoa o.scalars::[33]::[36]::(Oc (dq P.vars (sf P) P.funcs o) 0 P.funcs).1):=by refine .call cm ?_;exact tg (FH hF.s0 (by have:=hF.s1;omega)) (nJ (.stop (.inr rfl) bS))
 have e:Qn P [102,95,109,97,105,110]=0:=rz;rw[e] at h3;exact h3
theorem mU{all:List Wd}:∀ (l:List (Wd×Nat)) (met:List Wd),(met++Ib (l.map (·.1))).Nodup->(∀ w∈l.map (·.1),Ko all w)->(Qe all met l).2=0
 |[],met,_,_=>rfl
 |(w,ln)::r,met,hn,hk=>by
  rw[jd,AF] at hn;have h0:=hk w (by simp);have hr:=λx hx=>hk x (by rw[jd];exact Pc _ hx);unfold Ko at h0;rw[Qe]
  cases hd:ya w with
  |some x=>
   rw[hd] at hn;simp only at hn ⊢;have hx:x ∉ met:=λhm=>(Xm hn).2.2 x hm x (by simp) rfl;rw[zn hx]
   exact mU r (met++[x]) (by rw[Sc];exact hn) hr
  |none=>
   rw[hd] at hn h0;simp only[nil_append] at hn h0 ⊢;cases hf:Va w with
   |some x=>rw[hf] at h0;simp only at h0 ⊢;rw[zp h0];exact mU r met hn hr
   |none=>rw[hf] at h0;simp only at h0 ⊢;rw[zp h0];exact mU r met hn hr
theorem qto{src x:Wd}{og:Int}{ub:List (Wd×Nat)}(h:Gh src og=.ok (x,ub)):Et (Nj src)/\x.length<=40000:=by have h2:=(qmY h).1;unfold Gh at h;split at h;cases h;split at h;cases h;rename_i h1;exact⟨PT (Classical.not_not.1 h1),h2⟩
theorem S8{W:List Wd}(hA:Et W)(hc:∀ w∈W,Xj w){og:Int}(h0:0<=og)(h1:og<262144)(hl:bc false W<=40000) :
  Gh (join W [32]) og=.ok (ll (wo (Lp (λ_=>0) og.toNat W)) W,Lp (λ_=>0) og.toNat W)/\(ll (wo (Lp (λ_=>0) og.toNat W)) W).length=bc false W:=by
 have hw:=pV hc;have ht:=eZ (wo (Lp (λ_=>0) og.toNat W)) W λw hw=>(hc w hw).1;refine⟨?_,ht⟩
 have he:(Qe (Ib W) [] (Ku (join W [32]))).2=0:=by refine mU _ _ ?_ ?_;rw[aK,hw];exact hA.1;rw[aK,hw];exact hA.2
 unfold Gh;rw[zn (by omega),hw,zn (by rw[he];decide),zn (by rw[ht];omega)]
section
variable{P:Pr}{o:xk}{t:Wd}
end
def Pl(w:Wd):Prop:=ya w=none/\Va w=none/\dx w=true
def Lj(F:List Wd)(ws:List Wd):Prop:=∀ x∈ws,Pl x∨ya x=none/\∃ d,Va x=some d/\d∈F
section
variable{F:List Wd}{a b ws:List Wd}{w d:Wd}
theorem Lj.nil:Lj F []:=λx h=>(not_mem_nil h).elim
theorem Lj.cons(h:Pl w)(k:Lj F ws):Lj F (w::ws):=λx hx=>by rcases zc.1 hx with rfl|hx;exact .inl h;exact k x hx
theorem Lj.call(h:Va w=some d)(hd:d∈F)(k:Lj F ws):Lj F (w::ws):=λx hx=>by rcases zc.1 hx with rfl|hx;exact .inr ⟨dt h,d,h,hd⟩;exact k x hx
theorem Lj.app(h:Lj F a)(k:Lj F b):Lj F (a++b):=λx hx=>by rcases xj hx with hx|hx;exact h x hx;exact k x hx
theorem Lj.flat{l:List (List Wd)}(h:∀ ws∈l,Lj F ws):Lj F l.flatten:=λx hx=>by obtain⟨ws,h1,h2⟩:=List.mem_flatten.1 hx;exact h ws h1 x h2
theorem qvl:∀ (w:Wd),(∀ c∈w,me c=true)->dx w=true:=λw h=>by
 unfold dx;rw[List.all_eq_true];intro c hc;have h0:=h c hc;have h2:48<=c.toNat:=(qM.1 h0).1;have h3:c.toNat<=57:=(qM.1 h0).2;have h4:c=UInt8.ofNat c.toNat:=by simp
 have h5:c.toNat=48∨c.toNat=49∨c.toNat=50∨c.toNat=51∨c.toNat=52∨c.toNat=53∨c.toNat=54∨c.toNat=55∨c.toNat=56∨c.toNat=57:=by omega
 rw[h4];rcases h5 with e|e|e|e|e|e|e|e|e|e <;> rw[e] <;> decide
theorem qyG(h:Eb w=some n):decDigits n=w:=by unfold Eb at h;split at h;split at h;rename_i q;injection h with h;rw[<-h];exact q;cases h;cases h
theorem aA(h:oo w):Pl w:=by obtain⟨n,h⟩:=h;obtain⟨k1,k2⟩:=zq h;refine⟨k1,k2,qvl w λc hc=>?_⟩;rw[<-qyG h] at hc;exact iN n c hc
theorem sg{c:UInt8}(h:c∈([43,45,42,47,37,94,60,64,33,63,58,59,44,46,36,48,49]:Wd)):Pl [c]:=by simp only[zc,not_mem_nil,or_false] at h;unfold Pl;rcases h with rfl|rfl|rfl|rfl|rfl|rfl|rfl|rfl|rfl|rfl|rfl|rfl|rfl|rfl|rfl|rfl|rfl <;> decide +kernel
theorem qlx(hc:Kj c):Lj F (Xl c):=
 .cons (aA hc.t2) (.cons (sg fa) (.cons (aA hc.t1) (.cons (sg fa) (.cons (aA hc.t2) (.cons (sg fa) (.cons (aA hc.t1) (.cons (sg fa) (.cons (sg fa) .nil))))))))
def VN(F:List Wd)(env:Bb):Prop:=∀ name g,env.fn name=some g->Va ([38,102,95]++name)=some ([102,95]++name)/\[102,95]++name∈F
theorem C'{l:List (List Wd)}(h:∀ ws∈l,Lj F ws):Lj F (l.headD []):=by
 cases l with
 |nil=>exact .nil
 |cons a l=>exact h a We
mutual
theorem G8{c:CC}(hc:Kj c){env:Bb}(Vc:VN F env):∀ e,Ji e->yf env e=0->Lj F (Mb c e)
 |.mk op num name args,hn,h=>by
  rw[yf] at h;split at h
  case isFalse=>cases h
  rename_i Xc;obtain⟨h1,h2⟩:=Rc.1 h;obtain⟨ec,hn⟩:=hn;have ha:=w9 hc Vc args hn h1;have hd:Lj F (((Hb c args).drop 1).headD []):=C' λws hw=>ha ws (List.mem_of_mem_drop hw);have hh:Lj F ((Hb c args).headD []):=C' ha;rw[Mb];unfold Iq
  by_cases o1:op=tf;rw[zp o1];exact .cons (aA ⟨num,qF ec⟩) .nil;rw[zn o1];by_cases o2:op=Uf;rw[zp o2];exact .cons (aA (hc.sc name)) (.cons (sg fa) .nil);rw[zn o2];by_cases o3:op=Bj;rw[zp o3];exact .cons (aA (hc.ar name)) (hh.app (.cons (sg fa) (.cons (sg fa) .nil)));rw[zn o3];by_cases o4:op=eg;rw[zp o4];refine(Lj.flat ha).app ?_;subst o4;have Se:Lc env name args.length=0:=h2;by_cases k1:name=[105,110];rw[zp k1];exact .cons (sg fa) .nil;by_cases k2:name=[111,117,116];rw[zn k1,zp k2];exact .cons (sg fa) (.cons (sg fa) .nil);rw[zn k1,zn k2];unfold Lc at Se;rw[zn k1,zn k2] at Se;cases hq:env.fn name with
  |none=>rw[hq] at Se;simp only at Se;split at Se <;> cases Se
  |some g=>obtain⟨q1,q2⟩:=Vc name g hq;exact .call q1 q2 (.cons (sg fa) .nil)
  rw[zn o4];by_cases o5:op=Ag;rw[zp o5];exact .cons (sg fa) (hh.app (.cons (sg fa) .nil));rw[zn o5];by_cases o6:op=jg;rw[zp o6];exact hh.app (.cons (sg fa) (.cons (sg fa) .nil));rw[zn o6];have JF:fg op=args.length:=by
   have:fg op ≠ -1:=by unfold fg;rw[zn (by simp[o1,o2])];by_cases q:op=Bj∨op=Ag∨op=jg;rw[zp q];decide;rw[zn q,zn o4];split <;> decide
   rcases Xc with h|h;exact absurd h this;exact h
  have hb:op∈Fv:=by
   unfold fg at JF;rw[zn (by simp[o1,o2]),zn (by simp[o3,o5,o6]),zn o4] at JF;split at JF
   assumption
   omega
  by_cases b1:op=[33,61];rw[zp b1];exact .cons (sg fa) ((hh.app hd).app (.cons (sg fa) (.cons (sg fa) .nil)));rw[zn b1];by_cases b2:op=[38,38];rw[zp b2];exact .cons (sg fa) (((hh.app (.cons (sg fa) (.cons (sg fa) .nil))).app hd).app (.cons (sg fa) (.cons (sg fa) .nil)));rw[zn b2];by_cases b3:op=[124,124];rw[zp b3];exact .cons (sg fa) (.cons (sg fa) (((hh.app (.cons (sg fa) (.cons (sg fa) .nil))).app hd).app (.cons (sg fa) (.cons (sg fa) (.cons (sg fa) .nil)))));rw[zn b3];refine(hh.app hd).app ?_;simp only[Fv,zc,not_mem_nil,or_false] at hb;rcases hb with rfl|rfl|rfl|rfl|rfl|rfl|rfl|rfl|rfl|rfl|rfl|rfl|rfl|rfl;exact absurd rfl b3;exact absurd rfl b2;exact .cons (sg fa) (.cons (sg fa) (.cons (sg fa) .nil));exact absurd rfl b1;exact .cons (sg fa) .nil;exact qlx hc;exact(qlx hc).app (.cons (sg fa) (.cons (sg fa) .nil));exact .cons (sg fa) (.cons (sg fa) (.cons (sg fa) .nil));exact .cons (sg fa) .nil;exact .cons (sg fa) .nil;exact .cons (sg fa) .nil;exact .cons (sg fa) .nil;exact .cons (sg fa) .nil;exact .cons (sg fa) .nil
theorem w9{c:CC}(hc:Kj c){env:Bb}(Vc:VN F env):∀ l,Ck l->ig env l=0->∀ ws∈Hb c l,Lj F ws
 |[],_,_=>by rw[Hb];exact λws hw=>(not_mem_nil hw).elim
 |x::l,hn,h=>by rw[ig] at h;obtain⟨h1,h2⟩:=Rc.1 h;rw[Hb];intro ws hw;rcases zc.1 hw with rfl|hw;exact G8 hc Vc x hn.1 h1;exact w9 hc Vc l hn.2 h2 ws hw
end
theorem qp8(h:k<=4000000000):Ju (za k)=true:=by have h1:=vM h;unfold za at h1 ⊢;unfold Ju;simp only[sd,Gg];refine⟨⟨by omega,by decide⟩,?_⟩;rw[all_cons];rw[sd];refine⟨by decide,?_⟩;rw[List.all_eq_true];intro c hc;have:=iN k c hc;unfold Ni;rw[this];simp
theorem H9(h:k<=4000000000):ya (za k++[58])=some (za k):=by unfold ya;have e:(za k++[58]).dropLast=za k:=List.dropLast_concat;rw[e,zp ⟨by simp,qp8 h⟩]
theorem IX(h:k<=4000000000):Va (38::za k)=some (za k):=by show(if (38:UInt8)=38/\Ju (za k)=true then some (za k) else none)=some (za k);rw[zp ⟨rfl,qp8 h⟩]
def Rf(F:List Wd)(n m:Nat)(ws:List Wd):Prop:=∀ x∈ws,(∃ d,ya x=some d)∨Pl x∨ya x=none/\∃ d,Va x=some d/\(d∈F∨∃ k,d=za k/\n<=k/\k<m)
def Df(ks:List Nat)(ws:List Wd):Prop:=Ib ws=ks.map za
theorem Rf.mono{n' m':Nat}(h:Rf F n m ws)(h1:n'<=n)(h2:m<=m'):Rf F n' m' ws:=λx hx=>by rcases h x hx with h|h|⟨a1,d,a2,h|⟨k,e,k1,k2⟩⟩;exact .inl h;exact .inr (.inl h);exact .inr (.inr ⟨a1,d,a2,.inl h⟩);exact .inr (.inr ⟨a1,d,a2,.inr ⟨k,e,by omega,by omega⟩⟩)
theorem Rf.app(h:Rf F n m a)(k:Rf F n m b):Rf F n m (a++b):=λx hx=>by rcases xj hx with hx|hx;exact h x hx;exact k x hx
theorem Lj.rf(h:Lj F ws):Rf F n m ws:=λx hx=>by rcases h x hx with h|⟨h1,d,h2,h3⟩;exact .inr (.inl h);exact .inr (.inr ⟨h1,d,h2,.inl h3⟩)
theorem Rf.ref(hk:k<=4000000000)(h1:n<=k)(h2:k<m):Rf F n m [38::za k]:=λx hx=>by rw[Vi hx];exact .inr (.inr ⟨dt (IX hk),_,IX hk,.inr ⟨k,rfl,h1,h2⟩⟩)
theorem Rf.UB(hk:k<=4000000000):Rf F n m [za k++[58]]:=λx hx=>by rw[Vi hx];exact .inl ⟨_,H9 hk⟩
theorem Rf.pl(h:Pl w):Rf F n m [w]:=(Lj.cons h .nil).rf
theorem Df.app{ks ls:List Nat}(h:Df ks a)(k:Df ls b):Df (ks++ls) (a++b):=by unfold Df at h k ⊢;rw[jA,h,k,Je]
theorem Lj.df(h:Lj F ws):Df [] ws:=by unfold Df Ib;rw[List.filterMap_eq_nil_iff.2];rfl;intro x hx;rcases h x hx with h|⟨h,_⟩;exact h.1;exact h
theorem Df.UB(hk:k<=4000000000):Df [k] [za k++[58]]:=by unfold Df Ib;simp only[filterMap_cons,H9 hk,filterMap_nil,jd,map_nil]
theorem Df.ref(hk:k<=4000000000):Df [] [38::za k]:=by unfold Df Ib;simp only[filterMap_cons,dt (IX hk),filterMap_nil,map_nil]
theorem Df.pl(h:Pl w):Df [] [w]:=by unfold Df Ib;simp only[filterMap_cons,h.1,filterMap_nil,map_nil]
def Lw(F:List Wd)(n m:Nat)(ws:List Wd):Prop:=∃ ks:List Nat,Df ks ws/\ks.Nodup/\(∀ k,k∈ks ↔ n<=k/\k<m)/\Rf F n m ws/\n<=m
theorem Lw.none(h:Lj F ws):Lw F n n ws:=⟨[],h.df,List.nodup_nil,λk=>⟨λh=>(not_mem_nil h).elim,λh=>by omega⟩,h.rf,Jb _⟩
theorem Lw.app{n m p:Nat}(h:Lw F n m a)(k:Lw F m p b):Lw F n p (a++b):=by obtain⟨ks,h1,h2,h3,h4,h5⟩:=h;obtain⟨ls,k1,k2,k3,k4,k5⟩:=k;refine⟨ks++ls,h1.app k1,List.nodup_append.2 ⟨h2,k2,λx hx y hy e=>?_⟩,λx=>?_,(h4.mono (Jb _) k5).app (k4.mono h5 (Jb _)),Qf h5 k5⟩;have a1:=(h3 x).1 hx;have a2:=(k3 y).1 hy;omega;rw[mem_append,h3,k3];omega
mutual
theorem qzu(c:CC):∀ (s:Sm) (n:Nat),n<=(vg c n s).2
 |.mk kind name index value Ua Cb,n=>by
  rw[kP];have e1:=yM c Ua (n+1);have e2:=yM c Ua (n+2);have e3:=yM c Cb (Pa c (n+2) Ua).2;split;exact Jb _;split;exact Jb _;split;cases Cb with
  |nil=>show n<=(Pa c (n+1) Ua).2;omega
  |cons a q=>show n<=(Pa c (Pa c (n+2) Ua).2 (a::q)).2;omega
  split;show n<=(Pa c (n+2) Ua).2;omega;split;exact Jb _;split;exact Jb _;split;exact Jb _;exact Jb _
theorem yM(c:CC):∀ (l:List Sm) (n:Nat),n<=(Pa c n l).2
 |[],n=>by rw[Pa];exact Jb _
 |s::l,n=>by rw[Pa];exact Qf (qzu c s n) (yM c l _)
end
mutual
theorem qzB{c:CC}(hc:Kj c){env:Bb}(Vc:VN F env):∀ (s:Sm) (n:Nat),ep s->Pk env s=0->(vg c n s).2<=4000000000->Lw F n (vg c n s).2 (vg c n s).1
 |.mk kind name index value Ua Cb,n,hn,h,hN=>by
  rw[Pk] at h;by_cases hf:Jh (.mk kind name index value Ua Cb)=false;rw[zp hf] at h;cases h;rw[zn hf] at h;obtain⟨h1,h⟩:=Rc.1 h;obtain⟨h2,h⟩:=Rc.1 h;obtain⟨h3,h⟩:=Rc.1 h;obtain⟨h4,h5⟩:=Rc.1 h;rw[Bool.not_eq_false] at hf;unfold Jh at hf;obtain⟨n1,n2,n3,n4⟩:=hn;have one:∀ {l:List Ex},l.length=1->Ck l->ig env l=0->Lj F (Mb c (l.headD default)):=λ{l} hl Nq Mm=>by obtain⟨x,rfl⟩:=gv hl;rw[ig] at Mm;exact G8 hc Vc x Nq.1 (Rc.1 Mm).1
  rw[kP] at hN ⊢;by_cases k1:kind=1;rw[zp k1] at hN ⊢;have hv:value.length=1:=by subst k1;simp at hf;exact hf.2.2.1
  exact .none ((one hv n2 h1).app (.cons (aA (hc.sc name)) (.cons (sg fa) .nil)));rw[zn k1] at hN ⊢;by_cases k2:kind=2;rw[zp k2] at hN ⊢;have hv:index.length=1/\value.length=1:=by subst k2;simp at hf;exact⟨hf.2.1,hf.2.2.1⟩
  exact .none ((one hv.2 n2 h1).app (.cons (aA (hc.ar name)) ((one hv.1 n1 h2).app (.cons (sg fa) (.cons (sg fa) .nil)))));rw[zn k2] at hN ⊢;by_cases k3:kind=3;rw[zp k3] at hN ⊢;have hv:value.length=1:=by subst k3;simp at hf;exact hf.2.2
  have hx:=one hv n2 h1;cases Cb with
  |nil=>
   simp only at hN ⊢;obtain⟨ks,d1,d2,d3,d4,d5⟩:=BM hc Vc Ua (n+1) n3 h4 hN;have hk:n<=4000000000:=by omega
   refine⟨(([]++[]++[])++ks)++[n],?_,?_,λx=>?_,?_,by omega⟩;exact(((by rw[Sc];exact hx.df.app ((Df.ref hk).app (Df.pl (sg (c:=63) fa)))):Df ([]++[]++[]) _).app d1).app (Df.UB hk);simp only[nil_append]
   exact List.nodup_append.2 ⟨d2,by simp,λx hx y hy e=>by
    have:=(d3 x).1 hx;rw[mem_singleton] at hy;omega⟩
   simp only[nil_append,mem_append,mem_singleton,d3];omega;refine Rf.app (Rf.app (Rf.app hx.rf ?_) (d4.mono ga (Jb _))) (Rf.UB hk);exact(Rf.ref hk (Jb _) ga).app (Rf.pl (w:=[63]) (sg fa))
  |cons a q=>
   simp only at hN ⊢;have hle:=yM c (a::q) (Pa c (n+2) Ua).2;obtain⟨ks,d1,d2,d3,d4,d5⟩:=BM hc Vc Ua (n+2) n3 h4 ga;obtain⟨ls,e1,e2,e3,e4,e5⟩:=BM hc Vc (a::q) (Pa c (n+2) Ua).2 n4 h5 hN;have hk:n<=4000000000:=by omega
   have Ng:n+1<=4000000000:=by omega
   have m1:Df [n] [[48],38::za (n+1),[63],za n++[58]]:=(Df.pl (sg (c:=48) fa)).app ((Df.ref Ng).app ((Df.pl (sg (c:=63) fa)).app (Df.UB hk)));refine⟨(((([]++[]++[])++ks)++[n])++ls)++[n+1],?_,?_,λx=>?_,?_,by omega⟩;exact((((by rw[Sc];exact hx.df.app ((Df.ref hk).app (Df.pl (sg (c:=63) fa)))):Df ([]++[]++[]) _).app d1).app m1 |>.app e1).app (Df.UB Ng);simp only[nil_append];refine List.nodup_append.2 ⟨List.nodup_append.2 ⟨List.nodup_append.2 ⟨d2,by simp,λx hx y hy e=>?_⟩,e2,λx hx y hy e=>?_⟩,by simp,λx hx y hy e=>?_⟩;have:=(d3 x).1 hx;rw[mem_singleton] at hy;omega;have b2:=(e3 y).1 hy;rcases xj hx with hx|hx;have:=(d3 x).1 hx;omega;rw[mem_singleton] at hx;omega;rw[mem_singleton] at hy;rcases xj hx with hx|hx;rcases xj hx with hx|hx;have:=(d3 x).1 hx;omega;rw[mem_singleton] at hx;omega;have:=(e3 x).1 hx;omega;simp only[nil_append,mem_append,mem_singleton,d3,e3];omega;refine Rf.app (Rf.app (Rf.app (Rf.app (Rf.app hx.rf ?_) (d4.mono ga ga)) ?_) (e4.mono ga (Jb _))) (Rf.UB Ng);exact(Rf.ref hk (Jb _) ga).app (Rf.pl (w:=[63]) (sg fa));exact(Rf.pl (w:=[48]) (sg fa)).app ((Rf.ref Ng ga ga).app ((Rf.pl (w:=[63]) (sg fa)).app (Rf.UB hk)))
  rw[zn k3] at hN ⊢;by_cases k4:kind=4;rw[zp k4] at hN ⊢;have hv:value.length=1:=by subst k4;simp at hf;exact hf.2.2.1
  have hx:=one hv n2 h1;simp only at hN ⊢;obtain⟨ks,d1,d2,d3,d4,d5⟩:=BM hc Vc Ua (n+2) n3 h4 hN;have hk:n<=4000000000:=by omega
  have Ng:n+1<=4000000000:=by omega
  refine⟨((([n]++[])++[])++ks)++[n+1],?_,?_,λx=>?_,?_,by omega⟩;exact((((Df.UB hk).app hx.df).app ((Df.ref Ng).app (Df.pl (sg (c:=63) fa)))).app d1).app ((Df.pl (sg (c:=48) fa)).app ((Df.ref hk).app ((Df.pl (sg (c:=63) fa)).app (Df.UB Ng))));simp only[de];refine List.nodup_append.2 ⟨List.nodup_append.2 ⟨by simp,d2,λx hx y hy e=>?_⟩,by simp,λx hx y hy e=>?_⟩;have:=(d3 y).1 hy;rw[mem_singleton] at hx;omega;rw[mem_singleton] at hy;rcases xj hx with hx|hx;rw[mem_singleton] at hx;omega;have:=(d3 x).1 hx;omega;simp only[de,mem_append,mem_singleton,d3];omega;refine Rf.app (Rf.app (Rf.app (Rf.app (Rf.UB hk) hx.rf) ?_) (d4.mono ga (Jb _))) ?_;exact(Rf.ref Ng ga ga).app (Rf.pl (w:=[63]) (sg fa));exact(Rf.pl (w:=[48]) (sg fa)).app ((Rf.ref hk (Jb _) ga).app ((Rf.pl (w:=[63]) (sg fa)).app (Rf.UB Ng)));rw[zn k4] at hN ⊢
  by_cases k5:kind=5;rw[zp k5] at hN ⊢;have hv:value.length=1:=by subst k5;simp at hf;exact hf.2.2.1
  exact .none ((one hv n2 h1).app (.cons (sg fa) .nil));rw[zn k5] at hN ⊢;by_cases k6:kind=6;rw[zp k6] at hN ⊢;have hv:value.length=1:=by subst k6;simp at hf;exact hf.2.2.1
  exact .none ((one hv n2 h1).app (.cons (aA hc.t0) (.cons (sg fa) .nil)));rw[zn k6] at hN ⊢;by_cases k7:kind=7;rw[zp k7] at hN ⊢;exact .none (.cons (sg fa) .nil);rw[zn k7] at hN ⊢;exact .none .nil
theorem BM{c:CC}(hc:Kj c){env:Bb}(Vc:VN F env):∀ (l:List Sm) (n:Nat),cj l->Th env l=0->(Pa c n l).2<=4000000000->Lw F n (Pa c n l).2 (Pa c n l).1
 |[],n,_,_,_=>by rw[Pa];exact .none .nil
 |s::l,n,hn,h,hN=>by rw[Th] at h;obtain⟨h1,h2⟩:=Rc.1 h;rw[Pa] at hN ⊢;simp only at hN ⊢;have hle:=yM c l (vg c n s).2;exact(qzB hc Vc s n hn.1 h1 ga).app (BM hc Vc l _ hn.2 h2 hN)
end
def Io(s:Nm):Wd:=[102,95]++s
theorem qsF(h:cf s=true):Ju (Io s)=true:=by
 unfold cf at h;rw[sd,sd,Gg] at h;obtain⟨⟨h1,_⟩,h2⟩:=h;show(decide ((102::95::s).length<=40) && tl 102 && (102::95::s).all Ni)=true;have h3:s.all Ni=true:=by
  cases s with
  |nil=>rfl
  |cons c r=>simp only[sd] at h2;rw[all_cons,h2.2];have:=h2.1;unfold Ni;rw[this];simp
 rw[all_cons,all_cons,h3];simp only[sd,Gg];refine⟨⟨by simp only[La];omega,by decide⟩,by decide⟩
theorem D8(h:cf s=true):ya (Io s++[58])=some (Io s):=by unfold ya;rw[List.dropLast_concat,zp ⟨by simp,qsF h⟩]
theorem N8(h:cf s=true):Va (38::Io s)=some (Io s):=by show(if (38:UInt8)=38/\Ju (Io s)=true then some (Io s) else none)=some (Io s);rw[zp ⟨rfl,qsF h⟩]
theorem GX(s:Nm)(k:Nat):Io s≠za k:=by unfold Io za;intro h;injection h with h _;exact absurd h fa
theorem qzT{t:Nm}(h:Io s=Io t):s=t:=by unfold Io at h;exact List.append_cancel_left h
theorem U'{j:Nat}(h:za j=za k)(hj:j<=4000000000)(hk:k<=4000000000):j=k:=by unfold za at h;injection h with _ h;have h1:=qF (n:=j) ga;have h2:=qF (n:=k) ga;rw[h,h2] at h1;injection h1 with h1;exact h1.symm
theorem G9{c:CC}(hc:Kj c):∀ (ps:List Nm),Lj F (ps.flatMap λp=>[c.sc p,[33]])
 |[]=>.nil
 |p::ps=>by rw[List.flatMap_cons];exact Lj.app (.cons (aA (hc.sc p)) (.cons (sg fa) .nil)) (G9 hc ps)
theorem M9{cc:Nm->CC}(hc:∀ n,Kj (cc n)):∀ (fs:List Pb) (n:Nat),(∀ f∈fs,∃ env,VN F env/\Th env f.body=0/\cj f.body/\cf f.name=true)->(fs.map (·.name)).Nodup->(Oc cc n fs).2<=4000000000 ->
  (∀ x∈Ib (Oc cc n fs).1,(∃ f∈fs,x=Io f.name)∨∃ k,x=za k/\n<=k/\k<(Oc cc n fs).2)/\(Ib (Oc cc n fs).1).Nodup/\(∀ k,n<=k->k<(Oc cc n fs).2->za k∈Ib (Oc cc n fs).1) /\
  (∀ f∈fs,Io f.name∈Ib (Oc cc n fs).1)/\Rf F n (Oc cc n fs).2 (Oc cc n fs).1/\n<=(Oc cc n fs).2
 |[],n,_,_,_=>by rw[Oc];exact⟨λx hx=>(not_mem_nil hx).elim,List.nodup_nil,λk h1 h2=>by have h2:k<n:=h2;omega,λf hf=>(not_mem_nil hf).elim,λx hx=>(not_mem_nil hx).elim,Jb _⟩
 |f::fs,n,h,rh,hN=>by
  obtain⟨env,h1,h2,h3,h4⟩:=h f We;rw[jd,List.nodup_cons] at rh;rw[Oc] at hN ⊢;simp only at hN ⊢;have e2:(lk (cc f.name) n f).2=(Pa (cc f.name) n f.body).2:=rfl;have ih:=M9 hc fs (lk (cc f.name) n f).2 (λg hg=>h g (Pc _ hg)) rh.2 hN;rw[e2] at ih hN ⊢;obtain⟨a1,a2,a3,a4,a5,a6⟩:=ih;obtain⟨ks,b1,b2,b3,b4,b5⟩:=BM (hc f.name) h1 f.body n h3 h2 ga;have hp:Lj F (f.params.reverse.flatMap λp=>[(cc f.name).sc p,[33]]):=G9 (hc f.name) _;have he:Lj F [[48],[59]]:=.cons (sg fa) (.cons (sg fa) .nil)
  have hD:Ib (lk (cc f.name) n f).1=Io f.name::ks.map za:=by
   show Ib ([Io f.name++[58]]++(f.params.reverse.flatMap λp=>[(cc f.name).sc p,[33]])++(Pa (cc f.name) n f.body).1++[[48],[59]])=_;rw[jA,jA,jA,hp.df,b1,he.df]
   have:Ib [Io f.name++[58]]=[Io f.name]:=by unfold Ib;simp only[filterMap_cons,D8 h4,filterMap_nil]
   rw[this];simp
  have hR:Rf F n (Pa (cc f.name) n f.body).2 (lk (cc f.name) n f).1:=by show Rf F n _ ([Io f.name++[58]]++(f.params.reverse.flatMap λp=>[(cc f.name).sc p,[33]])++(Pa (cc f.name) n f.body).1++[[48],[59]]);refine Rf.app (Rf.app (Rf.app (λx hx=>?_) hp.rf) b4) he.rf;rw[Vi hx];exact .inl ⟨_,D8 h4⟩
  rw[jA,hD];refine⟨λx hx=>?_,?_,λk k1 k2=>?_,λg hg=>?_,(hR.mono (Jb _) a6).app (a5.mono b5 (Jb _)),Qf b5 a6⟩;rcases xj hx with hx|hx;rcases zc.1 hx with rfl|hx;exact .inl ⟨f,List.mem_cons_self ..,rfl⟩;obtain⟨k,k1,rfl⟩:=Qh hx;have:=(b3 k).1 k1;exact .inr ⟨k,rfl,this.1,by omega⟩;rcases a1 x hx with⟨g,hg,e⟩|⟨k,e,k1,k2⟩;exact .inl ⟨g,Pc _ hg,e⟩;exact .inr ⟨k,e,by omega,k2⟩;refine List.nodup_append.2 ⟨List.nodup_cons.2 ⟨λhx=>?_,?_⟩,a2,λx hx y hy e=>?_⟩;obtain⟨k,_,e⟩:=Qh hx;exact GX f.name k e.symm;exact List.pairwise_map.2 (b2.imp_of_mem λ{a b} ha hb yz he=>yz (U' he (by have:=(b3 a).1 ha;omega) (by have:=(b3 b).1 hb;omega)));subst e;rcases zc.1 hx with rfl|hx;rcases a1 _ hy with⟨g,hg,e⟩|⟨k,e,_,_⟩;exact rh.1 (qk ⟨g,hg,(qzT e).symm⟩);exact GX _ _ e;obtain⟨k,k1,rfl⟩:=Qh hx;have:=(b3 k).1 k1;rcases a1 _ hy with⟨g,hg,e⟩|⟨j,e,j1,j2⟩;exact GX _ _ e.symm;have:=U' e ga ga;omega
  by_cases hk:k<(Pa (cc f.name) n f.body).2;exact Ip (.inl (Pc _ (qk ⟨k,(b3 k).2 ⟨k1,hk⟩,rfl⟩)));exact Ip (.inr (a3 k ga k2));rcases zc.1 hg with rfl|hg;exact Ip (.inl We);exact Ip (.inr (a4 g hg))
theorem qxM{P:Pr}{o:xk}(hc:Vp P=0)(ec:∀ f∈P.funcs,cj f.body)(Be:zr P.vars (sf P) P.funcs o=true)(rh:je P.funcs<=2000000):Et (Ug P o):=by
 have hv:=yH hc;have hF:=JD Be;have Km:=(Nv _ _ hv.names).1;have Vc:(P.funcs.map (·.name)).Nodup:=(Xm Km).2.1;have sz:∀ f∈P.funcs,cf f.name=true:=λf hf=>((Nv _ _ hv.names).2 f.name (Ip (.inr (qk ⟨f,hf,rfl⟩)))).2
 have Fl:Ys P.vars (P.ba.map (·.name)) (P.funcs.map (·.name)) [] P.funcs=0:=by
  unfold Vp Jr at hc;have e1:(P.ba.map λa=>(a.name,(a.size:Int))).map (·.1)=P.ba.map (·.name):=by rw[List.map_map];try rfl
  rw[e1] at hc;exact(Rc.1 (Rc.1 (Rc.1 hc).2).2).1
 have uG:=(lY (o:=o) hc ec Be rh).2;have hk:=EX P.funcs [] Fl Vc;have hA:∀ f∈P.funcs,VN (P.funcs.map λf=>Io f.name) (lg P.vars (P.ba.map (·.name)) (P.funcs.map (·.name)) (Xu P.vars (P.ba.map (·.name)) (P.funcs.map (·.name)) [] P.funcs f) f):=λf hf name g hg=>by
  have h1:g∈Xu P.vars (P.ba.map (·.name)) (P.funcs.map (·.name)) [] P.funcs f:=List.mem_of_find?_eq_some hg;have h2:g.name=name:=ag (List.find?_some (p:=λg:fe=>decide (g.name=name)) hg);rcases tX P.funcs [] Vc f hf g h1 with h3|⟨x,h3,h4⟩;exact(not_mem_nil h3).elim;have h5:x.name=name:=by rw[<-h2,h4];try rfl
  rw[<-h5];exact⟨N8 (sz x h3),qk ⟨x,h3,rfl⟩⟩
 obtain⟨a1,a2,a3,a4,a5,_⟩:=M9 (F:=P.funcs.map λf=>Io f.name) (λn=>y8 hF n) P.funcs 0 (λf hf=>⟨_,hA f hf,hk f hf,ec f hf,sz f hf⟩) Vc ga;have hm:=hv.main;have h0:Lj (P.funcs.map λf=>Io f.name) [[38,102,95,109,97,105,110],[58],itoa o.scalars,[33],[36]]:=by have hmn:(Ig P).name=[109,97,105,110]:=hm.2.1;have h1:=sz _ hm.1;rw[hmn] at h1;refine .call (N8 h1) (qk ⟨Ig P,hm.1,by rw[hmn]⟩) (.cons (sg fa) (.cons (aA (FH hF.s0 (by have:=hF.s1;omega))) (.cons (sg fa) (.cons (sg fa) .nil))))
 have hW:Ug P o=[[38,102,95,109,97,105,110],[58],itoa o.scalars,[33],[36]]++(Oc (dq P.vars (sf P) P.funcs o) 0 P.funcs).1:=rfl;have hD:Ib (Ug P o)=Ib (Oc (dq P.vars (sf P) P.funcs o) 0 P.funcs).1:=by rw[hW,jA,h0.df];try rfl
 refine⟨by rw[hD];exact a2,λx hx=>?_⟩;rw[hD]
 have hR:Rf (P.funcs.map λf=>Io f.name) 0 (Oc (dq P.vars (sf P) P.funcs o) 0 P.funcs).2 (Ug P o):=by rw[hW];exact h0.rf.app a5
 unfold Ko;rcases hR x hx with⟨d,e⟩|⟨e1,e2,e3⟩|⟨e1,d,e2,h⟩;rw[e];trivial;rw[e1,e2];exact e3;rw[e1,e2];simp only;rcases h with h|⟨k,rfl,k1,k2⟩;obtain⟨f,hf,rfl⟩:=Qh h;exact a4 f hf;exact a3 k k1 k2
end
end Go.ia.Wi
namespace Go.ia.Wi.Wc
open Go.Lib
variable{a:Sm}{b el th:List Sm}{ix vr:List Ex}{name:Nm}{r:Option Nat}{vs:List Nat}{x:Ex}
def RH(w:Nat)(s:IS):IR Unit:=if s.left<w then .stop 13 s else .ok () { s with left:=s.left-w }
def wN(n:Nat):Nat:=if n<10 then 2 else if n<100 then 3 else if n<1000 then 4 else if n<10000 then 5 else if n<100000 then 6 else if n<1000000 then 7 else 12
def wE(op:Nm)(num:Nat)(name:Nm)(k:Nat):Nat:=
 if op=tf then wN num
 else if op=Uf then 8
 else if op=Bj then 9
 else if op=Ag then 3
 else if op=jg then 3
 else if op=eg then (if name=[105,110] then 1 else if name=[111,117,116] then 3 else 8 * k+11)
 else if op=[62] then 33
 else if op=[60,61] then 36
 else if op=[38,38] then 7
 else if op=[124,124] then 10
 else 4
def wS(kind:Int)(Cb:List Sm):Nat:=
 if kind=1 then 8
 else if kind=2 then 9
 else if kind=3 then (match Cb with
  |[]=>8
  |_::_=>18)
 else if kind=4 then 8
 else if kind=5 then 1
 else if kind=6 then 8
 else 0
def xt(c:IS->IR Nat)(b:IS->IR (Option Nat)):Nat->Nat->IS->IR (Option Nat)
 |0,v,s=>if v=0 then .ok none s else .stop 13 s
 |m+1,v,s=>if v=0 then .ok none s else (b s).bind λr s=>match r with
  |some x=>.ok (some x) s
  |none=>(RH 18 s).bind λ_ s=>(c s).bind λv s=>xt c b m v s
mutual
def sn(P:Pr):Nat->Pb->Ex->IS->IR Nat
 |0,_,_,s=>.stop 13 s
 |n+1,f,.mk op num name args,s=>(RH (wE op num name args.length) s).bind λ_ s=>(ek (sn P n f) args s).bind λvs s=>FF P (Hg P n) f op num name vs s
def Hg(P:Pr):Nat->Pb->Sm->IS->IR (Option Nat)
 |0,_,_,s=>.stop 13 s
 |n+1,f,.mk kind name index value Ua Cb,s=>(RH (wS kind Cb) s).bind λ_ s=>
  if kind=7 then .stop 0 s else (sn P n f (value.headD default) s).bind λv s=>
   if kind=1 then .ok none (Sf s (dc f name) v)
   else if kind=2 then (sn P n f (index.headD default) s).bind λi s=>match (s.ar name)[i]? with
    |some _=>.ok none { s with ar:=λx=>if x=name then (s.ar name).set i v else s.ar x }
    |none=>.stop 2 s
   else if kind=5 then .ok (some v) s
   else if kind=3 then (if v≠0 then mg (Hg P n f) Ua s else mg (Hg P n f) Cb s)
   else if kind=4 then xt (sn P n f (value.headD default)) (mg (Hg P n f) Ua) n v s
   else .ok none s
end
def Nb{A:Type}(C:PW)(Q:A->IS->MS->Prop)(c d:Int)(m:MS)(s:IS):IR A->Prop
 |.ok v s'=>s'.left<=s.left/\∃ k:Nat,∃ m',(k:Int)<=c+((s.left:Int)-(s'.left:Int))/\Hh C k m m'/\Q v s' m'
 |.stop e s'=>Xz C (d+(s.left:Int)) m e s'
variable{C:PW}
section
variable{A B:Type}{Q:A->IS->MS->Prop}{R:B->IS->MS->Prop}{c d c1 d1 c2 d2:Int}{m m1:MS}{s:IS}
theorem Nb.pre{r:IR A}{a:Nat}(h:Gf C a m m1)(g:Nb C Q c1 d1 m1 s r)(hc:a+c1<=c)(hd:a+d1<=d):Nb C Q c d m s r:=by
 obtain⟨x,hx,hs⟩:=h;cases r with
 |ok v s'=>obtain⟨h1,k,m',h2,h3,h4⟩:=g;exact⟨h1,x+k,m',by omega,hs.trans h3,h4⟩
 |stop e s'=>exact(Xz.pre hs g).mono ga
theorem Nb.ok{v:A}(h:Q v s m)(hc:0<=c):Nb C Q c d m s (.ok v s):=⟨Jb _,0,m,by omega,.zero _,h⟩
theorem Nb.bind{r:IR A}{f:A->IS->IR B}(h:Nb C Q c1 d1 m s r)(hc:c1+c2<=c)(hd:d1<=d)(ru:c1+d2<=d)(hf:∀ v s' m',Q v s' m'->Nb C R c2 d2 m' s' (f v s')):Nb C R c d m s (r.bind f):=by
 cases r with
 |ok v s1=>
  obtain⟨h1,k,m',h2,h3,h4⟩:=h;have g:=hf v s1 m' h4;show Nb C R c d m s (f v s1);revert g;cases f v s1 with
  |ok w s2=>rintro⟨k1,k',m2,k2,k3,k4⟩;exact⟨by omega,k+k',m2,by omega,h3.trans k3,k4⟩
  |stop e s2=>exact λg=>(Xz.pre h3 g).mono ga
 |stop e s1=>exact Xz.mono (s:=s1) h ga
theorem Nb.post{r:IR A}{R:A->IS->MS->Prop}{a:Nat}(h:Nb C Q c1 d1 m s r)(hc:c1+a<=c)(hd:d1<=d)(hf:∀ v s' m',Q v s' m'->∃ m2,Gf C a m' m2/\R v s' m2):Nb C R c d m s r:=by
 cases r with
 |ok v s1=>obtain⟨h1,k,m',h2,h3,h4⟩:=h;obtain⟨m2,⟨x,hx,k1⟩,k2⟩:=hf v s1 m' h4;exact⟨h1,k+x,m2,by omega,h3.trans k1,k2⟩
 |stop e s1=>exact Xz.mono h ga
theorem Nb.tick{w:Nat}{f:Unit->IS->IR A}(kg:m.out=s.out)(h:w<=s.left->Nb C Q (c+w) (d+w) m { s with left:=s.left-w } (f () { s with left:=s.left-w })):Nb C Q c d m s ((RH w s).bind f):=by
 unfold RH;split;exact⟨λhe=>(by rcases he with he|he <;> cases he),λ_=>⟨0,m,.zero _,kg⟩⟩
 rename_i h0;have k:=h ga;show Nb C Q c d m s (f () { s with left:=s.left-w })
 revert k
 cases f () { s with left:=s.left-w } with
 |ok v s1=>rintro⟨k1,k,m2,k2,k3⟩;simp only at k1 k2;exact⟨by omega,k,m2,by omega,k3⟩
 |stop e s1=>intro k;exact Xz.mono k (by simp only;omega)
theorem Nb.Ca(kg:m.out=s.out):Nb C Q c d m s (.stop 13 s):=⟨λhe=>(by rcases he with he|he <;> cases he),λ_=>⟨0,m,.zero _,kg⟩⟩
theorem Nb.other{e:Int}(h:e≠0/\e≠12/\e≠13):Nb C Q c d m s (.stop e s):=⟨λhe=>(by rcases he with he|he <;> omega),λhe=>by omega⟩
theorem Nb.re{e:Int}(hd:0<=d)(he:e=0∨e=12)(h:∃ m',Hh C 0 m m'/\gb C m'=.stop e.toNat s.out):Nb C Q c d m s (.stop e s):=by obtain⟨m',h1,h2⟩:=h;exact⟨λ_=>⟨0,m',by omega,h1,h2⟩,λKa=>by omega⟩
end
def lf(s:IS)(l:Nat):IS:={ s with left:=l }
theorem iF(s:IS)(w k l:Nat):RH w (lf s (l+(w+k)))=.ok () (lf s (l+k)):=by unfold RH lf;simp only;rw[zn (by omega),show l+(w+k)-w=l+k by omega]
section
variable(P:Pr)
def Op(f:Pb)(op:Nm)(num:Nat)(name:Nm)(vs:List Nat)(s:IS)(K v:Nat)(s':IS):Prop:=∃ k,k<=K/\∃ n0,∀ n,n0<=n->∀ l,FF P (Hg P n) f op num name vs (lf s (l+k))=.ok v (lf s' l)
def Ev(f:Pb)(x:Ex)(s:IS)(K v:Nat)(s':IS):Prop:=∃ k,k<=K/\∃ n0,∀ n,n0<=n->∀ l,sn P n f x (lf s (l+k))=.ok v (lf s' l)
def Hp(f:Pb)(xs:List Ex)(s:IS)(K:Nat)(vs:List Nat)(s':IS):Prop:=∃ k,k<=K/\∃ n0,∀ n,n0<=n->∀ l,ek (sn P n f) xs (lf s (l+k))=.ok vs (lf s' l)
def St(f:Pb)(a:Sm)(s:IS)(K:Nat)(r:Option Nat)(s':IS):Prop:=∃ k,k<=K/\∃ n0,∀ n,n0<=n->∀ l,Hg P n f a (lf s (l+k))=.ok r (lf s' l)
def Bl(f:Pb)(b:List Sm)(s:IS)(K:Nat)(r:Option Nat)(s':IS):Prop:=∃ k,k<=K/\∃ n0,∀ n,n0<=n->∀ l,mg (Hg P n f) b (lf s (l+k))=.ok r (lf s' l)
def Wh(f:Pb)(x:Ex)(b:List Sm)(v:Nat)(s:IS)(K:Nat)(r:Option Nat)(s':IS):Prop:=∃ k,k<=K/\∃ n0,∀ n m,n0<=n->n0<=m->∀ l,xt (sn P n f x) (mg (Hg P n f) b) m v (lf s (l+k))=.ok r (lf s' l)
end
section
variable{P:Pr}{f:Pb}{s s1 s2 s':IS}{K K1 K2 K3 v w:Nat}
theorem Ev.mono(h:Ev P f x s K v s')(hk:K<=K1):Ev P f x s K1 v s':=by obtain⟨k,h1,h2⟩:=h;exact⟨k,by omega,h2⟩
theorem Bl.mono(h:Bl P f b s K r s')(hk:K<=K1):Bl P f b s K1 r s':=by obtain⟨k,h1,h2⟩:=h;exact⟨k,by omega,h2⟩
theorem St.mono(h:St P f a s K r s')(hk:K<=K1):St P f a s K1 r s':=by obtain⟨k,h1,h2⟩:=h;exact⟨k,by omega,h2⟩
theorem Wh.mono(h:Wh P f x b v s K r s')(hk:K<=K1):Wh P f x b v s K1 r s':=by obtain⟨k,h1,h2⟩:=h;exact⟨k,by omega,h2⟩
theorem Hp.nil:Hp P f [] s 0 [] s:=⟨0,Jb _,0,λn _ l=>rfl⟩
theorem Hp.cons{xs:List Ex}(h:Ev P f x s K1 v s1)(g:Hp P f xs s1 K2 vs s'):Hp P f (x::xs) s (K1+K2) (v::vs) s':=by
 obtain⟨k1,h1,n1,e1⟩:=h;obtain⟨k2,h2,n2,e2⟩:=g;refine⟨k1+k2,by omega,max n1 n2,λn hn l=>?_⟩;unfold ek;rw[show l+(k1+k2)=(l+k2)+k1 by omega,e1 n (by omega) (l+k2)];show(ek (sn P n f) xs (lf s1 (l+k2))).bind _=_;rw[e2 n (by omega) l]
 try rfl
theorem Ev.mk{op:Nm}{num:Nat}{name:Nm}{args:List Ex}{vs:List Nat}(h:Hp P f args s K1 vs s1)(g:Op P f op num name vs s1 K2 v s'):Ev P f (.mk op num name args) s (wE op num name args.length+K1+K2) v s':=by obtain⟨k1,h1,n1,e1⟩:=h;obtain⟨k2,h2,n2,e2⟩:=g;refine⟨wE op num name args.length+(k1+k2),by omega,max n1 n2+1,λn hn l=>?_⟩;obtain⟨m,rfl⟩:∃ m,n=m+1:=⟨n-1,by omega⟩;rw[sn,iF];show(ek (sn P m f) args (lf s (l+(k1+k2)))).bind _=_;rw[show l+(k1+k2)=(l+k2)+k1 by omega,e1 m (by omega) (l+k2)];exact e2 m ga l
def MO(f:Pb)(s:IS)(op:Nm)(num:Nat)(name:Nm)(vs:List Nat):Nat:=
 if op=tf then num
 else if op=Uf then s.sc (dc f name)
 else if op=Bj then (s.ar name).getD (vs.headD 0) 0
 else if op=Ag then (4294967296-vs.headD 0) % 4294967296
 else if op=jg then kf (decide (vs.headD 0=0))
 else (pj op (vs.headD 0) (vs.tail.headD 0)).getD 0
def GF(f:Pb)(s:IS)(op:Nm)(name:Nm)(vs:List Nat):Bool:=
 if op=tf then true
 else if op=Uf then true
 else if op=Bj then decide (vs.headD 0<(s.ar name).length)
 else if op=Ag then true
 else if op=jg then true
 else if op=eg then false
 else (pj op (vs.headD 0) (vs.tail.headD 0)).isSome
theorem Op.pure{op:Nm}{num:Nat}(h:GF f s op name vs=true):Op P f op num name vs s 0 (MO f s op num name vs) s:=by
 refine⟨0,Jb _,0,λn _ l=>?_⟩;rw[Nat.add_zero];unfold GF at h
 by_cases h1:op=tf;subst h1;rfl;by_cases h2:op=Uf;subst h2;rfl;rw[zn h1,zn h2] at h;by_cases h3:op=Bj
 ·subst h3;rw[zp rfl] at h;have Ja:=ag h
  show(match (s.ar name)[vs.headD 0]? with
   |some v=>IR.ok v (lf s l)
   |none=>.stop 2 (lf s l))=.ok ((s.ar name).getD (vs.headD 0) 0) (lf s l)
  rw[jh Ja,List.getD_eq_getElem?_getD,jh Ja];try rfl
 rw[zn h3] at h;by_cases h4:op=Ag;subst h4;rfl;rw[zn h4] at h;by_cases h5:op=jg;subst h5;rfl;rw[zn h5] at h;by_cases h6:op=eg;rw[zp h6] at h;cases h;rw[zn h6] at h;unfold FF MO;rw[zn h1,zn h2,zn h3,zn h4,zn h5,zn (show op≠[110,117,109] from h1),zn (show op≠[118,97,114] from h2),zn (show op≠[101,108,101,109] from h3),zn (show op≠[110,101,103] from h4),zn (show op≠[110,111,116] from h5),zn (show op≠[99,97,108,108] from h6)];cases hb:pj op (vs.headD 0) (vs.tail.headD 0) with
 |none=>rw[hb] at h;cases h
 |some v=>rfl
theorem Op.Ia{num:Nat}:Op P f eg num [105,110] [] s 0 (s.Ia.headD 4294967295) { s with Ia:=s.Ia.tail }:=by
 refine⟨0,Jb _,0,λn _ l=>?_⟩;show Ly P (Hg P n) [105,110] [] (lf s l)=_;unfold Ly;rw[zp rfl]
 show(match s.Ia with
  |[]=>IR.ok 4294967295 (lf s l)
  |v::r=>.ok v { lf s l with Ia:=r })=_
 cases hi:s.Ia with
 |nil=>simp only[List.headD_nil,List.tail_nil];unfold lf;simp only;congr 2
 |cons a r=>rfl
theorem Op.out{num v:Nat}:Op P f eg num [111,117,116] [v] s 0 0 { s with out:=s.out++[UInt8.ofNat v] }:=by
 refine⟨0,Jb _,0,λn _ l=>?_⟩;show Ly P (Hg P n) [111,117,116] [v] (lf s l)=_;unfold Ly;rw[zn fa,zp rfl]
 try rfl
theorem qqW(g:Pb):∀ (ps:List Nm) (vs:List Nat) (s:IS) (l:Nat),iq g ps vs (lf s l)=lf (iq g ps vs s) l
 |[],vs,s,l=>by cases vs <;> rfl
 |p::ps,[],s,l=>rfl
 |p::ps,w::vs,s,l=>by rw[iq,iq];exact qqW g ps vs (Sf s (dc g p) w) l
theorem Op.call{num:Nat}(h1:name≠[105,110])(h2:name≠[111,117,116])(h:Bl P (Lh P name) (Lh P name).body (iq (Lh P name) (Lh P name).params vs s) K r s'):Op P f eg num name vs s K (r.getD 0) s':=by
 obtain⟨k,hk,n0,e⟩:=h;refine⟨k,hk,n0,λn hn l=>?_⟩;show Ly P (Hg P n) name vs (lf s (l+k))=_;unfold Ly;rw[zn h1,zn h2,qqW,e n hn l]
 try rfl
def dX(s:IS)(name:Nm)(i v:Nat):IS:={ s with ar:=λx=>if x=name then (s.ar name).set i v else s.ar x }
theorem St.ly(h:Ev P f x s K v s1):St P f (.mk 1 name ix (x::vr) th el) s (8+K) none (Sf s1 (dc f name) v):=by
 obtain⟨k,hk,n0,e⟩:=h;refine⟨8+k,by omega,n0+1,λn hn l=>?_⟩;obtain⟨m,rfl⟩:∃ m,n=m+1:=⟨n-1,by omega⟩;rw[Hg,show wS 1 el=8 from rfl,iF];show(sn P m f x (lf s (l+k))).bind _=_;rw[e m (by omega) l]
 try rfl
theorem St.elem{y:Ex}{yr xr:List Ex}{i:Nat}(h:Ev P f x s K v s1)(g:Ev P f y s1 K2 i s2)(hi:i<(s2.ar name).length):St P f (.mk 2 name (y::yr) (x::xr) th el) s (9+K+K2) none (dX s2 name i v):=by
 obtain⟨k,hk,n0,e⟩:=h;obtain⟨k2,Ng,n2,e2⟩:=g;refine⟨9+(k+k2),by omega,max n0 n2+1,λn hn l=>?_⟩;obtain⟨m,rfl⟩:∃ m,n=m+1:=⟨n-1,by omega⟩;rw[Hg,show wS 2 el=9 from rfl,iF];show(sn P m f x (lf s (l+(k+k2)))).bind _=_;rw[show l+(k+k2)=(l+k2)+k by omega,e m (by omega) (l+k2)];show(sn P m f y (lf s1 (l+k2))).bind _=_;rw[e2 m (by omega) l]
 show(match (s2.ar name)[i]? with
  |some _=>IR.ok none _
  |none=>IR.stop 2 _)=_
 rw[jh hi];try rfl
theorem St.ret(h:Ev P f x s K v s1):St P f (.mk 5 name ix (x::vr) th el) s (1+K) (some v) s1:=by
 obtain⟨k,hk,n0,e⟩:=h;refine⟨1+k,by omega,n0+1,λn hn l=>?_⟩;obtain⟨m,rfl⟩:∃ m,n=m+1:=⟨n-1,by omega⟩;rw[Hg,show wS 5 el=1 from rfl,iF];show(sn P m f x (lf s (l+k))).bind _=_;rw[e m (by omega) l]
 try rfl
theorem St.exp(h:Ev P f x s K v s1):St P f (.mk 6 name ix (x::vr) th el) s (8+K) none s1:=by
 obtain⟨k,hk,n0,e⟩:=h;refine⟨8+k,by omega,n0+1,λn hn l=>?_⟩;obtain⟨m,rfl⟩:∃ m,n=m+1:=⟨n-1,by omega⟩;rw[Hg,show wS 6 el=8 from rfl,iF];show(sn P m f x (lf s (l+k))).bind _=_;rw[e m (by omega) l]
 try rfl
theorem St.tN(h:Ev P f x s K v s1)(hv:v≠0)(g:Bl P f th s1 K2 r s2):St P f (.mk 3 name ix (x::vr) th el) s (wS 3 el+K+K2) r s2:=by obtain⟨k,hk,n0,e⟩:=h;obtain⟨k2,Ng,n2,e2⟩:=g;refine⟨wS 3 el+(k+k2),by omega,max n0 n2+1,λn hn l=>?_⟩;obtain⟨m,rfl⟩:∃ m,n=m+1:=⟨n-1,by omega⟩;rw[Hg,iF];show(sn P m f x (lf s (l+(k+k2)))).bind _=_;rw[show l+(k+k2)=(l+k2)+k by omega,e m (by omega) (l+k2)];show(if v≠0 then mg (Hg P m f) th (lf s1 (l+k2)) else mg (Hg P m f) el (lf s1 (l+k2)))=_;rw[zp hv];exact e2 m ga l
theorem St.iff(h:Ev P f x s K 0 s1)(g:Bl P f el s1 K2 r s2):St P f (.mk 3 name ix (x::vr) th el) s (wS 3 el+K+K2) r s2:=by obtain⟨k,hk,n0,e⟩:=h;obtain⟨k2,Ng,n2,e2⟩:=g;refine⟨wS 3 el+(k+k2),by omega,max n0 n2+1,λn hn l=>?_⟩;obtain⟨m,rfl⟩:∃ m,n=m+1:=⟨n-1,by omega⟩;rw[Hg,iF];show(sn P m f x (lf s (l+(k+k2)))).bind _=_;rw[show l+(k+k2)=(l+k2)+k by omega,e m (by omega) (l+k2)];exact e2 m ga l
theorem St.EO(h:Ev P f x s K v s1)(g:Wh P f x th v s1 K2 r s2):St P f (.mk 4 name ix (x::vr) th el) s (8+K+K2) r s2:=by obtain⟨k,hk,n0,e⟩:=h;obtain⟨k2,Ng,n2,e2⟩:=g;refine⟨8+(k+k2),by omega,max n0 n2+1,λn hn l=>?_⟩;obtain⟨m,rfl⟩:∃ m,n=m+1:=⟨n-1,by omega⟩;rw[Hg,show wS 4 el=8 from rfl,iF];show(sn P m f x (lf s (l+(k+k2)))).bind _=_;rw[show l+(k+k2)=(l+k2)+k by omega,e m (by omega) (l+k2)];exact e2 m m ga ga l
theorem Bl.nil:Bl P f [] s 0 none s:=⟨0,Jb _,0,λn _ l=>rfl⟩
theorem Bl.cons(h:St P f a s K1 none s1)(g:Bl P f b s1 K2 r s'):Bl P f (a::b) s (K1+K2) r s':=by obtain⟨k,hk,n0,e⟩:=h;obtain⟨k2,Ng,n2,e2⟩:=g;refine⟨k+k2,by omega,max n0 n2,λn hn l=>?_⟩;unfold mg;rw[show l+(k+k2)=(l+k2)+k by omega,e n (by omega) (l+k2)];exact e2 n ga l
theorem Bl.ret(h:St P f a s K (some v) s'):Bl P f (a::b) s K (some v) s':=by
 obtain⟨k,hk,n0,e⟩:=h;refine⟨k,hk,n0,λn hn l=>?_⟩;unfold mg;rw[e n hn l]
 try rfl
theorem Bl.app{a:List Sm}:∀ {s:IS} {K1:Nat},Bl P f a s K1 none s1->Bl P f b s1 K2 r s'->Bl P f (a++b) s (K1+K2) r s':=by
 rintro s K1 ⟨k,hk,n0,e⟩ ⟨k2,Ng,n2,e2⟩;refine⟨k+k2,by omega,max n0 n2,λn hn l=>?_⟩
 have key:∀ (a:List Sm) (s:IS),mg (Hg P n f) (a++b) s=(mg (Hg P n f) a s).bind λr s=>match r with
   |some v=>.ok (some v) s
   |none=>mg (Hg P n f) b s:=by
  intro a;induction a with
  |nil=>intro s;rfl
  |cons x a ih=>
   intro s;show(Hg P n f x s).bind _=IR.bind (IR.bind (Hg P n f x s) _) _;rw[cK];congr 1;funext r s;cases r with
   |some v=>rfl
   |none=>exact ih s
 rw[key,show l+(k+k2)=(l+k2)+k by omega,e n (by omega) (l+k2)];exact e2 n ga l
theorem Wh.done:Wh P f x b 0 s 0 none s:=⟨0,Jb _,1,λn m _ hm l=>by
 obtain⟨m,rfl⟩:∃ k,m=k+1:=⟨m-1,by omega⟩;rfl⟩
theorem Wh.next(hv:v≠0)(h:Bl P f b s K1 none s1)(g:Ev P f x s1 K2 w s2)(q:Wh P f x b w s2 K3 r s'):Wh P f x b v s (K1+18+K2+K3) r s':=by obtain⟨k1,h1,n1,e1⟩:=h;obtain⟨k2,h2,n2,e2⟩:=g;obtain⟨k3,h3,n3,e3⟩:=q;refine⟨k1+(18+(k2+k3)),by omega,max n1 (max n2 n3)+1,λn m hn hm l=>?_⟩;obtain⟨m,rfl⟩:∃ k,m=k+1:=⟨m-1,by omega⟩;rw[xt,zn hv,show l+(k1+(18+(k2+k3)))=(l+(18+(k2+k3)))+k1 by omega,e1 n (by omega)];show(RH 18 (lf s1 (l+(18+(k2+k3))))).bind _=_;rw[iF];show(sn P n f x (lf s1 (l+(k2+k3)))).bind _=_;rw[show l+(k2+k3)=(l+k3)+k2 by omega,e2 n (by omega)];exact e3 n m ga ga l
theorem Wh.ret{u:Nat}(hv:v≠0)(h:Bl P f b s K (some u) s'):Wh P f x b v s K (some u) s':=by
 obtain⟨k1,h1,n1,e1⟩:=h;refine⟨k1,h1,n1+1,λn m hn hm l=>?_⟩;obtain⟨m,rfl⟩:∃ k,m=k+1:=⟨m-1,by omega⟩;rw[xt,zn hv,e1 n (by omega)]
 try rfl
end
mutual
def vE(f:Pb)(s:IS):Ex->Nat
 |.mk op num name args=>MO f s op num name (PL f s args)
def PL(f:Pb)(s:IS):List Ex->List Nat
 |[]=>[]
 |x::l=>vE f s x::PL f s l
end
mutual
def DQ(f:Pb)(s:IS):Ex->Bool
 |.mk op num name args=>IF f s args && GF f s op name (PL f s args)
def IF(f:Pb)(s:IS):List Ex->Bool
 |[]=>true
 |x::l=>DQ f s x && IF f s l
end
mutual
def cE:Ex->Nat
 |.mk op num name args=>wE op num name args.length+RS args
def RS:List Ex->Nat
 |[]=>0
 |x::l=>cE x+RS l
end
mutual
theorem Ev.pure{P:Pr}{f:Pb}{s:IS}:∀ (x:Ex),DQ f s x=true->Ev P f x s (cE x) (vE f s x) s
 |.mk op num name args,h=>by rw[DQ,sd] at h;rw[cE,vE];exact(Ev.mk (Hp.pure args h.1) (Op.pure h.2)).mono ga
theorem Hp.pure{P:Pr}{f:Pb}{s:IS}:∀ (l:List Ex),IF f s l=true->Hp P f l s (RS l) (PL f s l) s
 |[],_=>by rw[RS,PL];exact Hp.nil
 |x::l,h=>by rw[IF,sd] at h;rw[RS,PL];exact Hp.cons (Ev.pure x h.1) (Hp.pure l h.2)
end
section
variable(f:Pb)(s:IS)(n:Nat)(m:Nm)(x y:Ex)
theorem qzn:vE f s (.mk [110,117,109] n m [])=n:=rfl
theorem qz4:vE f s (.mk [118,97,114] n m [])=s.sc (dc f m):=rfl
theorem qz0:vE f s (.mk [42] n m [x,y])=vE f s x * vE f s y % 4294967296:=by show(pj [42] (vE f s x) (vE f s y)).getD 0=_;unfold pj;rw[zn fa,zn fa,zp rfl];exact getD_some
theorem qzd:vE f s (.mk [94] n m [x,y])=vE f s x ^^^ vE f s y:=by show(pj [94] (vE f s x) (vE f s y)).getD 0=_;unfold pj;rw[zn fa,zn fa,zn fa,zp rfl];exact getD_some
theorem Ev.of{P:Pr}{f:Pb}{s:IS}{v:Nat}(h:DQ f s x=true)(hv:vE f s x=v):Ev P f x s (cE x) v s:=hv▸Ev.pure x h
end
theorem z8{P:Pr}{Ia:List Nat}{Ca:Nat}{s':IS}(h:Bl P (Ig P) (Ig P).body (xq P Ia 0) Ca r s'):∃ Aa s2,mg (Hg P Aa (Ig P)) (Ig P).body (xq P Ia Ca)=.ok r s2/\s2.out=s'.out:=by obtain⟨k,hk,n0,e⟩:=h;refine⟨n0,lf s' (Ca-k),?_,rfl⟩;have:=e n0 (Jb _) (Ca-k);rw[show Ca-k+k=Ca by omega] at this;exact this
theorem FO{n:Nat}(h:n<4294967296):(decDigits n).length+1<=wN n:=by unfold wN;split;have:=MD 0 n ga;omega;split;have:=MD 1 n ga;omega;split;have:=MD 2 n ga;omega;split;have:=MD 3 n ga;omega;split;have:=MD 4 n ga;omega;split;have:=MD 5 n ga;omega;have:=MD 9 n ga;omega
def wB(op:Nm):Nat:=if op=[62] then 33 else if op=[60,61] then 36 else 4
theorem qz7(op:Nm):1<=wB op:=by unfold wB;split;omega;split <;> omega
def Rz(X:Lf)(n:Nat):Prop:=∀ f∈X.P.funcs,∀ e i s m d c,Ji e->yf (X.jb f) e=0->X.C.Code i (Mb (X.cc f) e)->X.Vw s i d c m->d.length+Kf (X.jb f) e<=256->c.length+nj (X.jb f) e<=64 ->
 Nb X.C (λv s' m'=>X.Vw s' (i+(Mb (X.cc f) e).length) (v::d) c m') 0 0 m s (sn X.P n f e s)
def V7(X:Lf)(n:Nat):Prop:=∀ f∈X.P.funcs,∀ name vs i s m d c,name≠[105,110]->name≠[111,117,116]->Lc (X.jb f) name vs.length=0->X.C.Code i [[38,102,95]++name,[58]]->X.Vw s i (vs.reverse++d) c m ->
 (∀ g,(X.jb f).fn name=some g->d.length+max (g.params+1) g.need<=256/\c.length+(g.depth+1)<=64) ->
 Nb X.C (λv s' m'=>X.Vw s' (i+2) (v::d) c m') (8 * vs.length+11) (8 * vs.length+11) m s (Ly X.P (Hg X.P n) name vs s)
section
variable{X:Lf}{n:Nat}
theorem J9(hE:Rz X n){f:Pb}(hf:f∈X.P.funcs):∀ (l:List Ex) i s m d c,Ck l->ig (X.jb f) l=0->X.C.Code i (Hb (X.cc f) l).flatten->X.Vw s i d c m->(∀ k (h:k<l.length),d.length+k+Kf (X.jb f) l[k]<=256)->c.length+Ai (X.jb f) l<=64 ->
  Nb X.C (λvs s' m'=>vs.length=l.length/\X.Vw s' (i+(Hb (X.cc f) l).flatten.length) (vs.reverse++d) c m') 0 0 m s (ek (sn X.P n f) l s)
 |[],i,s,m,d,c,_,_,_,v,_,_=>Nb.ok ⟨rfl,v⟩ (Int.le_refl 0)
 |e::l,i,s,m,d,c,hn,he,hc,v,hd,Vn=>by rw[ig] at he;obtain⟨Ci,AA⟩:=Rc.1 he;rw[Ai] at Vn;rw[Hb,List.flatten_cons] at hc;obtain⟨rn,ef⟩:=hc.app;unfold ek;have h0:=hd 0 (by simp);simp only[List.getElem_cons_zero] at h0;refine Nb.bind (c2:=0) (d2:=0) (hE f hf e i s m d c hn.1 Ci rn v ga ga) ga (Int.le_refl _) ga λa s' m' va=>?_;refine Nb.bind (c2:=0) (d2:=0) (J9 hE hf l _ s' m' (a::d) c hn.2 AA ef va (λk hk=>?_) ga) ga (Int.le_refl _) ga λvs s2 m2 hv=>?_;have:=hd (k+1) (by rw[La];omega);simp only[List.getElem_cons_succ] at this;rw[La];omega;refine Nb.ok ⟨by rw[La,La,hv.1],?_⟩ (Int.le_refl _);have:=hv.2;rw[Hb,List.flatten_cons,Ga,<-add_assoc];simpa using this
theorem qzw(hX:Zd X){f:Pb}(hf:f∈X.P.funcs){op:Nm}(Xc:op∈Fv)(h1:op≠[33,61])(h2:op≠[38,38])(h3:op≠[124,124]){s:IS}{i a b:Nat}{d:List Nat}{c:List (List Wd)}{m:MS}(v:X.Vw s i (b::a::d) c m)(hd:d.length+3<=256∨(d.length+2<=256/\op≠[62]/\op≠[60,61]))
  {ws:List Wd} (hw:ws=(if op=[62] then Xl (X.cc f) else if op=[60,61] then Xl (X.cc f)++[[49],[94]] else if op=[62,61] then [[60],[49],[94]] else if op=[61,61] then [[94],[49],[60]] else [op])) (hc:X.C.Code i ws) :
  Nb X.C (λr s' m'=>X.Vw s' (i+ws.length) (r::d) c m') (wB op:Int) 0 m s (match pj op a b with
   |some r=>.ok r s
   |none=>.stop 12 s):=by
 have ru:d.length+2<=256:=by omega
 have simple:∀ ch:UInt8,op=[ch]->jc ch->(ws=[op])->pj op a b=ud ch.toNat a b->Nb X.C (λr s' m'=>X.Vw s' (i+ws.length) (r::d) c m') (wB op:Int) 0 m s (match pj op a b with
   |some r=>.ok r s
   |none=>.stop 12 s):=by
  intro ch e1 e2 e3 e4;subst e3;obtain⟨w0,_⟩:=hc.cons;rw[e1] at w0;rw[e4];cases hv:ud ch.toNat a b with
  |some r=>obtain⟨m1,t1,v1,_⟩:=v.op w0 e2 hv ga;have:=qz7 op;exact Nb.pre t1 (Nb.ok (c:=0) (d := -1) v1 (Int.le_refl 0)) ga ga
  |none=>exact Nb.re ga (.inr rfl) (by rw[<-v.rel.out];exact PW.Rv v.here e2 w0 v.data hv)
 simp only[Fv,zc,not_mem_nil,or_false] at Xc;rcases Xc with rfl|rfl|rfl|rfl|rfl|rfl|rfl|rfl|rfl|rfl|rfl|rfl|rfl|rfl;exact absurd rfl h3;exact absurd rfl h2
 ·-- ==
  have hw:ws=[[94],[49],[60]]:=hw;subst hw;obtain⟨w0,hc⟩:=hc.cons;obtain⟨w1,hc⟩:=hc.cons;obtain⟨w2,hc⟩:=hc.cons;obtain⟨m1,t1,v1,_⟩:=v.op (x:=a ^^^ b) w0 (by unfold jc;simp) rfl ga;obtain⟨m2,t2,v2,_⟩:=v1.Ew (n:=1) w1 fa rfl (by simp only[La];omega);obtain⟨m3,t3,v3,_⟩:=v2.op (x:=kf (decide (a=b))) w2 (by unfold jc;simp) (by
   unfold ud;simp only[xor_zero];unfold kf;simp) ga
  have:wB [61,61]=4:=rfl;exact Nb.pre (t1.trans (t2.trans t3)) (Nb.ok (c:=0) (d := -4) v3 (Int.le_refl 0)) ga ga
 exact absurd rfl h1
 ·exact simple 60 rfl (by unfold jc;simp) hw (by unfold ud;rw[zn fa,zn fa,zn fa,zn fa,zn fa,zn fa,CH];try rfl)
 ·-- >
  have hw:ws=Xl (X.cc f):=hw;subst hw;obtain⟨m1,t1,v1⟩:=v.Zx hX hf hc (by rcases hd with h|h;omega;exact absurd rfl h.2.1);have:wB [62]=33:=rfl;exact Nb.pre t1 (Nb.ok (c:=0) (d := -33) v1 (Int.le_refl 0)) ga ga
 ·-- <=
  have hw:ws=Xl (X.cc f)++[[49],[94]]:=hw;subst hw;obtain⟨rn,ef⟩:=hc.app;obtain⟨m1,t1,v1⟩:=v.Zx hX hf rn (by rcases hd with h|h;omega;exact absurd rfl h.2.2);have hl:(Xl (X.cc f)).length=9:=rfl;rw[hl] at ef;obtain⟨w1,ef⟩:=ef.cons;obtain⟨w2,ef⟩:=ef.cons;obtain⟨m2,t2,v2,_⟩:=v1.Ew (n:=1) w1 fa rfl (by simp only[La];omega);obtain⟨m3,t3,v3,_⟩:=v2.op (x:=kf (decide (a<=b))) w2 (by unfold jc;simp) (by
   unfold ud kf;by_cases h:b<a;simp[h,show ¬ a<=b by omega];simp[h,show a<=b by omega]) ga
  have:wB [60,61]=36:=rfl;exact Nb.pre (t1.trans (t2.trans t3)) (Nb.ok (c:=0) (d := -36) (by
   have:i+9+1+1=i+(Xl (X.cc f)++[[49],[94]]).length:=rfl;exact v3.cast this) (Int.le_refl 0)) ga ga
 ·-- >=
  have hw:ws=[[60],[49],[94]]:=hw;subst hw;obtain⟨w0,hc⟩:=hc.cons;obtain⟨w1,hc⟩:=hc.cons;obtain⟨w2,hc⟩:=hc.cons;obtain⟨m1,t1,v1,_⟩:=v.op (x:=kf (decide (a<b))) w0 (by unfold jc;simp) (by unfold ud;rw[zn fa,zn fa,zn fa,zn fa,zn fa,zn fa,CH]) ga;obtain⟨m2,t2,v2,_⟩:=v1.Ew (n:=1) w1 fa rfl (by simp only[La];omega);obtain⟨m3,t3,v3,_⟩:=v2.op (x:=kf (decide (b<=a))) w2 (by unfold jc;simp) (by
   unfold ud kf;by_cases h:a<b;simp[h,show ¬ b<=a by omega];simp[h,show b<=a by omega]) ga
  have:wB [62,61]=4:=rfl;exact Nb.pre (t1.trans (t2.trans t3)) (Nb.ok (c:=0) (d := -4) v3 (Int.le_refl 0)) ga ga
 exact simple 94 rfl (by unfold jc;simp) hw rfl;exact simple 43 rfl (by unfold jc;simp) hw rfl;exact simple 45 rfl (by unfold jc;simp) hw rfl;exact simple 42 rfl (by unfold jc;simp) hw rfl;exact simple 47 rfl (by unfold jc;simp) hw (by unfold ud pj;by_cases h:b=0 <;> simp[h]);exact simple 37 rfl (by unfold jc;simp) hw (by unfold ud pj;by_cases h:b=0 <;> simp[h])
end
section
variable{X:Lf}{n:Nat}
theorem qyt(hX:Zd X)(hE:Rz X n)(hC:V7 X n):Rz X (n+1):=by
 intro f hf e i s m d c hn he hc v hd Vn;obtain⟨op,num,name,args⟩:=e;rw[yf] at he;split at he
 case isFalse=>cases he
 rename_i Xc;obtain⟨Ci,AA⟩:=Rc.1 he;rw[sn];refine Nb.tick v.rel.out λNx=>?_;have v:=v.steps (s.left-wE op num name args.length);generalize { s with left:=s.left-wE op num name args.length }=s1 at v ⊢;clear Nx;obtain⟨ec,hn⟩:=hn;rw[Mb] at hc ⊢;rw[Kf] at hd;rw[nj] at Vn;have Qq:c.length+Ai (X.jb f) args<=64:=by omega
 by_cases h1:op=tf
 ·subst h1
  have ha:args=[]:=List.eq_nil_of_length_eq_zero (by
   have e:fg tf=0:=rfl;rw[e] at Xc;omega)
  subst ha;have hr:((ek (sn X.P n f) [] s1).bind λvs s=>FF X.P (Hg X.P n) f tf num name vs s)=.ok num s1:=rfl;rw[hr];have hw:Iq (X.cc f) tf num name (Hb (X.cc f) [])=[decDigits num]:=by rw[Hb];try rfl
  rw[hw] at hc ⊢;obtain⟨w0,_⟩:=hc.cons;have Xa:d.length<256:=by have:IB (X.jb f) tf name (oh (X.jb f) [])=1:=rfl;omega
  have hq:wE tf num name ([]:List Ex).length=wN num:=rfl;rw[hq];obtain⟨m1,t1,v1,_⟩:=v.num (k:=wN num) w0 ec (FO ec) Xa;exact Nb.pre t1 (Nb.ok (c:=0) (d:=0) v1 (Int.le_refl 0)) ga ga
 by_cases h2:op=Uf
 ·subst h2
  have ha:args=[]:=List.eq_nil_of_length_eq_zero (by
   have e:fg Uf=0:=rfl;rw[e] at Xc;omega)
  subst ha;have hr:((ek (sn X.P n f) [] s1).bind λvs s=>FF X.P (Hg X.P n) f Uf num name vs s)=.ok (s1.sc (dc f name)) s1:=rfl;rw[hr];have Se:Zs (X.jb f) name=0:=AA;obtain⟨a1,a2⟩:=hX.sc f hf name Se;have hw:Iq (X.cc f) Uf num name (Hb (X.cc f) [])=[(X.cc f).sc name,[64]]:=by rw[Hb];try rfl
  rw[hw,a1] at hc;rw[hw];obtain⟨w0,hc⟩:=hc.cons;obtain⟨w1,hc⟩:=hc.cons;have Xa:d.length<256:=by have:IB (X.jb f) Uf name (oh (X.jb f) [])=1:=rfl;omega
  have BR:=hX.low _ (.inl ⟨_,a2,rfl⟩);obtain⟨m1,t1,v1,e1⟩:=v.addr w0 ga Xa;obtain⟨m2,t2,v2,e2⟩:=v1.load w1 (hX.EL _ (.inl ⟨_,a2,rfl⟩)) Xa;rw[e1,v.rel.sc _ a2] at v2;have hq:wE Uf num name ([]:List Ex).length=8:=rfl;rw[hq];exact Nb.pre (t1.trans t2) (Nb.ok (c:=0) (d:=0) v2 (Int.le_refl 0)) ga ga
 by_cases h3:op=Bj
 ·subst h3
  obtain⟨x,rfl⟩:∃ x,args=[x]:=gv (by
   have e:fg Bj=1:=rfl;rw[e] at Xc;omega)
  rw[ZP,cK];have Se:Qy (X.jb f) name=0:=AA;obtain⟨a1,A,hA,rfl⟩:=hX.ar f hf name Se;have hw:Iq (X.cc f) Bj num A.name (Hb (X.cc f) [x])=(X.cc f).ar A.name::(Mb (X.cc f) x++[[43],[64]]):=by rw[Hb];try rfl
  rw[hw,a1] at hc;rw[hw];obtain⟨w0,hc⟩:=hc.cons;obtain⟨yp,hc⟩:=hc.app;obtain⟨w1,hc⟩:=hc.cons;obtain⟨w2,hc⟩:=hc.cons;have Mg:d.length+(1+Kf (X.jb f) x)<=256:=hd;rw[ig] at Ci;rw[Ai] at Qq;have eS:∀ j,j<A.size->X.aa A.name+j<262144:=λj hj=>hX.low _ (.inr (.inr ⟨A,hA,j,hj,rfl⟩));have I5:X.aa A.name<1000000:=hX.oy A hA;obtain⟨m1,t1,v1,e1⟩:=v.addr w0 I5 ga;have hq:wE Bj num A.name [x].length=9:=rfl;rw[hq];refine Nb.pre t1 (c1:=2) (d1:=2) ?_ ga ga;refine Nb.bind (c2:=2) (d2:=2) (hE f hf x (i+1) s1 m1 (X.aa A.name::d) c hn.1 (Rc.1 Ci).1 yp v1 (by rw[La];omega) ga) ga ga ga λa s' m' va=>?_
  show Nb X.C _ 2 2 m' s' (match (s'.ar A.name)[a]? with
   |some v=>.ok v s'
   |none=>.stop 2 s')
  cases hg:(s'.ar A.name)[a]? with
  |none=>exact Nb.other fa
  |some r=>
   obtain⟨Ja,hr⟩:=List.getElem?_eq_some_iff.1 hg;obtain⟨b1,b2⟩:=va.rel.ar A hA;have hb:=eS a ga;obtain⟨m2,t2,v2,e2⟩:=va.op (x:=X.aa A.name+a) w1 (by unfold jc;simp) (by
    show some ((X.aa A.name+a) % 4294967296)=_;rw[Nat.mod_eq_of_lt (by omega)]) ga
   obtain⟨m3,t3,v3,e3⟩:=v2.load w2 (hX.EL _ (.inr (.inr ⟨A,hA,a,by omega,rfl⟩))) ga;rw[e2,b2 a Ja,hr] at v3;refine Nb.pre (t2.trans t3) (Nb.ok (c:=0) (d:=0) (v3.cast ?_) (Int.le_refl 0)) ga ga;simp only[La,Ga,oc];omega
 by_cases h4:op=Ag
 ·subst h4
  obtain⟨x,rfl⟩:∃ x,args=[x]:=gv (by
   have e:fg Ag=1:=rfl;rw[e] at Xc;omega)
  rw[ZP,cK];have hw:Iq (X.cc f) Ag num name (Hb (X.cc f) [x])=[48]::(Mb (X.cc f) x++[[45]]):=by rw[Hb];try rfl
  rw[hw] at hc ⊢;obtain⟨w0,hc⟩:=hc.cons;obtain⟨yp,hc⟩:=hc.app;obtain⟨w1,hc⟩:=hc.cons;have Mg:d.length+(1+Kf (X.jb f) x)<=256:=hd;rw[ig] at Ci;rw[Ai] at Qq;obtain⟨m1,t1,v1,e1⟩:=v.Ew (n:=0) w0 fa rfl ga;have hq:wE Ag num name [x].length=3:=rfl;rw[hq];refine Nb.pre t1 (c1:=1) (d1:=1) ?_ ga ga;refine Nb.bind (c2:=1) (d2:=1) (hE f hf x (i+1) s1 m1 (0::d) c hn.1 (Rc.1 Ci).1 yp v1 (by rw[La];omega) ga) ga ga ga λa s' m' va=>?_;show Nb X.C _ 1 1 m' s' (.ok ((4294967296-a) % 4294967296) s')
  obtain⟨m2,t2,v2,e2⟩:=va.op (x:=(4294967296-a) % 4294967296) w1 (by unfold jc;simp) (by
   show some ((0+4294967296-a) % 4294967296)=_;rw[Nat.zero_add]) ga
  refine Nb.pre t2 (Nb.ok (c:=0) (d:=0) (v2.cast ?_) (Int.le_refl 0)) ga ga;simp only[La,Ga,oc];omega
 by_cases h5:op=jg
 ·subst h5
  obtain⟨x,rfl⟩:∃ x,args=[x]:=gv (by
   have e:fg jg=1:=rfl;rw[e] at Xc;omega)
  rw[ZP,cK];have hw:Iq (X.cc f) jg num name (Hb (X.cc f) [x])=Mb (X.cc f) x++[[49],[60]]:=by rw[Hb];try rfl
  rw[hw] at hc ⊢;obtain⟨yp,hc⟩:=hc.app;obtain⟨w0,hc⟩:=hc.cons;obtain⟨w1,hc⟩:=hc.cons;have Mg:d.length+max 2 (Kf (X.jb f) x)<=256:=hd;rw[ig] at Ci;rw[Ai] at Qq;have hq:wE jg num name [x].length=3:=rfl;rw[hq];refine Nb.bind (c2:=3) (d2:=3) (hE f hf x i s1 m d c hn.1 (Rc.1 Ci).1 yp v ga ga) ga ga ga λa s' m' va=>?_;show Nb X.C _ 3 3 m' s' (.ok (kf (decide (a=0))) s');obtain⟨m1,t1,v1,e1⟩:=va.Ew (n:=1) w0 fa rfl (by simp only[La];omega)
  obtain⟨m2,t2,v2,e2⟩:=v1.op (x:=kf (decide (a=0))) w1 (by unfold jc;simp) (by
   show some (if a<1 then 1 else 0)=_;rw[CH];congr 3;exact propext ⟨λh=>by omega,λh=>by omega⟩) ga
  refine Nb.pre (t1.trans t2) (Nb.ok (c:=0) (d:=0) (v2.cast ?_) (Int.le_refl 0)) ga ga;simp only[La,Ga,oc];omega
 by_cases h6:op=eg
 ·subst h6;have Mg:d.length+Uz (X.jb f) name (oh (X.jb f) args)<=256:=hd;have hw:Iq (X.cc f) eg num name (Hb (X.cc f) args)=(Hb (X.cc f) args).flatten++(if name=[105,110] then [[44]] else if name=[111,117,116] then [[46],[48]] else [[38,102,95]++name,[58]]):=rfl;have Se:Lc (X.jb f) name args.length=0:=AA;have qC:∀ vs s,FF X.P (Hg X.P n) f eg num name vs s=Ly X.P (Hg X.P n) name vs s:=λvs s=>rfl;rw[hw] at hc ⊢;obtain⟨y5,hc⟩:=hc.app
  by_cases k1:name=[105,110];subst k1;rw[zp rfl] at hc ⊢;have ha:args=[]:=List.eq_nil_of_length_eq_zero (by
   unfold Lc at Se;rw[zp rfl] at Se;split at Se
   assumption
   cases Se)
  subst ha;rw[Hb] at hc ⊢;obtain⟨w0,_⟩:=hc.cons;have Xa:d.length<256:=by have:Uz (X.jb f) [105,110] (oh (X.jb f) [])=1:=rfl;omega
  obtain⟨m1,t1,v1⟩:=v.read w0 Xa;have hr:((ek (sn X.P n f) [] s1).bind λvs s=>FF X.P (Hg X.P n) f eg num [105,110] vs s)=.ok (s1.Ia.headD 4294967295) { s1 with Ia:=s1.Ia.tail }:=by
   show Ly X.P (Hg X.P n) [105,110] [] s1=_;unfold Ly;rw[zp rfl];cases hi:s1.Ia with
   |nil=>simp only[List.headD_nil,List.tail_nil];congr 1;cases s1;simp only at hi;subst hi;rfl
   |cons a r=>rfl
  rw[hr];have hq:wE eg num [105,110] ([]:List Ex).length=1:=rfl;rw[hq];refine Nb.pre (s:=s1) t1 (c1:=0) (d1:=0) ?_ ga ga;exact⟨Jb _,0,m1,by simp,.zero _,v1⟩;by_cases k2:name=[111,117,116];subst k2;rw[zn fa,zp rfl] at hc ⊢;obtain⟨x,rfl⟩:∃ x,args=[x]:=gv (by
   unfold Lc at Se;rw[zn fa,zp rfl] at Se;split at Se
   assumption
   cases Se)
  rw[ZP,cK];have Mk:(Hb (X.cc f) [x]).flatten=Mb (X.cc f) x:=by rw[Hb,Hb];simp
  rw[Mk] at hc y5 ⊢;obtain⟨w0,hc⟩:=hc.cons;obtain⟨w1,_⟩:=hc.cons;have y4:d.length+Kf (X.jb f) x<=256:=Mg;have qz:1<=Kf (X.jb f) x:=LM _ _ (Rc.1 (by rw[ig] at Ci;exact Ci)).1;rw[ig] at Ci;rw[Ai] at Qq;have hq:wE eg num [111,117,116] [x].length=3:=rfl;rw[hq];refine Nb.bind (c2:=3) (d2:=3) (hE f hf x i s1 m d c hn.1 (Rc.1 Ci).1 y5 v ga ga) ga ga ga λa s' m' va=>?_;show Nb X.C _ 3 3 m' s' (.ok 0 { s' with out:=s'.out++[UInt8.ofNat a] })
  obtain⟨m1,t1,v1⟩:=va.write w0;obtain⟨m2,t2,v2,_⟩:=v1.Ew (n:=0) w1 fa rfl ga;refine Nb.pre (s:=s') (t1.trans t2) (c1:=0) (d1:=0) ?_ ga ga;refine⟨Jb _,0,m2,by simp,.zero _,v2.cast ?_⟩;simp only[La,Ga,oc];omega;rw[zn k1,zn k2] at hc ⊢;have EI:Uz (X.jb f) name (oh (X.jb f) args)=match (X.jb f).fn name with
    |some g=>Ky 0 (oh (X.jb f) args) (max (g.params+1) g.need)
    |none=>0:=by unfold Uz;rw[zn k1,zn k2];try rfl
  have Fs:Mu (X.jb f) eg name=match (X.jb f).fn name with
    |some g=>g.depth+1
    |none=>0:=by unfold Mu;rw[zp ⟨rfl,k1,k2⟩];try rfl
  obtain⟨g,hg⟩:∃ g,(X.jb f).fn name=some g:=by
   cases hq:(X.jb f).fn name with
   |some g=>exact⟨g,rfl⟩
   |none=>unfold Lc at Se;rw[zn k1,zn k2,hq] at Se;simp only at Se;split at Se <;> cases Se
  rw[hg] at EI Fs;simp only at EI Fs;obtain⟨q1,q2⟩:=qmT (oh (X.jb f) args) 0 (max (g.params+1) g.need) (256-d.length) ga;obtain⟨r1,r2⟩:=qlq (X.jb f) args;have hq:wE eg num name args.length=8 * args.length+11:=by show(if name=[105,110] then 1 else if name=[111,117,116] then 3 else 8 * args.length+11)=_;rw[zn k1,zn k2]
  rw[hq];refine Nb.bind (c2:=8 * args.length+11) (d2:=8 * args.length+11) (J9 hE hf args i s1 m d c hn Ci y5 v (λk hk=>?_) Qq) ga ga ga λvs s' m' hv=>?_;have:=q2 k ga;rw[r2 k hk (by omega)] at this;have ot:d.length<=256:=by omega
  omega;rw[qC];obtain⟨NV,hv2⟩:=hv;rw[<-NV];have:=hC f hf name vs _ s' m' d c k1 k2 (by rw[NV];exact Se) hc hv2 (λg' Tx=>by
   rw[hg] at Tx;cases Tx;have ot:d.length<=256:=by omega
   exact⟨by omega,by omega⟩)
  refine Nb.post (a:=0) this ga (Int.le_refl _) λr s2 m2 h=>⟨m2,.refl _,h.cast ?_⟩;rw[Ga];simp only[La,oc];omega
 have qC:fg op=2/\args.length=2:=by unfold fg at Xc ⊢;simp only[h1,h2,h3,h4,h5,h6,or_self,if_false] at Xc ⊢;split at Xc;rename_i hb;exact⟨zp hb,by rcases Xc with h|h <;> omega⟩;rcases Xc with h|h <;> omega
 obtain⟨Jl,_⟩:=qqr qC.1;obtain⟨x,y,rfl⟩:∃ x y,args=[x,y]:=by
  have h:=qC.2;match args,h with
  |[x,y],_=>exact⟨x,y,rfl⟩
 rw[qwd,cK];simp only[cK];have VR:∀ a b s,(IR.ok [a,b] s).bind (λvs s=>FF X.P (Hg X.P n) f op num name vs s)=match pj op a b with
   |some r=>.ok r s
   |none=>.stop 12 s:=λa b s=>qyq X.P (Hg X.P n) f Jl num name a b s
 simp only[VR];have As:=hn.1;have ZV:=hn.2.1;rw[ig,ig] at Ci;obtain⟨Ci,Se⟩:=Rc.1 Ci;obtain⟨Se,_⟩:=Rc.1 Se;rw[Ai,Ai] at Qq;have FK:Hb (X.cc f) [x,y]=[Mb (X.cc f) x,Mb (X.cc f) y]:=by rw[Hb,Hb,Hb]
 have Nq:oh (X.jb f) [x,y]=[Kf (X.jb f) x,Kf (X.jb f) y]:=by rw[oh,oh,oh]
 rw[FK] at hc ⊢;rw[Nq] at hd;by_cases b1:op=[33,61];subst b1;have hw:Iq (X.cc f) [33,61] num name [Mb (X.cc f) x,Mb (X.cc f) y]=[48]::(Mb (X.cc f) x++Mb (X.cc f) y++[[94],[60]]):=rfl;rw[hw] at hc ⊢;have Mg:d.length+max (max 3 (1+Kf (X.jb f) x)) (2+Kf (X.jb f) y)<=256:=hd;obtain⟨w0,hc⟩:=hc.cons;obtain⟨hc,Hl⟩:=hc.app;obtain⟨rn,ef⟩:=hc.app;obtain⟨w1,Hl⟩:=Hl.cons;obtain⟨w2,_⟩:=Hl.cons;obtain⟨m1,t1,v1,e1⟩:=v.Ew (n:=0) w0 fa rfl ga;have hq:wE [33,61] num name [x,y].length=4:=rfl;rw[hq];refine Nb.pre t1 (c1:=2) (d1:=2) ?_ ga ga;refine Nb.bind (c2:=2) (d2:=2) (hE f hf x (i+1) s1 m1 (0::d) c As Ci rn v1 (by rw[La];omega) ga) ga ga ga λa s' m' va=>?_;refine Nb.bind (c2:=2) (d2:=2) (hE f hf y _ s' m' (a::0::d) c ZV Se ef va (by rw[La,La];omega) ga) ga ga ga λb s2 m2 vb=>?_;rw[Ga,<-add_assoc] at w1 w2;obtain⟨m3,t3,v3,_⟩:=vb.op (x:=a ^^^ b) w1 (by unfold jc;simp) rfl (by simp only[La];omega)
 obtain⟨m4,t4,v4,_⟩:=v3.op (x:=kf (decide (a≠b))) w2 (by unfold jc;simp) (by
  show some (if 0<a ^^^ b then 1 else 0)=_;rw[CH];congr 3;refine propext ⟨λh e=>?_,λh=>?_⟩;have:=xor_zero.2 e;omega
  have:=mt xor_zero.1 h;omega) ga
 refine Nb.pre (t3.trans t4) (Nb.ok (c:=0) (d:=0) (v4.cast ?_) (Int.le_refl 0)) ga ga;simp only[La,Ga,oc];omega;by_cases b2:op=[38,38];subst b2;have hw:Iq (X.cc f) [38,38] num name [Mb (X.cc f) x,Mb (X.cc f) y]=[48]::(Mb (X.cc f) x++[[60],[48]]++Mb (X.cc f) y++[[60],[42]]):=rfl;rw[hw] at hc ⊢;have Mg:d.length+max (1+Kf (X.jb f) x) (2+Kf (X.jb f) y)<=256:=hd;have W3:=LM _ _ Ci;have hpy:=LM _ _ Se;obtain⟨w0,hc⟩:=hc.cons;obtain⟨hc,Gl⟩:=hc.app;obtain⟨hc,Hl⟩:=hc.app;obtain⟨rn,ef⟩:=hc.app;obtain⟨w1,ef⟩:=ef.cons;obtain⟨w2,_⟩:=ef.cons;obtain⟨w3,Gl⟩:=Gl.cons;obtain⟨w4,_⟩:=Gl.cons;obtain⟨m1,t1,v1,e1⟩:=v.Ew (n:=0) w0 fa rfl ga;have hq:wE [38,38] num name [x,y].length=7:=rfl;rw[hq];refine Nb.pre t1 (c1:=5) (d1:=5) ?_ ga ga;refine Nb.bind (c2:=5) (d2:=5) (hE f hf x (i+1) s1 m1 (0::d) c As Ci rn v1 (by rw[La];omega) ga) ga ga ga λa s' m' va=>?_
 obtain⟨m2,t2,v2,_⟩:=va.op (x:=kf (decide (0<a))) w1 (by unfold jc;simp) (by
  show some (if 0<a then 1 else 0)=_;rw[CH]) ga
 obtain⟨m3,t3,v3,_⟩:=v2.Ew (n:=0) w2 fa rfl (by simp only[La];omega);refine Nb.pre (t2.trans t3) (c1:=2) (d1:=2) ?_ ga ga;refine Nb.bind (c2:=2) (d2:=2) (hE f hf y _ s' m3 (0::kf (decide (0<a))::d) c ZV Se (by
  rw[Ga,<-add_assoc] at Hl;exact Hl) v3 (by rw[La,La];omega) ga) ga ga ga λb s2 m4 vb=>?_
 have UW:X.C.W[i+1+(Mb (X.cc f) x).length+1+1+(Mb (X.cc f) y).length]? = some [60]:=by rw[<-w3];congr 1;simp only[Ga,La,oc];omega
 have TW:X.C.W[i+1+(Mb (X.cc f) x).length+1+1+(Mb (X.cc f) y).length+1]? = some [42]:=by rw[<-w4];congr 1;simp only[Ga,La,oc];omega
 obtain⟨m5,t5,v5,_⟩:=vb.op (x:=kf (decide (0<b))) UW (by unfold jc;simp) (by
  show some (if 0<b then 1 else 0)=_;rw[CH]) (by simp only[La];omega)
 obtain⟨m6,t6,v6,_⟩:=v5.op (x:=kf (decide (a≠0/\b≠0))) TW (by unfold jc;simp) (by
  show some (kf (decide (0<a)) * kf (decide (0<b)) % 4294967296)=_;congr 1;unfold kf;by_cases ha:0<a <;> by_cases hb:0<b <;> simp[ha,hb,Nat.pos_iff_ne_zero.1,show a=0 ↔ ¬ 0<a by omega,show b=0 ↔ ¬ 0<b by omega]) ga
 refine Nb.pre (t5.trans t6) (Nb.ok (c:=0) (d:=0) (v6.cast ?_) (Int.le_refl 0)) ga ga;simp only[La,Ga,oc];omega;by_cases b3:op=[124,124];subst b3;have hw:Iq (X.cc f) [124,124] num name [Mb (X.cc f) x,Mb (X.cc f) y]=[48]::[48]::(Mb (X.cc f) x++[[60],[48]]++Mb (X.cc f) y++[[60],[43],[60]]):=rfl;rw[hw] at hc ⊢;have Mg:d.length+max (2+Kf (X.jb f) x) (3+Kf (X.jb f) y)<=256:=hd;have W3:=LM _ _ Ci;have hpy:=LM _ _ Se;obtain⟨w0,hc⟩:=hc.cons;obtain⟨w00,hc⟩:=hc.cons;obtain⟨hc,Gl⟩:=hc.app;obtain⟨hc,Hl⟩:=hc.app;obtain⟨rn,ef⟩:=hc.app;obtain⟨w1,ef⟩:=ef.cons;obtain⟨w2,_⟩:=ef.cons;obtain⟨w3,Gl⟩:=Gl.cons;obtain⟨w4,Gl⟩:=Gl.cons;obtain⟨w5,_⟩:=Gl.cons;obtain⟨m0,t0,v0,e0⟩:=v.Ew (n:=0) w0 fa rfl ga;obtain⟨m1,t1,v1,e1⟩:=v0.Ew (n:=0) w00 fa rfl (by simp only[La];omega);have hq:wE [124,124] num name [x,y].length=10:=rfl;rw[hq];refine Nb.pre (t0.trans t1) (c1:=6) (d1:=6) ?_ ga ga;refine Nb.bind (c2:=6) (d2:=6) (hE f hf x (i+1+1) s1 m1 (0::0::d) c As Ci rn v1 (by rw[La,La];omega) ga) ga ga ga λa s' m' va=>?_
 obtain⟨m2,t2,v2,_⟩:=va.op (x:=kf (decide (0<a))) w1 (by unfold jc;simp) (by
  show some (if 0<a then 1 else 0)=_;rw[CH]) (by simp only[La];omega)
 obtain⟨m3,t3,v3,_⟩:=v2.Ew (n:=0) w2 fa rfl (by simp only[La];omega);refine Nb.pre (t2.trans t3) (c1:=3) (d1:=3) ?_ ga ga;refine Nb.bind (c2:=3) (d2:=3) (hE f hf y _ s' m3 (0::kf (decide (0<a))::0::d) c ZV Se (by
  rw[Ga,<-add_assoc] at Hl;exact Hl) v3 (by rw[La,La,La];omega) ga) ga ga ga λb s2 m4 vb=>?_
 have UW:X.C.W[i+1+1+(Mb (X.cc f) x).length+1+1+(Mb (X.cc f) y).length]? = some [60]:=by rw[<-w3];congr 1;simp only[Ga,La,oc];omega
 have TW:X.C.W[i+1+1+(Mb (X.cc f) x).length+1+1+(Mb (X.cc f) y).length+1]? = some [43]:=by rw[<-w4];congr 1;simp only[Ga,La,oc];omega
 have w5':X.C.W[i+1+1+(Mb (X.cc f) x).length+1+1+(Mb (X.cc f) y).length+1+1]? = some [60]:=by rw[<-w5];congr 1;simp only[Ga,La,oc];omega
 obtain⟨m5,t5,v5,_⟩:=vb.op (x:=kf (decide (0<b))) UW (by unfold jc;simp) (by
  show some (if 0<b then 1 else 0)=_;rw[CH]) (by simp only[La];omega)
 obtain⟨m6,t6,v6,_⟩:=v5.op (x:=kf (decide (0<a))+kf (decide (0<b))) TW (by unfold jc;simp) (by
  show some ((kf (decide (0<a))+kf (decide (0<b))) % 4294967296)=_;have h1:=O8 (decide (0<a));have h2:=O8 (decide (0<b));rw[Nat.mod_eq_of_lt (by omega)]) (by simp only[La];omega)
 obtain⟨m7,t7,v7,_⟩:=v6.op (x:=kf (decide (a≠0∨b≠0))) w5' (by unfold jc;simp) (by
  show some (if 0<kf (decide (0<a))+kf (decide (0<b)) then 1 else 0)=_;congr 1;unfold kf
  by_cases ha:0<a <;> by_cases hb:0<b <;> simp[ha,hb,show a=0 ↔ ¬ 0<a by omega,show b=0 ↔ ¬ 0<b by omega]) ga
 refine Nb.pre (t5.trans (t6.trans t7)) (Nb.ok (c:=0) (d:=0) (v7.cast ?_) (Int.le_refl 0)) ga ga;simp only[La,Ga,oc];omega;obtain⟨_,o1,o2,o3,o4,o5,o6⟩:=qqr qC.1;have hw:Iq (X.cc f) op num name [Mb (X.cc f) x,Mb (X.cc f) y]=Mb (X.cc f) x++Mb (X.cc f) y++(if op=[62] then Xl (X.cc f) else if op=[60,61] then Xl (X.cc f)++[[49],[94]] else if op=[62,61] then [[60],[49],[94]] else if op=[61,61] then [[94],[49],[60]] else [op]):=by unfold Iq;rw[zn o1,zn o2,zn o3,zn o6,zn o4,zn o5,zn b1,zn b2,zn b3];try rfl
 rw[hw] at hc ⊢;obtain⟨hc,Hl⟩:=hc.app;obtain⟨rn,ef⟩:=hc.app;have Mg:d.length+(if op=[62]∨op=[60,61] then max (max 3 (Kf (X.jb f) x)) (1+Kf (X.jb f) y) else max (max 2 (Kf (X.jb f) x)) (1+Kf (X.jb f) y))<=256:=by
  have:IB (X.jb f) op name [Kf (X.jb f) x,Kf (X.jb f) y]=(if op=[62]∨op=[60,61] then max (max 3 (Kf (X.jb f) x)) (1+Kf (X.jb f) y) else max (max 2 (Kf (X.jb f) x)) (1+Kf (X.jb f) y)):=by unfold IB;rw[zn (by rintro(h|h);exact o1 h;exact o2 h),zn (by rintro(h|h);exact o3 h;exact o4 h),zn o6,zn o5,zn b1,zn b2,zn b3];try rfl
  rw[this] at hd;exact hd
 have Ux:d.length+Kf (X.jb f) x<=256/\d.length+1+Kf (X.jb f) y<=256/\(d.length+3<=256∨(d.length+2<=256/\op≠[62]/\op≠[60,61])):=by split at Mg;exact⟨by omega,by omega,.inl ga⟩;rename_i h;exact⟨by omega,by omega,.inr ⟨by omega,λe=>h (.inl e),λe=>h (.inr e)⟩⟩
 have hq:wE op num name [x,y].length=wB op:=by unfold wE wB;rw[zn o1,zn o2,zn o3,zn o4,zn o5,zn o6];split <;> try rfl
 rw[hq];refine Nb.bind (c2:=(wB op:Int)) (d2:=(wB op:Int)) (hE f hf x i s1 m d c As Ci rn v Ux.1 ga) ga ga ga λa s' m' va=>?_;refine Nb.bind (c2:=(wB op:Int)) (d2:=0) (hE f hf y _ s' m' (a::d) c ZV Se ef va (by rw[La];omega) ga) ga ga ga λb s2 m2 vb=>?_;rw[Ga,<-add_assoc] at Hl;refine Nb.post (a:=0) (qzw hX hf Jl b1 b2 b3 vb Ux.2.2 rfl Hl) ga (Int.le_refl _) λr s3 m3 h=>⟨m3,.refl _,h.cast ?_⟩;rw[Ga,Ga];omega
end
def Nz(X:Lf)(n:Nat):Prop:=∀ f∈X.P.funcs,∀ st i nl s m d t da,ep st->Pk (X.jb f) st=0->X.C.Code i (vg (X.cc f) nl st).1->X.Vw s i d (t::da) m->d.length+ED (X.jb f) st<=256->da.length+1+Ls (X.jb f) st<=64 ->
 Nb X.C (R6 X (i+(vg (X.cc f) nl st).1.length) d t da) 0 0 m s (Hg X.P n f st s)
section
variable{X:Lf}{n:Nat}
theorem EJ(hS:Nz X n){f:Pb}(hf:f∈X.P.funcs):∀ (l:List Sm) i nl s m d t da,cj l->Th (X.jb f) l=0->X.C.Code i (Pa (X.cc f) nl l).1->X.Vw s i d (t::da) m->d.length+ql (X.jb f) l<=256->da.length+1+vj (X.jb f) l<=64 ->
  Nb X.C (R6 X (i+(Pa (X.cc f) nl l).1.length) d t da) 0 0 m s (mg (Hg X.P n f) l s)
 |[],i,nl,s,m,d,t,da,_,_,_,v,_,_=>Nb.ok (by rw[Pa];exact v) (Int.le_refl 0)
 |a::l,i,nl,s,m,d,t,da,hn,he,hc,v,hd,Vn=>by
  rw[Th] at he;obtain⟨Ci,AA⟩:=Rc.1 he;rw[ql] at hd;rw[vj] at Vn;rw[Pa] at hc ⊢;obtain⟨rn,ef⟩:=hc.app;unfold mg;refine Nb.bind (c2:=0) (d2:=0) (hS f hf a i nl s m d t da hn.1 Ci rn v ga ga) ga ga ga λr s' m' h=>?_
  cases r with
  |some w=>exact Nb.ok h (Int.le_refl 0)
  |none=>have:=EJ hS hf l _ _ s' m' d t da hn.2 AA ef h ga ga;rw[Ga,<-add_assoc];exact this
theorem Nb.left{A:Type}{Q:A->IS->MS->Prop}{c d:Int}{m:MS}{s s':IS}{r:IR A}(h:Nb X.C Q c d m s r)(hl:s.left=s'.left):Nb X.C Q c d m s' r:=by
 cases r with
 |ok v s2=>unfold Nb at h ⊢;rw[<-hl];exact h
 |stop e s2=>unfold Nb at h ⊢;rw[<-hl];exact h
theorem qyi(hX:Zd X)(hS:Nz X n):V7 X n:=by
 intro f hf name vs i s m d c k1 k2 he hc v Mg;obtain⟨g,hg⟩:∃ g,(X.jb f).fn name=some g:=by
  cases hq:(X.jb f).fn name with
  |some g=>exact⟨g,rfl⟩
  |none=>unfold Lc at he;rw[zn k1,zn k2,hq] at he;simp only at he;split at he <;> cases he
 have na:vs.length=g.params:=by
  unfold Lc at he;rw[zn k1,zn k2,hg] at he;simp only at he;split at he
  assumption
  cases he
 obtain⟨n1,n2⟩:=Mg g hg;obtain⟨a1,a2,a3,a4,a5⟩:=hX.fn f hf name g hg;have hci:Ly X.P (Hg X.P n) name vs s=(mg (Hg X.P n (Lh X.P name)) (Lh X.P name).body (iq (Lh X.P name) (Lh X.P name).params vs s)).bind λr s=>.ok (r.getD 0) s:=by unfold Ly;rw[zn k1,zn k2]
 rw[hci];generalize hk:Lh X.P name=k at *;obtain⟨nl,vf⟩:=hX.code k a1;obtain⟨b1,b2⟩:=hX.body k a1;obtain⟨p1,p2⟩:=hX.O1 k a1;have zI:=hX.mj k a1;have cm:=hX.Cz k a1;rw[a2] at zI cm;unfold lk at vf;simp only at vf;rw[a2] at vf;obtain⟨vf,Gl⟩:=vf.app;obtain⟨vf,Hl⟩:=vf.app;obtain⟨rn,ef⟩:=vf.app;obtain⟨w0,hc⟩:=hc.cons;obtain⟨w1,_⟩:=hc.cons;obtain⟨wd,_⟩:=rn.cons;have WQ:(vs.reverse++d).length=vs.length+d.length:=by rw[Ga,List.length_reverse]
 have t2:=PW.call v.here w0 w1 cm (hX.label _ _ _ wd zI) (by rw[v.data,WQ];omega) (by rw[v.calls];omega);have v3:X.Vw s (X.fst k+1) (vs.reverse++d) (X.C.od (i+1+1)::c) { m with pc:=X.C.od (X.fst k+1),calls:=X.C.od (i+1+1)::m.calls,digit:=false }:=
  ⟨PW.wh rfl,v.rel.same rfl rfl rfl rfl rfl rfl rfl,v.data,by simp only;rw[v.calls]⟩
 obtain⟨m3,t3,v4⟩:=X9 hX k.params.length k.params vs _ s d _ _ rfl ga p1 p2 ef v3 ga;refine Nb.pre (t2.trans t3) (c1:=3) (d1:=3) ?_ ga ga;have hb:=EJ hS a1 k.body _ nl _ m3 d (X.C.od (i+1+1)) c b2 b1 Hl (v4.cast (by simp only[Ga,La,oc];omega)) ga ga;generalize vw:X.fst k+([[102,95]++name++[58]]++k.params.reverse.flatMap λp=>[(X.cc k).sc p,[33]]).length=i3 at hb
 have JC:∀ s' m',X.Vw s' (i3+(Pa (X.cc k) nl k.body).1.length) d (X.C.od (i+1+1)::c) m'->∃ m2,Gf X.C 3 m' m2/\X.Vw s' (i+2) (0::d) c m2:=by intro s' m' v5;obtain⟨w2,Gl⟩:=Gl.cons;obtain⟨w3,_⟩:=Gl.cons;rw[Ga,<-add_assoc,vw] at w2 w3;obtain⟨m6,t6,v6,_⟩:=v5.Ew (n:=0) w2 fa rfl ga;have t7:=PW.back v6.here w3 v6.calls;exact⟨_,(t6.trans t7).mono fa,⟨PW.wh rfl,v6.rel.same rfl rfl rfl rfl rfl rfl rfl,v6.data,rfl⟩⟩
 refine Nb.bind (c1:=0) (d1:=0) (c2:=3) (d2:=3) (hb.left (qli _ _ _ _)) ga ga ga λr s' m' h=>?_
 cases r with
 |none=>obtain⟨m2,t5,v5⟩:=JC s' m' h;exact Nb.pre t5 (Nb.ok (c:=0) (d:=0) v5 (Int.le_refl 0)) ga ga
 |some w=>obtain⟨g1,g2,g3,g4,g5⟩:=h;exact Nb.ok ⟨PW.wh g1,g3,g4,g5⟩ ga
theorem R7(hX:Zd X)(hE:Rz X n)(hS:Nz X n){f:Pb}(hf:f∈X.P.funcs){x:Ex}{Ua:List Sm}{i0 k0 k1 nb:Nat}{d:List Nat}{t:List Wd}{da:List (List Wd)}(As:Ji x)(hex:yf (X.jb f) x=0)(hnt:cj Ua)(het:Th (X.jb f) Ua=0)
  (yN:X.C.W[i0]? = some (za k0++[58])) (yp:X.C.Code (i0+1) (Mb (X.cc f) x)) (x5:X.C.Code (i0+1+(Mb (X.cc f) x).length) [38::za k1,[63]]) (yG:X.C.Code (i0+1+(Mb (X.cc f) x).length+2) (Pa (X.cc f) nb Ua).1)
  (LN:X.C.Code (i0+1+(Mb (X.cc f) x).length+2+(Pa (X.cc f) nb Ua).1.length) [[48],38::za k0,[63]]) (UQ:X.C.W[i0+1+(Mb (X.cc f) x).length+2+(Pa (X.cc f) nb Ua).1.length+3]? = some (za k1++[58]))
  (Ux:d.length+Kf (X.jb f) x<=256) (W4:d.length+ql (X.jb f) Ua<=256) (ru:d.length+2<=256) (W3:da.length+1+nj (X.jb f) x<=64) (hpt:da.length+1+vj (X.jb f) Ua<=64) :
  ∀ (k a:Nat) (s:IS) (m:MS),X.Vw s (i0+1+(Mb (X.cc f) x).length) (a::d) (t::da) m->Nb X.C (R6 X (i0+1+(Mb (X.cc f) x).length+2+(Pa (X.cc f) nb Ua).1.length+3+1) d t da) 8 8 m s (xt (sn X.P n f x) (mg (Hg X.P n f) Ua) k a s)
 |0,a,s,m,v=>by unfold xt;obtain⟨m1,t1,v1⟩:=v.branch hX x5 UQ ru;by_cases ha:a=0;rw[zp ha] at v1 ⊢;exact Nb.pre t1 (Nb.ok (c:=0) (d:=0) v1 (Int.le_refl 0)) ga ga;rw[zn ha];exact Nb.Ca v.rel.out
 |k+1,a,s,m,v=>by
  unfold xt;obtain⟨m1,t1,v1⟩:=v.branch hX x5 UQ ru;by_cases ha:a=0;rw[zp ha] at v1 ⊢;exact Nb.pre t1 (Nb.ok (c:=0) (d:=0) v1 (Int.le_refl 0)) ga ga;rw[zn ha] at v1 ⊢;refine Nb.pre t1 (c1:=0) (d1:=0) ?_ ga ga;refine Nb.bind (c1:=0) (d1:=0) (c2:=0) (d2:=0) (EJ hS hf Ua _ nb s m1 d t da hnt het yG v1 ga ga) ga ga ga λr s' m' h=>?_
  cases r with
  |some w=>exact Nb.ok h ga
  |none=>have h:X.Vw s' _ d (t::da) m':=h;refine Nb.tick h.rel.out λNx=>?_;have h:=h.steps (s'.left-18);generalize { s' with left:=s'.left-18 }=s1 at h ⊢;obtain⟨m2,t2,v2⟩:=Lf.Vw.goto hX h LN yN ru;refine Nb.pre t2 (c1:=8) (d1:=8) ?_ ga ga;refine Nb.bind (c1:=0) (d1:=0) (c2:=8) (d2:=8) (hE f hf x _ s1 m2 d (t::da) As hex yp v2 ga (by rw[La];omega)) ga ga ga λa' s2 m3 v3=>?_;exact R7 hX hE hS hf As hex hnt het yN yp x5 yG LN UQ Ux W4 ru W3 hpt k a' s2 m3 v3
theorem qx0(hX:Zd X)(hE:Rz X n)(hS:Nz X n):Nz X (n+1):=by
 intro f hf st i nl s m d t da hn he hc v hd Vn;obtain⟨kind,name,index,value,Ua,Cb⟩:=st;rw[Pk] at he;split at he;cases he;rename_i Ub;obtain⟨ev,he⟩:=Rc.1 he;obtain⟨ei,he⟩:=Rc.1 he;obtain⟨eu,he⟩:=Rc.1 he;obtain⟨et,ee⟩:=Rc.1 he;obtain⟨ni,nv,nt,ne⟩:=hn;rw[Hg];refine Nb.tick v.rel.out λNx=>?_;have v:=v.steps (s.left-wS kind Cb);generalize { s with left:=s.left-wS kind Cb }=s1 at v ⊢;clear Nx;rw[kP] at hc ⊢;rw[ED] at hd;rw[Ls] at Vn;unfold Jh at Ub;simp only at Ub
 by_cases k7:kind=7;subst k7;rw[zp rfl];have hc:X.C.Code i [[36]]:=hc;obtain⟨w0,_⟩:=hc.cons;exact Nb.re ga (.inl rfl) (by rw[<-v.rel.out];exact PW.halt v.here w0);rw[zn k7];rw[zn k7] at hd;have fk:value.length=1:=by by_cases q1:kind=1;rw[zp q1] at Ub;simp only[Bool.not_eq_false,Gg] at Ub;exact Ub.2.2.1;rw[zn q1] at Ub;by_cases q2:kind=2;rw[zp q2] at Ub;simp only[Bool.not_eq_false,Gg] at Ub;exact Ub.2.2.1;rw[zn q2] at Ub;by_cases q3:kind=3;rw[zp q3] at Ub;simp only[Bool.not_eq_false,Gg] at Ub;exact Ub.2.2;rw[zn q3] at Ub;by_cases q4:kind=4;rw[zp q4] at Ub;simp only[Bool.not_eq_false,Gg] at Ub;exact Ub.2.2.1;rw[zn q4] at Ub;by_cases q5:kind=5;rw[zp q5] at Ub;simp only[Bool.not_eq_false,Gg] at Ub;exact Ub.2.2.1;rw[zn q5] at Ub;by_cases q6:kind=6;rw[zp q6] at Ub;simp only[Bool.not_eq_false,Gg] at Ub;exact Ub.2.2.1;rw[zn q6,zn k7] at Ub;exact absurd rfl Ub
 obtain⟨x,rfl⟩:=j8 fk;have ZH:([x]:List Ex).headD default=x:=rfl;simp only[ZH] at hc hd ⊢;rw[ig] at ev;have MI:=(Rc.1 ev).1;have TH:=nv.1;have Ux:(t::da).length+nj (X.jb f) x<=64:=by rw[Ai] at Vn;rw[La];omega
 by_cases k1:kind=1;subst k1;rw[zp rfl] at hc ⊢;rw[zn fa,zn fa] at hd;simp only at hc ⊢;obtain⟨yp,hc⟩:=hc.app;obtain⟨w0,hc⟩:=hc.cons;obtain⟨w1,_⟩:=hc.cons;have eu:Zs (X.jb f) name=0:=eu;obtain⟨a1,a2⟩:=hX.sc f hf name eu;rw[a1] at w0;have BR:=hX.low _ (.inl ⟨_,a2,rfl⟩);have hq:wS 1 Cb=8:=rfl;rw[hq];refine Nb.bind (c1:=0) (d1:=0) (c2:=8) (d2:=8) (hE f hf x i s1 m d (t::da) TH MI yp v ga Ux) ga ga ga λa s' m' va=>?_;rw[zp trivial];obtain⟨m1,t1,v1,_⟩:=va.addr w0 ga (by simp only[La];omega);obtain⟨m2,t2,v2⟩:=v1.UE hX a2 w1;refine(Nb.pre (s:=Sf s' (dc f name) a) (t1.trans t2) (Nb.ok (c:=0) (d:=0) (v:=none) (v2.cast ?_) (Int.le_refl 0)) ga ga).left rfl;simp only[Ga,La,oc];omega
 by_cases k2:kind=2;subst k2;rw[zn fa,zp rfl] at hc ⊢;rw[zp rfl] at hd;rw[zn fa,zp rfl] at Ub;simp only[Bool.not_eq_false,Gg] at Ub;obtain⟨y,rfl⟩:=j8 Ub.2.1;have hy0:([y]:List Ex).headD default=y:=rfl;simp only[hy0] at hc hd ⊢;rw[ig] at ei;have eiy:=(Rc.1 ei).1;have niy:=ni.1;have hdy:(t::da).length+nj (X.jb f) y<=64:=by rw[Ai,Ai,Ai,Ai] at Vn;rw[La];omega
 obtain⟨yp,hc⟩:=hc.app;obtain⟨w0,hc⟩:=hc.cons;obtain⟨hcy,hc⟩:=hc.app;obtain⟨w1,hc⟩:=hc.cons;obtain⟨w2,_⟩:=hc.cons;have eu:Qy (X.jb f) name=0:=eu;obtain⟨a1,A,hA,rfl⟩:=hX.ar f hf name eu;rw[a1] at w0;have I5:X.aa A.name<1000000:=hX.oy A hA;have hq:wS 2 Cb=9:=rfl;rw[hq];refine Nb.bind (c1:=0) (d1:=0) (c2:=9) (d2:=9) (hE f hf x i s1 m d (t::da) TH MI yp v ga Ux) ga ga ga λa s' m' va=>?_;rw[zn fa,zp trivial];obtain⟨m1,t1,v1,_⟩:=va.addr w0 I5 (by simp only[La];omega);refine Nb.pre t1 (c1:=2) (d1:=2) ?_ ga ga;refine Nb.bind (c1:=0) (d1:=0) (c2:=2) (d2:=2) (hE f hf y _ s' m1 (X.aa A.name::a::d) (t::da) niy eiy hcy v1 (by rw[La,La];omega) hdy) ga ga ga λb s2 m2 vb=>?_
 cases hg:(s2.ar A.name)[b]? with
 |none=>exact Nb.other fa
 |some r=>
  obtain⟨Ja,hr⟩:=List.getElem?_eq_some_iff.1 hg;have ld:=(vb.rel.ar A hA).1;have hb:=hX.low _ (.inr (.inr ⟨A,hA,b,by omega,rfl⟩));obtain⟨m3,t3,v3,_⟩:=vb.op (x:=X.aa A.name+b) w1 (by unfold jc;simp) (by
   show some ((X.aa A.name+b) % 4294967296)=_;rw[Nat.mod_eq_of_lt (by omega)]) (by simp only[La];omega)
  obtain⟨m4,t4,v4⟩:=v3.elem hX hA Ja w2;refine(Nb.pre (s:={ s2 with ar:=λy=>if y=A.name then (s2.ar A.name).set b a else s2.ar y }) (t3.trans t4) (Nb.ok (c:=0) (d:=0) (v:=none) (v4.cast ?_) (Int.le_refl 0)) ga ga).left rfl;simp only[Ga,La,oc];omega
 rw[zn k2] at hd;by_cases k5:kind=5;subst k5;rw[zn fa,zn fa,zn fa,zn fa,zp rfl] at hc ⊢;rw[zp rfl] at hd;simp only at hc ⊢;obtain⟨yp,hc⟩:=hc.app;obtain⟨w0,_⟩:=hc.cons;have hq:wS 5 Cb=1:=rfl;rw[hq];refine Nb.bind (c1:=0) (d1:=0) (c2:=1) (d2:=1) (hE f hf x i s1 m d (t::da) TH MI yp v ga Ux) ga ga ga λa s' m' va=>?_;rw[zn fa,zn fa,zp trivial];have t1:=PW.back va.here w0 va.calls;exact Nb.pre t1 (Nb.ok (c:=0) (d:=0) (v:=some a) ⟨rfl,rfl,va.rel.same rfl rfl rfl rfl rfl rfl rfl,va.data,rfl⟩ (Int.le_refl 0)) ga ga;rw[zn k5] at hd
 by_cases k6:kind=6;subst k6;rw[zn fa,zn fa,zn fa,zn fa,zn fa,zp rfl] at hc ⊢;simp only at hc ⊢;obtain⟨yp,hc⟩:=hc.app;obtain⟨w0,hc⟩:=hc.cons;obtain⟨w1,_⟩:=hc.cons;obtain⟨t0,_,_⟩:=hX.Tw f hf;rw[t0] at w0;have hS:X.S+2<262144:=hX.low _ (.inr (.inl ⟨by omega,by omega⟩));have hq:wS 6 Cb=8:=rfl;rw[hq];refine Nb.bind (c1:=0) (d1:=0) (c2:=8) (d2:=8) (hE f hf x i s1 m d (t::da) TH MI yp v ga Ux) ga ga ga λa s' m' va=>?_;rw[zn fa,zn fa,zn fa,zn fa,zn fa];obtain⟨m1,t1,v1,_⟩:=va.addr w0 ga (by simp only[La];omega);obtain⟨m2,t2,v2,_⟩:=v1.Dy hX w1 ⟨by omega,by omega⟩;refine Nb.pre (t1.trans t2) (Nb.ok (c:=0) (d:=0) (v:=none) (v2.cast ?_) (Int.le_refl 0)) ga ga;simp only[Ga,La,oc];omega
 by_cases k3:kind=3
 ·subst k3;rw[zn fa,zn fa,zp rfl] at hc ⊢
  cases Cb with
  |nil=>
   simp only at hc ⊢;obtain⟨hc,Gl⟩:=hc.app;obtain⟨hc,Hl⟩:=hc.app;obtain⟨yp,ef⟩:=hc.app;obtain⟨wl,_⟩:=Gl.cons;have hq:wS 3 ([]:List Sm)=8:=rfl;rw[hq];refine Nb.bind (c1:=0) (d1:=0) (c2:=8) (d2:=8) (hE f hf x i s1 m d (t::da) TH MI yp v ga Ux) ga ga ga λa s' m' va=>?_;rw[zn fa,zn fa,zn fa,zp trivial];have vw:i+(Mb (X.cc f) x++[38::za nl,[63]]).length=i+(Mb (X.cc f) x).length+2:=by rw[Ga];try rfl
   rw[vw] at Hl;rw[Ga,<-add_assoc,vw] at wl;obtain⟨m1,t1,v1⟩:=va.branch hX ef wl ga;have xp:i+(Mb (X.cc f) x).length+2+(Pa (X.cc f) (nl+1) Ua).1.length+1=i+(Mb (X.cc f) x++[38::za nl,[63]]++(Pa (X.cc f) (nl+1) Ua).1++[za nl++[58]]).length:=by simp only[Ga,La,oc];omega
   refine Nb.pre t1 (c1:=0) (d1:=0) ?_ ga ga;by_cases ha:a=0;rw[zp ha] at v1;rw[zn (by simp[ha])];exact Nb.ok (v1.cast xp) ga;rw[zn ha] at v1;rw[zp ha];refine Nb.post (a:=0) (EJ hS hf Ua _ (nl+1) s' m1 d t da nt et Hl v1 ga ga) ga ga λr s2 m2 h=>⟨m2,.refl _,?_⟩
   cases r with
   |some w=>exact h
   |none=>have h:X.Vw s2 _ d (t::da) m2:=h;exact(h.pass wl (hX.mz _ _ wl)).cast xp
  |cons e Cb=>
   simp only at hc ⊢;obtain⟨hc,hc6⟩:=hc.app;obtain⟨hc,aS⟩:=hc.app;obtain⟨hc,Gl⟩:=hc.app;obtain⟨hc,Hl⟩:=hc.app;obtain⟨yp,ef⟩:=hc.app;obtain⟨we,_⟩:=hc6.cons;have vw:i+(Mb (X.cc f) x++[38::za nl,[63]]).length=i+(Mb (X.cc f) x).length+2:=by rw[Ga];try rfl
   rw[vw] at Hl;rw[Ga,<-add_assoc,vw] at Gl;generalize hi3:i+(Mb (X.cc f) x).length+2=i3 at *;generalize hB:(Pa (X.cc f) (nl+2) Ua).1=tw at *;generalize hN:(Pa (X.cc f) (nl+2) Ua).2=n2 at *;have rI:i+(Mb (X.cc f) x++[38::za nl,[63]]++tw++[[48],38::za (nl+1),[63],za nl++[58]]).length=i3+tw.length+3+1:=by rw[<-hi3];simp only[Ga,La,oc];omega
   rw[rI] at aS;have qI:i+(Mb (X.cc f) x++[38::za nl,[63]]++tw++[[48],38::za (nl+1),[63],za nl++[58]]++(Pa (X.cc f) n2 (e::Cb)).1).length=i3+tw.length+3+1+(Pa (X.cc f) n2 (e::Cb)).1.length:=by rw[Ga,<-add_assoc,rI]
   rw[qI] at we;have B5:X.C.Code (i3+tw.length) ([[48],38::za (nl+1),[63]]++[za nl++[58]]):=Gl;obtain⟨LN,Ge⟩:=B5.app;obtain⟨wl,_⟩:=Ge.cons;have wl:X.C.W[i3+tw.length+3]? = some (za nl++[58]):=wl;have xp:i3+tw.length+3+1+(Pa (X.cc f) n2 (e::Cb)).1.length+1=i+(Mb (X.cc f) x++[38::za nl,[63]]++tw++[[48],38::za (nl+1),[63],za nl++[58]]++(Pa (X.cc f) n2 (e::Cb)).1++[za (nl+1)++[58]]).length:=by have:=qI;simp only[Ga,La,oc] at this ⊢;omega
   rw[<-xp];have hq:wS 3 (e::Cb)=18:=rfl;rw[hq];refine Nb.bind (c1:=0) (d1:=0) (c2:=18) (d2:=18) (hE f hf x i s1 m d (t::da) TH MI yp v ga Ux) ga ga ga λa s' m' va=>?_;rw[zn fa,zn fa,zn fa,zp trivial];obtain⟨m1,t1,v1⟩:=va.branch hX ef wl ga;refine Nb.pre t1 (c1:=10) (d1:=10) ?_ ga ga
   by_cases ha:a=0;rw[zp ha] at v1;rw[zn (by simp[ha])];refine Nb.post (a:=0) (EJ hS hf (e::Cb) _ n2 s' m1 d t da ne ee aS v1 ga ga) ga ga λr s2 m2 h=>⟨m2,.refl _,?_⟩
   cases r with
   |some w=>exact h
   |none=>have h:X.Vw s2 _ d (t::da) m2:=h;exact h.pass we (hX.mz _ _ we)
   rw[zn ha] at v1;rw[zp ha];have hb:=EJ hS hf Ua i3 (nl+2) s' m1 d t da nt et (by rw[hB];exact Hl) (v1.cast ga) ga ga;rw[hB] at hb;refine Nb.post (a:=10) hb ga ga λr s2 m2 h=>?_
   cases r with
   |some w=>exact⟨m2,(Gf.refl _).mono ga,h⟩
   |none=>have h:X.Vw s2 _ d (t::da) m2:=h;exact h.goto hX LN we ga
 by_cases k4:kind=4;subst k4;rw[zn fa,zn fa,zn fa,zp rfl] at hc ⊢;simp only at hc ⊢;obtain⟨hc,aS⟩:=hc.app;obtain⟨hc,Gl⟩:=hc.app;obtain⟨hc,Hl⟩:=hc.app;obtain⟨rn,ef⟩:=hc.app;obtain⟨w0,_⟩:=rn.cons;have e3:i+([za nl++[58]]++Mb (X.cc f) x).length=i+1+(Mb (X.cc f) x).length:=by simp only[Ga,La,oc];omega
 rw[e3] at Hl;have e4:i+([za nl++[58]]++Mb (X.cc f) x++[38::za (nl+1),[63]]).length=i+1+(Mb (X.cc f) x).length+2:=by simp only[Ga,La,oc];omega
 rw[e4] at Gl;have e5:i+([za nl++[58]]++Mb (X.cc f) x++[38::za (nl+1),[63]]++(Pa (X.cc f) (nl+2) Ua).1).length=i+1+(Mb (X.cc f) x).length+2+(Pa (X.cc f) (nl+2) Ua).1.length:=by have:=e4;simp only[Ga,La,oc] at this ⊢;omega
 rw[e5] at aS;have A5:X.C.Code (i+1+(Mb (X.cc f) x).length+2+(Pa (X.cc f) (nl+2) Ua).1.length) ([[48],38::za nl,[63]]++[za (nl+1)++[58]]):=aS;obtain⟨LN,Ge⟩:=A5.app;obtain⟨we,_⟩:=Ge.cons;have v1:=v.pass w0 (hX.mz _ _ w0);have hq:wS 4 Cb=8:=rfl;rw[hq];refine Nb.bind (c1:=0) (d1:=0) (c2:=8) (d2:=8) (hE f hf x (i+1) s1 m d (t::da) TH MI ef v1 ga Ux) ga ga ga λa s' m' va=>?_;rw[zn fa,zn fa,zn fa,zn fa,zp trivial];rw[La] at Ux;have:=R7 hX hE hS hf TH MI nt et w0 ef Hl Gl LN we ga ga ga ga ga n a s' m' va
 have e6:i+1+(Mb (X.cc f) x).length+2+(Pa (X.cc f) (nl+2) Ua).1.length+3+1=i+([za nl++[58]]++Mb (X.cc f) x++[38::za (nl+1),[63]]++(Pa (X.cc f) (nl+2) Ua).1++[[48],38::za nl,[63],za (nl+1)++[58]]).length:=by have:=e5;simp only[Ga,La,oc] at this ⊢;omega
 rw[<-e6];exact this;rw[zn k1,zn k2,zn k3,zn k4,zn k5,zn k6,zn k7] at Ub;exact absurd rfl Ub
theorem Z8(hX:Zd X):∀ n,Rz X n/\Nz X n
 |0=>⟨λf hf e i s m d c hn he hc v hd Vn=>Nb.Ca v.rel.out,λf hf st i nl s m d t da hn he hc v hd Vn=>Nb.Ca v.rel.out⟩
 |n+1=>by obtain⟨h1,h2⟩:=Z8 hX n;exact⟨qyt hX h1 (qyi hX h2),qx0 hX h1 h2⟩
end
end Go.ia.Wi.Wc
