import Derived.Test.YtegmklafpoldgaaGreatDoorProg
import Derived.Test.YtegmklafpoldgaaGreatDoorBRowTC1
set_option linter.unusedVariables false
set_option linter.unusedSimpArgs false
set_option maxRecDepth 100000
set_option maxHeartbeats 4000000
open List (map_map cons_append nil_append mem_of_find?_eq_some not_mem_nil all_eq_true flatten_cons flatMap_cons length_reverse sum_cons all_cons foldl_cons sum_append drop_drop eq_nil_of_length_eq_zero length_drop take_succ_cons length_singleton filterMap_cons filterMap_nil map_nil mem_append mem_singleton)
open Nat (add_assoc add_zero zero_add add_comm mod_eq_of_lt)
namespace Go.Stele
open Go.Lib
variable{a b:List Wd}{c:CC}{n:Nat}{w:Wd}{z:Int}
def qa8(P:Pr):List (Nm×Int):=P.arrays.map λa=>(a.name,(a.size:Int))
def qaW(P:Pr)(o:Org):List Wd:=prW P.vars (qa8 P) P.funcs o
def qiA(P:Pr)(o:Org):Wd->Nat:=qdI (qee (λ_=>0) o.code.toNat (qaW P o))
def trnP(P:Pr)(o:Org):Trn where
 C:=⟨qaW P o,o.code.toNat,qiA P o⟩
 P:=P
 cc:=λf=>ccF P.vars (qa8 P) P.funcs o f.name
 cenv:=λf=>envF P.vars (P.arrays.map (·.name)) (P.funcs.map (·.name)) (knF P.vars (P.arrays.map (·.name)) (P.funcs.map (·.name)) [] P.funcs f) f
 sa:=λk=>o.scalars.toNat+3+(qaf P.vars P.funcs).idxOf k
 aa:=λn=>o.arrays.toNat+offA P.arrays n
 S:=o.scalars.toNat
 fst:=fstF (ccF P.vars (qa8 P) P.funcs o) 0 5 P.funcs
theorem qcb(h:0<=z):itoa z=decDigits z.toNat:=by
 unfold itoa;rw[zn (by omega)]
structure FitN(P:Pr)(o:Org):Prop where
 s0:0<=o.scalars
 c0:0<=o.code
 a0:0<=o.arrays
 s1:o.scalars.toNat+3+(qaf P.vars P.funcs).length<=262144
 c1:o.code.toNat+40000<=262144
 a1:o.arrays.toNat+totA P.arrays<=262144
 cs:o.scalars.toNat+3+(qaf P.vars P.funcs).length<=o.code.toNat∨o.code.toNat+40000<=o.scalars.toNat
 asA:0<totA P.arrays->o.scalars.toNat+3+(qaf P.vars P.funcs).length<=o.arrays.toNat∨o.arrays.toNat+totA P.arrays<=o.scalars.toNat
 ac:0<totA P.arrays->o.code.toNat+40000<=o.arrays.toNat∨o.arrays.toNat+totA P.arrays<=o.code.toNat
theorem qgq{P:Pr}{o:Org}(h:qeS P.vars (qa8 P) P.funcs o=true):FitN P o:=by
 unfold qeS qe8 qhp at h;simp only[zBa,Bool.not_eq_true',zDe,decide_eq_false_iff_not] at h;have ht:((qa8 P).map (·.2)).sum=((totA P.arrays:Nat):Int):=qg5 P.arrays;rw[ht] at h;obtain⟨⟨⟨⟨⟨h1,h2⟩,h3⟩,h4⟩,h5⟩,h6⟩:=h;constructor <;> omega
section
variable{P:Pr}{o:Org}
theorem qxc(hv:Valid P)(hf:FitN P o){f:FnD}(hm:f∈P.funcs)(name:Nm)(hk:keyI f name∈qaf P.vars P.funcs):((trnP P o).cc f).sc name=decDigits ((trnP P o).sa (keyI f name)):=by
 show itoa (qen (qaf P.vars P.funcs) o.scalars (keyC (qaf P.vars P.funcs) f.name name))=_;have h1:keyC (qaf P.vars P.funcs) f.name name=keyI f name:=qvC hv.names hm name;have h2:=hf.s0;rw[h1];unfold qen;rw[zp hk,qcb (by omega)];show _=decDigits (o.scalars.toNat+3+_);congr 1;omega
theorem qi9{l:List Nm}{k:Nm}(h:k∈l):l.idxOf k<l.length:=List.idxOf_lt_length_of_mem h
theorem qwB{l:List Nm}{k k':Nm}(h:k∈l)(h':k'∈l)(he:l.idxOf k=l.idxOf k'):k=k':=by
 have h1:l[l.idxOf k]? = some k:=by rw[zRl (qi9 h),List.getElem_idxOf]
 have h2:l[l.idxOf k']? = some k':=by rw[zRl (qi9 h'),List.getElem_idxOf]
 rw[he,h2] at h1;injection h1 with h1;exact h1.symm
theorem qxd(hc:qbj P=0)(hnum:∀ f∈P.funcs,qbu f.body)(hfit:qeS P.vars (qa8 P) P.funcs o=true)(hasm:qgm (qaW P o))(hne:∀ w∈qaW P o,w≠[])(hlen:(qcZ (qiA P o) (qaW P o)).length<=40000):TrnOk (trnP P o):=by
 have hv:=qdl hc;have hF:=qgq hfit;have hnames:=(qaP _ _ hv.names).1;have hfn:(P.funcs.map (·.name)).Nodup:=(zRc hnames).2.1;have han:(P.arrays.map (·.name)).Nodup:=(zRc (zRc hnames).1).2.1
 have herr:qeK P.vars (P.arrays.map (·.name)) (P.funcs.map (·.name)) [] P.funcs=0:=by
  unfold qbj qb5 at hc;have e1:(P.arrays.map λa=>(a.name,(a.size:Int))).map (·.1)=P.arrays.map (·.name):=by rw[map_map];try rfl
  rw[e1] at hc;exact(qac.1 (qac.1 (qac.1 hc).2).2).1
 obtain⟨s0,c0,a0,s1,c1,a1,cs,as',ac⟩:=hF;have hF:FitN P o:=⟨s0,c0,a0,s1,c1,a1,cs,as',ac⟩
 have hcode:∀ f∈P.funcs,∃ nl,(trnP P o).C.Code ((trnP P o).fst f) (fnW ((trnP P o).cc f) nl f).1:=λf hf=>by
  have h1:PW.Code (trnP P o).C 0 ([[38,102,95,109,97,105,110],[58],itoa o.scalars,[33],[36]]++(fnWs (ccF P.vars (qa8 P) P.funcs o) 0 P.funcs).1):=qoI _ _ _;exact qsV P.funcs 0 5 h1.app.2 hfn f hf
 have hmem:∀ {j:Nat} {w:Wd},(qaW P o)[j]? = some w->OkW (defs (qaW P o)) w:=λh=>hasm.2 _ (List.mem_of_getElem? h)
 have hfd:∀ f∈P.funcs,defW ([102,95]++f.name++[58])=some ([102,95]++f.name):=λf hf=>by
  obtain⟨nl,h⟩:=hcode f hf;unfold fnW at h;simp only[List.singleton_append,cons_append,zAs] at h
  have h1:(qaW P o)[(trnP P o).fst f]? = some (102::(95::f.name)++[58]):=by
   have h0:=h.cons.1;simp only[zAs,cons_append,nil_append] at h0 ⊢;exact h0
  have h2:=qq9 (hmem h1) zDd zDd;simpa using h2
 refine⟨λf hf name h=>?_,λf hf name h=>?_,λf hf=>?_,λx hx=>?_,λx hx=>?_,λk hk=>?_,λk hk k' hk' h=>?_,λa ha i hi=>?_,λa ha b hb i j hi hj h=>?_,λa ha=>?_,λa ha b hb h=>?_,λf hf=>⟨qrq _ _ herr hfn f hf,hnum f hf⟩,λf hf name g h=>?_,λf hf=>?_,hcode,λj n h=>?_,λj n h=>?_,hfd,λf hf=>qvX (hfd f hf),λj w x hw hd=>?_⟩;have hk:keyI f name∈qaf P.vars P.funcs:=qia hf h;exact⟨qxc hv hF hf name hk,hk⟩;unfold qdB at h;split at h
 rename_i hm
 obtain⟨a,h1,h2⟩:=zRf (show name∈P.arrays.map (·.name) from hm);refine⟨?_,a,h1,h2⟩;show itoa (arrA o.arrays (qa8 P) name)=decDigits (o.arrays.toNat+offA P.arrays name);rw[<-h2];unfold qa8;rw[qpR _ _ _ h1,qcb (by omega)];congr 1;omega;split at h <;> cases h;show itoa o.scalars=decDigits o.scalars.toNat/\itoa (o.scalars+1)=decDigits (o.scalars.toNat+1)/\itoa (o.scalars+2)=decDigits (o.scalars.toNat+2);rw[qcb s0,qcb (by omega),qcb (by omega)];exact⟨rfl,by congr 1;omega,by congr 1;omega⟩;rcases hx with⟨k,hk,rfl⟩|hx|⟨a,ha,i,hi,rfl⟩;have h1:(qaf P.vars P.funcs).idxOf k<_:=qi9 hk;show o.scalars.toNat+3+(qaf P.vars P.funcs).idxOf k<262144;omega;have h1:o.scalars.toNat<=x/\x<=o.scalars.toNat+2:=hx;omega;have h1:=qk1 _ han a ha;show o.arrays.toNat+offA P.arrays a.name+i<262144;omega;show x<o.code.toNat∨o.code.toNat+(qcZ (qiA P o) (qaW P o)).length<=x;rcases hx with⟨k,hk,rfl⟩|hx|⟨a,ha,i,hi,rfl⟩;have h1:(qaf P.vars P.funcs).idxOf k<_:=qi9 hk;show o.scalars.toNat+3+(qaf P.vars P.funcs).idxOf k<_∨_<=o.scalars.toNat+3+(qaf P.vars P.funcs).idxOf k;omega;have h1:o.scalars.toNat<=x/\x<=o.scalars.toNat+2:=hx;omega;have h1:=qk1 _ han a ha;have h2:=ac (by have:i<a.size:=hi;omega);have h3:i<a.size:=hi;show o.arrays.toNat+offA P.arrays a.name+i<_∨_<=o.arrays.toNat+offA P.arrays a.name+i;omega;exact Nat.le_add_right _ _;have h1:o.scalars.toNat+3+(qaf P.vars P.funcs).idxOf k=o.scalars.toNat+3+(qaf P.vars P.funcs).idxOf k':=h;have h2:(qaf P.vars P.funcs).idxOf k=(qaf P.vars P.funcs).idxOf k':=by omega
 exact qwB hk hk' h2;have h1:=qk1 _ han a ha;have h2:=as' (by omega);refine⟨λk hk=>?_,?_⟩;have h3:(qaf P.vars P.funcs).idxOf k<_:=qi9 hk;show o.scalars.toNat+3+(qaf P.vars P.funcs).idxOf k≠o.arrays.toNat+offA P.arrays a.name+i;omega;show ¬ (o.scalars.toNat<=o.arrays.toNat+offA P.arrays a.name+i/\o.arrays.toNat+offA P.arrays a.name+i<=o.scalars.toNat+2);omega;have h:o.arrays.toNat+offA P.arrays a.name+i=o.arrays.toNat+offA P.arrays b.name+j:=h
 by_cases he:a.name=b.name
 rw[he] at h;exact⟨he,by omega⟩;rcases qnw _ han a ha b hb he with h1|h1;omega;omega;have h1:=qk1 _ han a ha;show o.arrays.toNat+offA P.arrays a.name<1000000;omega;rw[quJ han ha hb h]
 ·have h1:g∈knF P.vars (P.arrays.map (·.name)) (P.funcs.map (·.name)) [] P.funcs f:=mem_of_find?_eq_some h;have h2:g.name=name:=zRi (List.find?_some (p:=λg:FSum=>decide (g.name=name)) h);rcases qsJ P.funcs [] hfn f hf g h1 with h3|⟨x,h3,h4⟩;exact(not_mem_nil h3).elim;have h5:x.name=name:=by rw[<-h2,h4];try rfl
  have h6:=qlK (P:=P) hfn h3;rw[h5] at h6;show fnI P name∈P.funcs/\_;rw[show(trnP P o).P=P from rfl,h6,h4];exact⟨h3,h5,rfl,(qlB _ x).1,(qlB _ x).2⟩
 have ho:=hv.own f hf;have hkey:∀ p∈f.params,keyI f p=f.name++[46]++p:=λp hp=>by unfold keyI;rw[zp (.inl hp)]
 refine⟨λp hp=>?_,?_⟩
 have hk:keyI f p∈qaf P.vars P.funcs:=by
  rw[hkey p hp];exact(qnL hv.names hf p).2 (zRe (.inl hp))
 exact⟨hk,qxc hv hF hf p hk⟩;have hn:f.params.Nodup:=(zRc ho.1).1;refine List.pairwise_map.2 (hn.imp_of_mem λ{a b} ha hb hab he=>hab ?_);rw[hkey a ha,hkey b hb] at he;exact List.append_cancel_left he;exact qq9 (c:=106) (x:=decDigits n) (hmem h) zDd zDd;exact qvw (hmem h);exact qnx o.code.toNat hasm.1 hne hw hd
end
def AllC(l:List Wd):Prop:=∀ w∈l,qbv w
theorem qbe:AllC []:=λw hw=>(not_mem_nil hw).elim
theorem qaz{l:List Wd}:AllC (w::l) ↔ qbv w/\AllC l:=List.forall_mem_cons
theorem qaG:AllC (a++b) ↔ AllC a/\AllC b:=List.forall_mem_append
def qri(w:Wd):Bool:=decide (w≠[]) && w.all λc=>decide (c≠10/\c≠32/\c≠35)
theorem qop(h:qri w=true):qbv w:=by
 unfold qri at h;rw[zBa,zDe,all_eq_true] at h;refine⟨h.1,λc hc=>?_⟩;have:=zRi (h.2 c hc);exact this
theorem qdA{l:List Wd}(h:l.all qri=true):AllC l:=λw hw=>qop (List.all_eq_true.1 h w hw)
theorem qdQ(h:0<=z):qbv (itoa z):=by rw[qcb h];exact qfm _
theorem qkj{a b:Wd}(h:qeI a)(h2:qeI b)(hne:a≠[]):qbv (a++b):=⟨λh=>hne (List.append_eq_nil_iff.1 h).1,λc hc=>(zRd hc).elim (h c) (h2 c)⟩
theorem qgy{p:Prop} [Decidable p](h1:p->AllC a)(h2:¬ p->AllC b):AllC (if p then a else b):=by
 by_cases h:p
 rw[zp h];exact h1 h;rw[zn h];exact h2 h
structure ClC(c:CC):Prop where
 sc:∀ n,qbv (c.sc n)
 ar:∀ n,qbv (c.ar n)
 t0:qbv c.t0
 t1:qbv c.t1
 t2:qbv c.t2
theorem quV{s:Nm}(h:isNm s=true):qeI s:=by
 unfold isNm at h;rw[zBa] at h;have h2:=h.2
 have hi:∀ c:UInt8,qaV c=true∨qaU c=true->c≠10/\c≠32/\c≠35:=λc hc=>by
  refine⟨?_,?_,?_⟩ <;> (rintro rfl;exact absurd hc zDd)
 cases s with
 |nil=>exact λc hc=>(not_mem_nil hc).elim
 |cons c r=>
  simp only[zBa] at h2;intro d hd;rcases zMi.1 hd with rfl|hd;exact hi _ (.inl h2.1);exact hi _ (.inr (List.all_eq_true.1 h2.2 d hd))
theorem qmh(hc:ClC c):AllC (qaX c):=by
 have hs:∀ {k:UInt8},(k≠10/\k≠32/\k≠35)->qbv [k]:=λh=>⟨by simp,λx hx=>by rw[zRa hx];exact h⟩;unfold qaX
 repeat' first|exact hc.t1|exact hc.t2|exact hs zDd|exact qbe|refine qaz.2 ⟨?_,?_⟩
theorem qry(hc:ClC c){op name:Nm}{num:Nat}{l:List (List Wd)}(hl:∀ ws∈l,AllC ws)(hop:qbk op ≠ -2)(hcall:op=qch->qeI name):AllC (opW c op num name l):=by
 have hh:AllC (l.headD []):=by
  cases l with
  |nil=>exact qbe
  |cons a r=>exact hl a zMs
 have h2:AllC ((l.drop 1).headD []):=by
  cases l with
  |nil=>exact qbe
  |cons a r=>
   cases r with
   |nil=>exact qbe
   |cons b r=>exact hl b (zMo _ zMs)
 have hf:AllC l.flatten:=λw hw=>by
  obtain⟨ws,h1,h3⟩:=List.mem_flatten.1 hw;exact hl ws h1 w h3
 have hg:=qmh hc;have hs:∀ {k:UInt8},(k≠10/\k≠32/\k≠35)->qbv [k]:=λh=>⟨by simp,λx hx=>by rw[zRa hx];exact h⟩
 have hbin:¬ (op=nNum)->¬ (op=nVar)->¬ (op=qeD)->¬ (op=qch)->¬ (op=nNeg)->¬ (op=nNot)->qbv op:=by
  intro a1 a2 a3 a4 a5 a6;unfold qbk at hop;rw[zn (by simp[a1,a2]),zn (by simp[a3,a5,a6]),zn a4] at hop;split at hop
  rename_i h
  exact qdA (l:=qc4) zDd op h;exact absurd rfl hop
 unfold opW;refine qgy (λn1=>?_) λn1=>qgy (λn2=>?_) λn2=>qgy (λn3=>?_) λn3=>qgy (λn4=>?_) λn4=>qgy (λn5=>?_) λn5=>qgy (λn6=>?_) λn6=>qgy (λn7=>?_) λn7=>qgy (λn8=>?_) λn8=>qgy (λn9=>?_) λn9=>?_;exact qaz.2 ⟨qfm _,qbe⟩
 ·repeat' first|exact hh|exact h2|exact qbe|exact hc.sc _|exact hc.ar _|exact hs zDd|refine qaz.2 ⟨?_,?_⟩|refine qaG.2 ⟨?_,?_⟩
 ·repeat' first|exact hh|exact h2|exact qbe|exact hc.sc _|exact hc.ar _|exact hs zDd|refine qaz.2 ⟨?_,?_⟩|refine qaG.2 ⟨?_,?_⟩
 refine qaG.2 ⟨hf,qgy (λ_=>qdA zDd) λ_=>qgy (λ_=>qdA zDd) λ_=>?_⟩;refine qaz.2 ⟨qkj (λx hx=>?_) (hcall n4) (by simp),qdA zDd⟩;have:=List.all_eq_true.1 (show([38,102,95]:Wd).all (λc=>decide (c≠10/\c≠32/\c≠35))=true by decide) x hx;exact zRi this
 ·repeat' first|exact hh|exact h2|exact qbe|exact hc.sc _|exact hc.ar _|exact hs zDd|refine qaz.2 ⟨?_,?_⟩|refine qaG.2 ⟨?_,?_⟩
 ·repeat' first|exact hh|exact h2|exact qbe|exact hc.sc _|exact hc.ar _|exact hs zDd|refine qaz.2 ⟨?_,?_⟩|refine qaG.2 ⟨?_,?_⟩
 ·repeat' first|exact hh|exact h2|exact qbe|exact hc.sc _|exact hc.ar _|exact hs zDd|refine qaz.2 ⟨?_,?_⟩|refine qaG.2 ⟨?_,?_⟩
 ·repeat' first|exact hh|exact h2|exact qbe|exact hc.sc _|exact hc.ar _|exact hs zDd|refine qaz.2 ⟨?_,?_⟩|refine qaG.2 ⟨?_,?_⟩
 ·repeat' first|exact hh|exact h2|exact qbe|exact hc.sc _|exact hc.ar _|exact hs zDd|refine qaz.2 ⟨?_,?_⟩|refine qaG.2 ⟨?_,?_⟩
 refine qaG.2 ⟨qaG.2 ⟨hh,h2⟩,?_⟩;refine qgy (λ_=>hg) λ_=>qgy (λ_=>qaG.2 ⟨hg,qdA zDd⟩) λ_=>qgy (λ_=>qdA zDd) λ_=>qgy (λ_=>qdA zDd) λ_=>?_;exact qaz.2 ⟨hbin n1 n2 n3 n4 n5 n6,qbe⟩
mutual
theorem qm6{c:CC}(hc:ClC c){env:CEnv}(hfn:∀ k∈env.funcs,qeI k.name):∀ e,errE env e=0->AllC (exW c e)
 |.mk op num name args,h=>by
  rw[errE] at h;split at h
  rename_i ho
  obtain⟨h1,h3⟩:=qac.1 h;rw[exW];refine qry hc (qk6 hc hfn args h1) (by omega) (λhcl=>?_);subst hcl;unfold useE at h3;rw[zn zDd,zn zDd,zp rfl] at h3;unfold callE at h3;split at h3
  rename_i e;rw[e]
  exact λx hx=>zRi (List.all_eq_true.1 (show([105,110]:Wd).all (λc=>decide (c≠10/\c≠32/\c≠35))=true by decide) x hx);split at h3
  rename_i e;rw[e]
  exact λx hx=>zRi (List.all_eq_true.1 (show([111,117,116]:Wd).all (λc=>decide (c≠10/\c≠32/\c≠35))=true by decide) x hx);unfold CEnv.fn at h3
  cases hf:env.funcs.find? λf=>decide (f.name=name) with
  |none=>
   rw[hf] at h3;simp only at h3
   split at h3 <;> cases h3
  |some k=>
   have e:k.name=name:=zRi (List.find?_some (p:=λg:FSum=>decide (g.name=name)) hf);rw[<-e];exact hfn k (mem_of_find?_eq_some hf)
  cases h
theorem qk6{c:CC}(hc:ClC c){env:CEnv}(hfn:∀ k∈env.funcs,qeI k.name):∀ l,qba env l=0->∀ ws∈exWl c l,AllC ws
 |[],h,ws,hw=>by rw[exWl] at hw;exact(not_mem_nil hw).elim
 |x::l,h,ws,hw=>by
  rw[qba] at h;obtain⟨h1,h2⟩:=qac.1 h;rw[exWl] at hw;rcases zMi.1 hw with rfl|hw;exact qm6 hc hfn x h1;exact qk6 hc hfn l h2 ws hw
end
theorem qcz(n:Nat):qbv (labW n)/\qbv (38::labW n)/\qbv (labW n++[58]):=by
 have h:=(qfm n).2
 have h1:∀ {c:UInt8} {w:Wd},(c≠10/\c≠32/\c≠35)->qeI w->qeI (c::w):=λhc hw x hx=>by
  rcases zMi.1 hx with rfl|hx;exact hc;exact hw x hx
 have h2:qeI (labW n):=h1 zDd h;exact⟨⟨by simp[labW],h2⟩,⟨by simp,h1 zDd h2⟩,qkj h2 (h1 zDd λx hx=>(not_mem_nil hx).elim) (by simp[labW])⟩
section
variable{c:CC}{env:CEnv}
theorem qe3{k:UInt8}(h:k≠10/\k≠32/\k≠35):qbv [k]:=⟨by simp,λx hx=>by rw[zRa hx];exact h⟩
theorem qkV(hc:ClC c)(hfn:∀ k∈env.funcs,qeI k.name){l:List Ex}(h1:l.length=1)(h:qba env l=0):AllC (exW c (l.headD default)):=by
 obtain⟨x,rfl⟩:=zRo h1;rw[qba] at h;exact qm6 hc hfn x (qac.1 h).1
mutual
theorem qrZ(hc:ClC c)(hfn:∀ k∈env.funcs,qeI k.name):∀ (s:Sm) (n:Nat),errS env s=0->AllC (stW c n s).1
 |.mk kind name index value thn els,n,h=>by
  rw[errS] at h
  by_cases hf:qbJ (.mk kind name index value thn els)=false
  rw[zp hf] at h;cases h;rw[zn hf] at h;obtain⟨h1,h⟩:=qac.1 h;obtain⟨h2,h⟩:=qac.1 h;obtain⟨h3,h⟩:=qac.1 h;obtain⟨h4,h5⟩:=qac.1 h;rw[Bool.not_eq_false] at hf;unfold qbJ at hf
  have hv:kind=1∨kind=2∨kind=3∨kind=4∨kind=5∨kind=6->AllC (exW c (value.headD default)):=λhk=>qkV hc hfn (by
   rcases hk with rfl|rfl|rfl|rfl|rfl|rfl <;> simp at hf <;> simp[hf]) h1
  have ht:=λn=>qga hc hfn thn n h4;have he:=λn=>qga hc hfn els n h5;unfold stW
  by_cases k1:kind=1
  rw[zp k1];exact qaG.2 ⟨hv (by simp[k1]),qaz.2 ⟨hc.sc _,qdA zDd⟩⟩;rw[zn k1]
  by_cases k2:kind=2
  rw[zp k2];refine qaG.2 ⟨hv (by simp[k2]),qaz.2 ⟨hc.ar _,qaG.2 ⟨qkV hc hfn ?_ h2,qdA zDd⟩⟩⟩;subst k2;simp at hf;simp[hf];rw[zn k2]
  by_cases k3:kind=3
  rw[zp k3];have h8:=hv (by simp[k3])
  cases els with
  |nil=>
   simp only
   exact qaG.2 ⟨qaG.2 ⟨qaG.2 ⟨h8,qaz.2 ⟨(qcz n).2.1,qdA zDd⟩⟩,ht _⟩,qaz.2 ⟨(qcz n).2.2,qbe⟩⟩
  |cons a r=>
   simp only;exact qaG.2 ⟨qaG.2 ⟨qaG.2 ⟨qaG.2 ⟨qaG.2 ⟨h8,qaz.2 ⟨(qcz n).2.1,qdA zDd⟩⟩,ht _⟩,qaz.2 ⟨qe3 zDd,qaz.2 ⟨(qcz (n+1)).2.1,qaz.2 ⟨qe3 zDd,qaz.2 ⟨(qcz n).2.2,qbe⟩⟩⟩⟩⟩,he _⟩,qaz.2 ⟨(qcz (n+1)).2.2,qbe⟩⟩
  rw[zn k3]
  by_cases k4:kind=4
  rw[zp k4];have h8:=hv (by simp[k4]);exact qaG.2 ⟨qaG.2 ⟨qaG.2 ⟨qaG.2 ⟨qaz.2 ⟨(qcz n).2.2,qbe⟩,h8⟩,qaz.2 ⟨(qcz (n+1)).2.1,qdA zDd⟩⟩,ht _⟩,qaz.2 ⟨qe3 zDd,qaz.2 ⟨(qcz n).2.1,qaz.2 ⟨qe3 zDd,qaz.2 ⟨(qcz (n+1)).2.2,qbe⟩⟩⟩⟩⟩;rw[zn k4]
  by_cases k5:kind=5
  rw[zp k5];exact qaG.2 ⟨hv (by simp[k5]),qdA zDd⟩;rw[zn k5]
  by_cases k6:kind=6
  rw[zp k6];exact qaG.2 ⟨hv (by simp[k6]),qaz.2 ⟨hc.t0,qdA zDd⟩⟩;rw[zn k6]
  by_cases k7:kind=7
  rw[zp k7];exact qaz.2 ⟨qe3 zDd,qbe⟩;rw[zn k7];exact qbe
theorem qga(hc:ClC c)(hfn:∀ k∈env.funcs,qeI k.name):∀ (l:List Sm) (n:Nat),qbB env l=0->AllC (stWs c n l).1
 |[],n,h=>by rw[stWs];exact qbe
 |s::l,n,h=>by
  rw[qbB] at h;obtain⟨h1,h2⟩:=qac.1 h;rw[stWs];exact qaG.2 ⟨qrZ hc hfn s n h1,qga hc hfn l _ h2⟩
end
theorem qsq(hc:ClC c)(hfn:∀ k∈env.funcs,qeI k.name)(f:FnD)(n:Nat)(hname:qeI f.name)(h:qbB env f.body=0):AllC (fnW c n f).1:=by
 unfold fnW;simp only;refine qaG.2 ⟨qaG.2 ⟨qaG.2 ⟨qaz.2 ⟨?_,qbe⟩,λw hw=>?_⟩,qga hc hfn _ _ h⟩,qdA zDd⟩;rw[zAs];refine qkj (λx hx=>?_) (λx hx=>?_) (by simp);exact zRi (List.all_eq_true.1 (show([102,95]:Wd).all (λc=>decide (c≠10/\c≠32/\c≠35))=true by decide) x hx);rcases zRd hx with h|h;exact hname x h;exact(qe3 (k:=58) zDd).2 x h;obtain⟨p,h1,h2⟩:=List.mem_flatMap.1 hw;rcases zMi.1 h2 with rfl|h2;exact hc.sc _;rw[zRa h2];exact qe3 zDd
end
theorem qkF{cc:Nm->CC}(hc:∀ n,ClC (cc n)):∀ (fs:List FnD) (n:Nat),(∀ f∈fs,∀ m,AllC (fnW (cc f.name) m f).1)->AllC (fnWs cc n fs).1
 |[],n,_=>by rw[fnWs];exact qbe
 |f::l,n,h=>by
  rw[fnWs];exact qaG.2 ⟨h f zMs n,qkF hc l _ λg hg=>h g (zMo _ hg)⟩
section
variable{P:Pr}{o:Org}
theorem qgN:∀ (l:List (Nm×Int)) (a:Int),0<=a->(∀ p∈l,0<=p.2)->∀ n,0<=arrA a l n
 |[],a,_,_,n=>by simp[arrA]
 |(x,k)::l,a,h,hl,n=>by
  rw[arrA];split;exact h;have:0<=k:=hl (x,k) zMs;exact qgN l _ (by omega) (λp hp=>hl p (zMo _ hp)) n
theorem qoM(hF:FitN P o)(own:Nm):ClC (ccF P.vars (qa8 P) P.funcs o own):=by
 have s0:=hF.s0;refine⟨λn=>?_,λn=>?_,?_,?_,?_⟩;refine qdQ ?_;unfold qen;split <;> omega;refine qdQ (qgN _ _ hF.a0 (λp hp=>?_) n);obtain⟨a,_,rfl⟩:=zRf hp;exact Int.natCast_nonneg _;exact qdQ s0;exact qdQ (z:=o.scalars+1) (by omega);exact qdQ (z:=o.scalars+2) (by omega)
theorem qjZ(hc:qbj P=0)(hfit:qeS P.vars (qa8 P) P.funcs o=true):AllC (qaW P o):=by
 have hv:=qdl hc;have hF:=qgq hfit;have hfr:=qaP _ _ hv.names;have hpl:∀ f∈P.funcs,qeI f.name:=λf hf=>quV (hfr.2 _ (zRe (.inr (zRg ⟨f,hf,rfl⟩)))).2;have h1:AllC ([[38,102,95,109,97,105,110],[58],itoa o.scalars,[33],[36]]:List Wd):=qaz.2 ⟨qop zDd,qaz.2 ⟨qop zDd,qaz.2 ⟨qdQ hF.s0,qdA zDd⟩⟩⟩;refine qaG.2 ⟨h1,qkF (λn=>qoM hF n) P.funcs 0 λf hf m=>?_⟩;obtain⟨kn,k1,k2⟩:=hv.bodies f hf;refine qsq (qoM hF f.name) (λk hk=>?_) f m (hpl f hf) k1;obtain⟨g,g1,g2,_⟩:=k2 k hk;rw[<-g2];exact hpl g g1
theorem qmx{t:Wd}(hnum:∀ f∈P.funcs,qbu f.body)(h:cmpP P.vars (qa8 P) P.funcs o=.ok t) :
  qbj P=0/\qeS P.vars (qa8 P) P.funcs o=true/\t=join (qaW P o) [32]/\qbc t=qaW P o/\asmP t o.code=.ok (qcZ (qiA P o) (qaW P o),qee (λ_=>0) o.code.toNat (qaW P o))/\TrnOk (trnP P o)/\o.code.toNat+(qcZ (qiA P o) (qaW P o)).length<=262144:=by
 unfold cmpP at h;split at h;cases h
 rename_i h1
 split at h;cases h
 rename_i h2
 have hc:qbj P=0:=by
  have:=Classical.not_not.1 h1;exact this
 have hfit:qeS P.vars (qa8 P) P.funcs o=true:=by simpa using h2
 have hcl:=qjZ hc hfit;have hw:qbc (join (qaW P o) [32])=qaW P o:=qez hcl;split at h;cases h
 rename_i x hx
 injection h with h;have hx:asmP (join (qaW P o) [32]) o.code=.ok x:=hx;have ht:t=join (qaW P o) [32]:=h.symm;rw[ht];have hx0:=hx;unfold asmP at hx;rw[hw] at hx;split at hx;cases hx;split at hx;cases hx
 rename_i h4
 split at hx;cases hx
 rename_i h5
 injection hx with hx
 have hA:qgm (qaW P o):=by
  have:=qpg (src:=join (qaW P o) [32]) (by rw[hw];exact Classical.not_not.1 h4)
  rwa [hw] at this
 have hlen:(qcZ (qiA P o) (qaW P o)).length<=40000:=Nat.le_of_not_lt h5;have hF:=qgq hfit;refine⟨hc,hfit,rfl,hw,by rw[hx0,<-hx];try rfl,qxd hc hnum hfit hA (λw hw=>(hcl w hw).1) hlen,?_⟩;have:=hF.c1;omega
end
structure ShC(c:CC):Prop where
 sc:∀ n,(c.sc n).length<=10
 ar:∀ n,(c.ar n).length<=10
 t0:c.t0.length<=10
 t1:c.t1.length<=10
 t2:c.t2.length<=10
def sumW(l:List (List Wd)):Nat:=(l.map tot).sum
theorem qgW(a:List Wd)(l:List (List Wd)):sumW (a::l)=tot a+sumW l:=by simp[sumW]
theorem quE(l:List (List Wd)):tot (l.headD [])+tot ((l.drop 1).headD [])<=sumW l:=by
 cases l with
 |nil=>simp[tot,sumW]
 |cons a r=>
  rw[qgW]
  cases r with
  |nil=>simp[tot,sumW]
  |cons b r=>rw[qgW];simp only[List.headD_cons,List.drop_one,List.tail_cons];omega
theorem qpl:∀ l:List (List Wd),tot l.flatten=sumW l
 |[]=>rfl
 |a::l=>by rw[flatten_cons,qbi,qpl l,qgW]
theorem qd4{p:Prop} [Decidable p](h1:p->tot a<=n)(h2:¬ p->tot b<=n):tot (if p then a else b)<=n:=by
 by_cases h:p
 rw[zp h];exact h1 h;rw[zn h];exact h2 h
theorem qxi{op:Nm}(h:op∈qc4):op.length<=2:=by
 have:∀ o∈qc4,o.length<=2:=by decide
 exact this op h
theorem qw8(hc:ShC c){op name:Nm}{num:Nat}{l:List (List Wd)}(hn:num<4294967296)(hop:qbk op ≠ -2)(hcall:op=qch->name.length<=24):tot (opW c op num name l)<=60+sumW l:=by
 have hh:=quE l;have hf:=qpl l;have hd:=qh4 hn;have h0:=hc.t0;have h1:=hc.t1;have h2:=hc.t2;have hs:=hc.sc name;have ha:=hc.ar name
 have hbin:¬ (op=nNum)->¬ (op=nVar)->¬ (op=qeD)->¬ (op=qch)->¬ (op=nNeg)->¬ (op=nNot)->op.length<=2:=by
  intro a1 a2 a3 a4 a5 a6;unfold qbk at hop;rw[zn (by simp[a1,a2]),zn (by simp[a3,a5,a6]),zn a4] at hop;split at hop
  rename_i h
  exact qxi h;exact absurd rfl hop
 have hg:tot (qaX c)<=54:=by
  unfold qaX;simp only[qaJ,qbf,zLc,zLn];omega
 unfold opW;refine qd4 (λn1=>?_) λn1=>qd4 (λn2=>?_) λn2=>qd4 (λn3=>?_) λn3=>qd4 (λn4=>?_) λn4=>qd4 (λn5=>?_) λn5=>qd4 (λn6=>?_) λn6=>qd4 (λn7=>?_) λn7=>qd4 (λn8=>?_) λn8=>qd4 (λn9=>?_) λn9=>?_;simp only[qaJ,qbf];omega;simp only[qaJ,qbf,zLc,zLn];omega;simp only[qaJ,qbi,qbf,zLc,zLn];omega;have hnl:=hcall n4;rw[qbi,hf]
 have:tot (if name=[105,110] then ([[44]]:List Wd) else if name=[111,117,116] then [[46],[48]] else [[38,102,95]++name,[58]])<=60:=qd4 (λ_=>by decide) λ_=>qd4 (λ_=>by decide) λ_=>by
  simp only[qaJ,qbf,zLa,zLc,zLn];omega
 omega;simp only[qaJ,qbi,qbf,zLc,zLn];omega;simp only[qaJ,qbi,qbf,zLc,zLn];omega;simp only[qaJ,qbi,qbf,zLc,zLn];omega;simp only[qaJ,qbi,qbf,zLc,zLn];omega;simp only[qaJ,qbi,qbf,zLc,zLn];omega;have hb:=hbin n1 n2 n3 n4 n5 n6;rw[qbi,qbi]
 have:tot (if op=[62] then qaX c else if op=[60,61] then qaX c++[[49],[94]] else if op=[62,61] then ([[60],[49],[94]]:List Wd) else if op=[61,61] then [[94],[49],[60]] else [op])<=60:=qd4 (λ_=>by omega) λ_=>qd4 (λ_=>by
  simp only[qaJ,qbi,qbf,zLc,zLn];omega) λ_=>qd4 (λ_=>by decide) λ_=>qd4 (λ_=>by decide) λ_=>by
  simp only[qaJ,qbf];omega
 omega
mutual
theorem qrJ{c:CC}(hc:ShC c){env:CEnv}(hfn:∀ k∈env.funcs,k.name.length<=24):∀ e,numE e->errE env e=0->tot (exW c e)<=60 * ndE e
 |.mk op num name args,hn,h=>by
  rw[errE] at h;rw[numE] at hn;rw[ndE];split at h
  rename_i ho
  obtain⟨h1,h3⟩:=qac.1 h;rw[exW];have:=qpI hc hfn args hn.2 h1;have h5:=qw8 hc (op:=op) (name:=name) (num:=num) (l:=exWl c args) hn.1 (by omega) (λhcl=>?_);omega;subst hcl;unfold useE at h3;rw[zn zDd,zn zDd,zp rfl] at h3;unfold callE at h3;split at h3
  rename_i e;rw[e];decide
  split at h3
  rename_i e;rw[e];decide
  unfold CEnv.fn at h3
  cases hf:env.funcs.find? λf=>decide (f.name=name) with
  |none=>
   rw[hf] at h3;simp only at h3
   split at h3 <;> cases h3
  |some k=>
   have e:k.name=name:=zRi (List.find?_some (p:=λg:FSum=>decide (g.name=name)) hf);rw[<-e];exact hfn k (mem_of_find?_eq_some hf)
  cases h
theorem qpI{c:CC}(hc:ShC c){env:CEnv}(hfn:∀ k∈env.funcs,k.name.length<=24):∀ l,qcB l->qba env l=0->sumW (exWl c l)<=60 * ndEs l
 |[],_,h=>by rw[exWl];exact Nat.zero_le _
 |x::l,hn,h=>by
  rw[qba] at h;rw[qcB] at hn;obtain⟨h1,h2⟩:=qac.1 h;have a1:=qrJ hc hfn x hn.1 h1;have a2:=qpI hc hfn l hn.2 h2;rw[exWl,qgW,ndEs];omega
end
theorem qpr(hc:ShC c){env:CEnv}(hfn:∀ k∈env.funcs,k.name.length<=24){l:List Ex}(h1:l.length=1)(hn:qcB l)(h:qba env l=0):tot (exW c (l.headD default))<=60 * ndEs l:=by
 obtain⟨x,rfl⟩:=zRo h1;rw[qba] at h;rw[qcB] at hn;have:=qrJ hc hfn x hn.1 (qac.1 h).1;rw[ndEs];simp only[List.headD_cons];omega
theorem qhP(h:n<=4000000000):(labW n).length<=11:=by
 have:=qh4 (u:=n) (by omega);simp only[labW,zLc];omega
mutual
theorem qwb{c:CC}(hc:ShC c){env:CEnv}(hfn:∀ k∈env.funcs,k.name.length<=24):∀ (s:Sm) (n:Nat),numS s->errS env s=0->n+2 * ndS s<=4000000000->tot (stW c n s).1<=60 * ndS s/\(stW c n s).2<=n+2 * ndS s
 |.mk kind name index value thn els,n,hnm,h,hN=>by
  rw[errS] at h;rw[numS] at hnm;rw[ndS] at hN ⊢;obtain⟨m1,m2,m3,m4⟩:=hnm
  by_cases hf:qbJ (.mk kind name index value thn els)=false
  rw[zp hf] at h;cases h;rw[zn hf] at h;obtain⟨h1,h⟩:=qac.1 h;obtain⟨h2,h⟩:=qac.1 h;obtain⟨h3,h⟩:=qac.1 h;obtain⟨h4,h5⟩:=qac.1 h;rw[Bool.not_eq_false] at hf;unfold qbJ at hf
  have hv:kind=1∨kind=2∨kind=3∨kind=4∨kind=5∨kind=6->tot (exW c (value.headD default))<=60 * ndEs value:=λhk=>qpr hc hfn (by
   rcases hk with rfl|rfl|rfl|rfl|rfl|rfl <;> simp at hf <;> simp[hf]) m2 h1
  have ht:=λn hn=>qiT hc hfn thn n m3 h4 hn;have he:=λn hn=>qiT hc hfn els n m4 h5 hn;have l0:=qhP (n:=n) (by omega);have l1:=qhP (n:=n+1) (by omega);have t0:=hc.t0;have ts:=hc.sc name;have ta:=hc.ar name;unfold stW
  by_cases k1:kind=1
  have:=hv (by simp[k1]);rw[zp k1];simp only[qaJ,qbi,qbf,zLc,zLn];omega;rw[zn k1]
  by_cases k2:kind=2
  have:=hv (by simp[k2])
  have hi:tot (exW c (index.headD default))<=60 * ndEs index:=by
   refine qpr hc hfn ?_ m1 h2;subst k2;simp at hf;simp[hf]
  rw[zp k2];simp only[qaJ,qbi,qbf,zLc,zLn];omega;rw[zn k2]
  by_cases k3:kind=3
  rw[zp k3];have h8:=hv (by simp[k3])
  cases els with
  |nil=>
   have h9:=ht (n+1) (by omega);simp only[qaJ,qbi,qbf,zLc,zLn,zLa]
   omega
  |cons a r=>
   have h9:=ht (n+2) (by omega);have h10:=he (stWs c (n+2) thn).2 (by omega);simp only[qaJ,qbi,qbf,zLc,zLn,zLa];omega
  rw[zn k3]
  by_cases k4:kind=4
  rw[zp k4];have h8:=hv (by simp[k4]);have h9:=ht (n+2) (by omega);simp only[qaJ,qbi,qbf,zLc,zLn,zLa];omega;rw[zn k4]
  by_cases k5:kind=5
  have:=hv (by simp[k5]);rw[zp k5];simp only[qaJ,qbi,qbf,zLc,zLn];omega;rw[zn k5]
  by_cases k6:kind=6
  have:=hv (by simp[k6]);rw[zp k6];simp only[qaJ,qbi,qbf,zLc,zLn];omega;rw[zn k6]
  by_cases k7:kind=7
  rw[zp k7];simp only[qaJ,qbf,zLc,zLn];omega;rw[zn k7];simp only[qbf];omega
theorem qiT{c:CC}(hc:ShC c){env:CEnv}(hfn:∀ k∈env.funcs,k.name.length<=24):∀ (l:List Sm) (n:Nat),qbu l->qbB env l=0->n+2 * ndSs l<=4000000000->tot (stWs c n l).1<=60 * ndSs l/\(stWs c n l).2<=n+2 * ndSs l
 |[],n,_,h,_=>by rw[stWs];simp[qbf]
 |s::l,n,hnm,h,hN=>by
  rw[qbB] at h;rw[qbu] at hnm;rw[ndSs] at hN ⊢;obtain⟨h1,h2⟩:=qac.1 h;have a1:=qwb hc hfn s n hnm.1 h1 (by omega);have a2:=qiT hc hfn l (stW c n s).2 hnm.2 h2 (by omega);rw[stWs];simp only[qbi];omega
end
theorem qm8{c:CC}(hc:ShC c):∀ l:List Nm,tot (l.flatMap λp=>[c.sc p,[33]])<=20 * l.length
 |[]=>zNr _
 |p::l=>by
  have:=qm8 hc l;have:=hc.sc p;rw[flatMap_cons,qbi];simp only[qaJ,qbf,zLc,zLn];omega
theorem qvL(hc:ShC c){env:CEnv}(hfn:∀ k∈env.funcs,k.name.length<=24)(f:FnD)(n:Nat)(hname:f.name.length<=24)(hnm:qbu f.body)(h:qbB env f.body=0)(hN:n+2 * ndF f<=4000000000):tot (fnW c n f).1<=60 * ndF f/\(fnW c n f).2<=n+2 * ndF f:=by
 unfold ndF at hN ⊢;have h1:=qiT hc hfn f.body n hnm h (by omega);have h2:=qm8 hc f.params.reverse;rw[length_reverse] at h2;unfold fnW;simp only[qaJ,qbi,qbf,zLc,zLn,zLa];omega
theorem qoN{cc:Nm->CC}:∀ (fs:List FnD) (n:Nat),(∀ f∈fs,∀ m,m+2 * ndF f<=4000000000->tot (fnW (cc f.name) m f).1<=60 * ndF f/\(fnW (cc f.name) m f).2<=m+2 * ndF f)->n+2 * ndFs fs<=4000000000->tot (fnWs cc n fs).1<=60 * ndFs fs/\(fnWs cc n fs).2<=n+2 * ndFs fs
 |[],n,_,_=>by rw[fnWs];simp[qbf]
 |f::l,n,h,hN=>by
  rw[ndFs] at hN ⊢;have a1:=h f zMs n (by omega);have a2:=qoN l (fnW (cc f.name) n f).2 (λg hg=>h g (zMo _ hg)) (by omega);rw[fnWs];simp only[qbi];omega
section
variable{P:Pr}{o:Org}
theorem qf6(h:0<=z)(h2:z<4294967296):(itoa z).length<=10:=by
 rw[qcb h];exact qh4 (by omega)
theorem qhY:∀ (l:List (Nm×Int)) (a:Int),0<=a->(∀ p∈l,0<=p.2)->∀ n,arrA a l n<=a+(l.map (·.2)).sum
 |[],a,h,_,n=>by simp[arrA];exact h
 |(x,k)::l,a,h,hl,n=>by
  have hk:0<=k:=hl (x,k) zMs;have hl':=λp hp=>hl p (zMo (x,k) hp)
  have hs:∀ m:List (Nm×Int),(∀ p∈m,0<=p.2)->0<=(m.map (·.2)).sum:=by
   intro m
   induction m with
   |nil=>intro _;simp
   |cons q m ih=>
    intro hm;have h1:=hm q zMs;have h2:=ih λp hp=>hm p (zMo _ hp);rw[zMc,sum_cons];omega
  have hsl:=hs l hl';rw[arrA,zMc,sum_cons];split;show a<=a+(k+_);omega;have:=qhY l (a+k) (by omega) hl' n;show _<=a+(k+_);omega
theorem quT(hF:FitN P o)(own:Nm):ShC (ccF P.vars (qa8 P) P.funcs o own):=by
 have s0:=hF.s0;have s1:=hF.s1;have a0:=hF.a0;have a1:=hF.a1
 have hp:∀ p∈qa8 P,0<=p.2:=λp hp=>by
  obtain⟨a,_,rfl⟩:=zRf hp;exact Int.natCast_nonneg _
 refine⟨λn=>?_,λn=>?_,?_,?_,?_⟩;refine qf6 ?_ ?_;unfold qen;split <;> omega;unfold qen;split
 rename_i h
 have:=List.idxOf_lt_length_of_mem h;omega;omega;refine qf6 (qgN _ _ a0 hp n) ?_;have h1:=qhY (qa8 P) o.arrays a0 hp n;have h2:((qa8 P).map (·.2)).sum=((totA P.arrays:Nat):Int):=qg5 P.arrays;rw[h2] at h1;omega;exact qf6 s0 (by omega);exact qf6 (z:=o.scalars+1) (by omega) (by omega);exact qf6 (z:=o.scalars+2) (by omega) (by omega)
theorem qnT(hc:qbj P=0)(hnum:∀ f∈P.funcs,qbu f.body)(hfit:qeS P.vars (qa8 P) P.funcs o=true)(hnd:ndFs P.funcs<=2000000):tot (qaW P o)<=60+60 * ndFs P.funcs/\(fnWs (ccF P.vars (qa8 P) P.funcs o) 0 P.funcs).2<=2 * ndFs P.funcs:=by
 have hv:=qdl hc;have hF:=qgq hfit;have hfr:=qaP _ _ hv.names
 have hpl:∀ f∈P.funcs,f.name.length<=24:=λf hf=>by
  have h:=(hfr.2 _ (zRe (.inr (zRg ⟨f,hf,rfl⟩)))).2;unfold isNm at h;rw[zBa,zBa,zDe] at h;exact h.1.1
 have hb:=qoN (cc:=ccF P.vars (qa8 P) P.funcs o) P.funcs 0 (λf hf m hm=>by
  obtain⟨kn,k1,k2⟩:=hv.bodies f hf;refine qvL (quT hF f.name) (λk hk=>?_) f m (hpl f hf) (hnum f hf) k1 hm;obtain⟨g,g1,g2,_⟩:=k2 k hk;rw[<-g2]
  exact hpl g g1) (by omega)
 have ht:=qf6 (z:=o.scalars) hF.s0 (by have:=hF.s1;omega);refine⟨?_,by omega⟩;unfold qaW prW;rw[qbi];simp only[qaJ,qbf,zLc,zLn];omega
end
def prOf(vars:List Nm)(arrays:List (Nm×Int))(fs:List FnD):Pr:=⟨vars,arrays.map λa=>⟨a.1,a.2.toNat⟩,fs⟩
theorem qsP{vars:List Nm}{arrays:List (Nm×Int)}{fs:List FnD}(h:∀ a∈arrays,0<=a.2):qa8 (prOf vars arrays fs)=arrays:=by
 unfold qa8 prOf;simp only[map_map]
 conv=>rhs;rw[<-List.map_id arrays]
 refine List.map_congr_left λa ha=>?_;have:=h a ha;simp only[Function.comp,id];rw[Int.toNat_of_nonneg this]
theorem qns:∀ (l:List Int) (t:Int),0<=t->t<=150000->qgZ t l=0->t+l.sum<=150000/\∀ n∈l,0<n
 |[],t,h0,h1,_=>by
  rw[List.sum_nil]
  exact⟨by omega,λn hn=>(not_mem_nil hn).elim⟩
 |a::l,t,h0,h1,h=>by
  rw[qgZ] at h;split at h;cases h;split at h;cases h;obtain⟨g1,g2⟩:=qns l (t+a) (by omega) (by omega) h;rw[sum_cons];refine⟨by omega,λn hn=>?_⟩;rcases zMi.1 hn with rfl|hn;omega;exact g2 n hn
theorem qd0{vars:List Nm}{arrays:List (Nm×Int)}{fs:List FnD}(h:qb5 vars arrays fs=0):(arrays.map (·.2)).sum<=150000/\(∀ a∈arrays,0<a.2)/\qa8 (prOf vars arrays fs)=arrays/\qbj (prOf vars arrays fs)=0/\Valid (prOf vars arrays fs):=by
 have h0:=h;unfold qb5 at h;obtain⟨h1,h⟩:=qac.1 h;obtain⟨h2,h⟩:=qac.1 h;obtain⟨s1,s2⟩:=qns _ 0 zDd zDd h2;have hp:∀ a∈arrays,0<a.2:=λa ha=>s2 a.2 (List.mem_map_of_mem ha);have ha:=qsP (vars:=vars) (fs:=fs) λa ha=>Int.le_of_lt (hp a ha)
 have hc:qbj (prOf vars arrays fs)=0:=by
  have:(prOf vars arrays fs).arrays.map (λa=>(a.name,(a.size:Int)))=arrays:=ha;unfold qbj;rw[this];exact h0
 exact⟨by omega,hp,ha,hc,qdl hc⟩
def symA:Int->List (Nm×Int)->List (Nm×Int)
 |_,[]=>[]
 |a,(x,n)::r=>(x,a)::symA (a+n) r
theorem qlf:∀ (l:List (Nm×Int)) (a:Int),(symA a l).map (·.1)=l.map (·.1)
 |[],_=>rfl
 |(x,n)::r,a=>by rw[symA,zMc,zMc,qlf r]
theorem qlM:∀ (l:List (Nm×Int)) (a:Int),(symA a l).length=l.length
 |[],_=>rfl
 |(x,n)::r,a=>by rw[symA,zLc,zLc,qlM r]
theorem qpk:∀ (l m:List (Nm×Int)) (a:Int),symA a (l++m)=symA a l++symA (a+(l.map (·.2)).sum) m
 |[],m,a=>by simp[symA]
 |(x,n)::r,m,a=>by
  rw[cons_append,symA,qpk r m,symA,cons_append,zMc,sum_cons,Int.add_assoc]
def qfr(r:Int×Int):Bool:=qe8 r.1 r.2
def qjh(r s:Int×Int):Bool:=qhp r.1 r.2 s.1 s.2
def goR:List (Int×Int)->List (Int×Int)->Bool
 |_,[]=>true
 |prev,r::rest=>qfr r && (prev.all λs=>!qjh r s) && goR (prev++[r]) rest
theorem qwq(vars:List Nm)(arrays:List (Nm×Int))(fs:List FnD)(o:Org):qeS vars arrays fs o=goR [] [(o.scalars,3+((qaf vars fs).length:Nat)),(o.code,40000),(o.arrays,(arrays.map (·.2)).sum)]:=by
 unfold qeS goR goR goR goR qfr qjh;simp only[List.all_nil,nil_append,all_cons,List.singleton_append,cons_append,Bool.and_true];generalize qe8 o.scalars _=a;generalize qe8 o.code 40000=b;generalize qe8 o.arrays _=c;generalize qhp o.code 40000 o.scalars _=d;generalize qhp o.arrays _ o.scalars _=e;generalize qhp o.arrays _ o.code 40000=f;revert a b c d e f;decide
section
variable{P:Pr}{o o':Org}{t t' x x':Wd}{labs labs':List (Wd×Nat)}
end
theorem qnM{ds:List Wd}{known:Wd->Nat}{w:Wd}(h:OkW ds w)(hd:defW w=none):∀ c∈qaF known w,qdx.contains c=true:=by
 unfold OkW at h;rw[hd] at h;unfold qaF
 cases hr:refW w with
 |some x=>
  intro c hc
  exact qkO ((qfX (known x)).2 c hc)
 |none=>
  rw[hr] at h;simp only at h;exact λc hc=>List.all_eq_true.1 h c hc
theorem qjY{ds:List Wd}{known:Wd->Nat}:∀ (l:List Wd) (t:Wd),(∀ w∈l,OkW ds w)->(∀ c∈t,qdx.contains c=true∨c=32)->∀ c∈l.foldl (addT known) t,qdx.contains c=true∨c=32
 |[],t,_,h=>h
 |w::l,t,hw,h=>by
  rw[foldl_cons];refine qjY l _ (λx hx=>hw x (zMo _ hx)) λc hc=>?_;unfold addT at hc
  cases hd:defW w with
  |some y=>
   rw[hd] at hc
   exact h c hc
  |none=>
   rw[hd] at hc;simp only at hc;rcases zRd hc with hc|hc;rcases zRd hc with hc|hc;exact h c hc;split at hc;exact .inr (zRa hc);exact(not_mem_nil hc).elim;exact .inl (qnM (hw w zMs) hd c hc)
theorem qmu{src x:Wd}{og:Int}{labs:List (Wd×Nat)}(h:asmP src og=.ok (x,labs)):x.length<=40000/\(defs (qbc src)).Nodup/\∀ c∈x,qdx.contains c=true∨c=32:=by
 unfold asmP at h;split at h;cases h;split at h;cases h
 rename_i h1
 split at h;cases h
 rename_i h2
 injection h with h;injection h with h _;have hA:=qpg (Classical.not_not.1 h1);refine⟨by rw[<-h];exact Nat.le_of_not_lt h2,hA.1,?_⟩;rw[<-h];exact qjY _ _ hA.2 λc hc=>(not_mem_nil hc).elim
theorem qg6(all:List Wd):∀ (l:List (Wd×Nat)) (met:List Wd),(errT all met l).2=0∨(errT all met l).2=8∨(errT all met l).2=7∨(errT all met l).2=3
 |[],met=>.inl rfl
 |(w,ln)::r,met=>by
  rw[errT]
  cases hd:defW w with
  |some x=>
   simp only;split;exact .inr (.inl rfl)
   exact qg6 all r _
  |none=>
   simp only
   cases hr:refW w with
   |some x=>
    simp only;split;exact qg6 all r _
    exact .inr (.inr (.inl rfl))
   |none=>
    simp only;split;exact qg6 all r _;exact .inr (.inr (.inr rfl))
theorem qt5{src:Wd}{og:Int}(h:0<=og/\og<262144){e:Nat×Nat}(he:asmP src og=.error e):e.2=8∨e.2=7∨e.2=3∨e.2=6:=by
 unfold asmP at he;split at he;omega;split at he
 rename_i h1
 injection he with he;rw[<-he];rcases qg6 (defs (qbc src)) (qfR src) [] with h2|h2|h2|h2;exact absurd h2 h1;exact .inl h2;exact .inr (.inl h2);exact .inr (.inr (.inl h2));split at he;injection he with he;rw[<-he];exact .inr (.inr (.inr rfl));cases he
section
variable{vars:List Nm}{arrays:List (Nm×Int)}{fs:List FnD}{o:Org}
end
section
variable{W:List Wd}{ok:Nat->Bool}{w x:Wd}{r:List Wd}
end
theorem qtE{a b:Nat}{op:Wd}(h:qd2 a op b=some n):∃ c:UInt8,op=[c]/\isOp c/\binM c.toNat a b=some n:=by
 unfold qd2 at h;unfold isOp;split at h
 rename_i e;exact⟨43,e,by decide,h⟩
 split at h
 rename_i e;exact⟨45,e,by decide,h⟩
 split at h
 rename_i e;exact⟨42,e,by decide,h⟩
 split at h
 rename_i e;exact⟨94,e,by decide,h⟩
 split at h
 rename_i e;refine⟨60,e,by decide,?_⟩;rw[<-h];unfold binM;simp
 split at h
 rename_i e;exact⟨47,e,by decide,h⟩
 split at h
 rename_i e;exact⟨37,e,by decide,h⟩
 cases h
section
variable{W W':List Wd}{ok ok':Nat->Bool}{r q:List Wd}
theorem qnZ{c:UInt8}(hc:c=43∨c=42∨c=94)(a x y:Nat):∃ u z,binM c.toNat a x=some u/\binM c.toNat x y=some z/\binM c.toNat u y=binM c.toNat a z:=by
 rcases hc with rfl|rfl|rfl;refine⟨_,_,rfl,rfl,?_⟩;unfold binM;simp[add_assoc];refine⟨_,_,rfl,rfl,?_⟩;unfold binM;simp[Nat.mul_assoc];refine⟨_,_,rfl,rfl,?_⟩;unfold binM;simp[Nat.xor_assoc]
end
open Go.Lib (decDigits)
theorem PW.digsX{C:PW}{s:MS}{i:Nat}(hk:C.Ok s.mem)(h:C.At s i)(hw:C.W[i]? = some w)(hd:defW w=none)(hne:qaF C.known w≠[])(hg:∀ c∈qaF C.known w,qar c=true)(hv:valD 0 (qaF C.known w)<4294967296)(hroom:s.data.length<256) :
  (C.plc i<=C.plc (i+1)/\Stp (C.plc (i+1)-C.plc i) s { s with pc:=C.plc (i+1),data:=valD 0 (qaF C.known w)::s.data,digit:=true })/\qbh (C.pre (i+1))=true:=by
 obtain⟨h1,h2,h3⟩:=C.piece hk hw hd
 have hf:qbU (qaF C.known w)=true:=by
  cases hp:qaF C.known w with
  |nil=>exact absurd hp hne
  |cons c r=>exact hg c (by rw[hp];simp)
 have hl:qbh (C.pre (i+1))=true:=by
  rw[h1,qjS hne];unfold qbh;rw[List.getLast?_eq_some_getLast hne];exact hg _ (List.getLast_mem hne)
 refine⟨?_,hl⟩;obtain⟨hpc,hdg⟩:=h
 have hplc:C.plc (i+1)=C.plc i+(if qbh (C.pre i) && qbU (qaF C.known w) then [32] else []:Wd).length+(qaF C.known w).length:=by
  unfold PW.plc;rw[h1,zLa,zLa];omega
 rw[hf,Bool.and_true] at h2 hplc;refine⟨by omega,?_⟩
 by_cases hsp:qbh (C.pre i)=true
 ·rw[zp hsp] at h2 hplc;obtain⟨m1,m2⟩:=h2.app;have m0:=m1 0 (by simp);simp only[add_zero,List.getElem_cons_zero] at m0;simp only[zLc,zLn] at hplc m2
  have hst:stepM s=.run { s with pc:=s.pc+1,digit:=false }:=by
   unfold stepM;rw[zp (by rw[hpc];omega),hpc,m0];unfold exeM;rw[zn zDd,zp zDd]
   try rfl
  have hd1:=qpJ (s:={ s with pc:=s.pc+1,digit:=false }) hne hg rfl hroom (by simp only;rw[hpc];exact m2) (by simp only;rw[hpc];omega) hv;have:=(Stp.one hst).trans hd1;simp only at this;rw[show C.plc (i+1)-C.plc i=1+(qaF C.known w).length by omega,hplc,<-hpc];exact this
 rw[zn hsp] at h2 hplc;rw[nil_append] at h2
 have hdf:s.digit=false:=by
  cases hx:s.digit with
  |false=>rfl
  |true=>exact absurd (hdg hx) hsp
 have hd1:=qpJ (s:=s) hne hg hdf hroom (by rw[hpc];exact h2) (by rw[hpc];simp only[zLn] at hplc;omega) hv;simp only[zLn,add_zero] at hplc;rw[show C.plc (i+1)-C.plc i=(qaF C.known w).length by omega,hplc,<-hpc];exact hd1
theorem PW.sign_plc{C:PW}{mem:Nat->Nat}{i:Nat}{c:UInt8}(hk:C.Ok mem)(hw:C.W[i]? = some [c])(hd:defW [c]=none)(hr:refW [c]=none)(hc:qar c=false):C.plc (i+1)=C.plc i+1:=by
 obtain⟨h1,h2,h3⟩:=C.piece hk hw hd;have hp:qaF C.known [c]=[c]:=by unfold qaF;rw[hr]
 have hf:qbU [c]=false:=hc;rw[hp,hf,Bool.and_false,zn zDd,zLz] at h1;unfold PW.plc;rw[h1,zLa]
 try rfl
mutual
def szE:Ex->Nat
 |.mk op num name args=>1+op.length+name.length+szEs args
def szEs:List Ex->Nat
 |[]=>0
 |x::l=>szE x+szEs l
end
mutual
def szS:Sm->Nat
 |.mk kind name index value thn els=>1+name.length+(szEs index+szEs value+szSs thn+szSs els)
def szSs:List Sm->Nat
 |[]=>0
 |x::l=>szS x+szSs l
end
def szNs:List (List UInt8)->Nat
 |[]=>0
 |s::l=>s.length+1+szNs l
def szF(f:FnD):Nat:=1+f.name.length+szNs f.params+szNs f.locals+szSs f.body
def szFs:List FnD->Nat
 |[]=>0
 |f::l=>szF f+szFs l
def szAs:List (List UInt8×Int)->Nat
 |[]=>0
 |a::l=>a.1.length+1+szAs l
mutual
theorem qxJ:∀ x:Ex,ndE x<=szE x
 |.mk op num name args=>by
  rw[ndE,szE];have:=ql5 args;omega
theorem ql5:∀ l:List Ex,ndEs l<=szEs l
 |[]=>zNr _
 |x::l=>by
  rw[ndEs,szEs];have:=qxJ x;have:=ql5 l;omega
end
mutual
theorem qxq:∀ x:Sm,ndS x<=szS x
 |.mk kind name index value thn els=>by
  rw[ndS,szS];have:=ql5 index;have:=ql5 value;have:=qmc thn;have:=qmc els;omega
theorem qmc:∀ l:List Sm,ndSs l<=szSs l
 |[]=>zNr _
 |x::l=>by
  rw[ndSs,szSs];have:=qxq x;have:=qmc l;omega
end
theorem len_szNs:∀ l:List (List UInt8),l.length<=szNs l
 |[]=>zNr _
 |s::l=>by
  rw[szNs,zLc];have:=len_szNs l;omega
theorem len_szAs:∀ l:List (List UInt8×Int),l.length<=szAs l
 |[]=>zNr _
 |s::l=>by
  rw[szAs,zLc];have:=len_szAs l;omega
theorem qxb(f:FnD):ndF f<=szF f:=by
 unfold ndF szF;have:=len_szNs f.params;have:=len_szNs f.locals;have:=qmc f.body;omega
theorem nd_szFs:∀ l:List FnD,ndFs l<=szFs l
 |[]=>zNr _
 |x::l=>by
  rw[ndFs,szFs];have:=qxb x;have:=nd_szFs l;omega
theorem qgh:∀ l:List Ex,szEs l=(l.map szE).sum
 |[]=>rfl
 |x::l=>by rw[szEs,qgh l];try rfl
theorem qff:∀ l:List Sm,szSs l=(l.map szS).sum
 |[]=>rfl
 |x::l=>by rw[szSs,qff l];try rfl
theorem qhi:∀ l:List FnD,szFs l=(l.map szF).sum
 |[]=>rfl
 |x::l=>by rw[szFs,qhi l];try rfl
theorem qhu:∀ l:List (List UInt8),szNs l=(l.map λs=>s.length+1).sum
 |[]=>rfl
 |x::l=>by rw[szNs,qhu l];try rfl
theorem qhn:∀ l:List (List UInt8×Int),szAs l=(l.map λa=>a.1.length+1).sum
 |[]=>rfl
 |x::l=>by rw[szAs,qhn l];try rfl
theorem qf3(a b:List Ex):szEs (a++b)=szEs a+szEs b:=by rw[qgh,qgh,qgh,zMa,sum_append]
theorem qpT(a b:List Sm):szSs (a++b)=szSs a+szSs b:=by rw[qff,qff,qff,zMa,sum_append]
theorem qoY(a b:List FnD):szFs (a++b)=szFs a+szFs b:=by rw[qhi,qhi,qhi,zMa,sum_append]
theorem qgi(a b:List (List UInt8)):szNs (a++b)=szNs a+szNs b:=by rw[qhu,qhu,qhu,zMa,sum_append]
theorem qo5(a b:List (List UInt8×Int)):szAs (a++b)=szAs a+szAs b:=by rw[qhn,qhn,qhn,zMa,sum_append]
end Go.Stele
namespace Go.Stele.Wi
open Go.Lib
variable{P:Pr}{W p r rest:List Wd}{a b e i k m n v:Nat}{c:UInt8}{d inp:List Nat}{f:FnD}{l o w x:Wd}
structure PW where
 W:List Wd
 D:Nat->Bool
structure MS where
 mem:Nat->Nat
 pc:List Wd
 data:List Nat
 calls:List (List Wd)
 inp:List Nat
 out:Wd
 digit:Bool
variable{m' s s':MS}
inductive MR where
 |run (s:MS)
 |stop (e:Nat) (out:Wd)
def qbz(x:Wd):List Wd->Option (List Wd)
 |[]=>none
 |w::r=>if defW w=some x then some r else qbz x r
def lost(s:MS):MR:=.stop 99 s.out
def qdg(s:MS)(r:List Wd)(d:List Nat)(n:Nat)(f:Bool):MR:=if d.length<256 then .run { s with pc:=r,data:=n::d,digit:=f } else lost s
def qoy(D:Nat->Bool)(s:MS)(r:List Wd):MR:=match s.data with
 |a::d=>if D a=true then qdg s r d (s.mem a) false else lost s
 |[]=>lost s
def qja(D:Nat->Bool)(s:MS)(r:List Wd):MR:=match s.data with
 |a::x::d=>if D a=true then .run { s with pc:=r,data:=d,mem:=λi=>if i=a then x else s.mem i,digit:=false } else lost s
 |_=>lost s
def qmU(s:MS):MR:=match s.calls with
 |k::l=>.run { s with pc:=k,calls:=l,digit:=false }
 |[]=>lost s
def qmJ(s:MS)(r:List Wd):MR:=match s.data with
 |x::d=>.run { s with pc:=r,data:=d,out:=s.out++[UInt8.ofNat x],digit:=false }
 |[]=>lost s
def binW(s:MS)(c:UInt8)(r:List Wd):MR:=match s.data with
 |b::a::d=>(match binM c.toNat a b with
  |some x=>qdg s r d x false
  |none=>.stop 12 s.out)
 |_=>lost s
def qgk(D:Nat->Bool)(s:MS)(c:UInt8)(r:List Wd):MR:=
 if c=64 then qoy D s r
 else if c=33 then qja D s r
 else if c=59 then qmU s
 else if c=44 then qdg { s with inp:=s.inp.tail } r s.data (s.inp.headD 4294967295) false
 else if c=46 then qmJ s r
 else if c=36 then .stop 0 s.out
 else if c=43∨c=45∨c=42∨c=47∨c=37∨c=94∨c=60 then binW s c r
 else lost s
def qny(s:MS)(k r:List Wd):MR:=match s.data with
 |a::d=>.run { s with pc:=if a=0 then k else r,data:=d,digit:=false }
 |[]=>lost s
def qhU(C:PW)(s:MS)(x:Wd)(r:List Wd):MR:=match qbz x C.W,r with
 |some k,o::r=>if s.data.length<256 then (if o=[63] then qny s k r else if o=[58] then (if s.calls.length<64 then .run { s with pc:=k,calls:=r::s.calls,digit:=false } else lost s) else lost s) else lost s
 |_,_=>lost s
def qhF(C:PW)(s:MS)(w:Wd)(r:List Wd):MR:=match defW w with
 |some _=>.run { s with pc:=r }
 |none=>match numW w with
  |some n=>qdg s r s.data n true
  |none=>match refW w with
   |some x=>qhU C s x r
   |none=>match w with
    |[c]=>qgk C.D s c r
    |_=>lost s
def stepM(C:PW)(s:MS):MR:=match s.pc with
 |[]=>lost s
 |w::r=>qhF C s w r
def qjL(f:Bool)(w:Wd):Nat:=if (defW w).isSome=true then 0 else if (numW w).isSome=true then w.length+one f else if (refW w).isSome=true then 7+one f else 1
def qb1(s:MS):Nat:=qjL s.digit (s.pc.headD [])
inductive Stp (C:PW):Nat->MS->MS->Prop
 |zero (s:MS):Stp C 0 s s
 |step {k:Nat} {s s' s2:MS}:stepM C s=.run s'->Stp C k s' s2->Stp C (qb1 s+k) s s2
section
variable{C:PW}
theorem Stp.one(h:stepM C s=.run s'):Stp C (qb1 s) s s':=.step h (.zero _)
theorem Stp.trans{s2:MS}(h:Stp C a s s')(k:Stp C b s' s2):Stp C (a+b) s s2:=by
 induction h with
 |zero s=>rw[zero_add];exact k
 |step h1 _ ih=>rw[add_assoc];exact .step h1 (ih k)
def Stx(C:PW)(m:Nat)(s s':MS):Prop:=∃ k,k<=m/\Stp C k s s'
theorem Stx.refl(s:MS):Stx C 0 s s:=⟨0,zNr _,.zero _⟩
theorem Stx.trans{a b:Nat}{s s' s2:MS}(h:Stx C a s s')(k:Stx C b s' s2):Stx C (a+b) s s2:=by
 obtain⟨i,h1,h2⟩:=h;obtain⟨j,k1,k2⟩:=k;exact⟨i+j,by omega,h2.trans k2⟩
theorem Stx.mono(h:Stx C a s s')(hab:a<=b):Stx C b s s':=by
 obtain⟨i,h1,h2⟩:=h;exact⟨i,by omega,h2⟩
def PW.plc(C:PW)(i:Nat):List Wd:=C.W.drop i
def PW.At(C:PW)(s:MS)(i:Nat):Prop:=∃ ds,s.pc=ds++C.plc i/\∀ w∈ds,(defW w).isSome=true
def PW.Ok(C:PW)(mem:Nat->Nat):Prop:=True
def PW.Code(C:PW)(i:Nat)(ws:List Wd):Prop:=∀ k (h:k<ws.length),C.W[i+k]? = some ws[k]
theorem PW.Code.app{a b:List Wd}(h:C.Code i (a++b)):C.Code i a/\C.Code (i+a.length) b:=by
 constructor;intro k hk;have:=h k (by rw[zLa];omega)
 rwa [List.getElem_append_left hk] at this
 intro k hk;have:=h (a.length+k) (by rw[zLa];omega);rw[List.getElem_append_right (by omega)] at this;rw[add_assoc];simpa using this
theorem PW.Code.cons{b:List Wd}(h:C.Code i (w::b)):C.W[i]? = some w/\C.Code (i+1) b:=by
 have h1:=PW.Code.app (a:=[w]) (b:=b) h;have h2:=h1.1 0 (by simp);exact⟨by simpa using h2,h1.2⟩
def PW.put(C:PW)(s:MS)(i:Nat)(d:List Nat):MS:={ s with pc:=C.plc i,data:=d,digit:=false }
theorem PW.put_at(C:PW)(s:MS)(i:Nat)(d:List Nat):C.At (C.put s i d) i:=⟨[],rfl,λw hw=>by cases hw⟩
theorem PW.at_mk(h:s.pc=C.plc i):C.At s i:=⟨[],h,λw hw=>by cases hw⟩
theorem qiS(hw:C.W[i]? = some w):C.plc i=w::C.plc (i+1):=by
 obtain⟨hi,rfl⟩:=List.getElem?_eq_some_iff.1 hw;exact List.drop_eq_getElem_cons hi
theorem qa6(hv:s.pc=w::r):stepM C s=qhF C s w r:=by
 unfold stepM;rw[hv]
theorem qiZ(hv:s.pc=w::r)(h:defW w=some x):stepM C s=.run { s with pc:=r }:=by
 unfold stepM qhF;rw[hv];simp only;rw[h]
theorem qgQ(hv:s.pc=w::r)(h:defW w=some x):qb1 s=0:=by
 unfold qb1 qjL;rw[hv];simp[h]
theorem qkh:∀ (ds:List Wd) (s:MS) (r:List Wd),s.pc=ds++r->(∀ w∈ds,(defW w).isSome=true)->Stp C 0 s { s with pc:=r }
 |[],s,r,h,_=>by
  have:s={ s with pc:=r }:=by rw[<-show s.pc=r from h]
  rw[<-this]
  exact .zero s
 |w::ds,s,r,h,hd=>by
  obtain⟨x,hx⟩:=zR (hd w zMs);have h1:=Stp.step (qiZ (C:=C) h hx) (qkh ds { s with pc:=ds++r } r rfl λy hy=>hd y (zMo _ hy));rw[qgQ h hx] at h1;exact h1
theorem PW.atDef(h:C.At s i)(hw:C.W[i]? = some w)(hd:defW w=some x):C.At s (i+1):=by
 obtain⟨ds,h1,h2⟩:=h;refine⟨ds++[w],by rw[h1,qiS hw,zAs];try rfl,λy hy=>?_⟩;rcases zRd hy with hy|hy;exact h2 y hy;rw[zRa hy,hd];try rfl
theorem PW.ahead(h:C.At s i)(hw:C.W[i]? = some w):Stp C 0 s { s with pc:=w::C.plc (i+1) }:=by
 obtain⟨ds,h1,h2⟩:=h;rw[qiS hw] at h1;exact qkh ds s _ h1 h2
theorem PW.once(h:C.At s i)(hw:C.W[i]? = some w)(hs:stepM C { s with pc:=w::C.plc (i+1) }=.run s')(hc:qjL s.digit w<=m):Stx C m s s':=by
 have h1:=(PW.ahead h hw).trans (.one hs);rw[zero_add] at h1;exact⟨_,hc,h1⟩
theorem qjr{w:Wd}(h:numW w=some n):w≠[]/\∀ c∈w,qar c=true:=by
 obtain⟨h1,h2⟩:=(qcO w n).1 h;rw[<-h2];exact⟨qcl n,qdW n⟩
theorem qim(h:qar c=false):numW [c]=none:=by
 cases hn:numW [c] with
 |none=>rfl
 |some n=>
  have h1:=(qjr hn).2 c (zRb rfl);rw[h] at h1;cases h1
theorem qbs(h:numW w=some n):defW w=none/\refW w=none:=by
 have:=qki h;exact⟨this.1,this.2⟩
theorem qg9(h:refW w=some x):numW w=none:=by
 cases hn:numW w with
 |none=>rfl
 |some n=>rw[(qbs hn).2] at h;cases h
theorem qfc(h:numW w=some n):qhF C s w r=qdg s r s.data n true:=by
 unfold qhF;rw[(qbs h).1];simp only;rw[h]
theorem qfd{f:Bool}(h:numW w=some n):qjL f w=w.length+one f:=by
 unfold qjL;rw[(qbs h).1,h]
 try rfl
theorem qdK(h:refW w=some x):qhF C s w r=qhU C s x r:=by
 unfold qhF;rw[qa5 h];simp only;rw[qg9 h];simp only;rw[h]
theorem qeh{f:Bool}(h:refW w=some x):qjL f w=7+one f:=by
 unfold qjL;rw[qa5 h,qg9 h,h]
 try rfl
abbrev qc0:Wd:=[43,45,42,47,37,94,60,64,33,63,58,59,44,46,36]
theorem qbF(h:c∈qc0):qhF C s [c] r=qgk C.D s c r:=by
 obtain⟨e1,e2,e3⟩:=qbt h;unfold qhF;rw[e1];simp only;rw[qim e3];simp only;rw[e2]
theorem qjA{f:Bool}(h:c∈qc0):qjL f [c]=1:=by
 obtain⟨e1,e2,e3⟩:=qbt h;unfold qjL;rw[e1,qim e3,e2]
 try rfl
theorem qcT(h:isOp c):c∈qc0:=by
 unfold isOp at h;rcases h with rfl|rfl|rfl|rfl|rfl|rfl|rfl <;> decide
theorem qjM{D:Nat->Bool}(h:isOp c):qgk D s c r=binW s c r:=by
 unfold isOp at h;unfold qgk;rcases h with rfl|rfl|rfl|rfl|rfl|rfl|rfl <;> rfl
theorem qog(f:Bool):Go.Stele.one f<=1:=Go.Stele.one_le f
section
variable{s:MS}{i:Nat}
theorem PW.num(h:C.At s i)(hw:C.W[i]? = some (decDigits n))(hn:n<4294967296)(hroom:s.data.length<256)(hm:(decDigits n).length+1<=m):Stx C m s { s with pc:=C.plc (i+1),data:=n::s.data,digit:=true }:=by
 have hN:=qdM hn;refine PW.once h hw ?_ (by rw[qfd hN];have:=qog s.digit;omega);rw[qa6 rfl,qfc hN];unfold qdg;rw[zp hroom]
theorem PW.load(h:C.At s i)(hw:C.W[i]? = some [64]){r:List Nat}(hd:s.data=a::r)(ha:C.D a=true)(hroom:r.length<256):Stx C 1 s (C.put s (i+1) (s.mem a::r)):=by
 refine zQ54 ?_;rw[qa6 rfl,qbF zDd];show qoy C.D _ _=_;unfold qoy qdg;simp[hd,ha,hroom,PW.put]
theorem PW.store(h:C.At s i)(hw:C.W[i]? = some [33]){r:List Nat}(hd:s.data=a::v::r)(ha:C.D a=true):Stx C 1 s { C.put s (i+1) r with mem:=λi=>if i=a then v else s.mem i }:=by
 refine zQ54 ?_;rw[qa6 rfl,qbF zDd];show qja C.D _ _=_;unfold qja;simp[hd,ha,PW.put]
theorem PW.back(h:C.At s i)(hw:C.W[i]? = some [59]){t:List Wd}{r:List (List Wd)}(hd:s.calls=t::r):Stx C 1 s { s with pc:=t,calls:=r,digit:=false }:=by
 refine zQ54 ?_;rw[qa6 rfl,qbF zDd];show qmU _=_;unfold qmU;simp[hd]
theorem PW.read(h:C.At s i)(hw:C.W[i]? = some [44])(hroom:s.data.length<256):Stx C 1 s { C.put s (i+1) ((s.inp.headD 4294967295)::s.data) with inp:=s.inp.tail }:=by
 refine zQ54 ?_;rw[qa6 rfl,qbF zDd];show qdg _ _ _ _ _=_;unfold qdg;simp[hroom,PW.put]
theorem PW.write(h:C.At s i)(hw:C.W[i]? = some [46]){r:List Nat}(hd:s.data=v::r):Stx C 1 s { C.put s (i+1) r with out:=s.out++[UInt8.ofNat v] }:=by
 refine zQ54 ?_;rw[qa6 rfl,qbF zDd];show qmJ _ _=_;unfold qmJ;simp[hd,PW.put]
theorem PW.halt(h:C.At s i)(hw:C.W[i]? = some [36]):∃ m,Stp C 0 s m/\stepM C m=.stop 0 s.out:=by
 refine⟨_,PW.ahead h hw,?_⟩;rw[qa6 rfl,qbF zDd]
 try rfl
theorem PW.op(h:C.At s i)(hc:isOp c)(hw:C.W[i]? = some [c]){r:List Nat}(hd:s.data=b::a::r)(hv:binM c.toNat a b=some v)(hroom:r.length<256):Stx C 1 s (C.put s (i+1) (v::r)):=by
 refine PW.once h hw ?_ (by rw[qjA (qcT hc)];exact zNr 1);rw[qa6 rfl,qbF (qcT hc),qjM hc];unfold binW qdg;simp[hd,hv,hroom,PW.put]
theorem PW.opTrap(h:C.At s i)(hc:isOp c)(hw:C.W[i]? = some [c]){r:List Nat}(hd:s.data=b::a::r)(hv:binM c.toNat a b=none):∃ m,Stp C 0 s m/\stepM C m=.stop 12 s.out:=by
 refine⟨_,PW.ahead h hw,?_⟩;rw[qa6 rfl,qbF (qcT hc),qjM hc];unfold binW;simp[hd,hv]
theorem PW.jump(h:C.At s i){k:List Wd}(hw:C.W[i]? = some w)(hw2:C.W[i+1]? = some [63])(hr:refW w=some x)(hk:qbz x C.W=some k){r:List Nat}(hd:s.data=v::r)(hroom:r.length+1<256):Stx C 8 s { C.put s (i+2) r with pc:=if v=0 then k else C.plc (i+2) }:=by
 refine PW.once h hw ?_ (by rw[qeh hr];have:=qog s.digit;omega);rw[qa6 rfl,qdK hr,qiS hw2];unfold qhU qny;simp[hk,hd,hroom,PW.put]
theorem PW.call(h:C.At s i){k:List Wd}(hw:C.W[i]? = some w)(hw2:C.W[i+1]? = some [58])(hr:refW w=some x)(hk:qbz x C.W=some k)(hroom:s.data.length<256)(hc:s.calls.length<64):Stx C 8 s { s with pc:=k,calls:=C.plc (i+2)::s.calls,digit:=false }:=by
 refine PW.once h hw ?_ (by rw[qeh hr];have:=qog s.digit;omega);rw[qa6 rfl,qdK hr,qiS hw2];unfold qhU;simp[hk,hroom,hc]
end
end
def qlC(n:Nat)(c:UInt8):Prop:=n=0/\(c=43∨c=45∨c=94)∨n=1/\(c=42∨c=47)
inductive Kind (used:Wd->Bool):List Wd->List Wd->List Wd->Prop
 |fold {x y op z:Wd} {rest:List Wd}:qa2 x op y=some z->Kind used (x::y::op::rest) [z] rest
 |neutral {x:Wd} {n:Nat} {c:UInt8} {rest:List Wd}:numW x=some n->qlC n c->Kind used (x::[c]::rest) [] rest
 |regroup {x y z:Wd} {c:UInt8} {rest:List Wd}:(c=43∨c=42∨c=94)->qa2 x [c] y=some z->Kind used (x::[c]::y::[c]::rest) [z,[c]] rest
 |same {x:Wd} {n:Nat} {rest:List Wd}:numW x=some n->Kind used (x::[64]::x::[33]::rest) [] rest
 |double {w l:Wd} {rest:List Wd}:refW w=some l->Kind used ([49]::[60]::[49]::[60]::w::[63]::rest) [w,[63]] rest
 |never {x w l:Wd} {n:Nat} {rest:List Wd}:numW x=some n->n≠0->refW w=some l->Kind used (x::w::[63]::rest) [] rest
 |next {w l:Wd} {rest:List Wd}:refW w=some l->qf0 l rest=true->Kind used ([48]::w::[63]::rest) [] rest
 |deadJ {w l:Wd} {dead rest:List Wd}:refW w=some l->(∀ y∈dead,defW y=none)->(∀ y r,rest=y::r->(defW y).isSome=true)->Kind used ([48]::w::[63]::(dead++rest)) [[48],w,[63]] rest
 |deadS {c:UInt8} {dead rest:List Wd}:(c=59∨c=36)->(∀ y∈dead,defW y=none)->(∀ y r,rest=y::r->(defW y).isSome=true)->Kind used ([c]::(dead++rest)) [[c]] rest
 |unused {w l:Wd} {rest:List Wd}:defW w=some l->used l=false->Kind used (w::rest) [] rest
theorem qeC:numW [48]=some 0:=by decide +kernel
theorem qll:numW [49]=some 1:=by decide +kernel
theorem qk0(l:List Wd):∃ dead rest,l=dead++rest/\dead.length=qbY l/\(∀ y∈dead,defW y=none)/\(∀ y r,rest=y::r->(defW y).isSome=true):=by
 refine⟨l.takeWhile λw=>(defW w).isNone,l.dropWhile λw=>(defW w).isNone,(List.takeWhile_append_dropWhile).symm,rfl,λy hy=>?_,λy r h=>?_⟩
 have:(defW y).isNone=true:=by
  have key:∀ {p:Wd->Bool} {l:List Wd} {x:Wd},x∈l.takeWhile p->p x=true:=by
   intro p l
   induction l with
   |nil=>intro x hx;simp at hx
   |cons a r ih=>
    intro x hx;rw[List.takeWhile_cons] at hx;split at hx
    rename_i hp
    rcases zMi.1 hx with rfl|hx;exact hp;exact ih hx;simp at hx
  exact key (p:=λw=>(defW w).isNone) hy
 cases h:defW y with
 |none=>rfl
 |some x=>rw[h] at this;cases this
 have h2:=List.head?_dropWhile_not (λw=>(defW w).isNone) l;rw[h] at h2;simp only[List.head?_cons] at h2
 cases hd:defW y with
 |none=>rw[hd] at h2;simp at h2
 |some x=>rfl
theorem qsA(used:Wd->Bool)(v:List Wd)(h:(qa4 used v).1≠0):Kind used v (qa4 used v).2 (v.drop (qa4 used v).1):=by
 by_cases h1:∃ s,qdy v=some s
 obtain⟨s,h1⟩:=h1;rw[qux h1];have hlt:=qbW (qcS h1).2.1
 match v,hlt,h1 with
 |a::b::c::r,_,h1=>exact .fold h1
 have h1:qdy v=Option.none:=by
  cases h:qdy v with
  |none=>rfl
  |some s=>exact absurd ⟨s,h⟩ h1
 by_cases h2:qbV v
 rw[qtQ h1 h2]
 have hlt:1<v.length:=qbW (by
  rcases h2 with⟨_,h|h|h⟩|⟨_,h|h⟩ <;> (rw[h];decide))
 match v,hlt,h2 with
 |a::b::r,_,h2=>
  have h2:a=[48]/\(b=[43]∨b=[45]∨b=[94])∨a=[49]/\(b=[42]∨b=[47]):=h2;rcases h2 with⟨rfl,rfl|rfl|rfl⟩|⟨rfl,rfl|rfl⟩;exact .neutral qeC (.inl ⟨rfl,.inl rfl⟩);exact .neutral qeC (.inl ⟨rfl,.inr (.inl rfl)⟩);exact .neutral qeC (.inl ⟨rfl,.inr (.inr rfl)⟩);exact .neutral qll (.inr ⟨rfl,.inl rfl⟩);exact .neutral qll (.inr ⟨rfl,.inr rfl⟩)
 by_cases h3:qa0 v/\∃ s,qbr v=some s
 obtain⟨h3,s,h4⟩:=h3;rw[qum h1 h2 h3 h4];have h5:wdAt v 3≠[]:=by rw[h3.2];exact(qcS h4).2.1
 have hlt:=qbW h5
 match v,hlt,h3,h4 with
 |a::b::c::e::r,_,h3,h4=>
  obtain⟨k1,k2⟩:=h3;have k1:b=[43]∨b=[42]∨b=[94]:=k1;have k2:e=b:=k2;subst k2;have h4:qa2 a e c=some s:=h4;rcases k1 with rfl|rfl|rfl;exact .regroup (.inl rfl) h4;exact .regroup (.inr (.inl rfl)) h4;exact .regroup (.inr (.inr rfl)) h4
 have h3:¬ qa0 v∨qbr v=Option.none:=by
  by_cases hc:qa0 v
  exact zT30;exact .inl hc
 by_cases h4:qhe v
 rw[quG h1 h2 h3 h4];have hlt:3<v.length:=qbW (by rw[h4.2.2.2];decide)
 match v,hlt,h4 with
 |a::b::c::e::r,_,h4=>
  obtain⟨k1,k2,k3,k4⟩:=h4;have k1:(numW a).isSome=true:=k1;have k2:b=[64]:=k2;have k3:c=a:=k3;have k4:e=[33]:=k4;obtain⟨n,hn⟩:=zR k1;rw[k2,k3,k4];exact .same hn
 by_cases h5:qc5 v
 rw[qu2 h1 h2 h3 h4 h5];obtain⟨l,hl⟩:=zR h5.1;have h6:=qcC hl
 match v,h6,h5,hl with
 |a::b::c::e::f::g::r,_,h5,hl=>
  obtain⟨_,k2,k3,k4,k5⟩:=h5;have k2:a=[49]:=k2;have k3:b=[60]:=k3;have k4:c=[49]:=k4;have k5:e=[60]:=k5;subst k2 k3 k4 k5;unfold qdd at hl;split at hl
  rename_i x hx
  split at hl
  rename_i hy
  have hx:refW f=some x:=hx;have hy:g=[63]:=hy;subst hy;exact .double hx;cases hl;cases hl
 have jk:∀ {v:List Wd} {l:Wd},qdd v 1=some l->∃ a w r,v=a::w::[63]::r/\refW w=some l:=by
  intro v l hl;have h6:=qcC hl
  match v,h6,hl with
  |a::b::c::r,_,hl=>
   unfold qdd at hl;split at hl
   rename_i x hx
   split at hl
   rename_i hy
   have hx:refW b=some x:=hx;have hy:c=[63]:=hy;subst hy;injection hl with hl;subst hl;exact⟨_,_,_,rfl,hx⟩;cases hl;cases hl
 cases h6:qeg v with
 |true=>
  rw[qt8 h1 h2 h3 h4 h5 h6];unfold qeg at h6;split at h6
  rename_i n hn
  have h7:n≠0/\(qdd v 1).isSome=true:=by simpa using h6
  obtain⟨l,hl⟩:=zR h7.2;obtain⟨a,w,r,rfl,hw⟩:=jk hl;exact .never hn h7.1 hw
  cases h6
 |false=>
  cases h7:qik v with
  |true=>
   rw[qur h1 h2 h3 h4 h5 h6 h7];unfold qik at h7;split at h7
   ·rename_i l hl
    obtain⟨a,w,r,rfl,hw⟩:=jk hl;have h8:a=[48]/\qf0 l r=true:=by simpa [wdAt] using h7
    obtain⟨rfl,h8⟩:=h8;exact .next hw h8
   cases h7
  |false=>
   by_cases h8:qkB v
   rw[quc h1 h2 h3 h4 h5 h6 h7 h8];obtain⟨k1,k2⟩:=h8;simp only;unfold qco at k1 k2 ⊢;split at k1
   rename_i hj
   rw[zp hj] at k2 ⊢;obtain⟨l,hl⟩:=zR hj.1;obtain⟨a,w,r,rfl,hw⟩:=jk hl;have ha:a=[48]:=hj.2;subst ha;obtain⟨dead,rest,e1,e2,e3,e4⟩:=qk0 r;have hd:([48]::w::[63]::r).drop 3=r:=rfl;rw[hd,<-e2,e1]
   have h9:([48]::w::[63]::(dead++rest)).drop (3+dead.length)=rest:=by
    rw[add_comm,<-drop_drop]
    simp
   rw[h9];exact .deadJ hw e3 e4
   rename_i hj
   rw[zn hj] at k2 ⊢;split at k1
   rename_i hs
   rw[zp hs] at k2 ⊢
   match v,hs,k2 with
   |[],hs,_=>rcases hs with h|h <;> (exact absurd h zDd)
   |a::r,hs,k2=>
    have hs:a=[59]∨a=[36]:=hs;obtain⟨dead,rest,e1,e2,e3,e4⟩:=qk0 r;have hd:(a::r).drop 1=r:=rfl;rw[hd,<-e2,e1]
    have h9:(a::(dead++rest)).drop (1+dead.length)=rest:=by
     rw[add_comm,<-drop_drop]
     simp
    rw[h9];rcases hs with rfl|rfl;exact .deadS (.inl rfl) e3 e4;exact .deadS (.inr rfl) e3 e4
   exact absurd k1 zDd;rw[qtH h1 h2 h3 h4 h5 h6 h7 h8] at h ⊢;unfold qcv at h ⊢;split at h
   rename_i l hl
   split at h;exact absurd rfl h
   rename_i hu
   rw[zn hu]
   match v,hl with
   |[],hl=>
    have h0:defW (wdAt [] 0)=none:=by decide
    rw[h0] at hl
    cases hl
   |a::r,hl=>
    have hl:defW a=some l:=hl;exact .unused hl (by simpa using hu)
   exact absurd rfl h
theorem qeH(used:Wd->Bool):∀ (f:Nat) (v:List Wd),v.length<=f->qcw used f v=qcw used v.length v
 |0,v,h=>by
  obtain rfl:=eq_nil_of_length_eq_zero (Nat.le_zero.1 h)
  rfl
 |f+1,[],_=>rfl
 |f+1,w::r,h=>by
  simp only[zLc] at h ⊢;rw[qcw,qcw];split;rw[qeH used f r (by omega)]
  rename_i h0
  have:=qfn used (w::r) h0
  have hl:((w::r).drop (qa4 used (w::r)).1).length<=r.length:=by
   rw[length_drop,zLc];omega
  rw[qeH used f _ (by omega),qeH used r.length _ hl]
def O(used:Wd->Bool)(v:List Wd):List Wd:=qcw used v.length v
theorem qkI(used:Wd->Bool)(w:Wd)(r:List Wd):(O used (w::r)=w::O used r/\(qa4 used (w::r)).1=0)∨∃ p rest,Kind used (w::r) p rest/\O used (w::r)=p++O used rest/\rest.length<=r.length:=by
 unfold O;rw[zLc,qcw];split
 rename_i h
 exact .inl ⟨rfl,h⟩
 rename_i h
 have hok:=qfn used (w::r) h
 have hl:((w::r).drop (qa4 used (w::r)).1).length<=r.length:=by
  rw[length_drop,zLc];omega
 exact .inr ⟨_,_,qsA used _ h,by rw[qeH used r.length _ hl],hl⟩
theorem qiy(h:qlC n c):isOp c:=by
 unfold isOp;rcases h with⟨_,rfl|rfl|rfl⟩|⟨_,rfl|rfl⟩ <;> decide
theorem qqZ{used:Wd->Bool}(hc:c=63∨c=58)(h:Kind used ([c]::r) p rest):False:=by
 have hn:numW [c]=none/\defW [c]=none:=by rcases hc with rfl|rfl <;> decide +kernel
 generalize hv:[c]::r=v at h
 have hj:∀ {x op y z:Wd},qa2 x op y=some z->numW x≠none:=λhj e=>by
  unfold qa2 at hj;rw[e] at hj;cases hj
 cases h with
 |fold h1=>injection hv with e _;exact hj h1 (by rw[<-e];exact hn.1)
 |neutral h1 _=>injection hv with e _;rw[<-e,hn.1] at h1;cases h1
 |regroup _ h1=>injection hv with e _;exact hj h1 (by rw[<-e];exact hn.1)
 |same h1=>injection hv with e _;rw[<-e,hn.1] at h1;cases h1
 |double _=>injection hv with e _;injection e with e _;rcases hc with rfl|rfl <;> exact absurd e zDd
 |never h1 _ _=>injection hv with e _;rw[<-e,hn.1] at h1;cases h1
 |next _ _=>injection hv with e _;injection e with e _;rcases hc with rfl|rfl <;> exact absurd e zDd
 |deadJ _ _ _=>injection hv with e _;injection e with e _;rcases hc with rfl|rfl <;> exact absurd e zDd
 |deadS h1 _ _=>injection hv with e _;injection e with e _;rw[<-e] at h1;rcases hc with rfl|rfl <;> exact absurd h1 zDd
 |unused h1 _=>injection hv with e _;rw[<-e,hn.2] at h1;cases h1
theorem qmW(used:Wd->Bool)(hc:c=63∨c=58)(r:List Wd):O used ([c]::r)=[c]::O used r:=by
 rcases qkI used [c] r with⟨h,_⟩|⟨p,rest,h,_⟩;exact h;exact(qqZ hc h).elim
theorem qt2{used:Wd->Bool}(hw:refW w=some x)(h:Kind used (w::r) p rest):False:=by
 have hn:numW w=none/\defW w=none:=⟨qg9 hw,qa5 hw⟩
 have hc:∀ c:UInt8,c≠38->w≠[c]:=λc h38 e=>by
  rw[e] at hw;unfold refW at hw;simp only[h38,false_and,if_false] at hw;cases hw
 generalize hv:w::r=v at h
 have hj:∀ {x op y z:Wd},qa2 x op y=some z->numW x≠none:=λhj e=>by
  unfold qa2 at hj;rw[e] at hj;cases hj
 cases h with
 |fold h1=>injection hv with e _;exact hj h1 (by rw[<-e];exact hn.1)
 |neutral h1 _=>injection hv with e _;rw[<-e,hn.1] at h1;cases h1
 |regroup _ h1=>injection hv with e _;exact hj h1 (by rw[<-e];exact hn.1)
 |same h1=>injection hv with e _;rw[<-e,hn.1] at h1;cases h1
 |double _=>injection hv with e _;exact hc 49 zDd e
 |never h1 _ _=>injection hv with e _;rw[<-e,hn.1] at h1;cases h1
 |next _ _=>injection hv with e _;exact hc 48 zDd e
 |deadJ _ _ _=>injection hv with e _;exact hc 48 zDd e
 |deadS h1 _ _=>
  injection hv with e _;rcases h1 with rfl|rfl;exact hc 59 zDd e
  exact hc 36 zDd e
 |unused h1 _=>injection hv with e _;rw[<-e,hn.2] at h1;cases h1
theorem O_ref(used:Wd->Bool)(hw:refW w=some x)(r:List Wd):O used (w::r)=w::O used r:=by
 rcases qkI used w r with⟨h,_⟩|⟨p,rest,h,_⟩;exact h;exact(qt2 hw h).elim
inductive Ends (C:PW):Nat->MS->Nat->Wd->Nat->Prop
 |stop {s:MS} {e:Nat} {o:Wd}:stepM C s=.stop e o->e≠99->Ends C 0 s e o 1
 |step {n k e:Nat} {o:Wd} {s s':MS}:stepM C s=.run s'->Ends C n s' e o k->Ends C (n+1) s e o (qb1 s+k)
theorem qu8{C:PW}(h:Stp C k s s')(hs:stepM C s'=.stop e o)(he:e≠99):∃ n,Ends C n s e o (k+1):=by
 induction h with
 |zero s=>exact⟨0,.stop hs he⟩
 |@step k s s' s2 h1 _ ih=>
  obtain⟨n,h2⟩:=ih hs;refine⟨n+1,?_⟩;rw[add_assoc];exact .step h1 h2
section
variable{C:PW}{n k e:Nat}{o:Wd}{s s':MS}{r:List Wd}
theorem qdL(h:Ends C n s e o k)(hs:stepM C s=.run s'):∃ m j,n=m+1/\k=qb1 s+j/\Ends C m s' e o j:=by
 cases h with
 |stop h1 _=>rw[h1] at hs;cases hs
 |step h1 h2=>
  rw[h1] at hs;injection hs with hs;subst hs;exact⟨_,_,rfl,rfl,h2⟩
theorem qbo(h:Ends C n s e o k){o':Wd}(hs:stepM C s=.stop 99 o'):False:=by
 cases h with
 |stop h1 h2=>rw[h1] at hs;injection hs with hs;exact h2 hs
 |step h1 _=>rw[h1] at hs;cases hs
theorem qjl{t:MS}{f:Bool}(h:Ends C n s e o k)(hs:stepM C s=qdg t r d v f)(ht:t.out=s.out):d.length<256/\∃ m j,n=m+1/\k=qb1 s+j/\Ends C m { t with pc:=r,data:=v::d,digit:=f } e o j:=by
 unfold qdg at hs;split at hs
 rename_i hl
 exact⟨hl,qdL h hs⟩;exact(qbo h hs).elim
theorem qcq(hw:numW w=some v)(hv:s.pc=w::r)(h:Ends C n s e o k):s.data.length<256/\∃ m j,n=m+1/\k=w.length+Go.Stele.one s.digit+j/\Ends C m { s with pc:=r,data:=v::s.data,digit:=true } e o j:=by
 have h1:=qjl (t:=s) h (by rw[qa6 hv,qfc hw]) rfl;have hc:qb1 s=w.length+Go.Stele.one s.digit:=by unfold qb1;rw[hv];exact qfd hw
 rw[hc] at h1;exact h1
theorem qla(hc:c∈qc0)(hv:s.pc=[c]::r):qb1 s=1:=by unfold qb1;rw[hv];exact qjA hc
theorem qic(hc:isOp c)(hv:s.pc=[c]::r)(hd:s.data=b::a::d)(hb:binM c.toNat a b=some v)(h:Ends C n s e o k):∃ m j,n=m+1/\k=1+j/\Ends C m { s with pc:=r,data:=v::d,digit:=false } e o j:=by
 have h1:=qjl (t:=s) h (by
  rw[qa6 hv,qbF (qcT hc),qjM hc];unfold binW;rw[hd];simp only
  rw[hb]) rfl
 rw[qla (qcT hc) hv] at h1;exact h1.2
theorem qhs(hr:refW w=some l)(hv:s.pc=w::[63]::r)(hd:s.data=a::d)(h:Ends C n s e o k):∃ t,qbz l C.W=some t/\s.data.length<256/\∃ m j,n=m+1/\k=7+Go.Stele.one s.digit+j/\Ends C m { s with pc:=if a=0 then t else r,data:=d,digit:=false } e o j:=by
 have hs:stepM C s=qhU C s l ([63]::r):=by rw[qa6 hv,qdK hr]
 have hc:qb1 s=7+Go.Stele.one s.digit:=by unfold qb1;rw[hv];exact qeh hr
 unfold qhU at hs
 cases ht:qbz l C.W with
 |none=>rw[ht] at hs;exact(qbo h hs).elim
 |some t=>
  rw[ht] at hs;simp only at hs;split at hs
  rename_i hl
  unfold qny at hs;rw[hd] at hs;simp only[if_true] at hs;have h1:=qdL h hs;rw[hc] at h1;exact⟨t,rfl,hl,h1⟩;exact(qbo h hs).elim
end
theorem qgP{x:Wd}:∀ (a b:List Wd),x ∉ defs a->qbz x (a++b)=qbz x b
 |[],b,_=>rfl
 |w::a,b,h=>by
  rw[qcV] at h;have hne:¬ defW w=some x:=λe=>h (by rw[e];simp);rw[cons_append,qbz,zn hne];exact qgP a b λhx=>h (zRe (.inr hx))
theorem qqo{used:Wd->Bool}{w:Wd}{r:List Wd}(h:(qa4 used (w::r)).1≠0):(∀ d∈defs ((w::r).take (qa4 used (w::r)).1),used d=false)/\defs (qa4 used (w::r)).2=[]:=⟨(qgY used _ h).took,(qgY used _ h).put⟩
theorem qwP(used:Wd->Bool)(hx:used x=true):∀ (n:Nat) (v k:List Wd),v.length<=n->qbz x v=some k->qbz x (O used v)=some (O used k):=by
 intro n
 induction n with
 |zero=>
  intro v k hn h;obtain rfl:=eq_nil_of_length_eq_zero (Nat.le_zero.1 hn)
  cases h
 |succ n ih=>
  intro v k hn h
  cases v with
  |nil=>cases h
  |cons w r=>
   rw[zLc] at hn
   by_cases h0:(qa4 used (w::r)).1=0
   have e:O used (w::r)=w::O used r:=by
    unfold O;rw[zLc,qcw,zp h0]
   rw[e,qbz];rw[qbz] at h;split at h
   rename_i hd
   rw[zp hd];injection h with h;rw[h]
   rename_i hd
   rw[zn hd];exact ih r k (by omega) h;have hok:=qfn used (w::r) h0;obtain⟨f1,f2⟩:=qqo h0
   have e:O used (w::r)=(qa4 used (w::r)).2++O used ((w::r).drop (qa4 used (w::r)).1):=by
    unfold O;rw[zLc,qcw,zn h0,qeH used r.length _ (by rw[length_drop,zLc];omega)]
   rw[e,qgP _ _ (by rw[f2];simp)]
   have h2:qbz x (w::r)=qbz x ((w::r).drop (qa4 used (w::r)).1):=by
    conv=>lhs;rw[<-List.take_append_drop (qa4 used (w::r)).1 (w::r)]
    exact qgP _ _ λhm=>by rw[f1 x hm] at hx;cases hx
   rw[h2] at h;exact ih _ k (by rw[length_drop,zLc];omega) h
theorem qem{x:Wd}:∀ {W k:List Wd},qbz x W=some k->∃ p w,W=p++w::k/\defW w=some x
 |[],k,h=>by cases h
 |w::r,k,h=>by
  rw[qbz] at h;split at h
  rename_i hd
  injection h with h;subst h;exact⟨[],w,rfl,hd⟩;obtain⟨p,w',h1,h2⟩:=qem h;exact⟨w::p,w',by rw[h1];try rfl,h2⟩
theorem qt9{l:List Wd}(h:w∈l)(hd:defW w=some x):x∈defs l:=List.mem_filterMap.2 ⟨w,h,hd⟩
theorem qkG{l:Wd}:∀ {rest:List Wd},qf0 l rest=true->∃ ds k,rest=ds++k/\qbz l rest=some k/\(∀ w∈ds,(defW w).isSome=true)
 |[],h=>by cases h
 |w::r,h=>by
  rw[qf0] at h
  cases hd:defW w with
  |none=>rw[hd] at h;cases h
  |some d=>
   rw[hd] at h;simp only[Bool.or_eq_true,zDe] at h
   by_cases he:d=l
   ·subst he;exact⟨[w],r,rfl,by rw[qbz,zp hd],λy hy=>by rw[zRa hy,hd];try rfl⟩
   obtain⟨ds,k,h1,h2,h3⟩:=qkG (rest:=r) (by rcases h with h|h;exact absurd h he;exact h);refine⟨w::ds,k,by rw[h1];try rfl,?_,λy hy=>?_⟩;rw[qbz,zn (by rw[hd];intro e;injection e with e;exact he e)];exact h2;rcases zMi.1 hy with rfl|hy
   ·rw[hd];try rfl
   exact h3 y hy
theorem qqt{k:List Wd}(hn:(defs W).Nodup)(hW:W=p++rest)(h:qbz l rest=some k):qbz l W=some k:=by
 obtain⟨q,w,h1,h2⟩:=qem h;rw[hW,qcE] at hn;have h3:=(zRc hn).2.2;rw[hW,qgP _ _ λhm=>h3 l hm l (qt9 (by rw[h1];simp) h2) rfl];exact h
theorem qvv(used:Wd->Bool):∀ (ds k:List Wd),(∀ w∈ds,(defW w).isSome=true)->∃ es,O used (ds++k)=es++O used k/\∀ w∈es,(defW w).isSome=true
 |[],k,_=>⟨[],rfl,λw hw=>by cases hw⟩
 |w::ds,k,h=>by
  obtain⟨es,h1,h2⟩:=qvv used ds k λy hy=>h y (zMo _ hy);obtain⟨x,hx⟩:=zR (h w zMs);rw[cons_append];rcases qkI used w (ds++k) with⟨e,_⟩|⟨p,rest,q,e,_⟩
  ·refine⟨w::es,by rw[e,h1];try rfl,λy hy=>?_⟩;rcases zMi.1 hy with rfl|hy
   ·rw[hx];try rfl
   exact h2 y hy
  rw[e];generalize hv:w::(ds++k)=v at q
  have hnum:numW w=none:=by
   cases hq:numW w with
   |none=>rfl
   |some n=>rw[(qbs hq).1] at hx;cases hx
  have hne:∀ c:UInt8,defW [c]=none->w≠[c]:=λc hc e=>by rw[e,hc] at hx;cases hx
  have hj:∀ {x op y z:Wd},qa2 x op y=some z->numW x≠none:=λhj e=>by
   unfold qa2 at hj;rw[e] at hj;cases hj
  cases q with
  |fold q=>injection hv with e _;exact absurd (by rw[<-e];exact hnum) (hj q)
  |neutral q _=>injection hv with e _;rw[<-e,hnum] at q;cases q
  |regroup _ q=>injection hv with e _;exact absurd (by rw[<-e];exact hnum) (hj q)
  |same q=>injection hv with e _;rw[<-e,hnum] at q;cases q
  |double _=>injection hv with e _;exact absurd e (hne 49 (qbs qll).1)
  |never q _ _=>injection hv with e _;rw[<-e,hnum] at q;cases q
  |next _ _=>injection hv with e _;exact absurd e (hne 48 (qbs qeC).1)
  |deadJ _ _ _=>injection hv with e _;exact absurd e (hne 48 (qbs qeC).1)
  |@deadS c _ _ q _ _=>injection hv with e _;exact absurd e (hne c (by rcases q with rfl|rfl <;> decide +kernel))
  |unused q _=>
   injection hv with e1 e2;subst e2;exact⟨es,h1,h2⟩
structure Sim(used:Wd->Bool)(s t:MS):Prop where
 pc:t.pc=O used s.pc
 data:t.data=s.data
 calls:t.calls=s.calls.map (O used)
 mem:t.mem=s.mem
 inp:t.inp=s.inp
 out:t.out=s.out
structure Fine(W:List Wd)(s:MS):Prop where
 data:∀ v∈s.data,v<4294967296
 mem:∀ a,s.mem a<4294967296
 inp:∀ v∈s.inp,v<4294967296
 here:∃ p,W=p++s.pc
 calls:∀ c∈s.calls,∃ p,W=p++c
def pen(g f:Bool):Nat:=if g=true/\f=false then 1 else 0
theorem qv3(g f:Bool):Go.Stele.one g<=Go.Stele.one f+pen g f:=by cases g <;> cases f <;> decide
theorem qkY(g f:Bool):pen g f<=1:=by cases g <;> cases f <;> decide
theorem qej(f:Bool):pen f f=0:=by cases f <;> decide
theorem qo9{c:Nat}(ha:a<4294967296)(hb:b<4294967296)(h:binM c a b=some v):v<4294967296:=by
 unfold binM at h;split at h;injection h with h;omega;split at h;injection h with h;omega;split at h;injection h with h;rw[<-h];exact Nat.mod_lt _ zDd;split at h;split at h;cases h;injection h with h;rw[<-h];exact Nat.lt_of_le_of_lt (Nat.div_le_self a b) ha;split at h;split at h;cases h;injection h with h;rw[<-h];exact Nat.lt_of_le_of_lt (Nat.mod_le a b) ha;split at h;injection h with h;rw[<-h];exact Nat.xor_lt_two_pow (n:=32) ha hb;injection h with h;rw[<-h];split <;> decide
theorem qnO(ha:a<4294967296)(h:qlC n c):binM c.toNat a n=some a:=by
 rcases h with⟨rfl,rfl|rfl|rfl⟩|⟨rfl,rfl|rfl⟩;show some ((a+0) % 4294967296)=_;rw[add_zero,mod_eq_of_lt ha];show some ((a+4294967296-0) % 4294967296)=_;rw[Nat.sub_zero,Nat.add_mod_right,mod_eq_of_lt ha];show some (a ^^^ 0)=_;rw[Nat.xor_zero];show some (a * 1 % 4294967296)=_;rw[Nat.mul_one,mod_eq_of_lt ha];show some (a / 1)=_;rw[Nat.div_one]
section
variable{W:List Wd}{D:Nat->Bool}{n k e:Nat}{o:Wd}{s s' t:MS}{r:List Wd}
theorem qt3{C:PW}{c:Nat}(h:Stp C c s s')(g:Ends C n s' e o k):∃ m,Ends C m s e o (c+k):=by
 induction h with
 |zero s=>exact⟨n,by rw[zero_add];exact g⟩
 |@step c s s' s2 h1 _ ih=>
  obtain⟨m,h2⟩:=ih g;exact⟨m+1,by rw[add_assoc];exact .step h1 h2⟩
theorem qly{C:PW}(hc:isOp c)(hv:s.pc=[c]::r)(h:Ends C n s e o k):∃ b a d,s.data=b::a::d:=by
 have hs:stepM C s=binW s c r:=by rw[qa6 hv,qbF (qcT hc),qjM hc]
 unfold binW at hs
 match hd:s.data with
 |b::a::d=>exact⟨b,a,d,rfl⟩
 |[]=>rw[hd] at hs;exact(qbo h hs).elim
 |[_]=>rw[hd] at hs;exact(qbo h hs).elim
theorem qta{C:PW}(hv:s.pc=[64]::r)(hd:s.data=a::d)(h:Ends C n s e o k):C.D a=true/\∃ m j,n=m+1/\k=1+j/\Ends C m { s with pc:=r,data:=s.mem a::d,digit:=false } e o j:=by
 have hs:stepM C s=qoy C.D s r:=by rw[qa6 hv,qbF zDd];try rfl
 unfold qoy at hs;rw[hd] at hs;simp only at hs;split at hs
 rename_i hD
 have h1:=qjl (t:=s) h hs rfl;rw[qla zDd hv] at h1;exact⟨hD,h1.2⟩;exact(qbo h hs).elim
theorem qqb{C:PW}{x:Nat}(hv:s.pc=[33]::r)(hd:s.data=a::x::d)(h:Ends C n s e o k):∃ m j,n=m+1/\k=1+j/\Ends C m { s with pc:=r,data:=d,mem:=λi=>if i=a then x else s.mem i,digit:=false } e o j:=by
 have hs:stepM C s=qja C.D s r:=by rw[qa6 hv,qbF zDd];try rfl
 unfold qja at hs;rw[hd] at hs;simp only at hs;split at hs;have h1:=qdL h hs;rw[qla zDd hv] at h1;exact h1;exact(qbo h hs).elim
theorem Fine.to(h:Fine W s)(hpc:∃ p,W=p++s'.pc)(hd:∀ v∈s'.data,v<4294967296)(hm:s'.mem=s.mem)(hi:s'.inp=s.inp)(hc:s'.calls=s.calls):Fine W s':=
 ⟨hd,by rw[hm];exact h.mem,by rw[hi];exact h.inp,hpc,by rw[hc];exact h.calls⟩
theorem qaY(h:∃ p,W=p++w::r):∃ p,W=p++r:=by
 obtain⟨p,hp⟩:=h;exact⟨p++[w],by rw[hp,zAs];try rfl⟩
theorem qeT{q:List Wd}(h:qbz x W=some q):∃ p,W=p++q:=by
 obtain⟨p,w,h1,_⟩:=qem h;exact qaY ⟨p,h1⟩
theorem qos(h:∃ p,W=p++w::r)(hx:refW w=some x):qaK W x=true:=by
 obtain⟨p,hp⟩:=h;exact List.any_eq_true.2 ⟨w,by rw[hp];simp,by simp[hx]⟩
theorem qie{q:List Wd}(hu:qaK W x=true)(h:qbz x W=some q):qbz x (O (qaK W) W)=some (O (qaK W) q):=qwP _ hu _ _ _ (zNr _) h
theorem quK(hS:Sim (qaK W) s t)(hF:Fine W s)(hr:∃ p,W=p++r):match qgk D s c r with
  |.run s1=>∃ t1,qgk D t c (O (qaK W) r)=.run t1/\Sim (qaK W) s1 t1/\t1.digit=false/\s1.digit=false/\Fine W s1
  |.stop e o=>qgk D t c (O (qaK W) r)=.stop e o:=by
 obtain⟨mem,pc,data,calls,inp,out,digit⟩:=s;obtain⟨mem',pc',data',calls',inp',out',digit'⟩:=t;obtain⟨h1,h2,h3,h4,h5,h6⟩:=hS;simp only at h1 h2 h3 h4 h5 h6;subst h1 h2 h3 h4 h5 h6;obtain⟨f1,f2,f3,f4,f5⟩:=hF;simp only at f1 f2 f3 f4 f5
 have hpush:∀ (i:List Nat) (d:List Nat) (v:Nat),(∀ x∈i,x<4294967296)->(∀ x∈d,x<4294967296)->v<4294967296->∀ (q q':List Wd) (b b':Bool),match qdg ⟨mem',q,data',calls,i,out',b⟩ r d v false with
   |.run s1=>∃ t1,qdg ⟨mem',q',data',calls.map (O (qaK W)),i,out',b'⟩ (O (qaK W) r) d v false=.run t1/\Sim (qaK W) s1 t1/\t1.digit=false/\s1.digit=false/\Fine W s1
   |.stop e o=>qdg ⟨mem',q',data',calls.map (O (qaK W)),i,out',b'⟩ (O (qaK W) r) d v false=.stop e o:=by
  intro i d v hi hd hv q q' b b';unfold qdg
  by_cases hl:d.length<256
  rw[zp hl,zp hl];refine⟨_,rfl,⟨rfl,rfl,rfl,rfl,rfl,rfl⟩,rfl,rfl,⟨λx hx=>?_,f2,hi,hr,f5⟩⟩;rcases zMi.1 hx with rfl|hx;exact hv;exact hd x hx;rw[zn hl,zn hl]
  try rfl
 unfold qgk
 by_cases c1:c=64
 ·rw[zp c1,zp c1];unfold qoy
  cases data' with
  |nil=>rfl
  |cons a d=>
   simp only
   by_cases hD:D a=true
   ·rw[zp hD,zp hD];have hd:=λx hx=>f1 x (zMo a hx);unfold qdg
    by_cases hl:d.length<256
    rw[zp hl,zp hl];refine⟨_,rfl,⟨rfl,rfl,rfl,rfl,rfl,rfl⟩,rfl,rfl,⟨λx hx=>?_,f2,f3,hr,f5⟩⟩;rcases zMi.1 hx with rfl|hx;exact f2 a;exact hd x hx;rw[zn hl,zn hl]
    try rfl
   rw[zn hD,zn hD]
   try rfl
 rw[zn c1,zn c1]
 by_cases c2:c=33
 ·rw[zp c2,zp c2];unfold qja
  match data',f1 with
  |[],_=>rfl
  |[_],_=>rfl
  |a::x::d,f1=>
   simp only
   by_cases hD:D a=true
   rw[zp hD,zp hD];refine⟨_,rfl,⟨rfl,rfl,rfl,rfl,rfl,rfl⟩,rfl,rfl,⟨λy hy=>f1 y (zMo _ (zMo _ hy)),λi=>?_,f3,hr,f5⟩⟩;simp only;split;exact f1 x (by simp);exact f2 i;rw[zn hD,zn hD]
   try rfl
 rw[zn c2,zn c2]
 by_cases c3:c=59
 rw[zp c3,zp c3];unfold qmU
 cases calls with
 |nil=>rfl
 |cons q l=>exact⟨_,rfl,⟨rfl,rfl,rfl,rfl,rfl,rfl⟩,rfl,rfl,⟨f1,f2,f3,f5 q zMs,λc hc=>f5 c (zMo _ hc)⟩⟩
 rw[zn c3,zn c3]
 by_cases c4:c=44
 rw[zp c4,zp c4];refine hpush inp'.tail data' _ (λx hx=>f3 x (List.mem_of_mem_tail hx)) f1 ?_ _ _ _ _
 cases inp' with
 |nil=>show(4294967295:Nat)<_;decide
 |cons v l=>exact f3 v zMs
 rw[zn c4,zn c4]
 by_cases c5:c=46
 rw[zp c5,zp c5];unfold qmJ
 cases data' with
 |nil=>rfl
 |cons a d=>exact⟨_,rfl,⟨rfl,rfl,rfl,rfl,rfl,rfl⟩,rfl,rfl,⟨λx hx=>f1 x (zMo _ hx),f2,f3,hr,f5⟩⟩
 rw[zn c5,zn c5]
 by_cases c6:c=36
 rw[zp c6,zp c6];rw[zn c6,zn c6]
 by_cases c7:c=43∨c=45∨c=42∨c=47∨c=37∨c=94∨c=60
 ·rw[zp c7,zp c7];unfold binW
  match data',f1 with
  |[],_=>rfl
  |[_],_=>rfl
  |b::a::d,f1=>
   simp only
   cases hb:binM c.toNat a b with
   |none=>rfl
   |some v=>
    simp only;have hv:=qo9 (f1 a (by simp)) (f1 b (by simp)) hb;unfold qdg
    by_cases hl:d.length<256
    rw[zp hl,zp hl];refine⟨_,rfl,⟨rfl,rfl,rfl,rfl,rfl,rfl⟩,rfl,rfl,⟨λx hx=>?_,f2,f3,hr,f5⟩⟩;rcases zMi.1 hx with rfl|hx;exact hv;exact f1 x (zMo _ (zMo _ hx));rw[zn hl,zn hl]
    try rfl
 rw[zn c7,zn c7]
 try rfl
def oneW(C:PW)(u:MS)(w:Wd)(v:List Wd):MR:=match w with
 |[c]=>qgk C.D u c v
 |_=>lost u
theorem qhZ{C:PW}{u:MS}{v:List Wd}(hd:defW w=none)(hn:numW w=none)(hr:refW w=none):qhF C u w v=oneW C u w v:=by
 unfold qhF oneW;rw[hd];simp only;rw[hn];simp only;rw[hr]
 try rfl
theorem qiD{op y z:Wd}(h:qa2 x op y=some z):∃ a b c ch,numW x=some a/\numW y=some b/\op=[ch]/\isOp ch/\binM ch.toNat a b=some c/\numW z=some c/\z.length<=x.length+y.length+1/\c<4294967296:=by
 have hl:=qeM h;unfold qa2 at h;split at h
 rename_i a b ha hb
 split at h
 rename_i c hc
 split at h;injection h with h;have hlt:=qkn ((qcO _ _).1 ha).1 ((qcO _ _).1 hb).1 hc;obtain⟨ch,h1,h2,h3⟩:=qtE hc;exact⟨a,b,c,ch,ha,hb,h1,h2,h3,by rw[<-h];exact qdM hlt,hl,hlt⟩;cases h;cases h;cases h
end
theorem qrb{D:Nat->Bool}(hn:(defs W).Nodup):∀ (n:Nat) (s t:MS) (e:Nat) (o:Wd) (k:Nat),Ends ⟨W,D⟩ n s e o k->Sim (qaK W) s t->Fine W s->∃ n' k',Ends ⟨O (qaK W) W,D⟩ n' t e o k'/\k'<=k+pen t.digit s.digit:=by
 intro n
 induction n using Nat.strongRecOn with
 |ind n ih=>
 intro s t e o k h hS hF;have hT:=hF.here
 cases hv:s.pc with
 |nil=>
  exact(qbo h (o':=s.out) (by unfold stepM;rw[hv];try rfl)).elim
 |cons w r=>
  rw[hv] at hT;have hp:=hS.pc;rw[hv] at hp;have hpo:=qv3 t.digit s.digit;have hple:=qkY t.digit s.digit;rcases qkI (qaK W) w r with⟨eO,_⟩|⟨p,rest,q,eO,_⟩
  ·rw[eO] at hp
   cases hd:defW w with
   |some x=>
    obtain⟨m,j,rfl,rfl,h1⟩:=qdL h (qiZ hv hd);obtain⟨n',k',g1,g2⟩:=ih m (by omega) _ { t with pc:=O (qaK W) r } e o j h1 ⟨rfl,hS.data,hS.calls,hS.mem,hS.inp,hS.out⟩ (hF.to (qaY hT) hF.data rfl rfl rfl);refine⟨_,_,.step (qiZ hp hd) g1,?_⟩;rw[qgQ hp hd,qgQ hv hd];simp only at g2
    omega
   |none=>
    cases hnum:numW w with
    |some v=>
     obtain⟨hl,m,j,rfl,rfl,h1⟩:=qcq hnum hv h
     obtain⟨n',k',g1,g2⟩:=ih m (by omega) _ { t with pc:=O (qaK W) r,data:=v::s.data,digit:=true } e o j h1 ⟨rfl,rfl,hS.calls,hS.mem,hS.inp,hS.out⟩ (hF.to (qaY hT) (λx hx=>by
      rcases zMi.1 hx with rfl|hx;exact qji hnum
      exact hF.data x hx) rfl rfl rfl)
     refine⟨_,_,.step (s':={ t with pc:=O (qaK W) r,data:=v::s.data,digit:=true }) ?_ g1,?_⟩;rw[qa6 hp,qfc hnum];unfold qdg;rw[hS.data,zp hl];have hc:qb1 t=w.length+Go.Stele.one t.digit:=by unfold qb1;rw[hp];exact qfd hnum
     rw[hc];simp only[qej] at g2
     omega
    |none=>
     cases hr:refW w with
     |some x=>
      have hu:=qos hT hr;have hs:stepM ⟨W,D⟩ s=qhU ⟨W,D⟩ s x r:=by rw[qa6 hv,qdK hr]
      have hc:qb1 s=7+Go.Stele.one s.digit:=by unfold qb1;rw[hv];exact qeh hr
      have hct:qb1 t=7+Go.Stele.one t.digit:=by unfold qb1;rw[hp];exact qeh hr
      unfold qhU at hs
      cases hk:qbz x W with
      |none=>simp only[hk] at hs;exact(qbo h hs).elim
      |some kk=>
       have hk2:=qie hu hk
       cases r with
       |nil=>simp only[hk] at hs;exact(qbo h hs).elim
       |cons y r=>
        simp only[hk] at hs
        by_cases hl:s.data.length<256
        rotate_left;rw[zn hl] at hs;exact(qbo h hs).elim;rw[zp hl] at hs
        by_cases hy:y=[63]
        subst hy;rw[zp rfl] at hs;rw[qmW _ (.inl rfl)] at hp;unfold qny at hs
        cases hdat:s.data with
        |nil=>rw[hdat] at hs;exact(qbo h hs).elim
        |cons a d=>
         rw[hdat] at hs;simp only at hs;obtain⟨m,j,rfl,rfl,h1⟩:=qdL h hs;have hf:=hF.data;rw[hdat] at hf
         obtain⟨n',k',g1,g2⟩:=ih m (by omega) _ { t with pc:=if a=0 then O (qaK W) kk else O (qaK W) r,data:=d,digit:=false } e o j h1 ⟨by simp only;split <;> rfl,rfl,hS.calls,hS.mem,hS.inp,hS.out⟩ (hF.to (by
          simp only;split;exact qeT hk
          exact qaY (qaY hT)) (λx hx=>hf x (zMo _ hx)) rfl rfl rfl)
         refine⟨_,_,.step (s':={ t with pc:=if a=0 then O (qaK W) kk else O (qaK W) r,data:=d,digit:=false }) ?_ g1,?_⟩;rw[qa6 hp,qdK hr];unfold qhU qny;have hl':(a::d).length<256:=by rw[<-hdat];exact hl
         simp only[hk2,hS.data,hdat,if_true];rw[zp hl'];rw[hct,hc];simp only[qej] at g2;omega
        rw[zn hy] at hs
        by_cases hy2:y=[58]
        rotate_left;rw[zn hy2] at hs;exact(qbo h hs).elim;subst hy2;rw[zp rfl] at hs;rw[qmW _ (.inr rfl)] at hp
        by_cases hcl:s.calls.length<64
        rotate_left;rw[zn hcl] at hs;exact(qbo h hs).elim;rw[zp hcl] at hs;obtain⟨m,j,rfl,rfl,h1⟩:=qdL h hs
        obtain⟨n',k',g1,g2⟩:=ih m (by omega) _ { t with pc:=O (qaK W) kk,calls:=O (qaK W) r::t.calls,digit:=false } e o j h1 ⟨rfl,hS.data,by simp only[zMc];rw[hS.calls],hS.mem,hS.inp,hS.out⟩ ⟨hF.data,hF.mem,hF.inp,qeT hk,λc hc=>by
         rcases zMi.1 hc with rfl|hc;exact qaY (qaY hT)
         exact hF.calls c hc⟩
        refine⟨_,_,.step (s':={ t with pc:=O (qaK W) kk,calls:=O (qaK W) r::t.calls,digit:=false }) ?_ g1,?_⟩;rw[qa6 hp,qdK hr];unfold qhU;have hcl2:t.calls.length<64:=by rw[hS.calls,zLm];exact hcl
        simp[hk2,hS.data,hl,hcl2];rw[hct,hc];simp only[qej] at g2
        omega
     |none=>
      have hcost:∀ (u:MS) (v:List Wd),u.pc=w::v->qb1 u=1:=λu v hu=>by
       unfold qb1 qjL;rw[hu];simp[hd,hnum,hr]
      have hs:stepM ⟨W,D⟩ s=_:=(qa6 hv).trans (qhZ hd hnum hr);have hs2:stepM ⟨O (qaK W) W,D⟩ t=_:=(qa6 hp).trans (qhZ hd hnum hr);rcases w with _|⟨c,_|⟨c2,w2⟩⟩;exact(qbo h hs).elim;rotate_left;exact(qbo h hs).elim;have hs:stepM ⟨W,D⟩ s=qgk D s c r:=hs;have hs2:stepM ⟨O (qaK W) W,D⟩ t=qgk D t c (O (qaK W) r):=hs2;have key:=quK (D:=D) (c:=c) hS hF (qaY hT)
      cases hsg:qgk D s c r with
      |stop e2 o2=>
       rw[hsg] at key hs;simp only at key;rw[key] at hs2
       cases h with
       |stop h1 h2=>
        rw[hs] at h1;injection h1 with h1 h3;subst h1 h3
        exact⟨_,_,.stop hs2 h2,by omega⟩
       |step h1 _=>rw[hs] at h1;cases h1
      |run s1=>
       rw[hsg] at key hs;obtain⟨t1,k1,k2,k3,k4,k5⟩:=key;rw[k1] at hs2;obtain⟨m,j,rfl,rfl,h1⟩:=qdL h hs;obtain⟨n',k',g1,g2⟩:=ih m (by omega) _ t1 e o j h1 k2 k5;refine⟨_,_,.step hs2 g1,?_⟩;rw[hcost t _ hp,hcost s _ hv];rw[k3,k4,qej] at g2;omega
  rw[eO] at hp;generalize hvv:w::r=v at q;rw[hvv] at hv hT;clear hvv eO
  cases q with
  |@fold x y op z rest h1=>
   obtain⟨a,b,c,ch,p1,p2,rfl,p4,p5,p6,p7,p8⟩:=qiD h1;obtain⟨hl,m1,j1,rfl,rfl,h2⟩:=qcq p1 hv h;obtain⟨hl2,m2,j2,rfl,rfl,h3⟩:=qcq p2 rfl h2;obtain⟨m3,j3,rfl,rfl,h4⟩:=qic p4 rfl rfl p5 h3
   obtain⟨n',k',g1,g2⟩:=ih m3 (by omega) _ { t with pc:=O (qaK W) rest,data:=c::s.data,digit:=true } e o j3 h4 ⟨rfl,rfl,hS.calls,hS.mem,hS.inp,hS.out⟩ (hF.to (qaY (qaY (qaY hT))) (λx hx=>by
     rcases zMi.1 hx with rfl|hx;exact p8
     exact hF.data x hx) rfl rfl rfl)
   have hp:t.pc=z::O (qaK W) rest:=hp;refine⟨_,_,.step (s':={ t with pc:=O (qaK W) rest,data:=c::s.data,digit:=true }) ?_ g1,?_⟩;rw[qa6 hp,qfc p6];unfold qdg;rw[hS.data,zp hl];have hc:qb1 t=z.length+Go.Stele.one t.digit:=by unfold qb1;rw[hp];exact qfd p6
   rw[hc];simp only at g2 ⊢;have:=qkY true false;have e1:Go.Stele.one true=1:=rfl
   omega
  |@neutral x nn c rest h1 h2=>
   have hop:=qiy h2;obtain⟨hl,m1,j1,rfl,rfl,h3⟩:=qcq h1 hv h;obtain⟨b,a,d,hd⟩:=qly hop rfl h3;simp only at hd;injection hd with hd1 hd;subst hd1;obtain⟨m2,j2,rfl,rfl,h4⟩:=qic hop rfl (by simp only;rw[hd]) (qnO (hF.data a (by rw[hd];simp)) h2) h3;obtain⟨n',k',g1,g2⟩:=ih m2 (by omega) _ t e o j2 h4 ⟨hp,by simp only;rw[hS.data,hd],hS.calls,hS.mem,hS.inp,hS.out⟩ (hF.to (qaY (qaY hT)) (by simp only;rw[<-hd];exact hF.data) rfl rfl rfl);refine⟨n',k',g1,?_⟩;have:=qkY t.digit false;simp only at g2
   omega
  |@regroup x y z c rest hc h1=>
   obtain⟨a,b,cc,ch,p1,p2,p3,p4,p5,p6,p7,p8⟩:=qiD h1;injection p3 with p3 _;subst p3;obtain⟨hl,m1,j1,rfl,rfl,h3⟩:=qcq p1 hv h;obtain⟨b',a',d,hd⟩:=qly p4 rfl h3;simp only at hd;injection hd with hd1 hd;subst hd1;obtain⟨u,z',b1,b2,b3⟩:=qnZ hc a' a b;rw[p5] at b2;injection b2 with b2;subst b2;obtain⟨m2,j2,rfl,rfl,h4⟩:=qic p4 rfl (by simp only;rw[hd]) b1 h3;obtain⟨hl2,m3,j3,rfl,rfl,h5⟩:=qcq p2 rfl h4
   have hv3:∃ v,binM c.toNat u b=some v:=by
    rcases hc with rfl|rfl|rfl <;> exact⟨_,rfl⟩
   obtain⟨v,hv3⟩:=hv3;obtain⟨m4,j4,rfl,rfl,h6⟩:=qic p4 rfl rfl hv3 h5;have ha:=hF.data a' (by rw[hd];simp);have hvlt:=qo9 ha p8 (by rw[<-b3];exact hv3)
   obtain⟨n',k',g1,g2⟩:=ih m4 (by omega) _ { t with pc:=O (qaK W) rest,data:=v::d,digit:=false } e o j4 h6 ⟨rfl,rfl,hS.calls,hS.mem,hS.inp,hS.out⟩ (hF.to (qaY (qaY (qaY (qaY hT)))) (λx hx=>by
     rcases zMi.1 hx with rfl|hx;exact hvlt
     exact hF.data x (by rw[hd];exact zMo _ hx)) rfl rfl rfl)
   have hp:t.pc=z::[c]::O (qaK W) rest:=hp;rw[hd] at hl;simp only[zLc] at hl;refine⟨_,_,.step (s':={ t with pc:=[c]::O (qaK W) rest,data:=cc::s.data,digit:=true }) ?_ (.step (s':={ t with pc:=O (qaK W) rest,data:=v::d,digit:=false }) ?_ g1),?_⟩;rw[qa6 hp,qfc p6];unfold qdg;rw[hS.data,hd,zp (by simp only[zLc];omega)];rw[qa6 rfl,qbF (qcT p4),qjM p4];unfold binW;simp only[hd];rw[<-b3,hv3];simp only;unfold qdg;rw[zp (by omega)];have hc:qb1 t=z.length+Go.Stele.one t.digit:=by unfold qb1;rw[hp];exact qfd p6
   rw[hc,qla (qcT p4) rfl];simp only[qej] at g2 ⊢;have e1:Go.Stele.one false=0:=rfl
   omega
  |@same x nn rest h1=>
   obtain⟨hl,m1,j1,rfl,rfl,h3⟩:=qcq h1 hv h;obtain⟨hD,m2,j2,rfl,rfl,h4⟩:=qta rfl rfl h3;obtain⟨hl2,m3,j3,rfl,rfl,h5⟩:=qcq h1 rfl h4;obtain⟨m4,j4,rfl,rfl,h6⟩:=qqb rfl rfl h5
   have hm:(λi=>if i=nn then s.mem nn else s.mem i)=s.mem:=by
    funext i;split
    rename_i e;rw[e]
    rfl
   obtain⟨n',k',g1,g2⟩:=ih m4 (by omega) _ t e o j4 h6 ⟨hp,hS.data,hS.calls,hS.mem.trans hm.symm,hS.inp,hS.out⟩ (hF.to (qaY (qaY (qaY (qaY hT)))) hF.data hm rfl rfl);refine⟨n',k',g1,?_⟩;have:=qkY t.digit false;simp only at g2
   omega
  |@double w l rest h1=>
   have ho:isOp 60:=by unfold isOp;decide
   obtain⟨hl,m1,j1,rfl,rfl,h3⟩:=qcq qll hv h;obtain⟨b',a,d,hd⟩:=qly ho rfl h3;simp only at hd;injection hd with hd1 hd;subst hd1;obtain⟨m2,j2,rfl,rfl,h4⟩:=qic ho rfl (v:=if a<1 then 1 else 0) (by simp only;rw[hd]) (by unfold binM;simp) h3;obtain⟨hl2,m3,j3,rfl,rfl,h5⟩:=qcq qll rfl h4;obtain⟨m4,j4,rfl,rfl,h6⟩:=qic ho rfl (v:=if (if a<1 then 1 else 0)<1 then 1 else 0) rfl (by unfold binM;simp) h5;obtain⟨kk,hk,_,m5,j5,rfl,rfl,h7⟩:=qhs h1 rfl rfl h6;have hT5:=qaY (qaY (qaY (qaY hT)));have hk2:=qie (qos hT5 h1) hk
   have hz:((if (if a<1 then 1 else 0)<1 then 1 else 0)=0)=(a=0):=by
    by_cases ha:a=0
    subst ha;simp;rw[zn (show ¬ a<1 by omega)];simp[ha]
   simp only[hz] at h7
   obtain⟨n',k',g1,g2⟩:=ih m5 (by omega) _ { t with pc:=if a=0 then O (qaK W) kk else O (qaK W) rest,data:=d,digit:=false } e o j5 h7 ⟨by simp only;split <;> rfl,rfl,hS.calls,hS.mem,hS.inp,hS.out⟩ (hF.to (by
     simp only;split;exact qeT hk
     exact qaY (qaY hT5)) (λx hx=>hF.data x (by rw[hd];exact zMo _ hx)) rfl rfl rfl)
   have hp:t.pc=w::[63]::O (qaK W) rest:=hp;have hct:qb1 t=7+Go.Stele.one t.digit:=by unfold qb1;rw[hp];exact qeh h1
   refine⟨_,_,.step (s':={ t with pc:=if a=0 then O (qaK W) kk else O (qaK W) rest,data:=d,digit:=false }) ?_ g1,?_⟩;rw[qa6 hp,qdK h1];unfold qhU qny;have hl':(a::d).length<256:=by rw[<-hd];exact hl
   simp only[hk2,hS.data,hd,if_true];rw[zp hl'];rw[hct];simp only[qej] at g2 ⊢;have e1:Go.Stele.one false=0:=rfl;have e2:([49]:Wd).length=1:=rfl
   omega
  |@never x w l nn rest h1 h2 h3=>
   obtain⟨hl,m1,j1,rfl,rfl,h4⟩:=qcq h1 hv h;obtain⟨kk,hk,_,m2,j2,rfl,rfl,h5⟩:=qhs h3 rfl rfl h4;rw[zn h2] at h5;obtain⟨n',k',g1,g2⟩:=ih m2 (by omega) _ t e o j2 h5 ⟨hp,hS.data,hS.calls,hS.mem,hS.inp,hS.out⟩ (hF.to (qaY (qaY (qaY hT))) hF.data rfl rfl rfl);refine⟨n',k',g1,?_⟩;have:=qkY t.digit false;simp only at g2
   omega
  |@next w l rest h1 h2=>
   obtain⟨hl,m1,j1,rfl,rfl,h4⟩:=qcq qeC hv h;obtain⟨kk,hk,_,m2,j2,rfl,rfl,h5⟩:=qhs h1 rfl rfl h4;rw[zp rfl] at h5;obtain⟨ds,k2,e1,e2,e3⟩:=qkG h2;have hT3:=qaY (qaY (qaY hT));obtain⟨p0,hp0⟩:=hT3;have hk':=qqt hn hp0 e2;rw[hk] at hk';injection hk' with hk';subst hk';obtain⟨es,q1,q2⟩:=qvv (qaK W) ds kk e3;have hp:t.pc=es++O (qaK W) kk:=by rw[<-q1,<-e1];exact hp
   obtain⟨n',k',g1,g2⟩:=ih m2 (by omega) _ { t with pc:=O (qaK W) kk } e o j2 h5 ⟨rfl,hS.data,hS.calls,hS.mem,hS.inp,hS.out⟩ (hF.to (qeT hk) hF.data rfl rfl rfl);obtain⟨n2,g3⟩:=qt3 (qkh es t _ hp q2) g1;refine⟨n2,_,g3,?_⟩;have:=qkY t.digit false;simp only at g2
   omega
  |@deadJ w l dead rest h1 h2 h3=>
   obtain⟨hl,m1,j1,rfl,rfl,h4⟩:=qcq qeC hv h;obtain⟨kk,hk,hl2,m2,j2,rfl,rfl,h5⟩:=qhs h1 rfl rfl h4;rw[zp rfl] at h5;have hk2:=qie (qos (qaY hT) h1) hk;have hp:t.pc=[48]::w::[63]::O (qaK W) rest:=hp;obtain⟨n',k',g1,g2⟩:=ih m2 (by omega) _ { t with pc:=O (qaK W) kk,digit:=false } e o j2 h5 ⟨rfl,hS.data,hS.calls,hS.mem,hS.inp,hS.out⟩ (hF.to (qeT hk) hF.data rfl rfl rfl);refine⟨_,_,.step (s':={ t with pc:=w::[63]::O (qaK W) rest,data:=0::s.data,digit:=true }) ?_ (.step (s':={ t with pc:=O (qaK W) kk,digit:=false }) ?_ g1),?_⟩;rw[qa6 hp,qfc qeC];unfold qdg;rw[hS.data,zp hl];rw[qa6 rfl,qdK h1];unfold qhU qny;have hl3:(0::s.data).length<256:=hl2;simp only[hk2,if_true];rw[zp hl3,<-hS.data];have hc:qb1 t=([48]:Wd).length+Go.Stele.one t.digit:=by unfold qb1;rw[hp];exact qfd qeC
   have hc2:qb1 { t with pc:=w::[63]::O (qaK W) rest,data:=0::s.data,digit:=true }=7+Go.Stele.one true:=qeh h1;rw[hc,hc2];simp only[qej] at g2 ⊢
   omega
  |@deadS c dead rest h1 h2 h3=>
   have hp:t.pc=[c]::O (qaK W) rest:=hp;have hsig:c∈qc0:=by rcases h1 with rfl|rfl <;> decide
   have hs:stepM ⟨W,D⟩ s=qgk D s c (dead++rest):=by rw[qa6 hv,qbF hsig]
   have hs2:stepM ⟨O (qaK W) W,D⟩ t=qgk D t c (O (qaK W) rest):=by rw[qa6 hp,qbF hsig]
   have hc:=qla hsig hv;have hct:=qla hsig hp;rcases h1 with rfl|rfl;have hs:stepM ⟨W,D⟩ s=qmU s:=hs;have hs2:stepM ⟨O (qaK W) W,D⟩ t=qmU t:=hs2;unfold qmU at hs hs2
   cases hcl:s.calls with
   |nil=>rw[hcl] at hs;exact(qbo h hs).elim
   |cons kk l=>
    rw[hcl] at hs;rw[hS.calls,hcl,zMc] at hs2;simp only at hs hs2;obtain⟨m1,j1,rfl,rfl,h4⟩:=qdL h hs;obtain⟨n',k',g1,g2⟩:=ih m1 (by omega) _ { t with pc:=O (qaK W) kk,calls:=l.map (O (qaK W)),digit:=false } e o j1 h4 ⟨rfl,hS.data,rfl,hS.mem,hS.inp,hS.out⟩ ⟨hF.data,hF.mem,hF.inp,hF.calls kk (by rw[hcl];simp),λc hc=>hF.calls c (by rw[hcl];exact zMo _ hc)⟩;refine⟨_,_,.step hs2 g1,?_⟩;rw[hct,hc];simp only[qej] at g2;omega
   have hs:stepM ⟨W,D⟩ s=.stop 0 s.out:=hs;have hs2:stepM ⟨O (qaK W) W,D⟩ t=.stop 0 t.out:=hs2
   cases h with
   |stop h4 h5=>
    rw[hs] at h4;injection h4 with h4 h6;subst h4 h6;rw[hS.out] at hs2
    exact⟨_,_,.stop hs2 h5,by omega⟩
   |step h4 _=>rw[hs] at h4;cases h4
  |@unused w l rest h1 h2=>
   obtain⟨m1,j1,rfl,rfl,h4⟩:=qdL h (qiZ hv h1);obtain⟨n',k',g1,g2⟩:=ih m1 (by omega) _ t e o j1 h4 ⟨hp,hS.data,hS.calls,hS.mem,hS.inp,hS.out⟩ (hF.to (qaY hT) hF.data rfl rfl rfl);refine⟨n',k',g1,?_⟩;rw[qgQ hv h1];simp only at g2;omega
theorem qqQ{D:Nat->Bool}{inp:List Nat}(hn:(defs W).Nodup)(hi:∀ v∈inp,v<4294967296)(h:Ends ⟨W,D⟩ n ⟨λ_=>0,W,[],[],inp,[],false⟩ e o k):∃ n' k',Ends ⟨qec W,D⟩ n' ⟨λ_=>0,qec W,[],[],inp,[],false⟩ e o k'/\k'<=k:=
 qrb hn n _ ⟨λ_=>0,qec W,[],[],inp,[],false⟩ e o k h ⟨rfl,rfl,rfl,rfl,rfl,rfl⟩ ⟨λv hv=>(not_mem_nil hv).elim,λ_=>(by show(0:Nat)<_;decide),hi,⟨[],rfl⟩,λc hc=>(not_mem_nil hc).elim⟩
theorem qkR{D:Nat->Bool}{inp:List Nat}(hi:∀ v∈inp,v<4294967296){e:Nat}{o:Wd}:∀ (f:Nat) {W:List Wd} {n k:Nat},qgm W->Ends ⟨W,D⟩ n ⟨λ_=>0,W,[],[],inp,[],false⟩ e o k->∃ n' k',Ends ⟨optF f W,D⟩ n' ⟨λ_=>0,optF f W,[],[],inp,[],false⟩ e o k'/\k'<=k
 |0,W,n,k,_,h=>⟨n,k,h,zNr _⟩
 |f+1,W,n,k,hA,h=>by
  rw[optF];split;exact⟨n,k,h,zNr _⟩;obtain⟨n1,k1,h1,h2⟩:=qqQ hA.1 hi h;obtain⟨n2,k2,h3,h4⟩:=qkR hi f (qpd hA) h1;exact⟨n2,k2,h3,zNt h4 h2⟩
theorem qtC{D:Nat->Bool}{inp:List Nat}(hi:∀ v∈inp,v<4294967296)(hA:qgm W)(h:Ends ⟨W,D⟩ n ⟨λ_=>0,W,[],[],inp,[],false⟩ e o k):∃ n' k',Ends ⟨optP W,D⟩ n' ⟨λ_=>0,optP W,[],[],inp,[],false⟩ e o k'/\k'<=k:=qkR hi _ hA h
def effW(c:UInt8):Option (Nat×Nat):=
 if c=64 then some (1,1) else if c=33 then some (2,0) else if c=44 then some (0,1) else if c=46 then some (1,0)
 else if c=43∨c=45∨c=42∨c=47∨c=37∨c=94∨c=60 then some (2,1) else none
inductive Ty (L:Wd->Nat):Option Nat->List Wd->Prop
 |nil {o:Option Nat}:Ty L o []
 |free {d:Nat} {v:List Wd}:Ty L (some d) v->Ty L none v
 |defn {w x:Wd} {r:List Wd}:defW w=some x->L x=0->Ty L (some 0) r->Ty L (some 0) (w::r)
 |fdef {w x:Wd} {r:List Wd}:defW w=some x->Ty L (some (L x)) r->Ty L none (w::r)
 |num {d n:Nat} {w:Wd} {r:List Wd}:numW w=some n->Ty L (some (d+1)) r->Ty L (some d) (w::r)
 |jump {w x:Wd} {r:List Wd}:refW w=some x->L x=0->Ty L (some 0) r->Ty L (some 1) (w::[63]::r)
 |goto {w x:Wd} {r:List Wd}:refW w=some x->L x=0->Ty L none r->Ty L (some 0) ([48]::w::[63]::r)
 |call {d:Nat} {w x:Wd} {r:List Wd}:refW w=some x->Ty L (some (d+1)) r->Ty L (some (d+L x)) (w::[58]::r)
 |sign {d a b:Nat} {c:UInt8} {r:List Wd}:effW c=some (a,b)->Ty L (some (d+b)) r->Ty L (some (d+a)) ([c]::r)
 |stop {d:Nat} {c:UInt8} {r:List Wd}:(c=59∨c=36)->Ty L none r->Ty L (some d) ([c]::r)
theorem qdG{p:Nat×Nat}(h:effW c=some p):c∈qc0/\c≠59/\c≠36:=by
 have key:∀ n:Nat,n<256->(effW (UInt8.ofNat n)).isSome=true->UInt8.ofNat n∈qc0/\UInt8.ofNat n≠59/\UInt8.ofNat n≠36:=by decide +kernel
 have:=key c.toNat c.toNat_lt;rw[UInt8.ofNat_toNat] at this;exact this (by rw[h];try rfl)
theorem qbp(h:c∈qc0):defW [c]=none/\numW [c]=none/\refW [c]=none:=by
 obtain⟨e1,e2,e3⟩:=qbt h;exact⟨e1,qim e3,e2⟩
theorem qdt(h:c=59∨c=36):c∈qc0:=by rcases h with rfl|rfl <;> decide
section
variable{L:Wd->Nat}{d:Nat}{o:Option Nat}{w x:Wd}{r:List Wd}
theorem qhD(hn:numW w=some n)(hr:∀ y q,r=y::q->refW y=none)(h:Ty L (some d) (w::r)):Ty L (some (d+1)) r:=by
 obtain⟨k1,k2⟩:=qbs hn;generalize hv:w::r=v at h;generalize ho:some d=o at h
 cases h with
 |nil=>cases hv
 |free _=>cases ho
 |defn h1 _ _=>injection hv with e _;rw[<-e,k1] at h1;cases h1
 |fdef _ _=>cases ho
 |num _ h2=>injection hv with _ e;injection ho with ho;subst e ho;exact h2
 |jump h1 _ _=>injection hv with e _;rw[<-e,k2] at h1;cases h1
 |goto h1 _ _=>injection hv with _ e;rw[hr _ _ e] at h1;cases h1
 |call h1 _=>injection hv with e _;rw[<-e,k2] at h1;cases h1
 |sign h1 _=>injection hv with e _;rw[e,(qbp (qdG h1).1).2.1] at hn;cases hn
 |stop h1 _=>injection hv with e _;rw[e,(qbp (qdt h1)).2.1] at hn;cases hn
theorem qfS(hc:effW c=some (a,b))(h:Ty L (some d) ([c]::r)):∃ e,d=e+a/\Ty L (some (e+b)) r:=by
 obtain⟨k0,k4,k5⟩:=qdG hc;obtain⟨k1,k2,k3⟩:=qbp k0;generalize hv:[c]::r=v at h;generalize ho:some d=o at h
 cases h with
 |nil=>cases hv
 |free _=>cases ho
 |defn h1 _ _=>injection hv with e _;rw[<-e,k1] at h1;cases h1
 |fdef _ _=>cases ho
 |num h1 h2=>injection hv with e _;rw[<-e,k2] at h1;cases h1
 |jump h1 _ _=>injection hv with e _;rw[<-e,k3] at h1;cases h1
 |goto h1 _ _=>injection hv with e _;rw[e,qeC] at k2;cases k2
 |call h1 _=>injection hv with e _;rw[<-e,k3] at h1;cases h1
 |sign h1 h2=>
  injection hv with e e2;injection e with e _;subst e e2;rw[hc] at h1;injection h1 with h1;injection h1 with e1 e2;subst e1 e2;injection ho with ho
  exact⟨_,ho,h2⟩
 |stop h1 _=>
  injection hv with e _;injection e with e _;rw[<-e] at h1;rcases h1 with h1|h1;exact absurd h1 k4;exact absurd h1 k5
theorem qrf(hr:refW w=some x)(h:Ty L (some d) (w::[63]::r)):d=1/\L x=0/\Ty L (some 0) r:=by
 have k1:=qa5 hr;have k2:=qg9 hr;generalize hv:w::[63]::r=v at h;generalize ho:some d=o at h
 cases h with
 |nil=>cases hv
 |free _=>cases ho
 |defn h1 _ _=>injection hv with e _;rw[<-e,k1] at h1;cases h1
 |fdef _ _=>cases ho
 |num h1 h2=>injection hv with e _;rw[<-e,k2] at h1;cases h1
 |jump h1 h2 h3=>
  injection hv with e e2;injection e2 with _ e2;subst e e2;rw[hr] at h1;injection h1 with h1;subst h1;injection ho with ho
  exact⟨ho,h2,h3⟩
 |goto h1 _ _=>injection hv with e _;rw[e,qeC] at k2;cases k2
 |call h1 _=>injection hv with _ e;injection e with e _;exact absurd e zDd
 |sign h1 _=>injection hv with e _;rw[e,(qbp (qdG h1).1).2.2] at hr;cases hr
 |stop h1 _=>injection hv with e _;rw[e,(qbp (qdt h1)).2.2] at hr;cases hr
theorem qoq{z:Wd}(hz:numW z=some n)(hr:refW w=some x)(h:Ty L (some d) (z::w::[63]::r)):d=0/\L x=0/\Ty L none r/\(n≠0->Ty L (some 0) r):=by
 obtain⟨k1,k2⟩:=qbs hz;generalize hv:z::w::[63]::r=v at h;generalize ho:some d=o at h
 cases h with
 |nil=>cases hv
 |free _=>cases ho
 |defn h1 _ _=>injection hv with e _;rw[<-e,k1] at h1;cases h1
 |fdef _ _=>cases ho
 |num h1 h2=>
  injection hv with _ e;injection ho with ho;subst e ho;obtain⟨e1,e2,e3⟩:=qrf hr h2
  exact⟨by omega,e2,.free e3,λ_=>e3⟩
 |jump h1 _ _=>injection hv with e _;rw[<-e,k2] at h1;cases h1
 |goto h1 h2 h3=>
  injection hv with e0 e;injection e with e e2;injection e2 with _ e2;subst e e2;rw[hr] at h1;injection h1 with h1;subst h1;injection ho with ho;refine⟨ho,h2,h3,λhn=>?_⟩;rw[e0,qeC] at hz;injection hz with hz
  exact absurd hz.symm hn
 |call h1 _=>injection hv with e _;rw[<-e,k2] at h1;cases h1
 |sign h1 _=>injection hv with e _;rw[e,(qbp (qdG h1).1).2.1] at hz;cases hz
 |stop h1 _=>injection hv with e _;rw[e,(qbp (qdt h1)).2.1] at hz;cases hz
theorem qwd(hc:c=59∨c=36)(h:Ty L (some d) ([c]::r)):Ty L none r:=by
 obtain⟨k1,k2,k3⟩:=qbp (qdt hc);generalize hv:[c]::r=v at h;generalize ho:some d=o at h
 cases h with
 |nil=>cases hv
 |free _=>cases ho
 |defn h1 _ _=>injection hv with e _;rw[<-e,k1] at h1;cases h1
 |fdef _ _=>cases ho
 |num h1 h2=>injection hv with e _;rw[<-e,k2] at h1;cases h1
 |jump h1 _ _=>injection hv with e _;rw[<-e,k3] at h1;cases h1
 |goto h1 _ _=>injection hv with e _;rw[e,qeC] at k2;cases k2
 |call h1 _=>injection hv with e _;rw[<-e,k3] at h1;cases h1
 |sign h1 h2=>
  injection hv with e e2;injection e with e _;subst e;rcases hc with rfl|rfl;exact absurd rfl (qdG h1).2.1
  exact absurd rfl (qdG h1).2.2
 |stop h1 h2=>injection hv with _ e;subst e;exact h2
theorem qru(hd:defW w=some x)(h:Ty L (some d) (w::r)):d=0/\L x=0/\Ty L (some 0) r:=by
 generalize hv:w::r=v at h;generalize ho:some d=o at h
 cases h with
 |nil=>cases hv
 |free _=>cases ho
 |defn h1 h2 h3=>
  injection hv with e e2;subst e e2;rw[hd] at h1;injection h1 with h1;subst h1;injection ho with ho
  exact⟨ho,h2,h3⟩
 |fdef _ _=>cases ho
 |num h1 h2=>injection hv with e _;rw[e,(qbs h1).1] at hd;cases hd
 |jump h1 _ _=>injection hv with e _;rw[e,qa5 h1] at hd;cases hd
 |goto h1 _ _=>injection hv with e _;rw[e,(qbs qeC).1] at hd;cases hd
 |call h1 _=>injection hv with e _;rw[e,qa5 h1] at hd;cases hd
 |sign h1 h2=>injection hv with e _;rw[e,(qbp (qdG h1).1).1] at hd;cases hd
 |stop h1 h2=>injection hv with e _;rw[e,(qbp (qdt h1)).1] at hd;cases hd
theorem qn1(h:Ty L none (w::r)):(∃ d,Ty L (some d) (w::r))∨∃ x,defW w=some x/\Ty L (some (L x)) r:=by
 cases h with
 |free h=>exact .inl ⟨_,h⟩
 |fdef h1 h2=>exact .inr ⟨_,h1,h2⟩
end
section
variable{L:Wd->Nat}
theorem qr1(hrest:∀ y r,rest=y::r->(defW y).isSome=true):∀ (n:Nat) (dead:List Wd) (o:Option Nat),dead.length<=n->(∀ y∈dead,defW y=none)->Ty L o (dead++rest)->Ty L none rest:=by
 have weak:∀ {o:Option Nat} {v:List Wd},Ty L o v->Ty L none v:=λ{o v} h=>by
  cases o with
  |none=>exact h
  |some d=>exact .free h
 have cut:∀ {dead r:List Wd} {z:Wd},dead++rest=z::r->defW z=none->∃ dead',dead=z::dead'/\r=dead'++rest:=by
  intro dead r z e hz
  cases dead with
  |nil=>
   have:=hrest z r e;rw[hz] at this
   cases this
  |cons y dead=>
   rw[cons_append] at e;injection e with e1 e2;subst e1 e2;exact⟨dead,rfl,rfl⟩
 intro n
 induction n with
 |zero=>
  intro dead o hn hd h;obtain rfl:=eq_nil_of_length_eq_zero (Nat.le_zero.1 hn)
  exact weak h
 |succ n ih=>
  intro dead o hn hd h
  cases dead with
  |nil=>exact weak h
  |cons y dead=>
   have hy:=hd y zMs;have hd2:=λz hz=>hd z (zMo y hz);rw[zLc] at hn
   have main:∀ d,Ty L (some d) (y::(dead++rest))->Ty L none rest:=by
    intro d h;generalize hv:y::(dead++rest)=v at h;generalize ho:some d=o at h
    cases h with
    |nil=>cases hv
    |free _=>cases ho
    |defn h1 _ _=>injection hv with e _;rw[<-e,hy] at h1;cases h1
    |fdef _ _=>cases ho
    |num h1 h2=>
     injection hv with _ e;subst e
     exact ih dead _ (by omega) hd2 h2
    |jump h1 _ h2=>
     injection hv with _ e;obtain⟨q,rfl,rfl⟩:=cut e (by decide +kernel)
     exact ih q _ (by simp only[zLc] at hn;omega) (λz hz=>hd2 z (zMo _ hz)) h2
    |goto h1 _ h2=>
     injection hv with _ e;obtain⟨q,rfl,e2⟩:=cut e (qa5 h1);obtain⟨q2,rfl,rfl⟩:=cut e2.symm (by decide +kernel)
     exact ih q2 _ (by simp only[zLc] at hn;omega) (λz hz=>hd2 z (zMo _ (zMo _ hz))) h2
    |call h1 h2=>
     injection hv with _ e;obtain⟨q,rfl,rfl⟩:=cut e (by decide +kernel)
     exact ih q _ (by simp only[zLc] at hn;omega) (λz hz=>hd2 z (zMo _ hz)) h2
    |sign h1 h2=>
     injection hv with _ e;subst e
     exact ih dead _ (by omega) hd2 h2
    |stop h1 h2=>
     injection hv with _ e;subst e;exact ih dead _ (by omega) hd2 h2
   cases o with
   |some d=>exact main d h
   |none=>
    rcases qn1 h with⟨d,h⟩|⟨x,h1,_⟩;exact main d h;rw[hy] at h1;cases h1
theorem qwQ(hl:L l=0):∀ {rest:List Wd},qf0 l rest=true->Ty L none rest->Ty L (some 0) rest
 |[],h,_=>by cases h
 |w::r,h,ht=>by
  rcases qn1 ht with⟨d,ht⟩|⟨x,h1,h2⟩
  cases hd:defW w with
  |none=>rw[qf0,hd] at h;cases h
  |some x=>
   obtain⟨rfl,_,_⟩:=qru hd ht;exact ht
  rw[qf0,h1] at h;simp only[Bool.or_eq_true,zDe] at h
  have h0:L x=0:=by
   rcases h with rfl|h;exact hl
   cases r with
   |nil=>cases h
   |cons y q=>
    cases hd:defW y with
    |none=>rw[qf0,hd] at h;cases h
    |some z=>exact(qru hd h2).1
  rw[h0] at h2;exact .defn h1 h0 h2
theorem qkW(h:isOp c):effW c=some (2,1):=by
 unfold isOp at h;rcases h with rfl|rfl|rfl|rfl|rfl|rfl|rfl <;> decide
theorem qqT{y:Wd}(h:numW y=some n):refW y=none:=(qbs h).2
theorem qwo{used:Wd->Bool}{v:List Wd}(h:Kind used v p rest){d:Nat}(ht:Ty L (some d) v)(T:List Wd)(hT:∀ o,Ty L o rest->Ty L o T):Ty L (some d) (p++T):=by
 have sgn:∀ {c:UInt8} {q:List Wd},c∈qc0->∀ y s,[c]::q=y::s->refW y=none:=λhc y s e=>by
  injection e with e _;rw[<-e];exact(qbp hc).2.2
 cases h with
 |@fold x y op z rest h1=>
  obtain⟨k1,k2,k3,k4⟩:=qfZ h1;unfold qa2 at h1;split at h1
  rename_i a b ha hb
  split at h1
  rename_i c hc
  split at h1;injection h1 with h1;have hlt:=qkn ((qcO _ _).1 ha).1 ((qcO _ _).1 hb).1 hc
  have hop:∃ ch,op=[ch]/\isOp ch:=by
   unfold qd2 at hc;unfold isOp;split at hc
   rename_i e;exact⟨_,e,by decide⟩
   split at hc
   rename_i e;exact⟨_,e,by decide⟩
   split at hc
   rename_i e;exact⟨_,e,by decide⟩
   split at hc
   rename_i e;exact⟨_,e,by decide⟩
   split at hc
   rename_i e;exact⟨_,e,by decide⟩
   split at hc
   rename_i e;exact⟨_,e,by decide⟩
   split at hc
   rename_i e;exact⟨_,e,by decide⟩
   cases hc
  obtain⟨ch,rfl,hop⟩:=hop;have t1:=qhD ha (λy s e=>by injection e with e _;rw[<-e];exact qqT hb) ht;have t2:=qhD hb (sgn (qcT hop)) t1;obtain⟨e,he,t3⟩:=qfS (qkW hop) t2;obtain rfl:e=d:=by omega
  subst h1;exact .num (qdM hlt) (hT _ t3);cases h1;cases h1
  cases h1
 |@neutral x n c rest h1 h2=>
  have hop:=qiy h2;have t1:=qhD h1 (sgn (qcT hop)) ht;obtain⟨e,he,t3⟩:=qfS (qkW hop) t1;obtain rfl:e+1=d:=by omega
  exact hT _ t3
 |@regroup x y z c rest hc h1=>
  have hop:isOp c:=by
   unfold isOp;rcases hc with rfl|rfl|rfl <;> decide
  unfold qa2 at h1;split at h1
  rename_i a b ha hb
  split at h1
  rename_i k hk
  split at h1;injection h1 with h1;have hlt:=qkn ((qcO _ _).1 ha).1 ((qcO _ _).1 hb).1 hk;have t1:=qhD ha (sgn (qcT hop)) ht;obtain⟨e,he,t2⟩:=qfS (qkW hop) t1;have t3:=qhD hb (sgn (qcT hop)) t2;obtain⟨e',he',t4⟩:=qfS (qkW hop) t3;subst h1;refine .num (qdM hlt) ?_;have e1:d+1=e'+2:=by omega
  rw[e1];exact .sign (qkW hop) (hT _ t4);cases h1;cases h1
  cases h1
 |@same x n rest h1=>
  have t1:=qhD h1 (sgn zDd) ht;obtain⟨e,he,t2⟩:=qfS (a:=1) (b:=1) zDd t1;have t3:=qhD h1 (sgn zDd) t2;obtain⟨e',he',t4⟩:=qfS (a:=2) (b:=0) zDd t3;obtain rfl:e'=d:=by omega
  exact hT _ t4
 |@double w l rest h1=>
  have t1:=qhD qll (sgn zDd) ht;obtain⟨e,he,t2⟩:=qfS (a:=2) (b:=1) zDd t1;have t3:=qhD qll (sgn zDd) t2;obtain⟨e',he',t4⟩:=qfS (a:=2) (b:=1) zDd t3;obtain⟨j1,j2,j3⟩:=qrf h1 t4;obtain rfl:d=1:=by omega
  exact .jump h1 j2 (hT _ j3)
 |@never x w l n rest h1 h2 h3=>
  obtain⟨j1,j2,j3,j4⟩:=qoq h1 h3 ht;subst j1
  exact hT _ (j4 h2)
 |@next w l rest h1 h2=>
  obtain⟨j1,j2,j3,j4⟩:=qoq qeC h1 ht;subst j1
  exact hT _ (qwQ j2 h2 j3)
 |@deadJ w l dead rest h1 h2 h3=>
  obtain⟨j1,j2,j3,j4⟩:=qoq qeC h1 ht;subst j1
  exact .goto h1 j2 (hT _ (qr1 h3 _ dead _ (zNr _) h2 j3))
 |@deadS c dead rest h1 h2 h3=>
  exact .stop h1 (hT _ (qr1 h3 _ dead _ (zNr _) h2 (qwd h1 ht)))
 |@unused w l rest h1 h2=>
  obtain⟨j1,j2,j3⟩:=qru h1 ht;subst j1;exact hT _ j3
theorem qvU(used:Wd->Bool):∀ (n:Nat) (v:List Wd) (o:Option Nat),v.length<=n->Ty L o v->Ty L o (O used v):=by
 intro n
 induction n with
 |zero=>
  intro v o hn h;obtain rfl:=eq_nil_of_length_eq_zero (Nat.le_zero.1 hn)
  exact .nil
 |succ n ih=>
  intro v o hn h
  cases v with
  |nil=>exact .nil
  |cons w r=>
   rw[zLc] at hn
   have main:∀ d,Ty L (some d) (w::r)->Ty L (some d) (O used (w::r)):=by
    intro d h;rcases qkI used w r with⟨e,_⟩|⟨p,rest,k,e,hl⟩
    ·rw[e];generalize hv:w::r=v at h;generalize ho:some d=o at h
     cases h with
     |nil=>cases hv
     |free _=>cases ho
     |defn h1 h2 h3=>injection hv with e1 e2;subst e1 e2;exact .defn h1 h2 (ih _ _ (by omega) h3)
     |fdef _ _=>cases ho
     |num h1 h2=>injection hv with e1 e2;subst e1 e2;exact .num h1 (ih _ _ (by omega) h2)
     |jump h1 h2 h3=>
      injection hv with e1 e2;subst e1 e2;rw[qmW used (.inl rfl)];simp only[zLc] at hn
      exact .jump h1 h2 (ih _ _ (by omega) h3)
     |goto h1 h2 h3=>
      injection hv with e1 e2;subst e1 e2;rw[O_ref used h1,qmW used (.inl rfl)];simp only[zLc] at hn
      exact .goto h1 h2 (ih _ _ (by omega) h3)
     |call h1 h2=>
      injection hv with e1 e2;subst e1 e2;rw[qmW used (.inr rfl)];simp only[zLc] at hn
      exact .call h1 (ih _ _ (by omega) h2)
     |sign h1 h2=>injection hv with e1 e2;subst e1 e2;exact .sign h1 (ih _ _ (by omega) h2)
     |stop h1 h2=>injection hv with e1 e2;subst e1 e2;exact .stop h1 (ih _ _ (by omega) h2)
    rw[e];exact qwo k h _ λo ho=>ih _ _ (by omega) ho
   cases o with
   |some d=>exact main d h
   |none=>
    rcases qn1 h with⟨d,h⟩|⟨x,h1,h2⟩;exact .free (main d h);have h3:=ih r _ (by omega) h2;rcases qkI used w r with⟨e,_⟩|⟨p,rest,k,e,hl⟩;rw[e];exact .fdef h1 h3;rw[e];generalize hv:w::r=v at k
    have hnum:numW w=none:=by
     cases hq:numW w with
     |none=>rfl
     |some n=>rw[(qbs hq).1] at h1;cases h1
    have hne:∀ c:UInt8,defW [c]=none->w≠[c]:=λc hc e=>by rw[e,hc] at h1;cases h1
    have hj:∀ {x op y z:Wd},qa2 x op y=some z->numW x≠none:=λhj e=>by
     unfold qa2 at hj;rw[e] at hj;cases hj
    cases k with
    |fold q=>injection hv with e _;exact absurd (by rw[<-e];exact hnum) (hj q)
    |neutral q _=>injection hv with e _;rw[<-e,hnum] at q;cases q
    |regroup _ q=>injection hv with e _;exact absurd (by rw[<-e];exact hnum) (hj q)
    |same q=>injection hv with e _;rw[<-e,hnum] at q;cases q
    |double _=>injection hv with e _;exact absurd e (hne 49 (qbs qll).1)
    |never q _ _=>injection hv with e _;rw[<-e,hnum] at q;cases q
    |next _ _=>injection hv with e _;exact absurd e (hne 48 (qbs qeC).1)
    |deadJ _ _ _=>injection hv with e _;exact absurd e (hne 48 (qbs qeC).1)
    |@deadS c _ _ q _ _=>injection hv with e _;exact absurd e (hne c (qbp (qdt q)).1)
    |unused q _=>
     injection hv with e1 e2;subst e1 e2;exact .free h3
theorem qvP{o:Option Nat}{v:List Wd}(h:Ty L o v):Ty L o (qec v):=qvU _ _ v o (zNr _) h
theorem qro{o:Option Nat}:∀ (f:Nat) {v:List Wd},Ty L o v->Ty L o (optF f v)
 |0,v,h=>h
 |f+1,v,h=>by
  rw[optF];split;exact h;exact qro f (qvP h)
theorem qxH{o:Option Nat}{v:List Wd}(h:Ty L o v):Ty L o (optP v):=qro _ h
theorem ty_nb(known:Wd->Nat){o:Option Nat}{v:List Wd}(h:Ty L o v):∀ (t:Wd),(qbh t=true->∃ d,o=some (d+1))->∀ (j:Nat) (w x:Wd),v[j]? = some w->defW w=some x->qbh ((v.take j).foldl (addT known) t)=false:=by
 have sgn:∀ {c:UInt8} (t:Wd),c∈qc0->qbh (addT known t [c])=false:=λ{c} t hc=>by
  obtain⟨e1,e2,e3⟩:=qbt hc;have h1:=(qhz known t [c] e1 (by simp)).2.1;rw[h1];unfold qaF;rw[e2];unfold qbh;simp[e3]
 have pass:∀ {t w x:Wd},defW w=some x->addT known t w=t:=λhd=>by unfold addT;rw[hd]
 have no:∀ {t:Wd},qbh t=false->∀ {P:Prop},qbh t=true->P:=λh1 _ h2=>by rw[h1] at h2;cases h2
 induction h with
 |nil=>intro t ht j w x hw;simp at hw
 |free _ ih=>
  intro t ht
  exact ih t λh=>by obtain⟨d,hd⟩:=ht h;cases hd
 |@defn w x r h1 h2 h3 ih=>
  intro t ht j y z hy hz
  have h0:qbh t=false:=by
   cases hl:qbh t with
   |false=>rfl
   |true=>obtain⟨d,hd⟩:=ht hl;injection hd with hd;omega
  cases j with
  |zero=>exact h0
  |succ j=>
   rw[take_succ_cons,foldl_cons,pass h1]
   exact ih t (no h0) j y z (by simpa using hy) hz
 |@fdef w x r h1 h2 ih=>
  intro t ht j y z hy hz
  have h0:qbh t=false:=by
   cases hl:qbh t with
   |false=>rfl
   |true=>obtain⟨d,hd⟩:=ht hl;cases hd
  cases j with
  |zero=>exact h0
  |succ j=>
   rw[take_succ_cons,foldl_cons,pass h1]
   exact ih t (no h0) j y z (by simpa using hy) hz
 |@num d n w r h1 h2 ih=>
  intro t ht j y z hy hz
  cases j with
  |zero=>
   simp only[zRj,zRh] at hy;rw[<-hy,(qbs h1).1] at hz
   cases hz
  |succ j=>
   rw[take_succ_cons,foldl_cons]
   exact ih _ (λ_=>⟨d,rfl⟩) j y z (by simpa using hy) hz
 |@jump w x r h1 h2 h3 ih=>
  intro t ht j y z hy hz
  match j,hy with
  |0,hy=>
   simp only[zRj,zRh] at hy;rw[<-hy,qa5 h1] at hz
   cases hz
  |1,hy=>
   simp only[zRj,zRk,zRh] at hy;rw[<-hy,(qbp (c:=63) zDd).1] at hz
   cases hz
  |j+2,hy=>
   rw[take_succ_cons,take_succ_cons,foldl_cons,foldl_cons]
   exact ih _ (no (sgn _ zDd)) j y z (by simpa using hy) hz
 |@goto w x r h1 h2 h3 ih=>
  intro t ht j y z hy hz
  match j,hy with
  |0,hy=>
   simp only[zRj,zRh] at hy;rw[<-hy,(qbs qeC).1] at hz
   cases hz
  |1,hy=>
   simp only[zRj,zRk,zRh] at hy;rw[<-hy,qa5 h1] at hz
   cases hz
  |2,hy=>
   simp only[zRj,zRk,zRh] at hy;rw[<-hy,(qbp (c:=63) zDd).1] at hz
   cases hz
  |j+3,hy=>
   rw[take_succ_cons,take_succ_cons,take_succ_cons,foldl_cons,foldl_cons,foldl_cons]
   exact ih _ (no (sgn _ zDd)) j y z (by simpa using hy) hz
 |@call d w x r h1 h2 ih=>
  intro t ht j y z hy hz
  match j,hy with
  |0,hy=>
   simp only[zRj,zRh] at hy;rw[<-hy,qa5 h1] at hz
   cases hz
  |1,hy=>
   simp only[zRj,zRk,zRh] at hy;rw[<-hy,(qbp (c:=58) zDd).1] at hz
   cases hz
  |j+2,hy=>
   rw[take_succ_cons,take_succ_cons,foldl_cons,foldl_cons]
   exact ih _ (no (sgn _ zDd)) j y z (by simpa using hy) hz
 |@sign d a b c r h1 h2 ih=>
  intro t ht j y z hy hz
  cases j with
  |zero=>
   simp only[zRj,zRh] at hy;rw[<-hy,(qbp (qdG h1).1).1] at hz
   cases hz
  |succ j=>
   rw[take_succ_cons,foldl_cons]
   exact ih _ (no (sgn _ (qdG h1).1)) j y z (by simpa using hy) hz
 |@stop d c r h1 h2 ih=>
  intro t ht j y z hy hz
  cases j with
  |zero=>
   simp only[zRj,zRh] at hy;rw[<-hy,(qbp (qdt h1)).1] at hz
   cases hz
  |succ j=>
   rw[take_succ_cons,foldl_cons];exact ih _ (no (sgn _ (qdt h1))) j y z (by simpa using hy) hz
end
abbrev PM:=Go.Stele.PW
abbrev SM:=Go.Stele.MS
structure Lk(C:PM)(D:Nat->Bool):Prop where
 label:∀ (j:Nat) (w x:Wd),C.W[j]? = some w->defW w=some x->C.known x=C.plc j
 nb:∀ (j:Nat) (w x:Wd),C.W[j]? = some w->defW w=some x->qbh (C.pre j)=false
 data:∀ a,D a=true->a<262144/\(a<C.og∨C.og+(qcZ C.known C.W).length<=a)
def Spot(C:PM)(k:List Wd)(t:Nat)(f:Bool):Prop:=∃ i,k=C.W.drop i/\t=C.plc i/\qbh (C.pre i)=f
inductive All2 {A B:Type} (R:A->B->Prop):List A->List B->Prop
 |nil:All2 R [] []
 |cons {a:A} {b:B} {l:List A} {m:List B}:R a b->All2 R l m->All2 R (a::l) (b::m)
theorem All2.len{A B:Type}{R:A->B->Prop}{l:List A}{m:List B}(h:All2 R l m):l.length=m.length:=by
 induction h with
 |nil=>rfl
 |cons _ _ ih=>rw[zLc,zLc,ih]
structure Lnk(C:PM)(D:Nat->Bool)(s:MS)(m:SM):Prop where
 ok:C.Ok m.mem
 here:Spot C s.pc m.pc s.digit
 digit:m.digit=s.digit
 data:m.data=s.data
 calls:All2 (λk t=>Spot C k t false) s.calls m.calls
 mem:∀ a,D a=true->m.mem a=s.mem a
 inp:m.inp=s.inp
 out:m.out=s.out
section
variable{C:PM}{D:Nat->Bool}{s:MS}{m:SM}{i:Nat}{w x:Wd}{r:List Wd}
theorem qsd(h:w::r=C.W.drop i):C.W[i]? = some w/\r=C.W.drop (i+1):=by
 have h1:=congrArg (λl=>l[0]?) h;simp only[zRj,List.getElem?_drop,add_zero] at h1;refine⟨h1.symm,?_⟩;rw[<-drop_drop,<-h]
 try rfl
theorem qpB(hw:C.W[i]? = some w)(hd:defW w=some x):C.plc (i+1)=C.plc i/\C.pre (i+1)=C.pre i:=by
 have h1:=C.pre_succ hw;have h2:addT C.known (C.pre i) w=C.pre i:=by unfold addT;rw[hd]
 rw[h2] at h1;refine⟨?_,h1⟩;unfold Go.Stele.PW.plc;rw[h1]
theorem qp0(hL:Lk C D){k:List Wd}(h:qbz x C.W=some k):Spot C k (C.known x) false:=by
 obtain⟨p,w,h1,h2⟩:=qem h;have hw:C.W[p.length]? = some w:=by rw[h1,List.getElem?_append_right (zNr _)];simp
 obtain⟨e1,e2⟩:=qpB hw h2;refine⟨p.length+1,?_,?_,?_⟩
 ·conv=>rhs;rw[h1]
  rw[<-drop_drop,List.drop_left]
  try rfl
 rw[e1];exact hL.label _ _ _ hw h2;rw[e2];exact hL.nb _ _ _ hw h2
theorem qpf(hk:C.Ok m.mem)(hpc:m.pc=C.plc i)(hdg:qbh (C.pre i)=m.digit)(hw:C.W[i]? = some w)(hd:defW w=none)(hne:qaF C.known w≠[])(hg:∀ c∈qaF C.known w,qar c=true)(hv:valD 0 (qaF C.known w)<4294967296)(hroom:m.data.length<256) :
  Go.Stele.Stp ((qaF C.known w).length+one m.digit) m { m with pc:=C.plc (i+1),data:=valD 0 (qaF C.known w)::m.data,digit:=true }/\qbh (C.pre (i+1))=true:=by
 obtain⟨⟨h1,h2⟩,h3⟩:=C.digsX hk ⟨hpc,λh=>by rw[hdg];exact h⟩ hw hd hne hg hv hroom;refine⟨?_,h3⟩
 have hf:qbU (qaF C.known w)=true:=by
  cases hp:qaF C.known w with
  |nil=>exact absurd hp hne
  |cons c r=>exact hg c (by rw[hp];simp)
 have h4:=(C.piece hk hw hd).1
 have hplc:C.plc (i+1)=C.plc i+((qaF C.known w).length+one m.digit):=by
  unfold Go.Stele.PW.plc;rw[h4,zLa,zLa,hf,Bool.and_true,hdg];unfold one;cases m.digit <;> simp <;> omega
 rw[hplc,Nat.add_sub_cancel_left,<-hplc] at h2;exact h2
theorem qfP{m':SM}(h:Go.Stele.Stx 1 m m')(hne:m≠m'):Go.Stele.Stp 1 m m':=by
 obtain⟨k,h1,h2⟩:=h;rcases Nat.lt_or_ge k 1 with h0|h0;obtain rfl:k=0:=by omega
 cases h2;exact absurd rfl hne;obtain rfl:k=1:=by omega
 exact h2
theorem qi1(hk:C.Ok m.mem)(hc:c∈qc0)(hw:C.W[i]? = some [c]):C.plc (i+1)=C.plc i+1/\qbh (C.pre (i+1))=false:=by
 obtain⟨e1,e2,e3⟩:=qbt hc;refine⟨C.sign_plc hk hw e1 e2 e3,?_⟩;have h1:=(C.piece hk hw e1).1;have hp:qaF C.known [c]=[c]:=by unfold qaF;rw[e2]
 rw[h1,hp,qjS (by simp)];unfold qbh;simp[e3]
theorem ok_store(hL:Lk C D){mem:Nat->Nat}(hk:C.Ok mem)(ha:D a=true):C.Ok λi=>if i=a then v else mem i:=by
 refine⟨λk h=>?_,hk.fits⟩;have h1:=hk.here k h;have h2:=(hL.data a ha).2;rw[zn (by omega)];exact h1
theorem qm3(hL:Lk C D)(h:Lnk C D s m):match stepM ⟨C.W,D⟩ s with
  |.run s'=>∃ m',Go.Stele.Stp (qb1 s) m m'/\Lnk C D s' m'
  |.stop e o=>e≠99->Go.Stele.stepM m=.stop e o:=by
 obtain⟨hk,⟨i,h1,h2,h3⟩,hdg,hdat,hcal,hmem,hinp,hout⟩:=h;have hAt:C.At m i:=⟨h2,λh=>by rw[h3,<-hdg];exact h⟩;have hfits:C.plc i<=262144:=zNt (C.pre_le i) hk.fits
 cases hv:s.pc with
 |nil=>
  have:stepM ⟨C.W,D⟩ s=lost s:=by unfold stepM;rw[hv]
  rw[this]
  exact λh=>absurd rfl h
 |cons w r=>
  rw[hv] at h1;obtain⟨hw,hr⟩:=qsd h1;rw[qa6 hv]
  cases hd:defW w with
  |some x=>
   have hs:qhF ⟨C.W,D⟩ s w r=.run { s with pc:=r }:=by unfold qhF;rw[hd]
   obtain⟨e1,e2⟩:=qpB hw hd;rw[hs];refine⟨m,?_,⟨hk,⟨i+1,hr,h2.trans e1.symm,by rw[e2];exact h3⟩,hdg,hdat,hcal,hmem,hinp,hout⟩⟩;rw[qgQ hv hd]
   exact .zero m
  |none=>
   cases hn:numW w with
   |some n=>
    rw[qfc hn];obtain⟨n1,n2⟩:=(qcO w n).1 hn;have hrf:=(qbs hn).2;have hp:qaF C.known w=w:=by unfold qaF;rw[hrf]
    unfold qdg
    by_cases hl:s.data.length<256
    rw[zp hl];have hval:valD 0 w=n:=by rw[<-n2,qmi]
    obtain⟨k1,k2⟩:=qpf hk h2 (by rw[h3,hdg]) hw hd (by rw[hp];exact(qjr hn).1) (by rw[hp];exact(qjr hn).2) (by rw[hp,hval];exact n1) (by rw[hdat];exact hl);rw[hp,hval] at k1;have hc:qb1 s=w.length+one s.digit:=by unfold qb1;rw[hv];exact qfd hn
    rw[hc,<-hdg];exact⟨_,k1,⟨hk,⟨i+1,hr,rfl,k2⟩,rfl,by simp only;rw[hdat],hcal,hmem,hinp,hout⟩⟩;rw[zn hl]
    exact λh=>absurd rfl h
   |none=>
    cases hrf:refW w with
    |some x=>
     rw[qdK hrf];have hc:qb1 s=7+one s.digit:=by unfold qb1;rw[hv];exact qeh hrf
     unfold qhU
     cases hka:qbz x C.W with
     |none=>exact λh=>absurd rfl h
     |some k=>
      have hsp:=qp0 hL hka
      have hknow:C.known x<1000000:=by
       obtain⟨j,_,j2,_⟩:=hsp;have:=zNt (C.pre_le j) hk.fits;omega
      cases r with
      |nil=>exact λh=>absurd rfl h
      |cons y r=>
       simp only;obtain⟨hw1,hr1⟩:=qsd hr
       by_cases hl:s.data.length<256
       rotate_left;rw[zn hl];exact λh=>absurd rfl h;rw[zp hl];obtain⟨b1,b2⟩:=qfX (C.known x);have hp:qaF C.known w=qeb (C.known x):=by unfold qaF;rw[hrf]
       obtain⟨k1,k2⟩:=qpf hk h2 (by rw[h3,hdg]) hw hd (by rw[hp];intro h;rw[h] at b1;cases b1) (by rw[hp];exact b2) (by rw[hp,qnz hknow];omega) (by rw[hdat];exact hl);rw[hp,qnz hknow,b1] at k1;generalize hm1:({ m with pc:=C.plc (i+1),data:=C.known x::m.data,digit:=true }:SM)=m1 at k1;have q1:m1.mem=m.mem:=by rw[<-hm1]
       have q2:m1.data=C.known x::m.data:=by rw[<-hm1]
       have q3:m1.calls=m.calls:=by rw[<-hm1]
       have q4:m1.inp=m.inp:=by rw[<-hm1]
       have q5:m1.out=m.out:=by rw[<-hm1]
       have hAt1:C.At m1 (i+1):=by rw[<-hm1];exact⟨rfl,λ_=>k2⟩
       have hk1:C.Ok m1.mem:=by rw[q1];exact hk
       have hcs:6+one m.digit+1=qb1 s:=by rw[hc,hdg];omega
       by_cases hy:y=[63]
       subst hy;rw[zp rfl];unfold qny
       cases hsd:s.data with
       |nil=>exact λh=>absurd rfl h
       |cons a d=>
        simp only;have t1:=C.jump hk1 hAt1 hw1 (t:=C.known x) (v:=a) (r:=d) (by rw[q2,hdat,hsd])
        have t2:=qfP t1 (by
         intro he;have:=congrArg (λz:SM=>z.data.length) he;simp only[Go.Stele.PW.put,q2,hdat,hsd,zLc] at this
         omega)
        have t3:=k1.trans t2;rw[hcs] at t3;refine⟨_,t3,⟨hk1,?_,rfl,rfl,by show All2 _ s.calls m1.calls;rw[q3];exact hcal,by show ∀ a,D a=true->m1.mem a=s.mem a;rw[q1];exact hmem,by show m1.inp=_;rw[q4];exact hinp,by show m1.out=_;rw[q5];exact hout⟩⟩
        by_cases ha:a=0
        subst ha;simp only[if_true];exact hsp;simp only[zn ha];exact⟨i+1+1,hr1,rfl,(qi1 hk zDd hw1).2⟩
       rw[zn hy]
       by_cases hy2:y=[58]
       rotate_left;rw[zn hy2];exact λh=>absurd rfl h;subst hy2;rw[zp rfl];have hcl:m.calls.length=s.calls.length:=(hcal.len).symm
       by_cases hl2:s.calls.length<64
       rotate_left;rw[zn hl2];exact λh=>absurd rfl h;rw[zp hl2];have t1:=C.call hk1 hAt1 hw1 (t:=C.known x) (r:=m.data) q2 (by rw[q3,hcl];exact hl2)
       have t2:=qfP t1 (by
        intro he;have:=congrArg (λz:SM=>z.calls.length) he;simp only[zLc] at this
        omega)
       have t3:=k1.trans t2;rw[hcs] at t3
       exact⟨_,t3,⟨hk1,hsp,rfl,hdat,.cons ⟨i+1+1,hr1,rfl,(qi1 hk zDd hw1).2⟩ (by rw[q3];exact hcal),by show ∀ a,D a=true->m1.mem a=s.mem a;rw[q1];exact hmem,by show m1.inp=_;rw[q4];exact hinp,by show m1.out=_;rw[q5];exact hout⟩⟩
    |none=>
     rw[qhZ hd hn hrf]
     have hc:qb1 s=1:=by
      unfold qb1 qjL;rw[hv];simp[hd,hn,hrf]
     rw[hc];rcases w with _|⟨c,_|⟨c2,w2⟩⟩;exact λh=>absurd rfl h;rotate_left;exact λh=>absurd rfl h;have hone:oneW ⟨C.W,D⟩ s [c] r=qgk D s c r:=rfl;rw[hone];have spot:c∈qc0->Spot C r (C.plc (i+1)) false:=λhcs=>⟨i+1,hr,rfl,(qi1 hk hcs hw).2⟩
     have pcne:c∈qc0->∀ {m':SM},m'.pc=C.plc (i+1)->m≠m':=λhcs m' hp he=>by
      have h4:=(qi1 hk hcs hw).1;rw[<-he,h2] at hp;omega
     unfold qgk
     by_cases c1:c=64
     ·subst c1;rw[zp rfl];unfold qoy
      cases hsd:s.data with
      |nil=>exact λh=>absurd rfl h
      |cons a d=>
       simp only
       by_cases hD:D a=true
       rotate_left;rw[zn hD];exact λh=>absurd rfl h;rw[zp hD];unfold qdg
       by_cases hl:d.length<256
       rotate_left;rw[zn hl];exact λh=>absurd rfl h;rw[zp hl];have t1:=C.load hk hAt hw (by rw[hdat,hsd]) (hL.data a hD).1 hl;exact⟨_,qfP t1 (pcne zDd rfl),⟨hk,spot zDd,rfl,by simp only[Go.Stele.PW.put];rw[hmem a hD],hcal,hmem,hinp,hout⟩⟩
     rw[zn c1]
     by_cases c2:c=33
     ·subst c2;rw[zp rfl];unfold qja
      match hsd:s.data with
      |[]=>exact λh=>absurd rfl h
      |[_]=>exact λh=>absurd rfl h
      |a::v::d=>
       simp only
       by_cases hD:D a=true
       rotate_left;rw[zn hD];exact λh=>absurd rfl h;rw[zp hD];have t1:=C.store hk hAt hw (by rw[hdat,hsd]) (hL.data a hD).1;refine⟨_,qfP t1 (pcne zDd rfl),⟨ok_store hL hk hD,spot zDd,rfl,rfl,hcal,λb hb=>?_,hinp,hout⟩⟩;simp only;split;rfl;exact hmem b hb
     rw[zn c2]
     by_cases c3:c=59
     subst c3;rw[zp rfl];unfold qmU
     cases hcl:s.calls with
     |nil=>exact λh=>absurd rfl h
     |cons kk l=>
      rw[hcl] at hcal;simp only
      cases hmc:m.calls with
      |nil=>rw[hmc] at hcal;cases hcal
      |cons tt l2=>
       rw[hmc] at hcal
       cases hcal with
       |cons g1 g2=>
        have t1:=C.back hk hAt hw hmc
        exact⟨_,qfP t1 (by
         intro he;have:=congrArg (λz:SM=>z.calls.length) he;simp only[hmc,zLc] at this
         omega),⟨hk,g1,rfl,hdat,g2,hmem,hinp,hout⟩⟩
     rw[zn c3]
     by_cases c4:c=44
     ·subst c4;rw[zp rfl];unfold qdg
      by_cases hl:s.data.length<256
      rotate_left;rw[zn hl];exact λh=>absurd rfl h;rw[zp hl];have t1:=C.read hk hAt hw (by rw[hdat];exact hl);exact⟨_,qfP t1 (pcne zDd rfl),⟨hk,spot zDd,rfl,by simp only[Go.Stele.PW.put];rw[hinp,hdat],hcal,hmem,by simp only;rw[hinp],hout⟩⟩
     rw[zn c4]
     by_cases c5:c=46
     subst c5;rw[zp rfl];unfold qmJ
     cases hsd:s.data with
     |nil=>exact λh=>absurd rfl h
     |cons v d=>
      have t1:=C.write hk hAt hw (v:=v) (r:=d) (by rw[hdat,hsd]);exact⟨_,qfP t1 (pcne zDd rfl),⟨hk,spot zDd,rfl,rfl,hcal,hmem,hinp,by simp only;rw[hout]⟩⟩
     rw[zn c5]
     by_cases c6:c=36
     subst c6;rw[zp rfl];intro _;rw[C.halt hk hAt hw,hout];rw[zn c6]
     by_cases c7:c=43∨c=45∨c=42∨c=47∨c=37∨c=94∨c=60
     rotate_left;rw[zn c7];exact λh=>absurd rfl h;rw[zp c7]
     have hop:isOp c:=by
      unfold isOp;rcases c7 with h|h|h|h|h|h|h <;> simp[h]
     unfold binW
     match hsd:s.data with
     |[]=>exact λh=>absurd rfl h
     |[_]=>exact λh=>absurd rfl h
     |b::a::d=>
      simp only
      cases hb:binM c.toNat a b with
      |none=>
       intro _
       rw[C.opTrap hk hAt hop hw (by rw[hdat,hsd]) hb,hout]
      |some v=>
       simp only;unfold qdg
       by_cases hl:d.length<256
       rotate_left;rw[zn hl];exact λh=>absurd rfl h;rw[zp hl];have t1:=C.op hk hAt hop hw (by rw[hdat,hsd]) hb hl;exact⟨_,qfP t1 (pcne (qcT hop) rfl),⟨hk,spot (qcT hop),rfl,rfl,hcal,hmem,hinp,hout⟩⟩
theorem qtK(hL:Lk C D):∀ {n e k:Nat} {o:Wd} {s:MS} {m:SM},Ends ⟨C.W,D⟩ n s e o k->Lnk C D s m->∀ N,k<=N->runM N m=(e,o,k):=by
 intro n e k o s m h
 induction h generalizing m with
 |@stop s e o h1 h2=>
  intro hl N hN;have key:=qm3 hL hl;rw[h1] at key;have key:=key h2;obtain⟨n,rfl⟩:∃ n,N=n+1:=⟨N-1,by omega⟩
  rw[runM,key]
 |@step n k e o s s' h1 _ ih=>
  intro hl N hN;have key:=qm3 hL hl;rw[h1] at key;obtain⟨m',k1,k2⟩:=key;obtain⟨n,rfl⟩:∃ n,N=qb1 s+n:=⟨N-qb1 s,by omega⟩;rw[qwu k1,ih k2 n (by omega)];simp only[add_comm]
end
theorem qk2{W:List Wd}{L:Wd->Nat}{og:Nat}(hA:qgm W)(hne:∀ w∈W,w≠[])(hT:Ty L (some 0) W){known:Wd->Nat}(hkn:known=qdI (qee (λ_=>0) og W))(hlen:(qcZ known W).length<=40000)(hog:og+40000<=262144)
  (h:Ends ⟨W,λx=>decide (x<262144/\(x<og∨og+40000<=x))⟩ n ⟨λ_=>0,W,[],[],inp,[],false⟩ e o k) (N:Nat) (hN:k<=N):runM N (qeN (qcZ known W) og inp)=(e,o,k):=by
 subst hkn;generalize hk:qdI (qee (λ_=>0) og W)=known at *
 have hL:Lk ⟨W,og,known⟩ λx=>decide (x<262144/\(x<og∨og+40000<=x)):=by
  refine⟨λj w x hw hd=>?_,λj w x hw hd=>?_,λa ha=>?_⟩;have:=qnx og hA.1 hne hw hd;rw[hk] at this;exact this;exact ty_nb known hT [] (λh=>by cases h) j w x hw hd;have:=zRi ha;show _/\(a<og∨og+(qcZ known W).length<=a);omega
 refine qtK hL h (C:=⟨W,og,known⟩) ⟨⟨qv9 _ _,by show og+(qcZ known W).length<=262144;omega⟩,⟨0,rfl,rfl,rfl⟩,rfl,rfl,.nil,λa ha=>?_,rfl,rfl⟩ N hN;have:=zRi ha;show qfl (qcZ known W) og a=0;unfold qfl;split;rw[List.getElem?_eq_none (by omega)];rfl
def qiJ(C:PW)(B:Int)(m:MS)(e:Int)(s:IS):Prop:=
 (e=0∨e=12->∃ k:Nat,∃ m',(k:Int)<=B/\Stp C k m m'/\stepM C m'=.stop e.toNat s.out)/\(e=13->∃ k m',Stp C k m m'/\m'.out=s.out)
def qas{A:Type}(C:PW)(Q:A->IS->MS->Prop)(c d:Int)(m:MS)(s:IS):IR A->Prop
 |.ok v s'=>s'.left<=s.left/\∃ k:Nat,∃ m',(k:Int)<=c+60 * ((s.left:Int)-(s'.left:Int))/\Stp C k m m'/\Q v s' m'
 |.stop e s'=>qiJ C (d+60 * (s.left:Int)+60) m e s'
variable{C:PW}
theorem qiJ.pre{B:Int}{m m1:MS}{e:Int}{s:IS}(h:Stp C k m m1)(g:qiJ C B m1 e s):qiJ C (k+B) m e s:=by
 refine⟨λhe=>?_,λhe=>?_⟩;obtain⟨y,m',k1,k2,k3⟩:=g.1 he;exact⟨k+y,m',by omega,h.trans k2,k3⟩;obtain⟨y,m',k2,k3⟩:=g.2 he;exact⟨k+y,m',h.trans k2,k3⟩
theorem qiJ.mono{B B':Int}{m:MS}{e:Int}{s:IS}(h:qiJ C B m e s)(hb:B<=B'):qiJ C B' m e s:=
 ⟨λhe=>by
  obtain⟨y,m',k1,k2,k3⟩:=h.1 he
  exact⟨y,m',by omega,k2,k3⟩,h.2⟩
section
variable{A B:Type}{Q:A->IS->MS->Prop}{R:B->IS->MS->Prop}{c d c1 d1 c2 d2:Int}{m m1:MS}{s:IS}
theorem qas.pre{r:IR A}{a:Nat}(h:Stx C a m m1)(g:qas C Q c1 d1 m1 s r)(hc:a+c1<=c)(hd:a+d1<=d):qas C Q c d m s r:=by
 obtain⟨x,hx,hs⟩:=h
 cases r with
 |ok v s'=>
  obtain⟨h1,k,m',h2,h3,h4⟩:=g
  exact⟨h1,x+k,m',by omega,hs.trans h3,h4⟩
 |stop e s'=>exact(qiJ.pre hs g).mono (by omega)
theorem qas.ok{v:A}(h:Q v s m)(hc:0<=c):qas C Q c d m s (.ok v s):=⟨zNr _,0,m,by omega,.zero _,h⟩
theorem qas.bind{r:IR A}{f:A->IS->IR B}(h:qas C Q c1 d1 m s r)(hc:c1+c2<=c)(hd:d1<=d)(hd2:c1+d2<=d)(hf:∀ v s' m',Q v s' m'->qas C R c2 d2 m' s' (f v s')):qas C R c d m s (r.bind f):=by
 cases r with
 |ok v s1=>
  obtain⟨h1,k,m',h2,h3,h4⟩:=h;have g:=hf v s1 m' h4;show qas C R c d m s (f v s1);revert g
  cases f v s1 with
  |ok w s2=>
   rintro⟨k1,k',m2,k2,k3,k4⟩
   exact⟨by omega,k+k',m2,by omega,h3.trans k3,k4⟩
  |stop e s2=>exact λg=>(qiJ.pre h3 g).mono (by omega)
 |stop e s1=>exact qiJ.mono (s:=s1) h (by omega)
theorem qas.post{r:IR A}{R:A->IS->MS->Prop}(h:qas C Q c1 d1 m s r)(hc:c1+a<=c)(hd:d1<=d)(hf:∀ v s' m',Q v s' m'->∃ m2,Stx C a m' m2/\R v s' m2):qas C R c d m s r:=by
 cases r with
 |ok v s1=>
  obtain⟨h1,k,m',h2,h3,h4⟩:=h;obtain⟨m2,⟨x,hx,k1⟩,k2⟩:=hf v s1 m' h4
  exact⟨h1,k+x,m2,by omega,h3.trans k1,k2⟩
 |stop e s1=>exact qiJ.mono h (by omega)
theorem qas.tick{f:Unit->IS->IR A}(hout:m.out=s.out)(h:s.left≠0->qas C Q (c+60) (d+60) m { s with left:=s.left-1 } (f () { s with left:=s.left-1 })):qas C Q c d m s ((Go.Stele.tick s).bind f):=by
 unfold Go.Stele.tick;split;exact⟨λhe=>(by rcases he with he|he <;> cases he),λ_=>⟨0,m,.zero _,hout⟩⟩
 rename_i h0
 have k:=h h0;show qas C Q c d m s (f () { s with left:=s.left-1 })
 revert k
 cases f () { s with left:=s.left-1 } with
 |ok v s1=>
  rintro⟨k1,k,m2,k2,k3⟩;simp only at k1 k2
  exact⟨by omega,k,m2,by omega,k3⟩
 |stop e s1=>
  intro k;exact qiJ.mono k (by simp only;omega)
theorem qas.limit(hout:m.out=s.out):qas C Q c d m s (.stop 13 s):=⟨λhe=>(by rcases he with he|he <;> cases he),λ_=>⟨0,m,.zero _,hout⟩⟩
theorem qas.other{e:Int}(h:e≠0/\e≠12/\e≠13):qas C Q c d m s (.stop e s):=⟨λhe=>(by rcases he with he|he <;> omega),λhe=>by omega⟩
theorem qas.trap{e:Int}(hd : -60<=d)(he:e=0∨e=12)(h:∃ m',Stp C 0 m m'/\stepM C m'=.stop e.toNat s.out):qas C Q c d m s (.stop e s):=by
 obtain⟨m',h1,h2⟩:=h;exact⟨λ_=>⟨0,m',by omega,h1,h2⟩,λhe'=>by omega⟩
end
theorem qex{A B D:Type}(r:IR A)(f:A->IS->IR B)(g:B->IS->IR D):(r.bind f).bind g=r.bind λv s=>(f v s).bind g:=by cases r <;> rfl
structure Trn where
 C:PW
 P:Pr
 cc:FnD->CC
 cenv:FnD->CEnv
 sa:Nm->Nat
 aa:Nm->Nat
 S:Nat
 fst:FnD->Nat
variable{X:Trn}
def Trn.keys(X:Trn):List Nm:=qaf X.P.vars X.P.funcs
def Trn.Data(X:Trn)(x:Nat):Prop:=(∃ k∈X.keys,x=X.sa k)∨(X.S<=x/\x<=X.S+2)∨∃ a∈X.P.arrays,∃ i,i<a.size/\x=X.aa a.name+i
structure TrnOk(X:Trn):Prop where
 sc:∀ f∈X.P.funcs,∀ name,qb9 (X.cenv f) name=0->(X.cc f).sc name=decDigits (X.sa (keyI f name))/\keyI f name∈X.keys
 ar:∀ f∈X.P.funcs,∀ name,qdB (X.cenv f) name=0->(X.cc f).ar name=decDigits (X.aa name)/\∃ a∈X.P.arrays,a.name=name
 temps:∀ f∈X.P.funcs,(X.cc f).t0=decDigits X.S/\(X.cc f).t1=decDigits (X.S+1)/\(X.cc f).t2=decDigits (X.S+2)
 low:∀ x,X.Data x->x<262144
 dat:∀ x,X.Data x->X.C.D x=true
 keyLow:∀ k∈X.keys,X.S+3<=X.sa k
 inj:∀ k∈X.keys,∀ k'∈X.keys,X.sa k=X.sa k'->k=k'
 apart:∀ a∈X.P.arrays,∀ i,i<a.size->(∀ k∈X.keys,X.sa k≠X.aa a.name+i)/\¬ (X.S<=X.aa a.name+i/\X.aa a.name+i<=X.S+2)
 arInj:∀ a∈X.P.arrays,∀ b∈X.P.arrays,∀ i j,i<a.size->j<b.size->X.aa a.name+i=X.aa b.name+j->a.name=b.name/\i=j
 arLow:∀ a∈X.P.arrays,X.aa a.name<1000000
 arName:∀ a∈X.P.arrays,∀ b∈X.P.arrays,a.name=b.name->a.size=b.size
 body:∀ f∈X.P.funcs,qbB (X.cenv f) f.body=0/\qbu f.body
 fn:∀ f∈X.P.funcs,∀ name g,(X.cenv f).fn name=some g->fnI X.P name∈X.P.funcs/\(fnI X.P name).name=name/\g.params=(fnI X.P name).params.length/\qbP (X.cenv (fnI X.P name)) (fnI X.P name).body<=g.need/\qcg (X.cenv (fnI X.P name)) (fnI X.P name).body<=g.depth
 par:∀ f∈X.P.funcs,(∀ p∈f.params,keyI f p∈X.keys/\(X.cc f).sc p=decDigits (X.sa (keyI f p)))/\(f.params.map (keyI f)).Nodup
 code:∀ f∈X.P.funcs,∃ nl,X.C.Code (X.fst f) (fnW (X.cc f) nl f).1
 ldef:∀ (j n:Nat),X.C.W[j]? = some (labW n++[58])->defW (labW n++[58])=some (labW n)
 lref:∀ (j n:Nat),X.C.W[j]? = some (38::labW n)->refW (38::labW n)=some (labW n)
 fdef:∀ f∈X.P.funcs,defW ([102,95]++f.name++[58])=some ([102,95]++f.name)
 fref:∀ f∈X.P.funcs,refW ([38,102,95]++f.name)=some ([102,95]++f.name)
 label:∀ (j:Nat) (w x:Wd),X.C.W[j]? = some w->defW w=some x->qbz x X.C.W=some (X.C.plc (j+1))
structure Trn.Rel(X:Trn)(s:IS)(m:MS):Prop where
 ok:X.C.Ok m.mem
 sc:∀ k∈X.keys,m.mem (X.sa k)=s.sc k
 ar:∀ a∈X.P.arrays,(s.ar a.name).length=a.size/\∀ i (h:i<(s.ar a.name).length),m.mem (X.aa a.name+i)=(s.ar a.name)[i]
 inp:m.inp=s.inp
 out:m.out=s.out
theorem Trn.Rel.same{s s':IS}{m:MS}(h:X.Rel s m)(h1:m'.mem=m.mem)(h2:m'.inp=m.inp)(h3:m'.out=m.out)(k1:s'.sc=s.sc)(k2:s'.ar=s.ar)(k3:s'.inp=s.inp)(k4:s'.out=s.out):X.Rel s' m':=
 ⟨by rw[h1];exact h.ok,by rw[h1,k1];exact h.sc,by rw[h1,k2];exact h.ar,by rw[h2,k3];exact h.inp,by rw[h3,k4];exact h.out⟩
theorem Trn.ok_store(hX:TrnOk X){mem:Nat->Nat}(h:X.C.Ok mem){x:Nat}(hx:X.Data x):X.C.Ok (λi=>if i=x then v else mem i):=trivial
theorem Trn.Rel.temp(hX:TrnOk X){s:IS}{m:MS}(h:X.Rel s m){x:Nat}(hx:X.S<=x/\x<=X.S+2)(h1:m'.mem=λi=>if i=x then v else m.mem i)(h2:m'.inp=m.inp)(h3:m'.out=m.out):X.Rel s m':=by
 refine⟨by rw[h1];exact X.ok_store hX h.ok (.inr (.inl hx)),λk hk=>?_,λa ha=>?_,by rw[h2];exact h.inp,by rw[h3];exact h.out⟩;rw[h1];simp only;have:=hX.keyLow k hk;rw[zn (by omega)];exact h.sc k hk;obtain⟨e1,e2⟩:=h.ar a ha;refine⟨e1,λi hi=>?_⟩;rw[h1];simp only;have:=(hX.apart a ha i (by omega)).2;rw[zn (λh=>this (by rw[h];exact hx))];exact e2 i hi
theorem Trn.Rel.scal(hX:TrnOk X){s:IS}{m:MS}(h:X.Rel s m){k:Nm}(hk:k∈X.keys)(h1:m'.mem=λi=>if i=X.sa k then v else m.mem i)(h2:m'.inp=m.inp)(h3:m'.out=m.out):X.Rel (qed s k v) m':=by
 refine⟨by rw[h1];exact X.ok_store hX h.ok (.inl ⟨k,hk,rfl⟩),λk' hk'=>?_,λa ha=>?_,by rw[h2];exact h.inp,by rw[h3];exact h.out⟩;rw[h1];unfold qed;simp only
 by_cases he:k'=k
 subst he;rw[zp rfl,zp rfl];rw[zn (λh=>he (hX.inj _ hk' _ hk h)),zn he];exact h.sc k' hk';obtain⟨e1,e2⟩:=h.ar a ha;refine⟨e1,λi hi=>?_⟩;rw[h1];simp only;have hi2:i<(s.ar a.name).length:=hi;have:=(hX.apart a ha i (by omega)).1 k hk;rw[zn (λh=>this h.symm)];exact e2 i hi2
theorem Trn.Rel.elem(hX:TrnOk X){s:IS}{m:MS}(h:X.Rel s m){a:Ar}(ha:a∈X.P.arrays)(hi:i<(s.ar a.name).length)(h1:m'.mem=λx=>if x=X.aa a.name+i then v else m.mem x)(h2:m'.inp=m.inp)(h3:m'.out=m.out) :
  X.Rel { s with ar:=λx=>if x=a.name then (s.ar a.name).set i v else s.ar x } m':=by
 have hs:=(h.ar a ha).1;refine⟨by rw[h1];exact X.ok_store hX h.ok (.inr (.inr ⟨a,ha,i,by omega,rfl⟩)),λk' hk'=>?_,λb hb=>?_,by rw[h2];exact h.inp,by rw[h3];exact h.out⟩;rw[h1];simp only;rw[zn ((hX.apart a ha i (by omega)).1 k' hk')];exact h.sc k' hk';obtain⟨e1,e2⟩:=h.ar b hb
 by_cases he:b.name=a.name
 have hab:=hX.arName b hb a ha he;simp only[he,if_true,List.length_set];refine⟨by omega,λj hj=>?_⟩;rw[h1];simp only
 by_cases hj2:j=i
 subst hj2;rw[zp rfl,List.getElem_set_self];rw[zn (by omega),List.getElem_set_ne (λh=>hj2 h.symm)];exact(h.ar a ha).2 j hj;simp only[he,if_false];refine⟨e1,λj hj=>?_⟩;rw[h1];simp only;rw[zn (λh=>he (hX.arInj b hb a ha j i (by omega) (by omega) h).1)];exact e2 j hj
structure Trn.Vw(X:Trn)(s:IS)(i:Nat)(d:List Nat)(c:List (List Wd))(m:MS):Prop where
 here:X.C.At m i
 rel:X.Rel s m
 data:m.data=d
 calls:m.calls=c
theorem Trn.Vw.cast{s:IS}{j:Nat}{c:List (List Wd)}{m:MS}(v:X.Vw s i d c m)(h:i=j):X.Vw s j d c m:=h▸v
section
variable{X:Trn}{s:IS}{i:Nat}{d:List Nat}{c:List (List Wd)}{m:MS}
theorem Trn.Vw.steps(v:X.Vw s i d c m)(l:Nat):X.Vw { s with left:=l } i d c m:=⟨v.here,v.rel.same rfl rfl rfl rfl rfl rfl rfl,v.data,v.calls⟩
theorem Trn.Vw.num(v:X.Vw s i d c m){n k:Nat}(hw:X.C.W[i]? = some (decDigits n))(hn:n<4294967296)(hl:(decDigits n).length+1<=k)(hd:d.length<256):∃ m',Stx X.C k m m'/\X.Vw s (i+1) (n::d) c m'/\m'.mem=m.mem:=
 ⟨_,PW.num v.here hw hn (by rw[v.data];exact hd) hl,⟨PW.at_mk rfl,v.rel.same rfl rfl rfl rfl rfl rfl rfl,by simp only;rw[v.data],v.calls⟩,rfl⟩
theorem len6(h:n<1000000):(decDigits n).length+1<=7:=by have:=qi0 5 n h;omega
theorem Trn.Vw.addr(v:X.Vw s i d c m)(hw:X.C.W[i]? = some (decDigits n))(hn:n<1000000)(hd:d.length<256):∃ m',Stx X.C 7 m m'/\X.Vw s (i+1) (n::d) c m'/\m'.mem=m.mem:=v.num hw (by omega) (len6 hn) hd
theorem qni(h:n<10):decDigits n=[UInt8.ofNat (48+n)]:=by rw[decDigits,dif_pos h]
theorem Trn.Vw.dig(v:X.Vw s i d c m)(hw:X.C.W[i]? = some w)(hn:n<10)(he:w=[UInt8.ofNat (48+n)])(hd:d.length<256):∃ m',Stx X.C 2 m m'/\X.Vw s (i+1) (n::d) c m'/\m'.mem=m.mem:=by
 rw[he,<-qni hn] at hw;exact v.num hw (by omega) (by rw[qni hn];exact zNr 2) hd
theorem Trn.Vw.load{a:Nat}(v:X.Vw s i (a::d) c m)(hw:X.C.W[i]? = some [64])(ha:X.C.D a=true)(hd:d.length<256):∃ m',Stx X.C 1 m m'/\X.Vw s (i+1) (m.mem a::d) c m'/\m'.mem=m.mem:=
 ⟨_,PW.load v.here hw v.data ha hd,⟨X.C.put_at _ _ _,v.rel.same rfl rfl rfl rfl rfl rfl rfl,rfl,v.calls⟩,rfl⟩
theorem Trn.Vw.op{a b x:Nat}{ch:UInt8}(v:X.Vw s i (b::a::d) c m)(hw:X.C.W[i]? = some [ch])(ho:isOp ch)(hv:binM ch.toNat a b=some x)(hd:d.length<256):∃ m',Stx X.C 1 m m'/\X.Vw s (i+1) (x::d) c m'/\m'.mem=m.mem:=
 ⟨_,PW.op v.here ho hw v.data hv hd,⟨X.C.put_at _ _ _,v.rel.same rfl rfl rfl rfl rfl rfl rfl,rfl,v.calls⟩,rfl⟩
theorem Trn.Vw.temp(hX:TrnOk X){a x:Nat}(v:X.Vw s i (a::x::d) c m)(hw:X.C.W[i]? = some [33])(ha:X.S<=a/\a<=X.S+2):∃ m',Stx X.C 1 m m'/\X.Vw s (i+1) d c m'/\m'.mem=λy=>if y=a then x else m.mem y:=
 ⟨_,PW.store v.here hw v.data (hX.dat a (.inr (.inl ha))),⟨PW.at_mk rfl,v.rel.temp hX ha rfl rfl rfl,rfl,v.calls⟩,rfl⟩
theorem Trn.Vw.scal(hX:TrnOk X){k:Nm}{x:Nat}(hk:k∈X.keys)(v:X.Vw s i (X.sa k::x::d) c m)(hw:X.C.W[i]? = some [33]):∃ m',Stx X.C 1 m m'/\X.Vw (qed s k x) (i+1) d c m':=
 ⟨_,PW.store v.here hw v.data (hX.dat _ (.inl ⟨k,hk,rfl⟩)),⟨PW.at_mk rfl,v.rel.scal hX hk rfl rfl rfl,rfl,v.calls⟩⟩
theorem Trn.Vw.read(v:X.Vw s i d c m)(hw:X.C.W[i]? = some [44])(hd:d.length<256):∃ m',Stx X.C 1 m m'/\X.Vw { s with inp:=s.inp.tail } (i+1) (s.inp.headD 4294967295::d) c m':=by
 refine⟨_,PW.read v.here hw (by rw[v.data];exact hd),⟨PW.at_mk rfl,⟨v.rel.ok,v.rel.sc,v.rel.ar,?_,v.rel.out⟩,?_,v.calls⟩⟩;simp only;rw[v.rel.inp];simp only[PW.put];rw[v.rel.inp,v.data]
theorem Trn.Vw.write{x:Nat}(v:X.Vw s i (x::d) c m)(hw:X.C.W[i]? = some [46]):∃ m',Stx X.C 1 m m'/\X.Vw { s with out:=s.out++[UInt8.ofNat x] } (i+1) d c m':=by
 refine⟨_,PW.write v.here hw v.data,⟨PW.at_mk rfl,⟨v.rel.ok,v.rel.sc,v.rel.ar,v.rel.inp,?_⟩,rfl,v.calls⟩⟩;simp only;rw[v.rel.out]
theorem Trn.Vw.greater(hX:TrnOk X)(hf:f∈X.P.funcs)(v:X.Vw s i (b::a::d) c m)(hc:X.C.Code i (qaX (X.cc f)))(hd:d.length+3<=256):∃ m',Stx X.C 33 m m'/\X.Vw s (i+9) (b2n (decide (b<a))::d) c m':=by
 obtain⟨_,t1,t2⟩:=hX.temps f hf;unfold qaX at hc;rw[t1,t2] at hc;have hS:X.S+2<262144:=hX.low _ (.inr (.inl ⟨by omega,by omega⟩));obtain⟨w0,hc⟩:=hc.cons;obtain⟨w1,hc⟩:=hc.cons;obtain⟨w2,hc⟩:=hc.cons;obtain⟨w3,hc⟩:=hc.cons;obtain⟨w4,hc⟩:=hc.cons;obtain⟨w5,hc⟩:=hc.cons;obtain⟨w6,hc⟩:=hc.cons;obtain⟨w7,hc⟩:=hc.cons;obtain⟨w8,hc⟩:=hc.cons;obtain⟨m1,s1,v1,e1⟩:=v.addr w0 (by omega) (by simp only[zLc];omega);obtain⟨m2,s2,v2,e2⟩:=v1.temp hX w1 ⟨by omega,by omega⟩;obtain⟨m3,s3,v3,e3⟩:=v2.addr w2 (by omega) (by simp only[zLc];omega);obtain⟨m4,s4,v4,e4⟩:=v3.temp hX w3 ⟨by omega,by omega⟩;obtain⟨m5,s5,v5,e5⟩:=v4.addr w4 (by omega) (by omega);obtain⟨m6,s6,v6,e6⟩:=v5.load w5 (hX.dat _ (.inr (.inl ⟨by omega,by omega⟩))) (by omega);obtain⟨m7,s7,v7,e7⟩:=v6.addr w6 (by omega) (by simp only[zLc];omega);obtain⟨m8,s8,v8,e8⟩:=v7.load w7 (hX.dat _ (.inr (.inl ⟨by omega,by omega⟩))) (by simp only[zLc];omega)
 have q1:m5.mem (X.S+2)=b:=by
  rw[e5,e4];simp only;rw[zn (by omega),e3,e2]
  simp
 have q2:m7.mem (X.S+1)=a:=by
  rw[e7,e6,e5,e4]
  simp
 rw[q1] at v6 v7 v8;rw[q2] at v8
 obtain⟨m9,s9,v9,_⟩:=v8.op (x:=b2n (decide (b<a))) w8 (by unfold isOp;simp) (by
  unfold binM b2n
  simp) (by omega)
 exact⟨m9,(s1.trans (s2.trans (s3.trans (s4.trans (s5.trans (s6.trans (s7.trans (s8.trans s9)))))))).mono (by omega),v9⟩
end
def EvOk(X:Trn)(n:Nat):Prop:=∀ f∈X.P.funcs,∀ e i s m d c,numE e->errE (X.cenv f) e=0->X.C.Code i (exW (X.cc f) e)->X.Vw s i d c m->d.length+qbg (X.cenv f) e<=256->c.length+depE (X.cenv f) e<=64 ->
 qas X.C (λv s' m'=>X.Vw s' (i+(exW (X.cc f) e).length) (v::d) c m') (-20) 0 m s (evI X.P n f e s)
def qvy(X:Trn)(n:Nat):Prop:=∀ f∈X.P.funcs,∀ name vs i s m d c,name≠[105,110]->name≠[111,117,116]->callE (X.cenv f) name vs.length=0->X.C.Code i [[38,102,95]++name,[58]]->X.Vw s i (vs.reverse++d) c m ->
 (∀ g,(X.cenv f).fn name=some g->d.length+max (g.params+1) g.need<=256/\c.length+(g.depth+1)<=64) ->
 qas X.C (λv s' m'=>X.Vw s' (i+2) (v::d) c m') (8 * vs.length+25) (8 * vs.length+25) m s (callI X.P (stI X.P n) name vs s)
theorem qhC{A:Type}(g:A->IS->IR Nat)(x:A)(s:IS):mapR g [x] s=(g x s).bind λv s=>.ok [v] s:=by
 unfold mapR;cases g x s <;> rfl
theorem quA{A:Type}(g:A->IS->IR Nat)(x y:A)(s:IS):mapR g [x,y] s=(g x s).bind λa s=>(g y s).bind λb s=>.ok [a,b] s:=by
 unfold mapR
 cases g x s with
 |stop e s=>rfl
 |ok a s=>
  show(mapR g [y] s).bind _=(g y s).bind _;rw[qhC]
  try cases g y s <;> rfl
section
variable{X:Trn}{n:Nat}
theorem qs6(hE:EvOk X n){f:FnD}(hf:f∈X.P.funcs):∀ (l:List Ex) i s m d c,qcB l->qba (X.cenv f) l=0->X.C.Code i (exWl (X.cc f) l).flatten->X.Vw s i d c m->(∀ k (h:k<l.length),d.length+k+qbg (X.cenv f) l[k]<=256)->c.length+qb2 (X.cenv f) l<=64 ->
  qas X.C (λvs s' m'=>vs.length=l.length/\X.Vw s' (i+(exWl (X.cc f) l).flatten.length) (vs.reverse++d) c m') (-20 * l.length) 0 m s (mapR (evI X.P n f) l s)
 |[],i,s,m,d,c,_,_,_,v,_,_=>qas.ok ⟨rfl,v⟩ (by simp)
 |e::l,i,s,m,d,c,hn,he,hc,v,hd,hdep=>by
  rw[qba] at he;obtain⟨he1,he2⟩:=qac.1 he;rw[qb2] at hdep;rw[exWl,flatten_cons] at hc;obtain⟨hc1,hc2⟩:=hc.app;unfold mapR;have h0:=hd 0 (by simp);simp only[List.getElem_cons_zero] at h0;refine qas.bind (c2 := -20 * l.length) (d2:=0) (hE f hf e i s m d c hn.1 he1 hc1 v (by omega) (by omega)) (by rw[zLc];omega) (Int.le_refl _) (by omega) λa s' m' va=>?_;refine qas.bind (c2:=0) (d2:=0) (qs6 hE hf l _ s' m' (a::d) c hn.2 he2 hc2 va (λk hk=>?_) (by omega)) (by omega) (Int.le_refl _) (by omega) λvs s2 m2 hv=>?_;have:=hd (k+1) (by rw[zLc];omega);simp only[List.getElem_cons_succ] at this;rw[zLc];omega;refine qas.ok ⟨by rw[zLc,zLc,hv.1],?_⟩ (Int.le_refl _);have:=hv.2;rw[exWl,flatten_cons,zLa,<-add_assoc];simpa using this
theorem qel(a b:Nat):(if a<b then 1 else 0)=b2n (decide (a<b)):=by unfold b2n;simp
theorem xor_zero:a ^^^ b<1 ↔ a=b:=by
 constructor;intro h;have h0:a ^^^ b=0:=by omega
 exact Nat.eq_of_testBit_eq λj=>by
  have h2:=congrArg (λx=>x.testBit j) h0;simp only[Nat.testBit_xor,Nat.zero_testBit] at h2;revert h2;cases a.testBit j <;> cases b.testBit j <;> simp
 rintro rfl;rw[Nat.xor_self];decide
theorem qmr:∀ (ns:List Nat) (i m B:Nat),qhM i ns m<=B->m<=B/\∀ k (h:k<ns.length),i+k+ns[k]<=B
 |[],i,m,B,h=>⟨h,λk hk=>by cases hk⟩
 |a::ns,i,m,B,h=>by
  rw[qhM] at h;obtain⟨h1,h2⟩:=qmr ns (i+1) _ B h;refine⟨by omega,λk hk=>?_⟩
  cases k with
  |zero=>simp only[List.getElem_cons_zero];omega
  |succ k=>
   have:=h2 k (by simpa using hk);simp only[List.getElem_cons_succ];omega
theorem qkZ(c:CEnv):∀ (l:List Ex),(qaZ c l).length=l.length/\∀ k (h:k<l.length) (h2:k<(qaZ c l).length),(qaZ c l)[k]=qbg c l[k]
 |[]=>⟨by simp[qaZ],λk h=>by cases h⟩
 |x::l=>by
  obtain⟨h1,h2⟩:=qkZ c l;refine⟨by simp[qaZ,h1],λk hk hk2=>?_⟩
  cases k with
  |zero=>simp[qaZ]
  |succ k=>
   simp only[qaZ,List.getElem_cons_succ];exact h2 k (by simpa using hk) _
theorem qxo(hX:TrnOk X)(hf:f∈X.P.funcs){op:Nm}(hop:op∈qc4)(h1:op≠[33,61])(h2:op≠[38,38])(h3:op≠[124,124]){s:IS}{c:List (List Wd)}{m:MS}(v:X.Vw s i (b::a::d) c m)(hd:d.length+3<=256∨(d.length+2<=256/\op≠[62]/\op≠[60,61]))
  {ws:List Wd} (hw:ws=(if op=[62] then qaX (X.cc f) else if op=[60,61] then qaX (X.cc f)++[[49],[94]] else if op=[62,61] then [[60],[49],[94]] else if op=[61,61] then [[94],[49],[60]] else [op])) (hc:X.C.Code i ws) :
  qas X.C (λr s' m'=>X.Vw s' (i+ws.length) (r::d) c m') 36 0 m s (match binI op a b with
   |some r=>.ok r s
   |none=>.stop 12 s):=by
 have hd2:d.length+2<=256:=by omega
 have simple:∀ ch:UInt8,op=[ch]->isOp ch->(ws=[op])->binI op a b=binM ch.toNat a b->qas X.C (λr s' m'=>X.Vw s' (i+ws.length) (r::d) c m') 36 0 m s (match binI op a b with
   |some r=>.ok r s
   |none=>.stop 12 s):=by
  intro ch e1 e2 e3 e4;subst e3;obtain⟨w0,_⟩:=hc.cons;rw[e1] at w0;rw[e4]
  cases hv:binM ch.toNat a b with
  |some r=>
   obtain⟨m1,t1,v1,_⟩:=v.op w0 e2 hv (by omega)
   exact qas.pre t1 (qas.ok (c:=0) (d := -1) v1 (Int.le_refl 0)) (by omega) (by omega)
  |none=>exact qas.trap (by omega) (.inr rfl) (by rw[<-v.rel.out];exact PW.opTrap v.here e2 w0 v.data hv)
 simp only[qc4,zMi,not_mem_nil,or_false] at hop;rcases hop with rfl|rfl|rfl|rfl|rfl|rfl|rfl|rfl|rfl|rfl|rfl|rfl|rfl|rfl;exact absurd rfl h3;exact absurd rfl h2
 ·-- ==
  have hw:ws=[[94],[49],[60]]:=hw;subst hw;obtain⟨w0,hc⟩:=hc.cons;obtain⟨w1,hc⟩:=hc.cons;obtain⟨w2,hc⟩:=hc.cons;obtain⟨m1,t1,v1,_⟩:=v.op (x:=a ^^^ b) w0 (by unfold isOp;simp) rfl (by omega);obtain⟨m2,t2,v2,_⟩:=v1.dig (n:=1) w1 zDd rfl (by simp only[zLc];omega)
  obtain⟨m3,t3,v3,_⟩:=v2.op (x:=b2n (decide (a=b))) w2 (by unfold isOp;simp) (by
   unfold binM;simp only[xor_zero];unfold b2n
   simp) (by omega)
  exact qas.pre (t1.trans (t2.trans t3)) (qas.ok (c:=0) (d := -4) v3 (Int.le_refl 0)) (by omega) (by omega)
 exact absurd rfl h1
 ·exact simple 60 rfl (by unfold isOp;simp) hw (by unfold binM;rw[zn zDd,zn zDd,zn zDd,zn zDd,zn zDd,zn zDd,qel];try rfl)
 ·-- >
  have hw:ws=qaX (X.cc f):=hw;subst hw;obtain⟨m1,t1,v1⟩:=v.greater hX hf hc (by rcases hd with h|h;omega;exact absurd rfl h.2.1);exact qas.pre t1 (qas.ok (c:=0) (d := -33) v1 (Int.le_refl 0)) (by omega) (by omega)
 ·-- <=
  have hw:ws=qaX (X.cc f)++[[49],[94]]:=hw;subst hw;obtain⟨hc1,hc2⟩:=hc.app;obtain⟨m1,t1,v1⟩:=v.greater hX hf hc1 (by rcases hd with h|h;omega;exact absurd rfl h.2.2);have hl:(qaX (X.cc f)).length=9:=rfl;rw[hl] at hc2;obtain⟨w1,hc2⟩:=hc2.cons;obtain⟨w2,hc2⟩:=hc2.cons;obtain⟨m2,t2,v2,_⟩:=v1.dig (n:=1) w1 zDd rfl (by simp only[zLc];omega)
  obtain⟨m3,t3,v3,_⟩:=v2.op (x:=b2n (decide (a<=b))) w2 (by unfold isOp;simp) (by
   unfold binM b2n
   by_cases h:b<a
   simp[h,show ¬ a<=b by omega]
   simp[h,show a<=b by omega]) (by omega)
  exact qas.pre (t1.trans (t2.trans t3)) (qas.ok (c:=0) (d := -36) (by
   have:i+9+1+1=i+(qaX (X.cc f)++[[49],[94]]).length:=rfl
   exact v3.cast this) (Int.le_refl 0)) (by omega) (by omega)
 ·-- >=
  have hw:ws=[[60],[49],[94]]:=hw;subst hw;obtain⟨w0,hc⟩:=hc.cons;obtain⟨w1,hc⟩:=hc.cons;obtain⟨w2,hc⟩:=hc.cons;obtain⟨m1,t1,v1,_⟩:=v.op (x:=b2n (decide (a<b))) w0 (by unfold isOp;simp) (by unfold binM;rw[zn zDd,zn zDd,zn zDd,zn zDd,zn zDd,zn zDd,qel]) (by omega);obtain⟨m2,t2,v2,_⟩:=v1.dig (n:=1) w1 zDd rfl (by simp only[zLc];omega)
  obtain⟨m3,t3,v3,_⟩:=v2.op (x:=b2n (decide (b<=a))) w2 (by unfold isOp;simp) (by
   unfold binM b2n
   by_cases h:a<b
   simp[h,show ¬ b<=a by omega]
   simp[h,show b<=a by omega]) (by omega)
  exact qas.pre (t1.trans (t2.trans t3)) (qas.ok (c:=0) (d := -4) v3 (Int.le_refl 0)) (by omega) (by omega)
 exact simple 94 rfl (by unfold isOp;simp) hw rfl;exact simple 43 rfl (by unfold isOp;simp) hw rfl;exact simple 45 rfl (by unfold isOp;simp) hw rfl;exact simple 42 rfl (by unfold isOp;simp) hw rfl;exact simple 47 rfl (by unfold isOp;simp) hw (by unfold binM binI;by_cases h:b=0 <;> simp[h]);exact simple 37 rfl (by unfold isOp;simp) hw (by unfold binM binI;by_cases h:b=0 <;> simp[h])
end
theorem qvb(b:Bool):b2n b<=1:=by unfold b2n;split <;> omega
theorem qpi{op:Nm}(h:qbk op=2):op∈qc4/\op≠nNum/\op≠nVar/\op≠qeD/\op≠nNeg/\op≠nNot/\op≠qch:=by
 unfold qbk at h;split at h;cases h
 rename_i h1
 split at h;cases h
 rename_i h2
 split at h;cases h
 rename_i h3
 split at h
 rename_i h4
 exact⟨h4,λe=>h1 (.inl e),λe=>h1 (.inr e),λe=>h2 (.inl e),λe=>h2 (.inr (.inl e)),λe=>h2 (.inr (.inr e)),h3⟩;cases h
theorem qwm(P:Pr)(g:FnD->Sm->IS->IR (Option Nat))(f:FnD){op:Nm}(h:op∈qc4)(num:Nat)(name:Nm)(a b:Nat)(s:IS):opI P g f op num name [a,b] s=match binI op a b with
  |some r=>.ok r s
  |none=>.stop 12 s:=by
 simp only[qc4,zMi,not_mem_nil,or_false] at h;rcases h with rfl|rfl|rfl|rfl|rfl|rfl|rfl|rfl|rfl|rfl|rfl|rfl|rfl|rfl <;> rfl
theorem qpt:∀ (ns:List Nat) (i m:Nat),m<=qhM i ns m
 |[],i,m=>zNr _
 |a::ns,i,m=>by
  rw[qhM];have:=qpt ns (i+1) (max m (i+a));omega
theorem qgc(c:CEnv):∀ e:Ex,errE c e=0->1<=qbg c e
 |.mk op num name args,h=>by
  rw[errE] at h;split at h
  case isFalse=>cases h
  rename_i hop
  obtain⟨h1,h2⟩:=qac.1 h;rw[qbg];unfold opN;split;omega;split;omega;split
  rename_i hc
  subst hc;have he3:callE c name args.length=0:=h2;unfold qiO;split;omega
  rename_i k1
  split
  rename_i k2
  unfold callE at he3;rw[zn k1,zp k2] at he3;split at he3
  rename_i hl
  obtain⟨x,rfl⟩:=zRo hl;rw[qba] at h1;have:=qgc c x (qac.1 h1).1;rw[qaZ];exact this;cases he3
  rename_i k2
  unfold callE at he3;rw[zn k1,zn k2] at he3;split
  rename_i g hg
  have:=qpt (qaZ c args) 0 (max (g.params+1) g.need);omega
  rename_i hg
  rw[hg] at he3;simp only at he3;split at he3 <;> cases he3
  repeat' split
  all_goals omega
section
variable{X:Trn}{n:Nat}
theorem qwp(hX:TrnOk X)(hE:EvOk X n)(hC:qvy X n):EvOk X (n+1):=by
 intro f hf e i s m d c hn he hc v hd hdep;obtain⟨op,num,name,args⟩:=e;rw[errE] at he;split at he
 case isFalse=>cases he
 rename_i hop
 obtain⟨he1,he2⟩:=qac.1 he;rw[evI];refine qas.tick v.rel.out λhleft=>?_;have v:=v.steps (s.left-1);generalize { s with left:=s.left-1 }=s1 at v ⊢;clear hleft;obtain⟨hnum,hn⟩:=hn;rw[exW] at hc ⊢;rw[qbg] at hd;rw[depE] at hdep;have hdep2:c.length+qb2 (X.cenv f) args<=64:=by omega
 by_cases h1:op=nNum
 ·subst h1
  have ha:args=[]:=eq_nil_of_length_eq_zero (by
   have e:qbk nNum=0:=rfl;rw[e] at hop
   omega)
  subst ha;have hr:((mapR (evI X.P n f) [] s1).bind λvs s=>opI X.P (stI X.P n) f nNum num name vs s)=.ok num s1:=rfl;rw[hr];have hw:opW (X.cc f) nNum num name (exWl (X.cc f) [])=[decDigits num]:=by rw[exWl];try rfl
  rw[hw] at hc ⊢;obtain⟨w0,_⟩:=hc.cons
  have hroom:d.length<256:=by
   have:opN (X.cenv f) nNum name (qaZ (X.cenv f) [])=1:=rfl;omega
  obtain⟨m1,t1,v1,_⟩:=v.num (k:=12) w0 hnum (by have:=qi0 9 num (Nat.lt_of_lt_of_le hnum zDd);omega) hroom;exact qas.pre t1 (qas.ok (c:=0) (d:=0) v1 (Int.le_refl 0)) (by omega) (by omega)
 by_cases h2:op=nVar
 ·subst h2
  have ha:args=[]:=eq_nil_of_length_eq_zero (by
   have e:qbk nVar=0:=rfl;rw[e] at hop
   omega)
  subst ha;have hr:((mapR (evI X.P n f) [] s1).bind λvs s=>opI X.P (stI X.P n) f nVar num name vs s)=.ok (s1.sc (keyI f name)) s1:=rfl;rw[hr];have he3:qb9 (X.cenv f) name=0:=he2;obtain⟨a1,a2⟩:=hX.sc f hf name he3;have hw:opW (X.cc f) nVar num name (exWl (X.cc f) [])=[(X.cc f).sc name,[64]]:=by rw[exWl];try rfl
  rw[hw,a1] at hc;rw[hw];obtain⟨w0,hc⟩:=hc.cons;obtain⟨w1,hc⟩:=hc.cons
  have hroom:d.length<256:=by
   have:opN (X.cenv f) nVar name (qaZ (X.cenv f) [])=1:=rfl;omega
  have hlow:=hX.low _ (.inl ⟨_,a2,rfl⟩);obtain⟨m1,t1,v1,e1⟩:=v.addr w0 (by omega) hroom;obtain⟨m2,t2,v2,e2⟩:=v1.load w1 (hX.dat _ (.inl ⟨_,a2,rfl⟩)) hroom;rw[e1,v.rel.sc _ a2] at v2;exact qas.pre (t1.trans t2) (qas.ok (c:=0) (d:=0) v2 (Int.le_refl 0)) (by omega) (by omega)
 by_cases h3:op=qeD
 ·subst h3
  obtain⟨x,rfl⟩:∃ x,args=[x]:=zRo (by
   have e:qbk qeD=1:=rfl;rw[e] at hop
   omega)
  rw[qhC,qex];have he3:qdB (X.cenv f) name=0:=he2;obtain⟨a1,A,hA,rfl⟩:=hX.ar f hf name he3;have hw:opW (X.cc f) qeD num A.name (exWl (X.cc f) [x])=(X.cc f).ar A.name::(exW (X.cc f) x++[[43],[64]]):=by rw[exWl];try rfl
  rw[hw,a1] at hc;rw[hw];obtain⟨w0,hc⟩:=hc.cons;obtain⟨hcx,hc⟩:=hc.app;obtain⟨w1,hc⟩:=hc.cons;obtain⟨w2,hc⟩:=hc.cons;have hneed:d.length+(1+qbg (X.cenv f) x)<=256:=hd;rw[qba] at he1;rw[qb2] at hdep2;have hbase:∀ j,j<A.size->X.aa A.name+j<262144:=λj hj=>hX.low _ (.inr (.inr ⟨A,hA,j,hj,rfl⟩));have haa:X.aa A.name<1000000:=hX.arLow A hA;obtain⟨m1,t1,v1,e1⟩:=v.addr w0 haa (by omega);refine zQ42 ?_;refine qas.bind (c2:=2) (d2:=2) (hE f hf x (i+1) s1 m1 (X.aa A.name::d) c hn.1 (qac.1 he1).1 hcx v1 (by rw[zLc];omega) (by omega)) (by omega) (by omega) (by omega) λa s' m' va=>?_
  show qas X.C _ 2 2 m' s' (match (s'.ar A.name)[a]? with
   |some v=>.ok v s'
   |none=>.stop 2 s')
  cases hg:(s'.ar A.name)[a]? with
  |none=>exact qas.other zDd
  |some r=>
   obtain⟨hlt,hr⟩:=List.getElem?_eq_some_iff.1 hg;obtain⟨b1,b2⟩:=va.rel.ar A hA;have hb:=hbase a (by omega)
   obtain⟨m2,t2,v2,e2⟩:=va.op (x:=X.aa A.name+a) w1 (by unfold isOp;simp) (by
    show some ((X.aa A.name+a) % 4294967296)=_
    rw[mod_eq_of_lt (by omega)]) (by omega)
   obtain⟨m3,t3,v3,e3⟩:=v2.load w2 (hX.dat _ (.inr (.inr ⟨A,hA,a,by omega,rfl⟩))) (by omega);rw[e2,b2 a hlt,hr] at v3;refine qas.pre (t2.trans t3) (qas.ok (c:=0) (d:=0) (v3.cast ?_) (Int.le_refl 0)) (by omega) (by omega);simp only[zLc,zLa,zLn];omega
 by_cases h4:op=nNeg
 ·subst h4
  obtain⟨x,rfl⟩:∃ x,args=[x]:=zRo (by
   have e:qbk nNeg=1:=rfl;rw[e] at hop
   omega)
  rw[qhC,qex];have hw:opW (X.cc f) nNeg num name (exWl (X.cc f) [x])=[48]::(exW (X.cc f) x++[[45]]):=by rw[exWl];try rfl
  rw[hw] at hc ⊢;obtain⟨w0,hc⟩:=hc.cons;obtain⟨hcx,hc⟩:=hc.app;obtain⟨w1,hc⟩:=hc.cons;have hneed:d.length+(1+qbg (X.cenv f) x)<=256:=hd;rw[qba] at he1;rw[qb2] at hdep2;obtain⟨m1,t1,v1,e1⟩:=v.dig (n:=0) w0 zDd rfl (by omega);refine zQ42 ?_;refine qas.bind (c2:=2) (d2:=2) (hE f hf x (i+1) s1 m1 (0::d) c hn.1 (qac.1 he1).1 hcx v1 (by rw[zLc];omega) (by omega)) (by omega) (by omega) (by omega) λa s' m' va=>?_;show qas X.C _ 2 2 m' s' (.ok ((4294967296-a) % 4294967296) s')
  obtain⟨m2,t2,v2,e2⟩:=va.op (x:=(4294967296-a) % 4294967296) w1 (by unfold isOp;simp) (by
   show some ((0+4294967296-a) % 4294967296)=_
   rw[zero_add]) (by omega)
  refine qas.pre t2 (qas.ok (c:=0) (d:=0) (v2.cast ?_) (Int.le_refl 0)) (by omega) (by omega);simp only[zLc,zLa,zLn];omega
 by_cases h5:op=nNot
 ·subst h5
  obtain⟨x,rfl⟩:∃ x,args=[x]:=zRo (by
   have e:qbk nNot=1:=rfl;rw[e] at hop
   omega)
  rw[qhC,qex];have hw:opW (X.cc f) nNot num name (exWl (X.cc f) [x])=exW (X.cc f) x++[[49],[60]]:=by rw[exWl];try rfl
  rw[hw] at hc ⊢;obtain⟨hcx,hc⟩:=hc.app;obtain⟨w0,hc⟩:=hc.cons;obtain⟨w1,hc⟩:=hc.cons;have hneed:d.length+max 2 (qbg (X.cenv f) x)<=256:=hd;rw[qba] at he1;rw[qb2] at hdep2;refine qas.bind (c2:=20) (d2:=20) (hE f hf x i s1 m d c hn.1 (qac.1 he1).1 hcx v (by omega) (by omega)) (by omega) (by omega) (by omega) λa s' m' va=>?_;show qas X.C _ 20 20 m' s' (.ok (b2n (decide (a=0))) s');obtain⟨m1,t1,v1,e1⟩:=va.dig (n:=1) w0 zDd rfl (by simp only[zLc];omega)
  obtain⟨m2,t2,v2,e2⟩:=v1.op (x:=b2n (decide (a=0))) w1 (by unfold isOp;simp) (by
   show some (if a<1 then 1 else 0)=_;rw[qel];congr 3
   exact propext ⟨λh=>by omega,λh=>by omega⟩) (by omega)
  refine qas.pre (t1.trans t2) (qas.ok (c:=0) (d:=0) (v2.cast ?_) (Int.le_refl 0)) (by omega) (by omega);simp only[zLc,zLa,zLn];omega
 by_cases h6:op=qch
 ·subst h6;have hneed:d.length+qiO (X.cenv f) name (qaZ (X.cenv f) args)<=256:=hd;have hw:opW (X.cc f) qch num name (exWl (X.cc f) args)=(exWl (X.cc f) args).flatten++(if name=[105,110] then [[44]] else if name=[111,117,116] then [[46],[48]] else [[38,102,95]++name,[58]]):=rfl;have he3:callE (X.cenv f) name args.length=0:=he2;have hop2:∀ vs s,opI X.P (stI X.P n) f qch num name vs s=callI X.P (stI X.P n) name vs s:=λvs s=>rfl;rw[hw] at hc ⊢;obtain⟨hca,hc⟩:=hc.app
  by_cases k1:name=[105,110]
  subst k1;rw[zp rfl] at hc ⊢
  have ha:args=[]:=eq_nil_of_length_eq_zero (by
   unfold callE at he3;rw[zp rfl] at he3;split at he3
   assumption
   cases he3)
  subst ha;rw[exWl] at hc ⊢;obtain⟨w0,_⟩:=hc.cons
  have hroom:d.length<256:=by
   have:qiO (X.cenv f) [105,110] (qaZ (X.cenv f) [])=1:=rfl;omega
  obtain⟨m1,t1,v1⟩:=v.read w0 hroom
  have hr:((mapR (evI X.P n f) [] s1).bind λvs s=>opI X.P (stI X.P n) f qch num [105,110] vs s)=.ok (s1.inp.headD 4294967295) { s1 with inp:=s1.inp.tail }:=by
   show callI X.P (stI X.P n) [105,110] [] s1=_;unfold callI;rw[zp rfl]
   cases hi:s1.inp with
   |nil=>simp only[List.headD_nil,List.tail_nil];congr 1;cases s1;simp only at hi;subst hi;rfl
   |cons a r=>rfl
  rw[hr];refine qas.pre (s:=s1) t1 (c := -20+60) (d:=0+60) (c1:=0) (d1:=0) ?_ (by omega) (by omega);exact⟨zNr _,0,m1,by simp,.zero _,v1⟩
  by_cases k2:name=[111,117,116]
  subst k2;rw[zn zDd,zp rfl] at hc ⊢
  obtain⟨x,rfl⟩:∃ x,args=[x]:=zRo (by
   unfold callE at he3;rw[zn zDd,zp rfl] at he3;split at he3
   assumption
   cases he3)
  rw[qhC,qex];have hfl:(exWl (X.cc f) [x]).flatten=exW (X.cc f) x:=by rw[exWl,exWl];simp
  rw[hfl] at hc hca ⊢;obtain⟨w0,hc⟩:=hc.cons;obtain⟨w1,_⟩:=hc.cons;have hneed2:d.length+qbg (X.cenv f) x<=256:=hneed;have hpos:1<=qbg (X.cenv f) x:=qgc _ _ (qac.1 (by rw[qba] at he1;exact he1)).1;rw[qba] at he1;rw[qb2] at hdep2;refine qas.bind (c2:=5) (d2:=5) (hE f hf x i s1 m d c hn.1 (qac.1 he1).1 hca v (by omega) (by omega)) (by omega) (by omega) (by omega) λa s' m' va=>?_;show qas X.C _ 5 5 m' s' (.ok 0 { s' with out:=s'.out++[UInt8.ofNat a] })
  obtain⟨m1,t1,v1⟩:=va.write w0;obtain⟨m2,t2,v2,_⟩:=v1.dig (n:=0) w1 zDd rfl (by omega);refine qas.pre (s:=s') (t1.trans t2) (c1:=0) (d1:=0) ?_ (by omega) (by omega);refine⟨zNr _,0,m2,by simp,.zero _,v2.cast ?_⟩;simp only[zLc,zLa,zLn];omega;rw[zn k1,zn k2] at hc ⊢
  have hcn:qiO (X.cenv f) name (qaZ (X.cenv f) args)=match (X.cenv f).fn name with
    |some g=>qhM 0 (qaZ (X.cenv f) args) (max (g.params+1) g.need)
    |none=>0:=by unfold qiO;rw[zn k1,zn k2];try rfl
  have hcd:qgl (X.cenv f) qch name=match (X.cenv f).fn name with
    |some g=>g.depth+1
    |none=>0:=by unfold qgl;rw[zp ⟨rfl,k1,k2⟩];try rfl
  obtain⟨g,hg⟩:∃ g,(X.cenv f).fn name=some g:=by
   cases hq:(X.cenv f).fn name with
   |some g=>exact⟨g,rfl⟩
   |none=>
    unfold callE at he3;rw[zn k1,zn k2,hq] at he3;simp only at he3;split at he3 <;> cases he3
  rw[hg] at hcn hcd;simp only at hcn hcd;obtain⟨q1,q2⟩:=qmr (qaZ (X.cenv f) args) 0 (max (g.params+1) g.need) (256-d.length) (by omega);obtain⟨r1,r2⟩:=qkZ (X.cenv f) args;refine qas.bind (c2:=8 * args.length+25) (d2:=8 * args.length+25) (qs6 hE hf args i s1 m d c hn he1 hca v (λk hk=>?_) hdep2) (by omega) (by omega) (by omega) λvs s' m' hv=>?_;have:=q2 k (by omega);rw[r2 k hk (by omega)] at this;have hdl:d.length<=256:=by omega
  omega;rw[hop2];obtain⟨hv1,hv2⟩:=hv;rw[<-hv1]
  have:=hC f hf name vs _ s' m' d c k1 k2 (by rw[hv1];exact he3) hc hv2 (λg' hg'=>by
   rw[hg] at hg';cases hg';have hdl:d.length<=256:=by omega
   exact⟨by omega,by omega⟩)
  refine qas.post (a:=0) this (by omega) (Int.le_refl _) λr s2 m2 h=>⟨m2,.refl _,h.cast ?_⟩;rw[zLa];simp only[zLc,zLn];omega
 have hop2:qbk op=2/\args.length=2:=by
  unfold qbk at hop ⊢;simp only[h1,h2,h3,h4,h5,h6,or_self,if_false] at hop ⊢;split at hop
  rename_i hb
  exact⟨zp hb,by rcases hop with h|h <;> omega⟩;rcases hop with h|h <;> omega
 obtain⟨hbin,_⟩:=qpi hop2.1
 obtain⟨x,y,rfl⟩:∃ x y,args=[x,y]:=by
  have h:=hop2.2
  match args,h with
  |[x,y],_=>exact⟨x,y,rfl⟩
 rw[quA,qex];simp only[qex]
 have hcont:∀ a b s,(IR.ok [a,b] s).bind (λvs s=>opI X.P (stI X.P n) f op num name vs s)=match binI op a b with
   |some r=>.ok r s
   |none=>.stop 12 s:=λa b s=>qwm X.P (stI X.P n) f hbin num name a b s
 simp only[hcont];have hnx:=hn.1;have hny:=hn.2.1;rw[qba,qba] at he1;obtain⟨he1,he3⟩:=qac.1 he1;obtain⟨he3,_⟩:=qac.1 he3;rw[qb2,qb2] at hdep2;have hwl:exWl (X.cc f) [x,y]=[exW (X.cc f) x,exW (X.cc f) y]:=by rw[exWl,exWl,exWl]
 have hnl:qaZ (X.cenv f) [x,y]=[qbg (X.cenv f) x,qbg (X.cenv f) y]:=by rw[qaZ,qaZ,qaZ]
 rw[hwl] at hc ⊢;rw[hnl] at hd
 by_cases b1:op=[33,61]
 subst b1;have hw:opW (X.cc f) [33,61] num name [exW (X.cc f) x,exW (X.cc f) y]=[48]::(exW (X.cc f) x++exW (X.cc f) y++[[94],[60]]):=rfl;rw[hw] at hc ⊢;have hneed:d.length+max (max 3 (1+qbg (X.cenv f) x)) (2+qbg (X.cenv f) y)<=256:=hd;obtain⟨w0,hc⟩:=hc.cons;obtain⟨hc,hc3⟩:=hc.app;obtain⟨hc1,hc2⟩:=hc.app;obtain⟨w1,hc3⟩:=hc3.cons;obtain⟨w2,_⟩:=hc3.cons;obtain⟨m1,t1,v1,e1⟩:=v.dig (n:=0) w0 zDd rfl (by omega);refine zQ42 ?_;refine qas.bind (c2:=20) (d2:=20) (hE f hf x (i+1) s1 m1 (0::d) c hnx he1 hc1 v1 (by rw[zLc];omega) (by omega)) (by omega) (by omega) (by omega) λa s' m' va=>?_;refine qas.bind (c2:=5) (d2:=5) (hE f hf y _ s' m' (a::0::d) c hny he3 hc2 va (by rw[zLc,zLc];omega) (by omega)) (by omega) (by omega) (by omega) λb s2 m2 vb=>?_;rw[zLa,<-add_assoc] at w1 w2;obtain⟨m3,t3,v3,_⟩:=vb.op (x:=a ^^^ b) w1 (by unfold isOp;simp) rfl (by simp only[zLc];omega)
 obtain⟨m4,t4,v4,_⟩:=v3.op (x:=b2n (decide (a≠b))) w2 (by unfold isOp;simp) (by
  show some (if 0<a ^^^ b then 1 else 0)=_;rw[qel];congr 3;refine propext ⟨λh e=>?_,λh=>?_⟩;have:=xor_zero.2 e;omega
  have:=mt xor_zero.1 h;omega) (by omega)
 refine qas.pre (t3.trans t4) (qas.ok (c:=0) (d:=0) (v4.cast ?_) (Int.le_refl 0)) (by omega) (by omega);simp only[zLc,zLa,zLn];omega
 by_cases b2:op=[38,38]
 subst b2;have hw:opW (X.cc f) [38,38] num name [exW (X.cc f) x,exW (X.cc f) y]=[48]::(exW (X.cc f) x++[[60],[48]]++exW (X.cc f) y++[[60],[42]]):=rfl;rw[hw] at hc ⊢;have hneed:d.length+max (1+qbg (X.cenv f) x) (2+qbg (X.cenv f) y)<=256:=hd;have hpx:=qgc _ _ he1;have hpy:=qgc _ _ he3;obtain⟨w0,hc⟩:=hc.cons;obtain⟨hc,hc4⟩:=hc.app;obtain⟨hc,hc3⟩:=hc.app;obtain⟨hc1,hc2⟩:=hc.app;obtain⟨w1,hc2⟩:=hc2.cons;obtain⟨w2,_⟩:=hc2.cons;obtain⟨w3,hc4⟩:=hc4.cons;obtain⟨w4,_⟩:=hc4.cons;obtain⟨m1,t1,v1,e1⟩:=v.dig (n:=0) w0 zDd rfl (by omega);refine zQ42 ?_;refine qas.bind (c2:=20) (d2:=20) (hE f hf x (i+1) s1 m1 (0::d) c hnx he1 hc1 v1 (by rw[zLc];omega) (by omega)) (by omega) (by omega) (by omega) λa s' m' va=>?_
 obtain⟨m2,t2,v2,_⟩:=va.op (x:=b2n (decide (0<a))) w1 (by unfold isOp;simp) (by
  show some (if 0<a then 1 else 0)=_
  rw[qel]) (by omega)
 obtain⟨m3,t3,v3,_⟩:=v2.dig (n:=0) w2 zDd rfl (by simp only[zLc];omega);refine qas.pre (t2.trans t3) (c1:=10) (d1:=10) ?_ (by omega) (by omega)
 refine qas.bind (c2:=5) (d2:=5) (hE f hf y _ s' m3 (0::b2n (decide (0<a))::d) c hny he3 (by
  rw[zLa,<-add_assoc] at hc3
  exact hc3) v3 (by rw[zLc,zLc];omega) (by omega)) (by omega) (by omega) (by omega) λb s2 m4 vb=>?_
 have w3':X.C.W[i+1+(exW (X.cc f) x).length+1+1+(exW (X.cc f) y).length]? = some [60]:=by
  rw[<-w3];congr 1;simp only[zLa,zLc,zLn];omega
 have w4':X.C.W[i+1+(exW (X.cc f) x).length+1+1+(exW (X.cc f) y).length+1]? = some [42]:=by
  rw[<-w4];congr 1;simp only[zLa,zLc,zLn];omega
 obtain⟨m5,t5,v5,_⟩:=vb.op (x:=b2n (decide (0<b))) w3' (by unfold isOp;simp) (by
  show some (if 0<b then 1 else 0)=_
  rw[qel]) (by simp only[zLc];omega)
 obtain⟨m6,t6,v6,_⟩:=v5.op (x:=b2n (decide (a≠0/\b≠0))) w4' (by unfold isOp;simp) (by
  show some (b2n (decide (0<a)) * b2n (decide (0<b)) % 4294967296)=_;congr 1;unfold b2n
  by_cases ha:0<a <;> by_cases hb:0<b <;> simp[ha,hb,Nat.pos_iff_ne_zero.1,show a=0 ↔ ¬ 0<a by omega,show b=0 ↔ ¬ 0<b by omega]) (by omega)
 refine qas.pre (t5.trans t6) (qas.ok (c:=0) (d:=0) (v6.cast ?_) (Int.le_refl 0)) (by omega) (by omega);simp only[zLc,zLa,zLn];omega
 by_cases b3:op=[124,124]
 subst b3;have hw:opW (X.cc f) [124,124] num name [exW (X.cc f) x,exW (X.cc f) y]=[48]::[48]::(exW (X.cc f) x++[[60],[48]]++exW (X.cc f) y++[[60],[43],[60]]):=rfl;rw[hw] at hc ⊢;have hneed:d.length+max (2+qbg (X.cenv f) x) (3+qbg (X.cenv f) y)<=256:=hd;have hpx:=qgc _ _ he1;have hpy:=qgc _ _ he3;obtain⟨w0,hc⟩:=hc.cons;obtain⟨w00,hc⟩:=hc.cons;obtain⟨hc,hc4⟩:=hc.app;obtain⟨hc,hc3⟩:=hc.app;obtain⟨hc1,hc2⟩:=hc.app;obtain⟨w1,hc2⟩:=hc2.cons;obtain⟨w2,_⟩:=hc2.cons;obtain⟨w3,hc4⟩:=hc4.cons;obtain⟨w4,hc4⟩:=hc4.cons;obtain⟨w5,_⟩:=hc4.cons;obtain⟨m0,t0,v0,e0⟩:=v.dig (n:=0) w0 zDd rfl (by omega);obtain⟨m1,t1,v1,e1⟩:=v0.dig (n:=0) w00 zDd rfl (by simp only[zLc];omega);refine qas.pre (t0.trans t1) (c := -20+60) (d:=0+60) (c1:=30) (d1:=50) ?_ (by omega) (by omega);refine qas.bind (c2:=20) (d2:=20) (hE f hf x (i+1+1) s1 m1 (0::0::d) c hnx he1 hc1 v1 (by rw[zLc,zLc];omega) (by omega)) (by omega) (by omega) (by omega) λa s' m' va=>?_
 obtain⟨m2,t2,v2,_⟩:=va.op (x:=b2n (decide (0<a))) w1 (by unfold isOp;simp) (by
  show some (if 0<a then 1 else 0)=_
  rw[qel]) (by simp only[zLc];omega)
 obtain⟨m3,t3,v3,_⟩:=v2.dig (n:=0) w2 zDd rfl (by simp only[zLc];omega);refine qas.pre (t2.trans t3) (c1:=10) (d1:=10) ?_ (by omega) (by omega)
 refine qas.bind (c2:=6) (d2:=6) (hE f hf y _ s' m3 (0::b2n (decide (0<a))::0::d) c hny he3 (by
  rw[zLa,<-add_assoc] at hc3
  exact hc3) v3 (by rw[zLc,zLc,zLc];omega) (by omega)) (by omega) (by omega) (by omega) λb s2 m4 vb=>?_
 have w3':X.C.W[i+1+1+(exW (X.cc f) x).length+1+1+(exW (X.cc f) y).length]? = some [60]:=by
  rw[<-w3];congr 1;simp only[zLa,zLc,zLn];omega
 have w4':X.C.W[i+1+1+(exW (X.cc f) x).length+1+1+(exW (X.cc f) y).length+1]? = some [43]:=by
  rw[<-w4];congr 1;simp only[zLa,zLc,zLn];omega
 have w5':X.C.W[i+1+1+(exW (X.cc f) x).length+1+1+(exW (X.cc f) y).length+1+1]? = some [60]:=by
  rw[<-w5];congr 1;simp only[zLa,zLc,zLn];omega
 obtain⟨m5,t5,v5,_⟩:=vb.op (x:=b2n (decide (0<b))) w3' (by unfold isOp;simp) (by
  show some (if 0<b then 1 else 0)=_
  rw[qel]) (by simp only[zLc];omega)
 obtain⟨m6,t6,v6,_⟩:=v5.op (x:=b2n (decide (0<a))+b2n (decide (0<b))) w4' (by unfold isOp;simp) (by
  show some ((b2n (decide (0<a))+b2n (decide (0<b))) % 4294967296)=_;have h1:=qvb (decide (0<a));have h2:=qvb (decide (0<b))
  rw[mod_eq_of_lt (by omega)]) (by simp only[zLc];omega)
 obtain⟨m7,t7,v7,_⟩:=v6.op (x:=b2n (decide (a≠0∨b≠0))) w5' (by unfold isOp;simp) (by
  show some (if 0<b2n (decide (0<a))+b2n (decide (0<b)) then 1 else 0)=_;congr 1;unfold b2n
  by_cases ha:0<a <;> by_cases hb:0<b <;> simp[ha,hb,show a=0 ↔ ¬ 0<a by omega,show b=0 ↔ ¬ 0<b by omega]) (by omega)
 refine qas.pre (t5.trans (t6.trans t7)) (qas.ok (c:=0) (d:=0) (v7.cast ?_) (Int.le_refl 0)) (by omega) (by omega);simp only[zLc,zLa,zLn];omega;obtain⟨_,o1,o2,o3,o4,o5,o6⟩:=qpi hop2.1
 have hw:opW (X.cc f) op num name [exW (X.cc f) x,exW (X.cc f) y]=exW (X.cc f) x++exW (X.cc f) y++(if op=[62] then qaX (X.cc f) else if op=[60,61] then qaX (X.cc f)++[[49],[94]] else if op=[62,61] then [[60],[49],[94]] else if op=[61,61] then [[94],[49],[60]] else [op]):=by
  unfold opW;rw[zn o1,zn o2,zn o3,zn o6,zn o4,zn o5,zn b1,zn b2,zn b3]
  try rfl
 rw[hw] at hc ⊢;obtain⟨hc,hc3⟩:=hc.app;obtain⟨hc1,hc2⟩:=hc.app
 have hneed:d.length+(if op=[62]∨op=[60,61] then max (max 3 (qbg (X.cenv f) x)) (1+qbg (X.cenv f) y) else max (max 2 (qbg (X.cenv f) x)) (1+qbg (X.cenv f) y))<=256:=by
  have:opN (X.cenv f) op name [qbg (X.cenv f) x,qbg (X.cenv f) y]=(if op=[62]∨op=[60,61] then max (max 3 (qbg (X.cenv f) x)) (1+qbg (X.cenv f) y) else max (max 2 (qbg (X.cenv f) x)) (1+qbg (X.cenv f) y)):=by
   unfold opN;rw[zn (by rintro(h|h);exact o1 h;exact o2 h),zn (by rintro(h|h);exact o3 h;exact o4 h),zn o6,zn o5,zn b1,zn b2,zn b3]
   try rfl
  rw[this] at hd;exact hd
 have hdx:d.length+qbg (X.cenv f) x<=256/\d.length+1+qbg (X.cenv f) y<=256/\(d.length+3<=256∨(d.length+2<=256/\op≠[62]/\op≠[60,61])):=by
  split at hneed;exact⟨by omega,by omega,.inl (by omega)⟩
  rename_i h
  exact⟨by omega,by omega,.inr ⟨by omega,λe=>h (.inl e),λe=>h (.inr e)⟩⟩
 refine qas.bind (c2:=26) (d2:=26) (hE f hf x i s1 m d c hnx he1 hc1 v hdx.1 (by omega)) (by omega) (by omega) (by omega) λa s' m' va=>?_;refine qas.bind (c2:=36) (d2:=0) (hE f hf y _ s' m' (a::d) c hny he3 hc2 va (by rw[zLc];omega) (by omega)) (by omega) (by omega) (by omega) λb s2 m2 vb=>?_;rw[zLa,<-add_assoc] at hc3;refine qas.post (a:=0) (qxo hX hf hbin b1 b2 b3 vb hdx.2.2 rfl hc3) (by omega) (Int.le_refl _) λr s3 m3 h=>⟨m3,.refl _,h.cast ?_⟩;rw[zLa,zLa];omega
end
def StQ(X:Trn)(j:Nat)(d:List Nat)(t:List Wd)(rest:List (List Wd)):Option Nat->IS->MS->Prop
 |none,s',m'=>X.Vw s' j d (t::rest) m'
 |some v,s',m'=>m'.pc=t/\m'.digit=false/\X.Rel s' m'/\m'.data=v::d/\m'.calls=rest
def StOk(X:Trn)(n:Nat):Prop:=∀ f∈X.P.funcs,∀ st i nl s m d t rest,numS st->errS (X.cenv f) st=0->X.C.Code i (stW (X.cc f) nl st).1->X.Vw s i d (t::rest) m->d.length+qkz (X.cenv f) st<=256->rest.length+1+depS (X.cenv f) st<=64 ->
 qas X.C (StQ X (i+(stW (X.cc f) nl st).1.length) d t rest) 0 0 m s (stI X.P n f st s)
section
variable{X:Trn}{n:Nat}
theorem qje(hS:StOk X n){f:FnD}(hf:f∈X.P.funcs):∀ (l:List Sm) i nl s m d t rest,qbu l->qbB (X.cenv f) l=0->X.C.Code i (stWs (X.cc f) nl l).1->X.Vw s i d (t::rest) m->d.length+qbP (X.cenv f) l<=256->rest.length+1+qcg (X.cenv f) l<=64 ->
  qas X.C (StQ X (i+(stWs (X.cc f) nl l).1.length) d t rest) 0 0 m s (blkR (stI X.P n f) l s)
 |[],i,nl,s,m,d,t,rest,_,_,_,v,_,_=>qas.ok (by rw[stWs];exact v) (Int.le_refl 0)
 |a::l,i,nl,s,m,d,t,rest,hn,he,hc,v,hd,hdep=>by
  rw[qbB] at he;obtain⟨he1,he2⟩:=qac.1 he;rw[qbP] at hd;rw[qcg] at hdep;rw[stWs] at hc ⊢;obtain⟨hc1,hc2⟩:=hc.app;unfold blkR;refine qas.bind (c2:=0) (d2:=0) (hS f hf a i nl s m d t rest hn.1 he1 hc1 v (by omega) (by omega)) (by omega) (by omega) (by omega) λr s' m' h=>?_
  cases r with
  |some w=>exact qas.ok h (Int.le_refl 0)
  |none=>
   have:=qje hS hf l _ _ s' m' d t rest hn.2 he2 hc2 h (by omega) (by omega);rw[zLa,<-add_assoc];exact this
section
variable{s:IS}{i j:Nat}{d:List Nat}{c:List (List Wd)}{m:MS}
theorem Trn.Vw.branch(hX:TrnOk X)(v:X.Vw s i (a::d) c m)(hc:X.C.Code i [38::labW k,[63]])(hj:X.C.W[j]? = some (labW k++[58]))(hd:d.length+2<=256):∃ m',Stx X.C 8 m m'/\X.Vw s (if a=0 then j+1 else i+2) d c m':=by
 obtain⟨w0,hc⟩:=hc.cons;obtain⟨w1,_⟩:=hc.cons;have h1:=hX.ldef j k hj;have t2:=PW.jump v.here w0 w1 (hX.lref _ _ w0) (hX.label j _ _ hj h1) v.data (by omega)
 by_cases ha:a=0
 subst ha;rw[zp rfl] at t2 ⊢;exact⟨_,t2,⟨PW.at_mk rfl,v.rel.same rfl rfl rfl rfl rfl rfl rfl,rfl,v.calls⟩⟩;rw[zn ha] at t2 ⊢;exact⟨_,t2,⟨PW.at_mk rfl,v.rel.same rfl rfl rfl rfl rfl rfl rfl,rfl,v.calls⟩⟩
theorem Trn.Vw.goto(hX:TrnOk X)(v:X.Vw s i d c m)(hc:X.C.Code i [[48],38::labW k,[63]])(hj:X.C.W[j]? = some (labW k++[58]))(hd:d.length+2<=256):∃ m',Stx X.C 10 m m'/\X.Vw s (j+1) d c m':=by
 obtain⟨w0,hc⟩:=hc.cons;obtain⟨m1,t1,v1,_⟩:=v.dig (n:=0) w0 zDd rfl (by omega);obtain⟨m2,t2,v2⟩:=v1.branch hX hc hj hd;rw[zp rfl] at v2;exact⟨m2,(t1.trans t2).mono (by omega),v2⟩
theorem Trn.Vw.pass(v:X.Vw s i d c m)(hw:X.C.W[i]? = some w)(hd:defW w=some x):X.Vw s (i+1) d c m:=⟨PW.atDef v.here hw hd,v.rel,v.data,v.calls⟩
end
theorem qqc(s:IS){k k':Nm}(h:k≠k')(v v':Nat):qed (qed s k v) k' v'=qed (qed s k' v') k v:=by
 unfold qed;congr 1;funext x
 by_cases h1:x=k
 subst h1;simp[h];simp[h1]
theorem qlg(g:FnD):∀ (ps:List Nm) (vs:List Nat) (s:IS) (k:Nm) (v:Nat),k ∉ ps.map (keyI g)->qcN g ps vs (qed s k v)=qed (qcN g ps vs s) k v
 |[],vs,s,k,v,_=>by cases vs <;> rfl
 |p::ps,[],s,k,v,_=>rfl
 |p::ps,w::vs,s,k,v,h=>by
  rw[zMc,zMi,not_or] at h;rw[qcN,qcN,qqc s h.1,qlg g ps vs _ k v h.2]
theorem qkJ(g:FnD):∀ (ps:List Nm) (vs:List Nat) (s:IS) (p:Nm) (v:Nat),ps.length=vs.length->qcN g (ps++[p]) (vs++[v]) s=qed (qcN g ps vs s) (keyI g p) v
 |[],[],s,p,v,_=>rfl
 |q::ps,w::vs,s,p,v,h=>by
  rw[cons_append,cons_append,qcN,qcN,qkJ g ps vs _ p v (by simpa using h)]
theorem qkQ(g:FnD):∀ (ps:List Nm) (vs:List Nat) (s:IS),(qcN g ps vs s).left=s.left
 |[],vs,s=>by cases vs <;> rfl
 |p::ps,[],s=>rfl
 |p::ps,w::vs,s=>by rw[qcN,qkQ g ps vs];try rfl
theorem qas.left{A:Type}{Q:A->IS->MS->Prop}{c d:Int}{m:MS}{s s':IS}{r:IR A}(h:qas X.C Q c d m s r)(hl:s.left=s'.left):qas X.C Q c d m s' r:=by
 cases r with
 |ok v s2=>
  unfold qas at h ⊢;rw[<-hl]
  exact h
 |stop e s2=>
  unfold qas at h ⊢;rw[<-hl];exact h
theorem qse(hX:TrnOk X){g:FnD}:∀ (k:Nat) (ps:List Nm) (vs:List Nat) (i:Nat) (s:IS) (d:List Nat) (c:List (List Wd)) (m:MS),ps.length=k->ps.length=vs.length->(∀ p∈ps,keyI g p∈X.keys/\(X.cc g).sc p=decDigits (X.sa (keyI g p)))->(ps.map (keyI g)).Nodup->X.C.Code i (ps.reverse.flatMap λp=>[(X.cc g).sc p,[33]])->X.Vw s i (vs.reverse++d) c m->d.length+ps.length+1<=256 ->
  ∃ m',Stx X.C (8 * ps.length) m m'/\X.Vw (qcN g ps vs s) (i+(ps.reverse.flatMap λp=>[(X.cc g).sc p,[33]]).length) d c m'
 |0,ps,vs,i,s,d,c,m,hk,hl,_,_,_,v,_=>by
  obtain rfl:=eq_nil_of_length_eq_zero hk;obtain rfl:vs=[]:=eq_nil_of_length_eq_zero (by rw[<-hl];try rfl)
  exact⟨m,.refl _,v⟩
 |k+1,ps,vs,i,s,d,c,m,hk,hl,hp,hnd,hc,v,hd=>by
  have hne:ps≠[]:=λh=>by rw[h] at hk;cases hk
  have hnv:vs≠[]:=λh=>by rw[h] at hl;rw[hk] at hl;cases hl
  have e1:=(List.dropLast_concat_getLast hne).symm;have e2:=(List.dropLast_concat_getLast hnv).symm;generalize ps.dropLast=ps' at e1;generalize ps.getLast hne=p at e1;generalize vs.dropLast=vs' at e2;generalize vs.getLast hnv=w at e2;subst e1 e2;rw[zLa,length_singleton] at hk hd;rw[zLa,zLa,length_singleton,length_singleton] at hl;rw[List.reverse_append] at hc v ⊢;simp only[List.reverse_cons,List.reverse_nil,nil_append,cons_append,flatMap_cons] at hc v ⊢;rw[zMa,List.map_singleton] at hnd;obtain⟨n1,n2,n3⟩:=zRc hnd;obtain⟨q1,q2⟩:=hp p (by simp);rw[q2] at hc;obtain⟨w0,hc⟩:=hc.cons;obtain⟨w1,hc⟩:=hc.cons;have hlow:=hX.low _ (.inl ⟨_,q1,rfl⟩);obtain⟨m1,t1,v1,_⟩:=v.addr w0 (by omega) (by simp only[zLc,zLa,length_reverse];omega);obtain⟨m2,t2,v2⟩:=v1.scal hX q1 w1;obtain⟨m3,t3,v3⟩:=qse hX k ps' vs' (i+1+1) (qed s (keyI g p) w) d c m2 (by omega) (by omega) (λx hx=>hp x (by simp[hx])) n1 hc v2 (by omega);refine⟨m3,(t1.trans (t2.trans t3)).mono (by rw[zLa,length_singleton];omega),?_⟩;rw[qkJ g ps' vs' s p w (by omega),<-qlg g ps' vs' s (keyI g p) w (λh=>n3 _ h _ (zRb rfl) rfl)];exact v3.cast (by simp only[zLc];omega)
theorem qwh(hX:TrnOk X)(hS:StOk X n):qvy X n:=by
 intro f hf name vs i s m d c k1 k2 he hc v hneed
 obtain⟨g,hg⟩:∃ g,(X.cenv f).fn name=some g:=by
  cases hq:(X.cenv f).fn name with
  |some g=>exact⟨g,rfl⟩
  |none=>
   unfold callE at he;rw[zn k1,zn k2,hq] at he;simp only at he;split at he <;> cases he
 have hlen:vs.length=g.params:=by
  unfold callE at he;rw[zn k1,zn k2,hg] at he;simp only at he;split at he
  assumption
  cases he
 obtain⟨n1,n2⟩:=hneed g hg;obtain⟨a1,a2,a3,a4,a5⟩:=hX.fn f hf name g hg
 have hci:callI X.P (stI X.P n) name vs s=(blkR (stI X.P n (fnI X.P name)) (fnI X.P name).body (qcN (fnI X.P name) (fnI X.P name).params vs s)).bind λr s=>.ok (r.getD 0) s:=by
  unfold callI;rw[zn k1,zn k2]
 rw[hci];generalize hk:fnI X.P name=k at *;obtain⟨nl,hcode⟩:=hX.code k a1;obtain⟨b1,b2⟩:=hX.body k a1;obtain⟨p1,p2⟩:=hX.par k a1;have hfd:=hX.fdef k a1;have hfr:=hX.fref k a1;rw[a2] at hfd hfr;unfold fnW at hcode;simp only at hcode;rw[a2] at hcode;obtain⟨hcode,hc4⟩:=hcode.app;obtain⟨hcode,hc3⟩:=hcode.app;obtain⟨hc1,hc2⟩:=hcode.app;obtain⟨w0,hc⟩:=hc.cons;obtain⟨w1,_⟩:=hc.cons;obtain⟨wd,_⟩:=hc1.cons;have hvl:(vs.reverse++d).length=vs.length+d.length:=by rw[zLa,length_reverse]
 have t2:=PW.call v.here w0 w1 hfr (hX.label _ _ _ wd hfd) (by rw[v.data,hvl];omega) (by rw[v.calls];omega)
 have v3:X.Vw s (X.fst k+1) (vs.reverse++d) (X.C.plc (i+1+1)::c) { m with pc:=X.C.plc (X.fst k+1),calls:=X.C.plc (i+1+1)::m.calls,digit:=false }:=
  ⟨PW.at_mk rfl,v.rel.same rfl rfl rfl rfl rfl rfl rfl,v.data,by simp only;rw[v.calls]⟩
 obtain⟨m3,t3,v4⟩:=qse hX k.params.length k.params vs _ s d _ _ rfl (by omega) p1 p2 hc2 v3 (by omega);refine qas.pre (t2.trans t3) (c1:=6) (d1:=6) ?_ (by omega) (by omega);have hb:=qje hS a1 k.body _ nl _ m3 d (X.C.plc (i+1+1)) c b2 b1 hc3 (v4.cast (by simp only[zLa,zLc,zLn];omega)) (by omega) (by omega);generalize hidx:X.fst k+([[102,95]++name++[58]]++k.params.reverse.flatMap λp=>[(X.cc k).sc p,[33]]).length=i3 at hb
 have hfin:∀ s' m',X.Vw s' (i3+(stWs (X.cc k) nl k.body).1.length) d (X.C.plc (i+1+1)::c) m'->∃ m2,Stx X.C 3 m' m2/\X.Vw s' (i+2) (0::d) c m2:=by
  intro s' m' v5;obtain⟨w2,hc4⟩:=hc4.cons;obtain⟨w3,_⟩:=hc4.cons;rw[zLa,<-add_assoc,hidx] at w2 w3;obtain⟨m6,t6,v6,_⟩:=v5.dig (n:=0) w2 zDd rfl (by omega);have t7:=PW.back v6.here w3 v6.calls;exact⟨_,(t6.trans t7).mono zDd,⟨PW.at_mk rfl,v6.rel.same rfl rfl rfl rfl rfl rfl rfl,v6.data,rfl⟩⟩
 refine qas.bind (c1:=0) (d1:=0) (c2:=3) (d2:=3) (hb.left (qkQ _ _ _ _)) (by omega) (by omega) (by omega) λr s' m' h=>?_
 cases r with
 |none=>
  obtain⟨m2,t5,v5⟩:=hfin s' m' h
  exact qas.pre t5 (qas.ok (c:=0) (d:=0) v5 (Int.le_refl 0)) (by omega) (by omega)
 |some w=>
  obtain⟨g1,g2,g3,g4,g5⟩:=h;exact qas.ok ⟨PW.at_mk g1,g3,g4,g5⟩ (by omega)
end
section
variable{X:Trn}{n:Nat}
theorem Trn.Vw.elem(hX:TrnOk X){s:IS}{i:Nat}{d:List Nat}{c:List (List Wd)}{m:MS}{A:Ar}(hA:A∈X.P.arrays){j x:Nat}(v:X.Vw s i ((X.aa A.name+j)::x::d) c m)(hj:j<(s.ar A.name).length)(hw:X.C.W[i]? = some [33]):∃ m',Stx X.C 1 m m'/\X.Vw { s with ar:=λy=>if y=A.name then (s.ar A.name).set j x else s.ar y } (i+1) d c m':=
 ⟨_,PW.store v.here hw v.data (hX.dat _ (.inr (.inr ⟨A,hA,j,by have:=(v.rel.ar A hA).1;omega,rfl⟩))),⟨PW.at_mk rfl,v.rel.elem hX hA hj rfl rfl rfl,rfl,v.calls⟩⟩
theorem qvB(hX:TrnOk X)(hE:EvOk X n)(hS:StOk X n){f:FnD}(hf:f∈X.P.funcs){x:Ex}{thn:List Sm}{i0 k0 k1 nb:Nat}{d:List Nat}{t:List Wd}{rest:List (List Wd)}(hnx:numE x)(hex:errE (X.cenv f) x=0)(hnt:qbu thn)(het:qbB (X.cenv f) thn=0)
  (hw0:X.C.W[i0]? = some (labW k0++[58])) (hcx:X.C.Code (i0+1) (exW (X.cc f) x)) (hcb:X.C.Code (i0+1+(exW (X.cc f) x).length) [38::labW k1,[63]]) (hct:X.C.Code (i0+1+(exW (X.cc f) x).length+2) (stWs (X.cc f) nb thn).1)
  (hcg:X.C.Code (i0+1+(exW (X.cc f) x).length+2+(stWs (X.cc f) nb thn).1.length) [[48],38::labW k0,[63]]) (hwe:X.C.W[i0+1+(exW (X.cc f) x).length+2+(stWs (X.cc f) nb thn).1.length+3]? = some (labW k1++[58]))
  (hdx:d.length+qbg (X.cenv f) x<=256) (hdt:d.length+qbP (X.cenv f) thn<=256) (hd2:d.length+2<=256) (hpx:rest.length+1+depE (X.cenv f) x<=64) (hpt:rest.length+1+qcg (X.cenv f) thn<=64) :
  ∀ (k a:Nat) (s:IS) (m:MS),X.Vw s (i0+1+(exW (X.cc f) x).length) (a::d) (t::rest) m->qas X.C (StQ X (i0+1+(exW (X.cc f) x).length+2+(stWs (X.cc f) nb thn).1.length+3+1) d t rest) 8 18 m s (whlR (evI X.P n f x) (blkR (stI X.P n f) thn) k a s)
 |0,a,s,m,v=>by
  unfold whlR;obtain⟨m1,t1,v1⟩:=v.branch hX hcb hwe hd2
  by_cases ha:a=0
  rw[zp ha] at v1 ⊢;exact qas.pre t1 (qas.ok (c:=0) (d:=0) v1 (Int.le_refl 0)) (by omega) (by omega);rw[zn ha]
  exact qas.limit v.rel.out
 |k+1,a,s,m,v=>by
  unfold whlR;obtain⟨m1,t1,v1⟩:=v.branch hX hcb hwe hd2
  by_cases ha:a=0
  rw[zp ha] at v1 ⊢;exact qas.pre t1 (qas.ok (c:=0) (d:=0) v1 (Int.le_refl 0)) (by omega) (by omega);rw[zn ha] at v1 ⊢;refine qas.pre t1 (c1:=0) (d1:=10) ?_ (by omega) (by omega);refine qas.bind (c1:=0) (d1:=0) (c2:=0) (d2:=10) (qje hS hf thn _ nb s m1 d t rest hnt het hct v1 (by omega) (by omega)) (by omega) (by omega) (by omega) λr s' m' h=>?_
  cases r with
  |some w=>exact qas.ok h (by omega)
  |none=>
   obtain⟨m2,t2,v2⟩:=Trn.Vw.goto hX h hcg hw0 hd2;refine qas.pre t2 (c1 := -10) (d1:=0) ?_ (by omega) (by omega);refine qas.bind (c1 := -20) (d1:=0) (c2:=8) (d2:=18) (hE f hf x _ s' m2 d (t::rest) hnx hex hcx v2 (by omega) (by rw[zLc];omega)) (by omega) (by omega) (by omega) λa' s2 m3 v3=>?_;exact qvB hX hE hS hf hnx hex hnt het hw0 hcx hcb hct hcg hwe hdx hdt hd2 hpx hpt k a' s2 m3 v3
theorem qnB(c:CC)(n:Nat)(kind:Int)(name:Nm)(index value:List Ex)(thn els:List Sm):stW c n (.mk kind name index value thn els) =
  if kind=1 then (exW c (value.headD default)++[c.sc name,[33]],n)
  else if kind=2 then (exW c (value.headD default)++c.ar name::(exW c (index.headD default)++[[43],[33]]),n)
  else if kind=3 then
   (match els with
   |[]=>(exW c (value.headD default)++[38::labW n,[63]]++(stWs c (n+1) thn).1++[labW n++[58]],(stWs c (n+1) thn).2)
   |_::_=>(exW c (value.headD default)++[38::labW n,[63]]++(stWs c (n+2) thn).1++[[48],38::labW (n+1),[63],labW n++[58]]++(stWs c (stWs c (n+2) thn).2 els).1++[labW (n+1)++[58]],(stWs c (stWs c (n+2) thn).2 els).2))
  else if kind=4 then ([labW n++[58]]++exW c (value.headD default)++[38::labW (n+1),[63]]++(stWs c (n+2) thn).1++[[48],38::labW n,[63],labW (n+1)++[58]],(stWs c (n+2) thn).2)
  else if kind=5 then (exW c (value.headD default)++[[59]],n)
  else if kind=6 then (exW c (value.headD default)++[c.t0,[33]],n)
  else if kind=7 then ([[36]],n)
  else ([],n):=by
 rw[stW.eq_def];try rfl
theorem qj7{A:Type}{l:List A}(h:l.length=1):∃ x,l=[x]:=zRo h
theorem qv1(hX:TrnOk X)(hE:EvOk X n)(hS:StOk X n):StOk X (n+1):=by
 intro f hf st i nl s m d t rest hn he hc v hd hdep;obtain⟨kind,name,index,value,thn,els⟩:=st;rw[errS] at he;split at he;cases he
 rename_i hform
 obtain⟨ev,he⟩:=qac.1 he;obtain⟨ei,he⟩:=qac.1 he;obtain⟨eu,he⟩:=qac.1 he;obtain⟨et,ee⟩:=qac.1 he;obtain⟨ni,nv,nt,ne⟩:=hn;rw[stI];refine qas.tick v.rel.out λhleft=>?_;have v:=v.steps (s.left-1);generalize { s with left:=s.left-1 }=s1 at v ⊢;clear hleft;rw[qnB] at hc ⊢;rw[qkz] at hd;rw[depS] at hdep;unfold qbJ at hform;simp only at hform
 by_cases k7:kind=7
 subst k7;rw[zp rfl];have hc:X.C.Code i [[36]]:=hc;obtain⟨w0,_⟩:=hc.cons;exact qas.trap (by omega) (.inl rfl) (by rw[<-v.rel.out];exact PW.halt v.here w0);rw[zn k7];rw[zn k7] at hd
 have hval:value.length=1:=by
  by_cases q1:kind=1
  rw[zp q1] at hform;simp only[Bool.not_eq_false,zDe] at hform;exact hform.2.2.1;rw[zn q1] at hform
  by_cases q2:kind=2
  rw[zp q2] at hform;simp only[Bool.not_eq_false,zDe] at hform;exact hform.2.2.1;rw[zn q2] at hform
  by_cases q3:kind=3
  rw[zp q3] at hform;simp only[Bool.not_eq_false,zDe] at hform;exact hform.2.2;rw[zn q3] at hform
  by_cases q4:kind=4
  rw[zp q4] at hform;simp only[Bool.not_eq_false,zDe] at hform;exact hform.2.2.1;rw[zn q4] at hform
  by_cases q5:kind=5
  rw[zp q5] at hform;simp only[Bool.not_eq_false,zDe] at hform;exact hform.2.2.1;rw[zn q5] at hform
  by_cases q6:kind=6
  rw[zp q6] at hform;simp only[Bool.not_eq_false,zDe] at hform;exact hform.2.2.1;rw[zn q6,zn k7] at hform;exact absurd rfl hform
 obtain⟨x,rfl⟩:=qj7 hval;have hx0:([x]:List Ex).headD default=x:=rfl;simp only[hx0] at hc hd ⊢;rw[qba] at ev;have evx:=(qac.1 ev).1;have nvx:=nv.1
 have hdx:(t::rest).length+depE (X.cenv f) x<=64:=by
  rw[qb2] at hdep;rw[zLc];omega
 by_cases k1:kind=1
 subst k1;rw[zp rfl] at hc ⊢;rw[zn zDd,zn zDd] at hd;simp only at hc ⊢;obtain⟨hcx,hc⟩:=hc.app;obtain⟨w0,hc⟩:=hc.cons;obtain⟨w1,_⟩:=hc.cons;have eu:qb9 (X.cenv f) name=0:=eu;obtain⟨a1,a2⟩:=hX.sc f hf name eu;rw[a1] at w0;have hlow:=hX.low _ (.inl ⟨_,a2,rfl⟩);refine qas.bind (c1 := -20) (d1:=0) (c2:=8) (d2:=8) (hE f hf x i s1 m d (t::rest) nvx evx hcx v (by omega) hdx) (by omega) (by omega) (by omega) λa s' m' va=>?_;rw[zp trivial];obtain⟨m1,t1,v1,_⟩:=va.addr w0 (by omega) (by simp only[zLc];omega);obtain⟨m2,t2,v2⟩:=v1.scal hX a2 w1;refine(qas.pre (s:=qed s' (keyI f name) a) (t1.trans t2) (qas.ok (c:=0) (d:=0) (v:=none) (v2.cast ?_) (Int.le_refl 0)) (by omega) (by omega)).left rfl;simp only[zLa,zLc,zLn];omega
 by_cases k2:kind=2
 subst k2;rw[zn zDd,zp rfl] at hc ⊢;rw[zp rfl] at hd;rw[zn zDd,zp rfl] at hform;simp only[Bool.not_eq_false,zDe] at hform;obtain⟨y,rfl⟩:=qj7 hform.2.1;have hy0:([y]:List Ex).headD default=y:=rfl;simp only[hy0] at hc hd ⊢;rw[qba] at ei;have eiy:=(qac.1 ei).1;have niy:=ni.1
 have hdy:(t::rest).length+depE (X.cenv f) y<=64:=by
  rw[qb2,qb2,qb2,qb2] at hdep;rw[zLc];omega
 obtain⟨hcx,hc⟩:=hc.app;obtain⟨w0,hc⟩:=hc.cons;obtain⟨hcy,hc⟩:=hc.app;obtain⟨w1,hc⟩:=hc.cons;obtain⟨w2,_⟩:=hc.cons;have eu:qdB (X.cenv f) name=0:=eu;obtain⟨a1,A,hA,rfl⟩:=hX.ar f hf name eu;rw[a1] at w0;have haa:X.aa A.name<1000000:=hX.arLow A hA;refine qas.bind (c1 := -20) (d1:=0) (c2:=20) (d2:=20) (hE f hf x i s1 m d (t::rest) nvx evx hcx v (by omega) hdx) (by omega) (by omega) (by omega) λa s' m' va=>?_;rw[zn zDd,zp trivial];obtain⟨m1,t1,v1,_⟩:=va.addr w0 haa (by simp only[zLc];omega);refine qas.pre t1 (c1:=10) (d1:=10) ?_ (by omega) (by omega);refine qas.bind (c1 := -20) (d1:=0) (c2:=5) (d2:=5) (hE f hf y _ s' m1 (X.aa A.name::a::d) (t::rest) niy eiy hcy v1 (by rw[zLc,zLc];omega) hdy) (by omega) (by omega) (by omega) λb s2 m2 vb=>?_
 cases hg:(s2.ar A.name)[b]? with
 |none=>exact qas.other zDd
 |some r=>
  obtain⟨hlt,hr⟩:=List.getElem?_eq_some_iff.1 hg;have hsz:=(vb.rel.ar A hA).1;have hb:=hX.low _ (.inr (.inr ⟨A,hA,b,by omega,rfl⟩))
  obtain⟨m3,t3,v3,_⟩:=vb.op (x:=X.aa A.name+b) w1 (by unfold isOp;simp) (by
   show some ((X.aa A.name+b) % 4294967296)=_
   rw[mod_eq_of_lt (by omega)]) (by simp only[zLc];omega)
  obtain⟨m4,t4,v4⟩:=v3.elem hX hA hlt w2;refine(qas.pre (s:={ s2 with ar:=λy=>if y=A.name then (s2.ar A.name).set b a else s2.ar y }) (t3.trans t4) (qas.ok (c:=0) (d:=0) (v:=none) (v4.cast ?_) (Int.le_refl 0)) (by omega) (by omega)).left rfl;simp only[zLa,zLc,zLn];omega
 rw[zn k2] at hd
 by_cases k5:kind=5
 subst k5;rw[zn zDd,zn zDd,zn zDd,zn zDd,zp rfl] at hc ⊢;rw[zp rfl] at hd;simp only at hc ⊢;obtain⟨hcx,hc⟩:=hc.app;obtain⟨w0,_⟩:=hc.cons;refine qas.bind (c1 := -20) (d1:=0) (c2:=8) (d2:=8) (hE f hf x i s1 m d (t::rest) nvx evx hcx v (by omega) hdx) (by omega) (by omega) (by omega) λa s' m' va=>?_;rw[zn zDd,zn zDd,zp trivial];have t1:=PW.back va.here w0 va.calls;exact qas.pre t1 (qas.ok (c:=0) (d:=0) (v:=some a) ⟨rfl,rfl,va.rel.same rfl rfl rfl rfl rfl rfl rfl,va.data,rfl⟩ (Int.le_refl 0)) (by omega) (by omega);rw[zn k5] at hd
 by_cases k6:kind=6
 subst k6;rw[zn zDd,zn zDd,zn zDd,zn zDd,zn zDd,zp rfl] at hc ⊢;simp only at hc ⊢;obtain⟨hcx,hc⟩:=hc.app;obtain⟨w0,hc⟩:=hc.cons;obtain⟨w1,_⟩:=hc.cons;obtain⟨t0,_,_⟩:=hX.temps f hf;rw[t0] at w0;have hS:X.S+2<262144:=hX.low _ (.inr (.inl ⟨by omega,by omega⟩));refine qas.bind (c1 := -20) (d1:=0) (c2:=8) (d2:=8) (hE f hf x i s1 m d (t::rest) nvx evx hcx v (by omega) hdx) (by omega) (by omega) (by omega) λa s' m' va=>?_;rw[zn zDd,zn zDd,zn zDd,zn zDd,zn zDd];obtain⟨m1,t1,v1,_⟩:=va.addr w0 (by omega) (by simp only[zLc];omega);obtain⟨m2,t2,v2,_⟩:=v1.temp hX w1 ⟨by omega,by omega⟩;refine qas.pre (t1.trans t2) (qas.ok (c:=0) (d:=0) (v:=none) (v2.cast ?_) (Int.le_refl 0)) (by omega) (by omega);simp only[zLa,zLc,zLn];omega
 by_cases k3:kind=3
 ·subst k3;rw[zn zDd,zn zDd,zp rfl] at hc ⊢
  cases els with
  |nil=>
   simp only at hc ⊢;obtain⟨hc,hc4⟩:=hc.app;obtain⟨hc,hc3⟩:=hc.app;obtain⟨hcx,hc2⟩:=hc.app;obtain⟨wl,_⟩:=hc4.cons;refine qas.bind (c1 := -20) (d1:=0) (c2:=20) (d2:=20) (hE f hf x i s1 m d (t::rest) nvx evx hcx v (by omega) hdx) (by omega) (by omega) (by omega) λa s' m' va=>?_;rw[zn zDd,zn zDd,zn zDd,zp trivial];have hidx:i+(exW (X.cc f) x++[38::labW nl,[63]]).length=i+(exW (X.cc f) x).length+2:=by rw[zLa];try rfl
   rw[hidx] at hc3;rw[zLa,<-add_assoc,hidx] at wl;obtain⟨m1,t1,v1⟩:=va.branch hX hc2 wl (by omega)
   have hend:i+(exW (X.cc f) x).length+2+(stWs (X.cc f) (nl+1) thn).1.length+1=i+(exW (X.cc f) x++[38::labW nl,[63]]++(stWs (X.cc f) (nl+1) thn).1++[labW nl++[58]]).length:=by
    simp only[zLa,zLc,zLn];omega
   refine qas.pre t1 (c1:=5) (d1:=5) ?_ (by omega) (by omega)
   by_cases ha:a=0
   rw[zp ha] at v1;rw[zn (by simp[ha])];exact qas.ok (v1.cast hend) (by omega);rw[zn ha] at v1;rw[zp ha];refine qas.post (a:=0) (qje hS hf thn _ (nl+1) s' m1 d t rest nt et hc3 v1 (by omega) (by omega)) (by omega) (by omega) λr s2 m2 h=>⟨m2,.refl _,?_⟩
   cases r with
   |some w=>exact h
   |none=>
    have h:X.Vw s2 _ d (t::rest) m2:=h
    exact(h.pass wl (hX.ldef _ _ wl)).cast hend
  |cons e els=>
   simp only at hc ⊢;obtain⟨hc,hc6⟩:=hc.app;obtain⟨hc,hc5⟩:=hc.app;obtain⟨hc,hc4⟩:=hc.app;obtain⟨hc,hc3⟩:=hc.app;obtain⟨hcx,hc2⟩:=hc.app;obtain⟨we,_⟩:=hc6.cons;have hidx:i+(exW (X.cc f) x++[38::labW nl,[63]]).length=i+(exW (X.cc f) x).length+2:=by rw[zLa];try rfl
   rw[hidx] at hc3;rw[zLa,<-add_assoc,hidx] at hc4;generalize hi3:i+(exW (X.cc f) x).length+2=i3 at *;generalize hB:(stWs (X.cc f) (nl+2) thn).1=tw at *;generalize hN:(stWs (X.cc f) (nl+2) thn).2=n2 at *
   have hlen5:i+(exW (X.cc f) x++[38::labW nl,[63]]++tw++[[48],38::labW (nl+1),[63],labW nl++[58]]).length=i3+tw.length+3+1:=by
    rw[<-hi3];simp only[zLa,zLc,zLn];omega
   rw[hlen5] at hc5
   have hlen6:i+(exW (X.cc f) x++[38::labW nl,[63]]++tw++[[48],38::labW (nl+1),[63],labW nl++[58]]++(stWs (X.cc f) n2 (e::els)).1).length=i3+tw.length+3+1+(stWs (X.cc f) n2 (e::els)).1.length:=by
    rw[zLa,<-add_assoc,hlen5]
   rw[hlen6] at we;have hc4':X.C.Code (i3+tw.length) ([[48],38::labW (nl+1),[63]]++[labW nl++[58]]):=hc4;obtain⟨hcg,hcl⟩:=hc4'.app;obtain⟨wl,_⟩:=hcl.cons;have wl:X.C.W[i3+tw.length+3]? = some (labW nl++[58]):=wl
   have hend:i3+tw.length+3+1+(stWs (X.cc f) n2 (e::els)).1.length+1=i+(exW (X.cc f) x++[38::labW nl,[63]]++tw++[[48],38::labW (nl+1),[63],labW nl++[58]]++(stWs (X.cc f) n2 (e::els)).1++[labW (nl+1)++[58]]).length:=by
    have:=hlen6;simp only[zLa,zLc,zLn] at this ⊢;omega
   rw[<-hend];refine qas.bind (c1 := -20) (d1:=0) (c2:=30) (d2:=30) (hE f hf x i s1 m d (t::rest) nvx evx hcx v (by omega) hdx) (by omega) (by omega) (by omega) λa s' m' va=>?_;rw[zn zDd,zn zDd,zn zDd,zp trivial];obtain⟨m1,t1,v1⟩:=va.branch hX hc2 wl (by omega);refine qas.pre t1 (c1:=15) (d1:=15) ?_ (by omega) (by omega)
   by_cases ha:a=0
   rw[zp ha] at v1;rw[zn (by simp[ha])];refine qas.post (a:=0) (qje hS hf (e::els) _ n2 s' m1 d t rest ne ee hc5 v1 (by omega) (by omega)) (by omega) (by omega) λr s2 m2 h=>⟨m2,.refl _,?_⟩
   cases r with
   |some w=>exact h
   |none=>
    have h:X.Vw s2 _ d (t::rest) m2:=h;exact h.pass we (hX.ldef _ _ we)
   rw[zn ha] at v1;rw[zp ha];have hb:=qje hS hf thn i3 (nl+2) s' m1 d t rest nt et (by rw[hB];exact hc3) (v1.cast (by omega)) (by omega) (by omega);rw[hB] at hb;refine qas.post (a:=10) hb (by omega) (by omega) λr s2 m2 h=>?_
   cases r with
   |some w=>exact⟨m2,(Stx.refl _).mono (by omega),h⟩
   |none=>
    have h:X.Vw s2 _ d (t::rest) m2:=h;exact h.goto hX hcg we (by omega)
 by_cases k4:kind=4
 subst k4;rw[zn zDd,zn zDd,zn zDd,zp rfl] at hc ⊢;simp only at hc ⊢;obtain⟨hc,hc5⟩:=hc.app;obtain⟨hc,hc4⟩:=hc.app;obtain⟨hc,hc3⟩:=hc.app;obtain⟨hc1,hc2⟩:=hc.app;obtain⟨w0,_⟩:=hc1.cons;have e3:i+([labW nl++[58]]++exW (X.cc f) x).length=i+1+(exW (X.cc f) x).length:=by simp only[zLa,zLc,zLn];omega
 rw[e3] at hc3;have e4:i+([labW nl++[58]]++exW (X.cc f) x++[38::labW (nl+1),[63]]).length=i+1+(exW (X.cc f) x).length+2:=by simp only[zLa,zLc,zLn];omega
 rw[e4] at hc4
 have e5:i+([labW nl++[58]]++exW (X.cc f) x++[38::labW (nl+1),[63]]++(stWs (X.cc f) (nl+2) thn).1).length=i+1+(exW (X.cc f) x).length+2+(stWs (X.cc f) (nl+2) thn).1.length:=by
  have:=e4;simp only[zLa,zLc,zLn] at this ⊢;omega
 rw[e5] at hc5;have hc5':X.C.Code (i+1+(exW (X.cc f) x).length+2+(stWs (X.cc f) (nl+2) thn).1.length) ([[48],38::labW nl,[63]]++[labW (nl+1)++[58]]):=hc5;obtain⟨hcg,hcl⟩:=hc5'.app;obtain⟨we,_⟩:=hcl.cons;have v1:=v.pass w0 (hX.ldef _ _ w0);refine qas.bind (c1 := -20) (d1:=0) (c2:=8) (d2:=18) (hE f hf x (i+1) s1 m d (t::rest) nvx evx hc2 v1 (by omega) hdx) (by omega) (by omega) (by omega) λa s' m' va=>?_;rw[zn zDd,zn zDd,zn zDd,zn zDd,zp trivial];rw[zLc] at hdx;have:=qvB hX hE hS hf nvx evx nt et w0 hc2 hc3 hc4 hcg we (by omega) (by omega) (by omega) (by omega) (by omega) n a s' m' va
 have e6:i+1+(exW (X.cc f) x).length+2+(stWs (X.cc f) (nl+2) thn).1.length+3+1=i+([labW nl++[58]]++exW (X.cc f) x++[38::labW (nl+1),[63]]++(stWs (X.cc f) (nl+2) thn).1++[[48],38::labW nl,[63],labW (nl+1)++[58]]).length:=by
  have:=e5;simp only[zLa,zLc,zLn] at this ⊢;omega
 rw[<-e6];exact this;rw[zn k1,zn k2,zn k3,zn k4,zn k5,zn k6,zn k7] at hform;exact absurd rfl hform
theorem qvk(hX:TrnOk X):∀ n,EvOk X n/\StOk X n
 |0=>⟨λf hf e i s m d c hn he hc v hd hdep=>qas.limit v.rel.out,λf hf st i nl s m d t rest hn he hc v hd hdep=>qas.limit v.rel.out⟩
 |n+1=>by
  obtain⟨h1,h2⟩:=qvk hX n;exact⟨qwp hX h1 (qwh hX h2),qv1 hX h1 h2⟩
end
def qug(C:PW)(inp:List Nat):MS:=⟨λ_=>0,C.plc 0,[],[],inp,[],false⟩
section
variable{X:Trn}
theorem qrt(hX:TrnOk X)(inp:List Nat)(limit:Nat):X.Rel (qb7 X.P inp limit) (qug X.C inp):=by
 refine⟨trivial,λk hk=>rfl,λa ha=>?_,rfl,rfl⟩
 have har:(qb7 X.P inp limit).ar a.name=List.replicate a.size 0:=by
  show(match X.P.arrays.find? λb=>decide (b.name=a.name) with
   |some b=>List.replicate b.size 0
   |none=>[])=_
  cases hf:X.P.arrays.find? λb=>decide (b.name=a.name) with
  |none=>exact absurd (List.find?_eq_none.1 hf a ha) (by simp)
  |some b=>
   have h1:=mem_of_find?_eq_some hf;have h2:b.name=a.name:=zRi (List.find?_some (p:=λb:Ar=>decide (b.name=a.name)) hf);simp only;rw[hX.arName b h1 a ha h2]
 rw[har];refine⟨List.length_replicate,λi hi=>?_⟩;rw[List.length_replicate] at hi;rw[List.getElem_replicate]
 try rfl
theorem qwk(hX:TrnOk X)(hW:X.C.Code 0 [[38,102,95,109,97,105,110],[58],decDigits X.S,[33],[36]])(hm:qbn X.P∈X.P.funcs)(hname:(qbn X.P).name=[109,97,105,110])(hpar:(qbn X.P).params=[])
  (hneed:qbP (X.cenv (qbn X.P)) (qbn X.P).body<=256) (hdep:qcg (X.cenv (qbn X.P)) (qbn X.P).body<=63) (inp:List Nat) (limit:Nat) (he:(runI X.P inp limit).err=0∨(runI X.P inp limit).err=12) :
  ∃ k m',k<=60 * limit+160/\Stp X.C k (qug X.C inp) m'/\stepM X.C m'=.stop (runI X.P inp limit).err.toNat (runI X.P inp limit).out:=by
 have hrel:=qrt hX inp limit;generalize hm0:qug X.C inp=m0 at *
 have v0:X.Vw (qb7 X.P inp limit) 0 [] [] m0:=by
  subst hm0;exact⟨PW.at_mk rfl,hrel,rfl,rfl⟩
 have hpost:qas X.C (λ(_:Option Nat) s' m'=>∃ m2,Stp X.C 0 m' m2/\stepM X.C m2=.stop 0 s'.out) 100 100 m0 (qb7 X.P inp limit) (blkR (stI X.P limit (qbn X.P)) (qbn X.P).body (qb7 X.P inp limit)):=by
  generalize qbn X.P=k at *;obtain⟨nl,hcode⟩:=hX.code k hm;obtain⟨b1,b2⟩:=hX.body k hm;have hfd:=hX.fdef k hm;have hfr:=hX.fref k hm;unfold fnW at hcode;simp only at hcode;rw[hpar] at hcode;simp only[List.reverse_nil,List.flatMap_nil,zLz] at hcode;obtain⟨hcode,hc4⟩:=hcode.app;obtain⟨hc1,hc3⟩:=hcode.app;obtain⟨wd,_⟩:=hc1.cons;obtain⟨w0,hW⟩:=hW.cons;obtain⟨w1,hW⟩:=hW.cons;obtain⟨w2,hW⟩:=hW.cons;obtain⟨w3,hW⟩:=hW.cons;obtain⟨w4,_⟩:=hW.cons;rw[hname] at hfr hfd wd;have t2:=PW.call v0.here w0 w1 hfr (hX.label _ _ _ wd hfd) (by rw[v0.data];decide) (by rw[v0.calls];decide)
  have v3:X.Vw (qb7 X.P inp limit) (X.fst k+1) [] [X.C.plc (0+1+1)] { m0 with pc:=X.C.plc (X.fst k+1),calls:=X.C.plc (0+1+1)::m0.calls,digit:=false }:=
   ⟨PW.at_mk rfl,v0.rel.same rfl rfl rfl rfl rfl rfl rfl,v0.data,by simp only;rw[v0.calls]⟩
  have hb:=qje (qvk hX limit).2 hm k.body (X.fst k+1) nl _ _ [] (X.C.plc (0+1+1)) [] b2 b1 hc3 v3 (by simpa using hneed) (by simp only[zLn];omega);have hS:X.S+2<262144:=hX.low _ (.inr (.inl ⟨by omega,by omega⟩))
  have hlast:∀ s' a m',X.Vw s' (0+1+1) [a] [] m'->∃ m2,Stx X.C 10 m' m2/\∃ m3,Stp X.C 0 m2 m3/\stepM X.C m3=.stop 0 s'.out:=by
   intro s' a m' v5;obtain⟨m6,t6,v6,_⟩:=v5.addr w2 (by omega) (by simp);obtain⟨m7,t7,v7,_⟩:=v6.temp hX w3 ⟨by omega,by omega⟩;exact⟨m7,(t6.trans t7).mono zDd,by rw[<-v7.rel.out];exact PW.halt v7.here w4⟩
  refine qas.pre t2 (c1:=50) (d1:=50) ?_ (by omega) (by omega);refine qas.post (a:=20) hb (by omega) (by omega) λr s' m' h=>?_
  cases r with
  |some a=>
   obtain⟨g1,g2,g3,g4,g5⟩:=h;obtain⟨m2,t5,h5⟩:=hlast s' a m' ⟨PW.at_mk g1,g3,g4,g5⟩
   exact⟨m2,t5.mono zDd,h5⟩
  |none=>
   have h:X.Vw s' _ [] [X.C.plc (0+1+1)] m':=h;obtain⟨q2,hc4⟩:=hc4.cons;obtain⟨q3,_⟩:=hc4.cons;rw[zLa,<-add_assoc] at q2 q3;obtain⟨m6,t6,v6,_⟩:=h.dig (n:=0) q2 zDd rfl zDd;have t7:=PW.back v6.here q3 v6.calls
   have v7:X.Vw s' (0+1+1) [0] [] { m6 with pc:=X.C.plc (0+1+1),calls:=[],digit:=false }:=
    ⟨PW.at_mk rfl,v6.rel.same rfl rfl rfl rfl rfl rfl rfl,v6.data,rfl⟩
   obtain⟨m8,t8,h8⟩:=hlast s' 0 _ v7;exact⟨m8,(t6.trans (t7.trans t8)).mono zDd,h8⟩
 unfold runI at he ⊢;revert hpost he
 cases blkR (stI X.P limit (qbn X.P)) (qbn X.P).body (qb7 X.P inp limit) with
 |ok v s'=>
  rintro he ⟨h1,k,m',h2,h3,m2,h4,h5⟩;have hl:(qb7 X.P inp limit).left=limit:=rfl;rw[hl] at h1 h2
  exact⟨k+0,m2,by omega,h3.trans h4,h5⟩
 |stop e s'=>
  rintro he ⟨h1,h2⟩;have hl:(qb7 X.P inp limit).left=limit:=rfl;rw[hl] at h1;obtain⟨k,m',k1,k2,k3⟩:=h1 he;exact⟨k,m',by omega,k2,k3⟩
end
theorem qoH{x w:Wd}:∀ (W:List Wd) (j:Nat),(defs W).Nodup->W[j]? = some w->defW w=some x->qbz x W=some (W.drop (j+1))
 |[],j,_,h,_=>by simp at h
 |v::W,0,hn,h,hd=>by
  simp only[zRj,zRh] at h;subst h;rw[qbz,zp hd]
  try rfl
 |v::W,j+1,hn,h,hd=>by
  rw[zRk] at h;have hm:x∈defs W:=List.mem_filterMap.2 ⟨w,List.mem_of_getElem? h,hd⟩;rw[qcV] at hn;have hn2:=zRc hn
  have hne:¬ defW v=some x:=λe=>by
   rw[e] at hn2;exact hn2.2.2 x (zRb rfl) x hm rfl
  rw[qbz,zn hne,List.drop_succ_cons];exact qoH W j hn2.2.1 h hd
def qxO(X:Go.Stele.Trn)(D:Nat->Bool):Trn:=⟨⟨X.C.W,D⟩,X.P,X.cc,X.cenv,X.sa,X.aa,X.S,X.fst⟩
theorem qtS{X:Go.Stele.Trn}{D:Nat->Bool}(h:Go.Stele.TrnOk X)(hD:∀ x,X.Data x->D x=true)(hn:(defs X.C.W).Nodup):TrnOk (qxO X D):=
 ⟨h.sc,h.ar,h.temps,h.low,hD,h.keyLow,h.inj,h.apart,h.arInj,h.arLow,h.arName,h.body,h.fn,h.par,h.code,h.ldef,h.lref,h.fdef,h.fref,λj w x hw hd=>qoH _ _ hn hw hd⟩
def qp7(og:Nat):Nat->Bool:=λx=>decide (x<262144/\(x<og∨og+40000<=x))
theorem quF{o:Org}(hc:qbj P=0)(hfit:qeS P.vars (qa8 P) P.funcs o=true):∀ x,(trnP P o).Data x->qp7 o.code.toNat x=true:=λx hx=>by
 have hv:=qdl hc;have hF:=qgq hfit;have hnames:=(qaP _ _ hv.names).1;have han:(P.arrays.map (·.name)).Nodup:=(zRc (zRc hnames).1).2.1;obtain⟨s0,c0,a0,s1,c1,a1,cs,as',ac⟩:=hF;refine zRp ?_;rcases hx with⟨k,hk,rfl⟩|hx|⟨a,ha,i,hi,rfl⟩;have h1:(qaf P.vars P.funcs).idxOf k<_:=qi9 hk;show o.scalars.toNat+3+(qaf P.vars P.funcs).idxOf k<262144/\(o.scalars.toNat+3+(qaf P.vars P.funcs).idxOf k<_∨_<=o.scalars.toNat+3+(qaf P.vars P.funcs).idxOf k);omega;have h1:o.scalars.toNat<=x/\x<=o.scalars.toNat+2:=hx;omega;have h1:=qk1 _ han a ha;have h2:=ac (by have:i<a.size:=hi;omega);have h3:i<a.size:=hi;show o.arrays.toNat+offA P.arrays a.name+i<262144/\(o.arrays.toNat+offA P.arrays a.name+i<_∨_<=o.arrays.toNat+offA P.arrays a.name+i);omega
theorem qxD{P:Pr}{o:Org}{t:Wd}(hnum:∀ f∈P.funcs,qbu f.body)(h:cmpP P.vars (qa8 P) P.funcs o=.ok t)(inp:List Nat)(limit:Nat)(he:(runI P inp limit).err=0∨(runI P inp limit).err=12) :
  ∃ k m',k<=60 * limit+160/\Stp ⟨qaW P o,qp7 o.code.toNat⟩ k (qug ⟨qaW P o,qp7 o.code.toNat⟩ inp) m'/\stepM ⟨qaW P o,qp7 o.code.toNat⟩ m'=.stop (runI P inp limit).err.toNat (runI P inp limit).out:=by
 obtain⟨hc,hfit,_,_,hasm,hX,hlen⟩:=qmx hnum h;have hv:=qdl hc;have hF:=qgq hfit;have hfn:(P.funcs.map (·.name)).Nodup:=(zRc (qaP _ _ hv.names).1).2.1
 have hnd:(defs (qaW P o)).Nodup:=by
  have h1:=(qmx hnum h).2.2.2.1;have h2:=(qmu hasm).2.1;have h3:=(qmx hnum h).2.2.1;rw[h1] at h2;exact h2
 have hW:Go.Stele.PW.Code (trnP P o).C 0 [[38,102,95,109,97,105,110],[58],decDigits (trnP P o).S,[33],[36]]:=by
  have h1:Go.Stele.PW.Code (trnP P o).C 0 ([[38,102,95,109,97,105,110],[58],itoa o.scalars,[33],[36]]++(fnWs (ccF P.vars (qa8 P) P.funcs o) 0 P.funcs).1):=qoI _ _ _;rw[qcb hF.s0] at h1;exact h1.app.1
 have hneed:qbP ((trnP P o).cenv (qbn P)) (qbn P).body<=200/\qcg ((trnP P o).cenv (qbn P)) (qbn P).body<=60:=by
  unfold qbj qb5 at hc;have e1:(P.arrays.map λa=>(a.name,(a.size:Int))).map (·.1)=P.arrays.map (·.name):=by rw[map_map];try rfl
  rw[e1,qnF _ _ hfn,nil_append] at hc;have hm:=(qac.1 (qac.1 (qac.1 hc).2).2).2;unfold qtu at hm;rw[List.getLast?_map] at hm;have hmi:qbn P=(P.funcs.getLast?).getD ⟨[],[],[],[]⟩:=rfl
  cases hl:P.funcs.getLast? with
  |none=>rw[hl] at hm;cases hm
  |some f=>
   rw[hl] at hm hmi;simp only[Option.map_some,Option.getD_some] at hm hmi;rw[hmi];split at hm;split at hm
   rename_i hq
   have hs:=qlB (vars:=P.vars) (arrays:=P.arrays.map (·.name)) (later:=P.funcs.map (·.name)) (knF P.vars (P.arrays.map (·.name)) (P.funcs.map (·.name)) [] P.funcs f) f;exact⟨zNt hs.1 hq.2.1,zNt hs.2 hq.2.2⟩;cases hm;cases hm
 exact qwk (X:=qxO (trnP P o) (qp7 o.code.toNat)) (qtS hX (quF hc hfit) hnd) hW hv.main.1 hv.main.2.1 hv.main.2.2 (zNt hneed.1 zDd) (zNt hneed.2 zDd) inp limit he
section
variable{L:Wd->Nat}
def Up(L:Wd->Nat)(ws:List Wd):Prop:=∀ d r,Ty L (some (d+1)) r->Ty L (some d) (ws++r)
def Flat(L:Wd->Nat)(ws:List Wd):Prop:=∀ r,Ty L (some 0) r->Ty L (some 0) (ws++r)
def NumW(w:Wd):Prop:=∃ k,numW w=some k
structure NumC(c:CC):Prop where
 sc:∀ n,NumW (c.sc n)
 ar:∀ n,NumW (c.ar n)
 t0:NumW c.t0
 t1:NumW c.t1
 t2:NumW c.t2
variable{d:Nat}{w:Wd}{r:List Wd}
theorem tnum(h:NumW w)(ht:Ty L (some (d+1)) r):Ty L (some d) (w::r):=by
 obtain⟨k,hk⟩:=h;exact .num hk ht
theorem n48:NumW [48]:=⟨0,qeC⟩
theorem n49:NumW [49]:=⟨1,qll⟩
theorem top(h:isOp c)(ht:Ty L (some (d+1)) r):Ty L (some (d+2)) ([c]::r):=.sign (qkW h) ht
theorem tst(ht:Ty L (some d) r):Ty L (some (d+2)) ([33]::r):=.sign (a:=2) (b:=0) zDd ht
theorem tld(ht:Ty L (some (d+1)) r):Ty L (some (d+1)) ([64]::r):=.sign (a:=1) (b:=1) zDd ht
theorem trd(ht:Ty L (some (d+1)) r):Ty L (some d) ([44]::r):=.sign (d:=d) (a:=0) (b:=1) zDd ht
theorem twr(ht:Ty L (some d) r):Ty L (some (d+1)) ([46]::r):=.sign (a:=1) (b:=0) zDd ht
theorem qdq(h:c∈([43,45,42,47,37,94,60]:Wd)):isOp c:=by
 unfold isOp;simpa using h
theorem qkU{c:CC}(hc:NumC c)(ht:Ty L (some (d+1)) r):Ty L (some (d+2)) (qaX c++r):=
 tnum hc.t2 (tst (tnum hc.t1 (tst (tnum hc.t2 (tld (tnum hc.t1 (tld (top (qdq zDd) ht))))))))
theorem qw7{c:CC}(hc:NumC c){op:Nm}(hop:op∈qc4)(h1:op≠[33,61])(h2:op≠[38,38])(h3:op≠[124,124])(ht:Ty L (some (d+1)) r) :
  Ty L (some (d+2)) ((if op=[62] then qaX c else if op=[60,61] then qaX c++[[49],[94]] else if op=[62,61] then [[60],[49],[94]] else if op=[61,61] then [[94],[49],[60]] else [op])++r):=by
 simp only[qc4,zMi,not_mem_nil,or_false] at hop;rcases hop with rfl|rfl|rfl|rfl|rfl|rfl|rfl|rfl|rfl|rfl|rfl|rfl|rfl|rfl;exact absurd rfl h3;exact absurd rfl h2;exact top (qdq zDd) (tnum n49 (top (qdq zDd) ht));exact absurd rfl h1;exact top (qdq zDd) ht;exact qkU hc ht;show Ty L (some (d+2)) ((qaX c++[[49],[94]])++r);rw[zAs];exact qkU hc (tnum n49 (top (qdq zDd) ht));exact top (qdq zDd) (tnum n49 (top (qdq zDd) ht));exact top (qdq zDd) ht;exact top (qdq zDd) ht;exact top (qdq zDd) ht;exact top (qdq zDd) ht;exact top (qdq zDd) ht;exact top (qdq zDd) ht
def FnOk(L:Wd->Nat)(env:CEnv):Prop:=∀ name g,env.fn name=some g->refW ([38,102,95]++name)=some ([102,95]++name)/\L ([102,95]++name)=g.params
mutual
theorem qvd{c:CC}(hc:NumC c){env:CEnv}(hfn:FnOk L env):∀ e,numE e->errE env e=0->Up L (exW c e)
 |.mk op num name args,hn,h=>λd r ht=>by
  rw[errE] at h;split at h
  case isFalse=>cases h
  rename_i hop
  obtain⟨h1,h2⟩:=qac.1 h;obtain⟨hnum,hn⟩:=hn;have ha:=qrj hc hfn args hn h1;rw[exW]
  by_cases o1:op=nNum
  subst o1;exact tnum ⟨num,qdM hnum⟩ ht
  by_cases o2:op=nVar
  subst o2;exact tnum (hc.sc name) (tld ht)
  by_cases o3:op=qeD
  ·subst o3
   have hl:args.length=1:=by
    have e:qbk qeD=1:=rfl;rw[e] at hop;omega
   obtain⟨x,rfl⟩:=zRo hl;have hx:=ha.2 (exW c x) (by rw[exWl];simp);show Ty L (some d) ((c.ar name::((exWl c [x]).headD []++[[43],[64]]))++r);have e:(exWl c [x]).headD []=exW c x:=by rw[exWl];try rfl
   rw[e,cons_append,zAs];exact tnum (hc.ar name) (hx _ _ (top (qdq zDd) (tld ht)))
  by_cases o4:op=qch
  subst o4;have he3:callE env name args.length=0:=h2;show Ty L (some d) (((exWl c args).flatten++(if name=[105,110] then [[44]] else if name=[111,117,116] then [[46],[48]] else [[38,102,95]++name,[58]]))++r);rw[zAs];refine ha.1 _ _ ?_
  by_cases k1:name=[105,110]
  rw[zp k1]
  have hl:args.length=0:=by
   unfold callE at he3;rw[zp k1] at he3;split at he3
   assumption
   cases he3
  rw[hl];exact trd ht
  by_cases k2:name=[111,117,116]
  rw[zn k1,zp k2]
  have hl:args.length=1:=by
   unfold callE at he3;rw[zn k1,zp k2] at he3;split at he3
   assumption
   cases he3
  rw[hl];exact twr (tnum n48 ht);rw[zn k1,zn k2];unfold callE at he3;rw[zn k1,zn k2] at he3
  cases hq:env.fn name with
  |none=>
   rw[hq] at he3;simp only at he3
   split at he3 <;> cases he3
  |some g=>
   rw[hq] at he3;simp only at he3;obtain⟨q1,q2⟩:=hfn name g hq;split at he3
   rename_i hl
   rw[hl,<-q2];exact .call q1 ht;cases he3
  have o5':qbk op=args.length:=by
   have:qbk op ≠ -1:=by
    unfold qbk;rw[zn (by simp[o1,o2])]
    by_cases q:op=qeD∨op=nNeg∨op=nNot
    rw[zp q];decide;rw[zn q,zn o4];split <;> decide
   rcases hop with h|h;exact absurd h this;exact h
  by_cases o5:op=nNeg
  ·subst o5
   have hl:args.length=1:=by
    have e:qbk nNeg=1:=rfl;rw[e] at o5';omega
   obtain⟨x,rfl⟩:=zRo hl;have hx:=ha.2 (exW c x) (by rw[exWl];simp);show Ty L (some d) (([48]::((exWl c [x]).headD []++[[45]]))++r);have e:(exWl c [x]).headD []=exW c x:=by rw[exWl];try rfl
   rw[e,cons_append,zAs];exact tnum n48 (hx _ _ (top (qdq zDd) ht))
  by_cases o6:op=nNot
  ·subst o6
   have hl:args.length=1:=by
    have e:qbk nNot=1:=rfl;rw[e] at o5';omega
   obtain⟨x,rfl⟩:=zRo hl;have hx:=ha.2 (exW c x) (by rw[exWl];simp);show Ty L (some d) (((exWl c [x]).headD []++[[49],[60]])++r);have e:(exWl c [x]).headD []=exW c x:=by rw[exWl];try rfl
   rw[e,zAs];exact hx _ _ (tnum n49 (top (qdq zDd) ht))
  have hb:op∈qc4/\args.length=2:=by
   unfold qbk at o5';rw[zn (by simp[o1,o2]),zn (by simp[o3,o5,o6]),zn o4] at o5';split at o5'
   rename_i hm
   exact⟨hm,by omega⟩;omega
  obtain⟨hb,hl⟩:=hb
  obtain⟨x,y,rfl⟩:∃ x y,args=[x,y]:=by
   match args,hl with
   |[x,y],_=>exact⟨x,y,rfl⟩
  have hx:=ha.2 (exW c x) (by rw[exWl];simp);have hy:=ha.2 (exW c y) (by rw[exWl,exWl];simp);have e1:(exWl c [x,y]).headD []=exW c x:=by rw[exWl];try rfl
  have e2:((exWl c [x,y]).drop 1).headD []=exW c y:=by rw[exWl,exWl];try rfl
  unfold opW;rw[zn o1,zn o2,zn o3,zn o4,zn o5,zn o6,e1,e2]
  by_cases b1:op=[33,61]
  rw[zp b1,cons_append,zAs,zAs];exact tnum n48 (hx _ _ (hy _ _ (top (qdq zDd) (top (qdq zDd) ht))));rw[zn b1]
  by_cases b2:op=[38,38]
  rw[zp b2];simp only[cons_append,zAs,nil_append];exact tnum n48 (hx _ _ (top (qdq zDd) (tnum n48 (hy _ _ (top (qdq zDd) (top (qdq zDd) ht))))));rw[zn b2]
  by_cases b3:op=[124,124]
  rw[zp b3];simp only[cons_append,zAs,nil_append];exact tnum n48 (tnum n48 (hx _ _ (top (qdq zDd) (tnum n48 (hy _ _ (top (qdq zDd) (top (qdq zDd) (top (qdq zDd) ht))))))));rw[zn b3,zAs,zAs];exact hx _ _ (hy _ _ (qw7 hc hb b1 b2 b3 ht))
theorem qrj{c:CC}(hc:NumC c){env:CEnv}(hfn:FnOk L env):∀ l,qcB l->qba env l=0->(∀ d r,Ty L (some (d+l.length)) r->Ty L (some d) ((exWl c l).flatten++r))/\∀ ws∈exWl c l,Up L ws
 |[],_,_=>by
  rw[exWl]
  exact⟨λd r h=>h,λws hw=>(not_mem_nil hw).elim⟩
 |x::l,hn,h=>by
  rw[qba] at h;obtain⟨h1,h2⟩:=qac.1 h;have hx:=qvd hc hfn x hn.1 h1;obtain⟨k1,k2⟩:=qrj hc hfn l hn.2 h2;rw[exWl,flatten_cons];refine⟨λd r ht=>?_,λws hw=>?_⟩;rw[zAs];refine hx _ _ (k1 _ _ ?_);rw[zLc] at ht;rw[show d+1+l.length=d+(l.length+1) by omega];exact ht;rcases zMi.1 hw with rfl|hw;exact hx;exact k2 ws hw
end
theorem qhA{ds:List Wd}(h:OkW ds (labW n++[58])):defW (labW n++[58])=some (labW n):=qq9 (c:=106) (x:=decDigits n) h zDd zDd
mutual
theorem qxv{c:CC}(hc:NumC c){env:CEnv}(hfn:FnOk L env){ds:List Wd}(hL:∀ n,L (labW n)=0):∀ (s:Sm) (n:Nat),numS s->errS env s=0->(∀ w∈(stW c n s).1,OkW ds w)->Flat L (stW c n s).1
 |.mk kind name index value thn els,n,hn,h,hok=>λr ht=>by
  rw[errS] at h
  by_cases hf:qbJ (.mk kind name index value thn els)=false
  rw[zp hf] at h;cases h;rw[zn hf] at h;obtain⟨h1,h⟩:=qac.1 h;obtain⟨h2,h⟩:=qac.1 h;obtain⟨h3,h⟩:=qac.1 h;obtain⟨h4,h5⟩:=qac.1 h;rw[Bool.not_eq_false] at hf;unfold qbJ at hf;obtain⟨n1,n2,n3,n4⟩:=hn
  have one:∀ {l:List Ex},l.length=1->qcB l->qba env l=0->Up L (exW c (l.headD default)):=λ{l} hl hnl hel=>by
   obtain⟨x,rfl⟩:=zRo hl;rw[qba] at hel;exact qvd hc hfn x hnl.1 (qac.1 hel).1
  have lref:∀ {k:Nat},OkW ds (38::labW k)->refW (38::labW k)=some (labW k):=λh=>qvw h;rw[qnB] at hok ⊢
  by_cases k1:kind=1
  rw[zp k1] at hok ⊢;have hv:value.length=1:=by subst k1;simp at hf;exact hf.2.2.1
  rw[zAs];exact one hv n2 h1 _ _ (tnum (hc.sc name) (tst ht));rw[zn k1] at hok ⊢
  by_cases k2:kind=2
  rw[zp k2] at hok ⊢;have hv:index.length=1/\value.length=1:=by subst k2;simp at hf;exact⟨hf.2.1,hf.2.2.1⟩
  simp only[zAs,cons_append,nil_append];exact one hv.2 n2 h1 _ _ (tnum (hc.ar name) (one hv.1 n1 h2 _ _ (top (qdq zDd) (tst ht))));rw[zn k2] at hok ⊢
  by_cases k3:kind=3
  rw[zp k3] at hok ⊢;have hv:value.length=1:=by subst k3;simp at hf;exact hf.2.2
  cases els with
  |nil=>
   simp only at hok ⊢;have ht2:=qh8 hc hfn hL thn (n+1) n3 h4 (λw hw=>hok w (by simp[hw]));have d1:=qhA (hok (labW n++[58]) (by simp));have r1:=lref (hok (38::labW n) (by simp));simp only[zAs,cons_append,nil_append]
   exact one hv n2 h1 _ _ (.jump r1 (hL n) (ht2 _ (.defn d1 (hL n) ht)))
  |cons a q=>
   simp only at hok ⊢;have ht2:=qh8 hc hfn hL thn (n+2) n3 h4 (λw hw=>hok w (by simp[hw]));have ht3:=qh8 hc hfn hL (a::q) (stWs c (n+2) thn).2 n4 h5 (λw hw=>hok w (by simp[hw]));have d1:=qhA (hok (labW n++[58]) (by simp));have d2:=qhA (hok (labW (n+1)++[58]) (by simp));have r1:=lref (hok (38::labW n) (by simp));have r2:=lref (hok (38::labW (n+1)) (by simp));simp only[zAs,cons_append,nil_append];exact one hv n2 h1 _ _ (.jump r1 (hL n) (ht2 _ (.goto r2 (hL _) (.free (.defn d1 (hL n) (ht3 _ (.defn d2 (hL _) ht)))))))
  rw[zn k3] at hok ⊢
  by_cases k4:kind=4
  rw[zp k4] at hok ⊢;have hv:value.length=1:=by subst k4;simp at hf;exact hf.2.2.1
  have ht2:=qh8 hc hfn hL thn (n+2) n3 h4 (λw hw=>hok w (by simp[hw]));have d1:=qhA (hok (labW n++[58]) (by simp));have d2:=qhA (hok (labW (n+1)++[58]) (by simp));have r1:=lref (hok (38::labW n) (by simp));have r2:=lref (hok (38::labW (n+1)) (by simp));simp only[zAs,cons_append,nil_append];exact .defn d1 (hL n) (one hv n2 h1 _ _ (.jump r2 (hL _) (ht2 _ (.goto r1 (hL n) (.free (.defn d2 (hL _) ht))))));rw[zn k4] at hok ⊢
  by_cases k5:kind=5
  ·rw[zp k5] at hok ⊢;have hv:value.length=1:=by subst k5;simp at hf;exact hf.2.2.1
   simp only[zAs,cons_append,nil_append];exact one hv n2 h1 _ _ (.stop (.inl rfl) (.free ht))
  rw[zn k5] at hok ⊢
  by_cases k6:kind=6
  rw[zp k6] at hok ⊢;have hv:value.length=1:=by subst k6;simp at hf;exact hf.2.2.1
  simp only[zAs,cons_append,nil_append];exact one hv n2 h1 _ _ (tnum hc.t0 (tst ht));rw[zn k6] at hok ⊢
  by_cases k7:kind=7
  ·rw[zp k7] at hok ⊢;exact .stop (.inr rfl) (.free ht)
  rw[zn k7] at hok ⊢;exact ht
theorem qh8{c:CC}(hc:NumC c){env:CEnv}(hfn:FnOk L env){ds:List Wd}(hL:∀ n,L (labW n)=0):∀ (l:List Sm) (n:Nat),qbu l->qbB env l=0->(∀ w∈(stWs c n l).1,OkW ds w)->Flat L (stWs c n l).1
 |[],n,_,_,_=>λr ht=>by rw[stWs];exact ht
 |s::l,n,hn,h,hok=>λr ht=>by
  rw[qbB] at h;obtain⟨h1,h2⟩:=qac.1 h;rw[stWs] at hok ⊢;simp only at hok ⊢;rw[zAs];exact qxv hc hfn hL s n hn.1 h1 (λw hw=>hok w (zRe (.inl hw))) _ (qh8 hc hfn hL l _ hn.2 h2 (λw hw=>hok w (zRe (.inr hw))) _ ht)
end
theorem qr6{c:CC}(hc:NumC c):∀ (ps:List Nm),Ty L (some 0) r->Ty L (some ps.length) ((ps.flatMap λp=>[c.sc p,[33]])++r)
 |[],h=>h
 |p::ps,h=>by
  rw[flatMap_cons,zLc];simp only[cons_append,nil_append];exact tnum (hc.sc p) (tst (qr6 hc ps h))
theorem qxU{c:CC}(hc:NumC c){env:CEnv}(hfn:FnOk L env){ds:List Wd}(hL:∀ n,L (labW n)=0){f:FnD}{n:Nat}(hd:defW ([102,95]++f.name++[58])=some ([102,95]++f.name))(hp:L ([102,95]++f.name)=f.params.length)(hn:qbu f.body)(he:qbB env f.body=0)
  (hok:∀ w∈(fnW c n f).1,OkW ds w) (ht:Ty L none r):Ty L none ((fnW c n f).1++r):=by
 unfold fnW at hok ⊢;simp only at hok ⊢;rw[zAs,zAs,zAs];have hb:=qh8 hc hfn hL f.body n hn he (λw hw=>hok w (by simp[hw]));have h1:Ty L (some 0) ((stWs c n f.body).1++([[48],[59]]++r)):=hb _ (tnum n48 (.stop (.inl rfl) ht));refine .fdef hd ?_;rw[hp,<-length_reverse];exact qr6 hc f.params.reverse h1
theorem qqV{cc:Nm->CC}(hc:∀ n,NumC (cc n)){ds:List Wd}(hL:∀ n,L (labW n)=0):∀ (fs:List FnD) (n:Nat),(∀ f∈fs,∃ env,FnOk L env/\qbB env f.body=0/\qbu f.body/\defW ([102,95]++f.name++[58])=some ([102,95]++f.name)/\L ([102,95]++f.name)=f.params.length) ->
  (∀ w∈(fnWs cc n fs).1,OkW ds w)->Ty L none (fnWs cc n fs).1
 |[],n,_,_=>by rw[fnWs];exact .nil
 |f::fs,n,h,hok=>by
  rw[fnWs] at hok ⊢;simp only at hok ⊢;obtain⟨env,h1,h2,h3,h4,h5⟩:=h f zMs;exact qxU (hc f.name) h1 hL h4 h5 h3 h2 (λw hw=>hok w (zRe (.inl hw))) (qqV hc hL fs _ (λg hg=>h g (zMo _ hg)) (λw hw=>hok w (zRe (.inr hw))))
end
theorem qei{z:Int}(h0:0<=z)(h1:z<4294967296):NumW (itoa z):=by
 rw[qcb h0];exact⟨z.toNat,qdM (by omega)⟩
theorem qhY:∀ (l:List (Nm×Int)) (a:Int),0<=a->(∀ p∈l,0<=p.2)->∀ n,arrA a l n<=a+(l.map (·.2)).sum
 |[],a,h,_,n=>by simp[arrA];exact h
 |(x,k)::l,a,h,hl,n=>by
  have hk:0<=k:=hl (x,k) zMs
  have hs:0<=(l.map (·.2)).sum:=by
   have:∀ (m:List (Nm×Int)),(∀ p∈m,0<=p.2)->0<=(m.map (·.2)).sum:=by
    intro m
    induction m with
    |nil=>intro _;simp
    |cons p m ih=>
     intro hm;have:=ih λq hq=>hm q (zMo _ hq);have:=hm p zMs;rw[zMc,sum_cons];omega
   exact this l λp hp=>hl p (zMo _ hp)
  rw[arrA,zMc,sum_cons];split;simp only;omega;have:=qhY l (a+k) (by omega) (λp hp=>hl p (zMo _ hp)) n;simp only;omega
theorem qvu{o:Org}(hF:FitN P o)(own:Nm):NumC (ccF P.vars (qa8 P) P.funcs o own):=by
 have s0:=hF.s0;have s1:=hF.s1;have a0:=hF.a0;have a1:=hF.a1
 have hnn:∀ p∈qa8 P,0<=p.2:=λp hp=>by
  obtain⟨a,_,rfl⟩:=zRf hp;exact Int.natCast_nonneg _
 refine⟨λn=>?_,λn=>?_,?_,?_,?_⟩;show NumW (itoa (qen (qaf P.vars P.funcs) o.scalars (keyC (qaf P.vars P.funcs) own n)));generalize keyC (qaf P.vars P.funcs) own n=k;unfold qen;split
 rename_i hk
 have:=qi9 hk;exact qei (by omega) (by omega);exact qei zDd zDd;show NumW (itoa (arrA o.arrays (qa8 P) n));have h1:=qgN _ _ a0 hnn n;have h2:=qhY _ _ a0 hnn n;have ht:((qa8 P).map (·.2)).sum=((totA P.arrays:Nat):Int):=qg5 P.arrays;exact qei h1 (by omega);exact qei s0 (by omega);exact qei (z:=o.scalars+1) (by omega) (by omega);exact qei (z:=o.scalars+2) (by omega) (by omega)
def labL(P:Pr)(x:Wd):Nat:=match x with
 |a::b::nm=>if a=102/\b=95 then (fnI P nm).params.length else 0
 |_=>0
theorem qun(P:Pr)(n:Nat):labL P (labW n)=0:=by
 unfold labW labL
 cases h:decDigits n with
 |nil=>rfl
 |cons c r=>simp
theorem qnN(P:Pr)(nm:Nm):labL P ([102,95]++nm)=(fnI P nm).params.length:=by
 show labL P (102::95::nm)=_;unfold labL
 simp
theorem qxY{P:Pr}{o:Org}(hc:qbj P=0)(hfit:qeS P.vars (qa8 P) P.funcs o=true)(hnum:∀ f∈P.funcs,qbu f.body)(hasm:qgm (qaW P o))(hX:Go.Stele.TrnOk (trnP P o)):Ty (labL P) (some 0) (qaW P o):=by
 have hv:=qdl hc;have hF:=qgq hfit;have hfn:(P.funcs.map (·.name)).Nodup:=(zRc (qaP _ _ hv.names).1).2.1;have hm:=hv.main;have hfr:refW ([38,102,95]++(qbn P).name)=some ([102,95]++(qbn P).name):=hX.fref (qbn P) hm.1
 have hpar:labL P ([102,95]++(qbn P).name)=0:=by
  rw[qnN,qlK hfn hm.1,hm.2.2]
  try rfl
 have hname:(qbn P).name=[109,97,105,110]:=hm.2.1;rw[hname] at hfr hpar
 have hbody:Ty (labL P) none (fnWs (ccF P.vars (qa8 P) P.funcs o) 0 P.funcs).1:=by
  refine qqV (ds:=defs (qaW P o)) (λn=>qvu hF n) (qun P) P.funcs 0 (λf hf=>⟨(trnP P o).cenv f,λname g hg=>?_,(hX.body f hf).1,hnum f hf,hX.fdef f hf,?_⟩) (λw hw=>hasm.2 w ?_);obtain⟨a1,a2,a3,_,_⟩:=hX.fn f hf name g hg;have h1:=hX.fref (fnI P name) a1;have a2:(fnI P name).name=name:=a2;rw[a2] at h1;exact⟨h1,by rw[qnN];exact a3.symm⟩;rw[qnN,qlK hfn hf];show w∈[[38,102,95,109,97,105,110],[58],itoa o.scalars,[33],[36]]++_;exact zRe (.inr hw)
 show Ty (labL P) (some 0) ([[38,102,95,109,97,105,110],[58],itoa o.scalars,[33],[36]]++_)
 have h3:Ty (labL P) (some (0+labL P [102,95,109,97,105,110])) ([38,102,95,109,97,105,110]::[58]::itoa o.scalars::[33]::[36]::(fnWs (ccF P.vars (qa8 P) P.funcs o) 0 P.funcs).1):=by
  refine .call hfr ?_;exact tnum (qei hF.s0 (by have:=hF.s1;omega)) (tst (.stop (.inr rfl) hbody))
 have e:labL P [102,95,109,97,105,110]=0:=hpar;rw[e] at h3;exact h3
theorem qka{all:List Wd}:∀ (l:List (Wd×Nat)) (met:List Wd),(met++defs (l.map (·.1))).Nodup->(∀ w∈l.map (·.1),OkW all w)->(errT all met l).2=0
 |[],met,_,_=>rfl
 |(w,ln)::r,met,hn,hk=>by
  rw[zMc,qcV] at hn;have h0:=hk w (by simp);have hr:=λx hx=>hk x (by rw[zMc];exact zMo _ hx);unfold OkW at h0;rw[errT]
  cases hd:defW w with
  |some x=>
   rw[hd] at hn;simp only at hn ⊢;have hx:x ∉ met:=λhm=>(zRc hn).2.2 x hm x (by simp) rfl;rw[zn hx]
   exact qka r (met++[x]) (by rw[zAs];exact hn) hr
  |none=>
   rw[hd] at hn h0;simp only[nil_append] at hn h0 ⊢
   cases hf:refW w with
   |some x=>
    rw[hf] at h0;simp only at h0 ⊢;rw[zp h0]
    exact qka r met hn hr
   |none=>
    rw[hf] at h0;simp only at h0 ⊢;rw[zp h0];exact qka r met hn hr
theorem qrU{src:Wd}{og:Int}{labs:List (Wd×Nat)}(h:asmP src og=.ok (x,labs)):qgm (qbc src)/\x.length<=40000:=by
 have h2:=(qmu h).1;unfold asmP at h;split at h;cases h;split at h;cases h
 rename_i h1
 exact⟨qpg (Classical.not_not.1 h1),h2⟩
theorem qxC{W:List Wd}(hA:qgm W)(hc:∀ w∈W,qbv w){og:Int}(h0:0<=og)(h1:og<262144)(hl:lenW false W<=40000) :
  asmP (join W [32]) og=.ok (qcZ (qdI (qee (λ_=>0) og.toNat W)) W,qee (λ_=>0) og.toNat W)/\(qcZ (qdI (qee (λ_=>0) og.toNat W)) W).length=lenW false W:=by
 have hw:=qez hc;have ht:=qjP (qdI (qee (λ_=>0) og.toNat W)) W λw hw=>(hc w hw).1;refine⟨?_,ht⟩
 have he:(errT (defs W) [] (qfR (join W [32]))).2=0:=by
  refine qka _ _ ?_ ?_;rw[qcQ,hw];exact hA.1;rw[qcQ,hw];exact hA.2
 unfold asmP;rw[zn (by omega),hw,zn (by rw[he];decide),zn (by rw[ht];omega)]
section
variable{P:Pr}{o:Org}{t:Wd}
theorem preserves(hnum:∀ f∈P.funcs,qbu f.body)(h:cmpP P.vars (qa8 P) P.funcs o=.ok t){inp:List Nat}(hi:∀ v∈inp,v<4294967296)(limit:Nat)(he:(runI P inp limit).err=0∨(runI P inp limit).err=12) :
  ∃ x labs y labs' K K',asmP t o.code=.ok (x,labs)/\asmP (join (optP (qbc t)) [32]) o.code=.ok (y,labs')/\x.length<=40000/\y.length<=x.length/\K<=60 * limit+161/\K'<=K /\
   ∀ N,K<=N->runM N (qeN x o.code.toNat inp)=((runI P inp limit).err.toNat,(runI P inp limit).out,K)/\runM N (qeN y o.code.toNat inp)=((runI P inp limit).err.toNat,(runI P inp limit).out,K'):=by
 obtain⟨hc,hfit,ht,hw,hasm,hX,hlen⟩:=qmx hnum h;have hF:=qgq hfit;have hcl:∀ w∈qaW P o,qbv w:=qjZ hc hfit;obtain⟨hA,hl⟩:=qrU hasm;rw[hw] at hA;rw[hw];have hty:=qxY hc hfit hnum hA hX;obtain⟨k,m',k1,k2,k3⟩:=qxD hnum h inp limit he;have h99:(runI P inp limit).err.toNat≠99:=by rcases he with e|e <;> rw[e] <;> decide
 obtain⟨n,hE⟩:=qu8 k2 k3 h99;have hog:o.code.toNat+40000<=262144:=hF.c1;have hE:Ends ⟨qaW P o,qp7 o.code.toNat⟩ n ⟨λ_=>0,qaW P o,[],[],inp,[],false⟩ (runI P inp limit).err.toNat (runI P inp limit).out (k+1):=hE;obtain⟨n',K',hE2,hK⟩:=qtC hi hA hE;obtain⟨hA2,hlw⟩:=qv5 hA;have hcl2:=qs8 hcl;have htx:=qjP (qiA P o) (qaW P o) λw hw=>(hcl w hw).1;have hl:(qcZ (qiA P o) (qaW P o)).length<=40000:=hl;obtain⟨b1,b2⟩:=qxC hA2 hcl2 (og:=o.code) hF.c0 (by omega) (by omega);refine⟨_,_,_,_,k+1,K',hasm,b1,hl,by rw[b2,htx];exact hlw,by omega,hK,λN hN=>⟨?_,?_⟩⟩;exact qk2 hA (λw hw=>(hcl w hw).1) hty rfl hl hog hE N hN;exact qk2 hA2 (λw hw=>(hcl2 w hw).1) (qxH hty) rfl (by rw[b2];omega) hog hE2 N (by omega)
end
section
variable{used:Wd->Bool}{v r p rest:List Wd}{w:Wd}
end
def dfO:Org:=⟨10000,0,100000⟩
def Pl(w:Wd):Prop:=defW w=none/\refW w=none/\qho w=true
def Eok(F:List Wd)(ws:List Wd):Prop:=∀ x∈ws,Pl x∨defW x=none/\∃ d,refW x=some d/\d∈F
section
variable{F:List Wd}{a b ws:List Wd}{w d:Wd}
theorem Eok.nil:Eok F []:=λx h=>(not_mem_nil h).elim
theorem Eok.cons(h:Pl w)(k:Eok F ws):Eok F (w::ws):=λx hx=>by
 rcases zMi.1 hx with rfl|hx;exact .inl h;exact k x hx
theorem Eok.call(h:refW w=some d)(hd:d∈F)(k:Eok F ws):Eok F (w::ws):=λx hx=>by
 rcases zMi.1 hx with rfl|hx;exact .inr ⟨qa5 h,d,h,hd⟩;exact k x hx
theorem Eok.app(h:Eok F a)(k:Eok F b):Eok F (a++b):=λx hx=>by
 rcases zRd hx with hx|hx;exact h x hx;exact k x hx
theorem Eok.flat{l:List (List Wd)}(h:∀ ws∈l,Eok F ws):Eok F l.flatten:=λx hx=>by
 obtain⟨ws,h1,h2⟩:=List.mem_flatten.1 hx;exact h ws h1 x h2
theorem qtR:∀ (w:Wd),(∀ c∈w,qar c=true)->qho w=true:=λw h=>by
 unfold qho;rw[all_eq_true];intro c hc;have h0:=h c hc;have h2:48<=c.toNat:=(qh5.1 h0).1;have h3:c.toNat<=57:=(qh5.1 h0).2;have h4:c=UInt8.ofNat c.toNat:=by simp
 have h5:c.toNat=48∨c.toNat=49∨c.toNat=50∨c.toNat=51∨c.toNat=52∨c.toNat=53∨c.toNat=54∨c.toNat=55∨c.toNat=56∨c.toNat=57:=by omega
 rw[h4];rcases h5 with e|e|e|e|e|e|e|e|e|e <;> rw[e] <;> decide
theorem qwF(h:numW w=some n):decDigits n=w:=by
 unfold numW at h;split at h;split at h
 rename_i q;injection h with h;rw[<-h];exact q
 cases h;cases h
theorem qfj(h:NumW w):Pl w:=by
 obtain⟨n,h⟩:=h;obtain⟨k1,k2⟩:=qbs h;refine⟨k1,k2,qtR w λc hc=>?_⟩;rw[<-qwF h] at hc;exact qdW n c hc
theorem sg(h:c∈([43,45,42,47,37,94,60,64,33,63,58,59,44,46,36,48,49]:Wd)):Pl [c]:=by
 simp only[zMi,not_mem_nil,or_false] at h;unfold Pl;rcases h with rfl|rfl|rfl|rfl|rfl|rfl|rfl|rfl|rfl|rfl|rfl|rfl|rfl|rfl|rfl|rfl|rfl <;> decide +kernel
theorem qk5{c:CC}(hc:NumC c):Eok F (qaX c):=
 .cons (qfj hc.t2) (.cons (sg zDd) (.cons (qfj hc.t1) (.cons (sg zDd) (.cons (qfj hc.t2) (.cons (sg zDd) (.cons (qfj hc.t1) (.cons (sg zDd) (.cons (sg zDd) .nil))))))))
def FnA(F:List Wd)(env:CEnv):Prop:=∀ name g,env.fn name=some g->refW ([38,102,95]++name)=some ([102,95]++name)/\[102,95]++name∈F
theorem qr3{l:List (List Wd)}(h:∀ ws∈l,Eok F ws):Eok F (l.headD []):=by
 cases l with
 |nil=>exact .nil
 |cons a l=>exact h a zMs
mutual
theorem qvh{c:CC}(hc:NumC c){env:CEnv}(hfn:FnA F env):∀ e,numE e->errE env e=0->Eok F (exW c e)
 |.mk op num name args,hn,h=>by
  rw[errE] at h;split at h
  case isFalse=>cases h
  rename_i hop
  obtain⟨h1,h2⟩:=qac.1 h;obtain⟨hnum,hn⟩:=hn;have ha:=qsU hc hfn args hn h1;have hd:Eok F (((exWl c args).drop 1).headD []):=qr3 λws hw=>ha ws (List.mem_of_mem_drop hw);have hh:Eok F ((exWl c args).headD []):=qr3 ha;rw[exW];unfold opW
  by_cases o1:op=nNum
  rw[zp o1];exact .cons (qfj ⟨num,qdM hnum⟩) .nil;rw[zn o1]
  by_cases o2:op=nVar
  rw[zp o2];exact .cons (qfj (hc.sc name)) (.cons (sg zDd) .nil);rw[zn o2]
  by_cases o3:op=qeD
  rw[zp o3];exact .cons (qfj (hc.ar name)) (hh.app (.cons (sg zDd) (.cons (sg zDd) .nil)));rw[zn o3]
  by_cases o4:op=qch
  rw[zp o4];refine(Eok.flat ha).app ?_;subst o4;have he3:callE env name args.length=0:=h2
  by_cases k1:name=[105,110]
  rw[zp k1];exact .cons (sg zDd) .nil
  by_cases k2:name=[111,117,116]
  rw[zn k1,zp k2];exact .cons (sg zDd) (.cons (sg zDd) .nil);rw[zn k1,zn k2];unfold callE at he3;rw[zn k1,zn k2] at he3
  cases hq:env.fn name with
  |none=>
   rw[hq] at he3;simp only at he3
   split at he3 <;> cases he3
  |some g=>
   obtain⟨q1,q2⟩:=hfn name g hq;exact .call q1 q2 (.cons (sg zDd) .nil)
  rw[zn o4]
  by_cases o5:op=nNeg
  rw[zp o5];exact .cons (sg zDd) (hh.app (.cons (sg zDd) .nil));rw[zn o5]
  by_cases o6:op=nNot
  rw[zp o6];exact hh.app (.cons (sg zDd) (.cons (sg zDd) .nil));rw[zn o6]
  have o5':qbk op=args.length:=by
   have:qbk op ≠ -1:=by
    unfold qbk;rw[zn (by simp[o1,o2])]
    by_cases q:op=qeD∨op=nNeg∨op=nNot
    rw[zp q];decide;rw[zn q,zn o4];split <;> decide
   rcases hop with h|h;exact absurd h this;exact h
  have hb:op∈qc4:=by
   unfold qbk at o5';rw[zn (by simp[o1,o2]),zn (by simp[o3,o5,o6]),zn o4] at o5';split at o5'
   assumption
   omega
  by_cases b1:op=[33,61]
  rw[zp b1];exact .cons (sg zDd) ((hh.app hd).app (.cons (sg zDd) (.cons (sg zDd) .nil)));rw[zn b1]
  by_cases b2:op=[38,38]
  rw[zp b2];exact .cons (sg zDd) (((hh.app (.cons (sg zDd) (.cons (sg zDd) .nil))).app hd).app (.cons (sg zDd) (.cons (sg zDd) .nil)));rw[zn b2]
  by_cases b3:op=[124,124]
  rw[zp b3];exact .cons (sg zDd) (.cons (sg zDd) (((hh.app (.cons (sg zDd) (.cons (sg zDd) .nil))).app hd).app (.cons (sg zDd) (.cons (sg zDd) (.cons (sg zDd) .nil)))));rw[zn b3];refine(hh.app hd).app ?_;simp only[qc4,zMi,not_mem_nil,or_false] at hb;rcases hb with rfl|rfl|rfl|rfl|rfl|rfl|rfl|rfl|rfl|rfl|rfl|rfl|rfl|rfl;exact absurd rfl b3;exact absurd rfl b2;exact .cons (sg zDd) (.cons (sg zDd) (.cons (sg zDd) .nil));exact absurd rfl b1;exact .cons (sg zDd) .nil;exact qk5 hc;exact(qk5 hc).app (.cons (sg zDd) (.cons (sg zDd) .nil));exact .cons (sg zDd) (.cons (sg zDd) (.cons (sg zDd) .nil));exact .cons (sg zDd) .nil;exact .cons (sg zDd) .nil;exact .cons (sg zDd) .nil;exact .cons (sg zDd) .nil;exact .cons (sg zDd) .nil;exact .cons (sg zDd) .nil
theorem qsU{c:CC}(hc:NumC c){env:CEnv}(hfn:FnA F env):∀ l,qcB l->qba env l=0->∀ ws∈exWl c l,Eok F ws
 |[],_,_=>by
  rw[exWl]
  exact λws hw=>(not_mem_nil hw).elim
 |x::l,hn,h=>by
  rw[qba] at h;obtain⟨h1,h2⟩:=qac.1 h;rw[exWl];intro ws hw;rcases zMi.1 hw with rfl|hw;exact qvh hc hfn x hn.1 h1;exact qsU hc hfn l hn.2 h2 ws hw
end
theorem qo2(h:k<=4000000000):qgn (labW k)=true:=by
 have h1:=qhP h;unfold labW at h1 ⊢;unfold qgn;simp only[zBa,zDe];refine⟨⟨by omega,by decide⟩,?_⟩;rw[all_cons];rw[zBa];refine⟨by decide,?_⟩;rw[all_eq_true];intro c hc;have:=qdW k c hc;unfold qaU;rw[this]
 simp
theorem qtl(h:k<=4000000000):defW (labW k++[58])=some (labW k):=by
 unfold defW;have e:(labW k++[58]).dropLast=labW k:=List.dropLast_concat;rw[e,zp ⟨by simp,qo2 h⟩]
theorem qov(h:k<=4000000000):refW (38::labW k)=some (labW k):=by
 show(if (38:UInt8)=38/\qgn (labW k)=true then some (labW k) else none)=some (labW k);rw[zp ⟨rfl,qo2 h⟩]
def Rf(F:List Wd)(n m:Nat)(ws:List Wd):Prop:=∀ x∈ws,(∃ d,defW x=some d)∨Pl x∨defW x=none/\∃ d,refW x=some d/\(d∈F∨∃ k,d=labW k/\n<=k/\k<m)
def Df(ks:List Nat)(ws:List Wd):Prop:=defs ws=ks.map labW
theorem Rf.mono{n' m':Nat}(h:Rf F n m ws)(h1:n'<=n)(h2:m<=m'):Rf F n' m' ws:=λx hx=>by
 rcases h x hx with h|h|⟨a1,d,a2,h|⟨k,e,k1,k2⟩⟩;exact .inl h;exact .inr (.inl h);exact .inr (.inr ⟨a1,d,a2,.inl h⟩);exact .inr (.inr ⟨a1,d,a2,.inr ⟨k,e,by omega,by omega⟩⟩)
theorem Rf.app(h:Rf F n m a)(k:Rf F n m b):Rf F n m (a++b):=λx hx=>by
 rcases zRd hx with hx|hx;exact h x hx;exact k x hx
theorem Eok.rf(h:Eok F ws):Rf F n m ws:=λx hx=>by
 rcases h x hx with h|⟨h1,d,h2,h3⟩;exact .inr (.inl h);exact .inr (.inr ⟨h1,d,h2,.inl h3⟩)
theorem Rf.ref(hk:k<=4000000000)(h1:n<=k)(h2:k<m):Rf F n m [38::labW k]:=λx hx=>by
 rw[zRa hx];exact .inr (.inr ⟨qa5 (qov hk),_,qov hk,.inr ⟨k,rfl,h1,h2⟩⟩)
theorem Rf.lab(hk:k<=4000000000):Rf F n m [labW k++[58]]:=λx hx=>by
 rw[zRa hx];exact .inl ⟨_,qtl hk⟩
theorem Rf.pl(h:Pl w):Rf F n m [w]:=(Eok.cons h .nil).rf
theorem Df.app{ks ls:List Nat}(h:Df ks a)(k:Df ls b):Df (ks++ls) (a++b):=by
 unfold Df at h k ⊢;rw[qcE,h,k,zMa]
theorem Eok.df(h:Eok F ws):Df [] ws:=by
 unfold Df defs;rw[List.filterMap_eq_nil_iff.2];rfl;intro x hx;rcases h x hx with h|⟨h,_⟩;exact h.1;exact h
theorem Df.lab(hk:k<=4000000000):Df [k] [labW k++[58]]:=by
 unfold Df defs;simp only[filterMap_cons,qtl hk,filterMap_nil,zMc,map_nil]
theorem Df.ref(hk:k<=4000000000):Df [] [38::labW k]:=by
 unfold Df defs;simp only[filterMap_cons,qa5 (qov hk),filterMap_nil,map_nil]
theorem Df.pl(h:Pl w):Df [] [w]:=by
 unfold Df defs;simp only[filterMap_cons,h.1,filterMap_nil,map_nil]
def Lw(F:List Wd)(n m:Nat)(ws:List Wd):Prop:=∃ ks:List Nat,Df ks ws/\ks.Nodup/\(∀ k,k∈ks ↔ n<=k/\k<m)/\Rf F n m ws/\n<=m
theorem Lw.none(h:Eok F ws):Lw F n n ws:=⟨[],h.df,List.nodup_nil,λk=>⟨λh=>(not_mem_nil h).elim,λh=>by omega⟩,h.rf,zNr _⟩
theorem Lw.app{n m p:Nat}(h:Lw F n m a)(k:Lw F m p b):Lw F n p (a++b):=by
 obtain⟨ks,h1,h2,h3,h4,h5⟩:=h;obtain⟨ls,k1,k2,k3,k4,k5⟩:=k;refine⟨ks++ls,h1.app k1,List.nodup_append.2 ⟨h2,k2,λx hx y hy e=>?_⟩,λx=>?_,(h4.mono (zNr _) k5).app (k4.mono h5 (zNr _)),zNt h5 k5⟩;have a1:=(h3 x).1 hx;have a2:=(k3 y).1 hy;omega;rw[mem_append,h3,k3];omega
mutual
theorem qxm(c:CC):∀ (s:Sm) (n:Nat),n<=(stW c n s).2
 |.mk kind name index value thn els,n=>by
  rw[qnB];have e1:=qig c thn (n+1);have e2:=qig c thn (n+2);have e3:=qig c els (stWs c (n+2) thn).2;split;exact zNr _;split;exact zNr _;split
  cases els with
  |nil=>show n<=(stWs c (n+1) thn).2;omega
  |cons a q=>show n<=(stWs c (stWs c (n+2) thn).2 (a::q)).2;omega
  split;show n<=(stWs c (n+2) thn).2;omega;split;exact zNr _;split;exact zNr _;split;exact zNr _;exact zNr _
theorem qig(c:CC):∀ (l:List Sm) (n:Nat),n<=(stWs c n l).2
 |[],n=>by rw[stWs];exact zNr _
 |s::l,n=>by
  rw[stWs];exact zNt (qxm c s n) (qig c l _)
end
mutual
theorem qxs{c:CC}(hc:NumC c){env:CEnv}(hfn:FnA F env):∀ (s:Sm) (n:Nat),numS s->errS env s=0->(stW c n s).2<=4000000000->Lw F n (stW c n s).2 (stW c n s).1
 |.mk kind name index value thn els,n,hn,h,hN=>by
  rw[errS] at h
  by_cases hf:qbJ (.mk kind name index value thn els)=false
  rw[zp hf] at h;cases h;rw[zn hf] at h;obtain⟨h1,h⟩:=qac.1 h;obtain⟨h2,h⟩:=qac.1 h;obtain⟨h3,h⟩:=qac.1 h;obtain⟨h4,h5⟩:=qac.1 h;rw[Bool.not_eq_false] at hf;unfold qbJ at hf;obtain⟨n1,n2,n3,n4⟩:=hn
  have one:∀ {l:List Ex},l.length=1->qcB l->qba env l=0->Eok F (exW c (l.headD default)):=λ{l} hl hnl hel=>by
   obtain⟨x,rfl⟩:=zRo hl;rw[qba] at hel;exact qvh hc hfn x hnl.1 (qac.1 hel).1
  rw[qnB] at hN ⊢
  by_cases k1:kind=1
  rw[zp k1] at hN ⊢;have hv:value.length=1:=by subst k1;simp at hf;exact hf.2.2.1
  exact .none ((one hv n2 h1).app (.cons (qfj (hc.sc name)) (.cons (sg zDd) .nil)));rw[zn k1] at hN ⊢
  by_cases k2:kind=2
  rw[zp k2] at hN ⊢;have hv:index.length=1/\value.length=1:=by subst k2;simp at hf;exact⟨hf.2.1,hf.2.2.1⟩
  exact .none ((one hv.2 n2 h1).app (.cons (qfj (hc.ar name)) ((one hv.1 n1 h2).app (.cons (sg zDd) (.cons (sg zDd) .nil)))));rw[zn k2] at hN ⊢
  by_cases k3:kind=3
  rw[zp k3] at hN ⊢;have hv:value.length=1:=by subst k3;simp at hf;exact hf.2.2
  have hx:=one hv n2 h1
  cases els with
  |nil=>
   simp only at hN ⊢;obtain⟨ks,d1,d2,d3,d4,d5⟩:=qhH hc hfn thn (n+1) n3 h4 hN;have hk:n<=4000000000:=by omega
   refine⟨(([]++[]++[])++ks)++[n],?_,?_,λx=>?_,?_,by omega⟩;exact(((by rw[zAs];exact hx.df.app ((Df.ref hk).app (Df.pl (sg (c:=63) zDd)))):Df ([]++[]++[]) _).app d1).app (Df.lab hk);simp only[nil_append]
   exact List.nodup_append.2 ⟨d2,by simp,λx hx y hy e=>by
    have:=(d3 x).1 hx;rw[mem_singleton] at hy
    omega⟩
   simp only[nil_append,mem_append,mem_singleton,d3];omega;refine Rf.app (Rf.app (Rf.app hx.rf ?_) (d4.mono (by omega) (zNr _))) (Rf.lab hk)
   exact(Rf.ref hk (zNr _) (by omega)).app (Rf.pl (w:=[63]) (sg zDd))
  |cons a q=>
   simp only at hN ⊢;have hle:=qig c (a::q) (stWs c (n+2) thn).2;obtain⟨ks,d1,d2,d3,d4,d5⟩:=qhH hc hfn thn (n+2) n3 h4 (by omega);obtain⟨ls,e1,e2,e3,e4,e5⟩:=qhH hc hfn (a::q) (stWs c (n+2) thn).2 n4 h5 hN;have hk:n<=4000000000:=by omega
   have hk2:n+1<=4000000000:=by omega
   have m1:Df [n] [[48],38::labW (n+1),[63],labW n++[58]]:=(Df.pl (sg (c:=48) zDd)).app ((Df.ref hk2).app ((Df.pl (sg (c:=63) zDd)).app (Df.lab hk)));refine⟨(((([]++[]++[])++ks)++[n])++ls)++[n+1],?_,?_,λx=>?_,?_,by omega⟩;exact((((by rw[zAs];exact hx.df.app ((Df.ref hk).app (Df.pl (sg (c:=63) zDd)))):Df ([]++[]++[]) _).app d1).app m1 |>.app e1).app (Df.lab hk2);simp only[nil_append];refine List.nodup_append.2 ⟨List.nodup_append.2 ⟨List.nodup_append.2 ⟨d2,by simp,λx hx y hy e=>?_⟩,e2,λx hx y hy e=>?_⟩,by simp,λx hx y hy e=>?_⟩;have:=(d3 x).1 hx;rw[mem_singleton] at hy;omega;have b2:=(e3 y).1 hy;rcases zRd hx with hx|hx;have:=(d3 x).1 hx;omega;rw[mem_singleton] at hx;omega;rw[mem_singleton] at hy;rcases zRd hx with hx|hx;rcases zRd hx with hx|hx;have:=(d3 x).1 hx;omega;rw[mem_singleton] at hx;omega;have:=(e3 x).1 hx;omega;simp only[nil_append,mem_append,mem_singleton,d3,e3];omega;refine Rf.app (Rf.app (Rf.app (Rf.app (Rf.app hx.rf ?_) (d4.mono (by omega) (by omega))) ?_) (e4.mono (by omega) (zNr _))) (Rf.lab hk2);exact(Rf.ref hk (zNr _) (by omega)).app (Rf.pl (w:=[63]) (sg zDd));exact(Rf.pl (w:=[48]) (sg zDd)).app ((Rf.ref hk2 (by omega) (by omega)).app ((Rf.pl (w:=[63]) (sg zDd)).app (Rf.lab hk)))
  rw[zn k3] at hN ⊢
  by_cases k4:kind=4
  rw[zp k4] at hN ⊢;have hv:value.length=1:=by subst k4;simp at hf;exact hf.2.2.1
  have hx:=one hv n2 h1;simp only at hN ⊢;obtain⟨ks,d1,d2,d3,d4,d5⟩:=qhH hc hfn thn (n+2) n3 h4 hN;have hk:n<=4000000000:=by omega
  have hk2:n+1<=4000000000:=by omega
  refine⟨((([n]++[])++[])++ks)++[n+1],?_,?_,λx=>?_,?_,by omega⟩;exact((((Df.lab hk).app hx.df).app ((Df.ref hk2).app (Df.pl (sg (c:=63) zDd)))).app d1).app ((Df.pl (sg (c:=48) zDd)).app ((Df.ref hk).app ((Df.pl (sg (c:=63) zDd)).app (Df.lab hk2))));simp only[zLz];refine List.nodup_append.2 ⟨List.nodup_append.2 ⟨by simp,d2,λx hx y hy e=>?_⟩,by simp,λx hx y hy e=>?_⟩;have:=(d3 y).1 hy;rw[mem_singleton] at hx;omega;rw[mem_singleton] at hy;rcases zRd hx with hx|hx;rw[mem_singleton] at hx;omega;have:=(d3 x).1 hx;omega;simp only[zLz,mem_append,mem_singleton,d3];omega;refine Rf.app (Rf.app (Rf.app (Rf.app (Rf.lab hk) hx.rf) ?_) (d4.mono (by omega) (zNr _))) ?_;exact(Rf.ref hk2 (by omega) (by omega)).app (Rf.pl (w:=[63]) (sg zDd));exact(Rf.pl (w:=[48]) (sg zDd)).app ((Rf.ref hk (zNr _) (by omega)).app ((Rf.pl (w:=[63]) (sg zDd)).app (Rf.lab hk2)));rw[zn k4] at hN ⊢
  by_cases k5:kind=5
  rw[zp k5] at hN ⊢;have hv:value.length=1:=by subst k5;simp at hf;exact hf.2.2.1
  exact .none ((one hv n2 h1).app (.cons (sg zDd) .nil));rw[zn k5] at hN ⊢
  by_cases k6:kind=6
  rw[zp k6] at hN ⊢;have hv:value.length=1:=by subst k6;simp at hf;exact hf.2.2.1
  exact .none ((one hv n2 h1).app (.cons (qfj hc.t0) (.cons (sg zDd) .nil)));rw[zn k6] at hN ⊢
  by_cases k7:kind=7
  rw[zp k7] at hN ⊢;exact .none (.cons (sg zDd) .nil);rw[zn k7] at hN ⊢;exact .none .nil
theorem qhH{c:CC}(hc:NumC c){env:CEnv}(hfn:FnA F env):∀ (l:List Sm) (n:Nat),qbu l->qbB env l=0->(stWs c n l).2<=4000000000->Lw F n (stWs c n l).2 (stWs c n l).1
 |[],n,_,_,_=>by rw[stWs];exact .none .nil
 |s::l,n,hn,h,hN=>by
  rw[qbB] at h;obtain⟨h1,h2⟩:=qac.1 h;rw[stWs] at hN ⊢;simp only at hN ⊢;have hle:=qig c l (stW c n s).2;exact(qxs hc hfn s n hn.1 h1 (by omega)).app (qhH hc hfn l _ hn.2 h2 hN)
end
def fnL(s:Nm):Wd:=[102,95]++s
theorem qrc{s:Nm}(h:isNm s=true):qgn (fnL s)=true:=by
 unfold isNm at h;rw[zBa,zBa,zDe] at h;obtain⟨⟨h1,_⟩,h2⟩:=h;show(decide ((102::95::s).length<=40) && qaV 102 && (102::95::s).all qaU)=true
 have h3:s.all qaU=true:=by
  cases s with
  |nil=>rfl
  |cons c r=>
   simp only[zBa] at h2;rw[all_cons,h2.2];have:=h2.1;unfold qaU;rw[this]
   simp
 rw[all_cons,all_cons,h3];simp only[zBa,zDe];refine⟨⟨by simp only[zLc];omega,by decide⟩,by decide⟩
theorem qvr{s:Nm}(h:isNm s=true):defW (fnL s++[58])=some (fnL s):=by
 unfold defW;rw[List.dropLast_concat,zp ⟨by simp,qrc h⟩]
theorem qvc{s:Nm}(h:isNm s=true):refW (38::fnL s)=some (fnL s):=by
 show(if (38:UInt8)=38/\qgn (fnL s)=true then some (fnL s) else none)=some (fnL s);rw[zp ⟨rfl,qrc h⟩]
theorem qra(s:Nm)(k:Nat):fnL s≠labW k:=by
 unfold fnL labW;intro h;injection h with h _;exact absurd h zDd
theorem qxM{s t:Nm}(h:fnL s=fnL t):s=t:=by
 unfold fnL at h;exact List.append_cancel_left h
theorem qrr{j:Nat}(h:labW j=labW k)(hj:j<=4000000000)(hk:k<=4000000000):j=k:=by
 unfold labW at h;injection h with _ h;have h1:=qdM (n:=j) (by omega);have h2:=qdM (n:=k) (by omega);rw[h,h2] at h1;injection h1 with h1;exact h1.symm
theorem qtn{c:CC}(hc:NumC c):∀ (ps:List Nm),Eok F (ps.flatMap λp=>[c.sc p,[33]])
 |[]=>.nil
 |p::ps=>by
  rw[flatMap_cons];exact Eok.app (.cons (qfj (hc.sc p)) (.cons (sg zDd) .nil)) (qtn hc ps)
theorem qtw{cc:Nm->CC}(hc:∀ n,NumC (cc n)):∀ (fs:List FnD) (n:Nat),(∀ f∈fs,∃ env,FnA F env/\qbB env f.body=0/\qbu f.body/\isNm f.name=true)->(fs.map (·.name)).Nodup->(fnWs cc n fs).2<=4000000000 ->
  (∀ x∈defs (fnWs cc n fs).1,(∃ f∈fs,x=fnL f.name)∨∃ k,x=labW k/\n<=k/\k<(fnWs cc n fs).2)/\(defs (fnWs cc n fs).1).Nodup/\(∀ k,n<=k->k<(fnWs cc n fs).2->labW k∈defs (fnWs cc n fs).1) /\
  (∀ f∈fs,fnL f.name∈defs (fnWs cc n fs).1)/\Rf F n (fnWs cc n fs).2 (fnWs cc n fs).1/\n<=(fnWs cc n fs).2
 |[],n,_,_,_=>by
  rw[fnWs]
  exact⟨λx hx=>(not_mem_nil hx).elim,List.nodup_nil,λk h1 h2=>by have h2:k<n:=h2;omega,λf hf=>(not_mem_nil hf).elim,λx hx=>(not_mem_nil hx).elim,zNr _⟩
 |f::fs,n,h,hnd,hN=>by
  obtain⟨env,h1,h2,h3,h4⟩:=h f zMs;rw[zMc,List.nodup_cons] at hnd;rw[fnWs] at hN ⊢;simp only at hN ⊢;have e2:(fnW (cc f.name) n f).2=(stWs (cc f.name) n f.body).2:=rfl;have ih:=qtw hc fs (fnW (cc f.name) n f).2 (λg hg=>h g (zMo _ hg)) hnd.2 hN;rw[e2] at ih hN ⊢;obtain⟨a1,a2,a3,a4,a5,a6⟩:=ih;obtain⟨ks,b1,b2,b3,b4,b5⟩:=qhH (hc f.name) h1 f.body n h3 h2 (by omega);have hp:Eok F (f.params.reverse.flatMap λp=>[(cc f.name).sc p,[33]]):=qtn (hc f.name) _;have he:Eok F [[48],[59]]:=.cons (sg zDd) (.cons (sg zDd) .nil)
  have hD:defs (fnW (cc f.name) n f).1=fnL f.name::ks.map labW:=by
   show defs ([fnL f.name++[58]]++(f.params.reverse.flatMap λp=>[(cc f.name).sc p,[33]])++(stWs (cc f.name) n f.body).1++[[48],[59]])=_;rw[qcE,qcE,qcE,hp.df,b1,he.df]
   have:defs [fnL f.name++[58]]=[fnL f.name]:=by
    unfold defs;simp only[filterMap_cons,qvr h4,filterMap_nil]
   rw[this]
   simp
  have hR:Rf F n (stWs (cc f.name) n f.body).2 (fnW (cc f.name) n f).1:=by
   show Rf F n _ ([fnL f.name++[58]]++(f.params.reverse.flatMap λp=>[(cc f.name).sc p,[33]])++(stWs (cc f.name) n f.body).1++[[48],[59]]);refine Rf.app (Rf.app (Rf.app (λx hx=>?_) hp.rf) b4) he.rf;rw[zRa hx];exact .inl ⟨_,qvr h4⟩
  rw[qcE,hD];refine⟨λx hx=>?_,?_,λk k1 k2=>?_,λg hg=>?_,(hR.mono (zNr _) a6).app (a5.mono b5 (zNr _)),zNt b5 a6⟩;rcases zRd hx with hx|hx;rcases zMi.1 hx with rfl|hx;exact .inl ⟨f,List.mem_cons_self ..,rfl⟩;obtain⟨k,k1,rfl⟩:=zRf hx;have:=(b3 k).1 k1;exact .inr ⟨k,rfl,this.1,by omega⟩;rcases a1 x hx with⟨g,hg,e⟩|⟨k,e,k1,k2⟩;exact .inl ⟨g,zMo _ hg,e⟩;exact .inr ⟨k,e,by omega,k2⟩;refine List.nodup_append.2 ⟨List.nodup_cons.2 ⟨λhx=>?_,?_⟩,a2,λx hx y hy e=>?_⟩;obtain⟨k,_,e⟩:=zRf hx;exact qra f.name k e.symm;exact List.pairwise_map.2 (b2.imp_of_mem λ{a b} ha hb hab he=>hab (qrr he (by have:=(b3 a).1 ha;omega) (by have:=(b3 b).1 hb;omega)));subst e;rcases zMi.1 hx with rfl|hx;rcases a1 _ hy with⟨g,hg,e⟩|⟨k,e,_,_⟩;exact hnd.1 (zRg ⟨g,hg,(qxM e).symm⟩);exact qra _ _ e;obtain⟨k,k1,rfl⟩:=zRf hx;have:=(b3 k).1 k1;rcases a1 _ hy with⟨g,hg,e⟩|⟨j,e,j1,j2⟩;exact qra _ _ e.symm;have:=qrr e (by omega) (by omega);omega
  by_cases hk:k<(stWs (cc f.name) n f.body).2
  exact zRe (.inl (zMo _ (zRg ⟨k,(b3 k).2 ⟨k1,hk⟩,rfl⟩)));exact zRe (.inr (a3 k (by omega) k2));rcases zMi.1 hg with rfl|hg;exact zRe (.inl zMs);exact zRe (.inr (a4 g hg))
theorem qvO{P:Pr}{o:Org}(hc:qbj P=0)(hnum:∀ f∈P.funcs,qbu f.body)(hfit:qeS P.vars (qa8 P) P.funcs o=true)(hnd:ndFs P.funcs<=2000000):qgm (qaW P o):=by
 have hv:=qdl hc;have hF:=qgq hfit;have hnames:=(qaP _ _ hv.names).1;have hfn:(P.funcs.map (·.name)).Nodup:=(zRc hnames).2.1;have hnm:∀ f∈P.funcs,isNm f.name=true:=λf hf=>((qaP _ _ hv.names).2 f.name (zRe (.inr (zRg ⟨f,hf,rfl⟩)))).2
 have herr:qeK P.vars (P.arrays.map (·.name)) (P.funcs.map (·.name)) [] P.funcs=0:=by
  unfold qbj qb5 at hc;have e1:(P.arrays.map λa=>(a.name,(a.size:Int))).map (·.1)=P.arrays.map (·.name):=by rw[map_map];try rfl
  rw[e1] at hc;exact(qac.1 (qac.1 (qac.1 hc).2).2).1
 have hlab:=(qnT (o:=o) hc hnum hfit hnd).2;have hk:=qrq P.funcs [] herr hfn
 have hA:∀ f∈P.funcs,FnA (P.funcs.map λf=>fnL f.name) (envF P.vars (P.arrays.map (·.name)) (P.funcs.map (·.name)) (knF P.vars (P.arrays.map (·.name)) (P.funcs.map (·.name)) [] P.funcs f) f):=λf hf name g hg=>by
  have h1:g∈knF P.vars (P.arrays.map (·.name)) (P.funcs.map (·.name)) [] P.funcs f:=mem_of_find?_eq_some hg;have h2:g.name=name:=zRi (List.find?_some (p:=λg:FSum=>decide (g.name=name)) hg);rcases qsJ P.funcs [] hfn f hf g h1 with h3|⟨x,h3,h4⟩;exact(not_mem_nil h3).elim;have h5:x.name=name:=by rw[<-h2,h4];try rfl
  rw[<-h5];exact⟨qvc (hnm x h3),zRg ⟨x,h3,rfl⟩⟩
 obtain⟨a1,a2,a3,a4,a5,_⟩:=qtw (F:=P.funcs.map λf=>fnL f.name) (λn=>qvu hF n) P.funcs 0 (λf hf=>⟨_,hA f hf,hk f hf,hnum f hf,hnm f hf⟩) hfn (by omega);have hm:=hv.main
 have h0:Eok (P.funcs.map λf=>fnL f.name) [[38,102,95,109,97,105,110],[58],itoa o.scalars,[33],[36]]:=by
  have hmn:(qbn P).name=[109,97,105,110]:=hm.2.1;have h1:=hnm _ hm.1;rw[hmn] at h1;refine .call (qvc h1) (zRg ⟨qbn P,hm.1,by rw[hmn]⟩) (.cons (sg zDd) (.cons (qfj (qei hF.s0 (by have:=hF.s1;omega))) (.cons (sg zDd) (.cons (sg zDd) .nil))))
 have hW:qaW P o=[[38,102,95,109,97,105,110],[58],itoa o.scalars,[33],[36]]++(fnWs (ccF P.vars (qa8 P) P.funcs o) 0 P.funcs).1:=rfl
 have hD:defs (qaW P o)=defs (fnWs (ccF P.vars (qa8 P) P.funcs o) 0 P.funcs).1:=by
  rw[hW,qcE,h0.df]
  try rfl
 refine⟨by rw[hD];exact a2,λx hx=>?_⟩;rw[hD]
 have hR:Rf (P.funcs.map λf=>fnL f.name) 0 (fnWs (ccF P.vars (qa8 P) P.funcs o) 0 P.funcs).2 (qaW P o):=by
  rw[hW];exact h0.rf.app a5
 unfold OkW;rcases hR x hx with⟨d,e⟩|⟨e1,e2,e3⟩|⟨e1,d,e2,h⟩;rw[e];trivial;rw[e1,e2];exact e3;rw[e1,e2];simp only;rcases h with h|⟨k,rfl,k1,k2⟩;obtain⟨f,hf,rfl⟩:=zRf h;exact a4 f hf;exact a3 k k1 k2
theorem qm1(hc:qbj P=0):qeS P.vars (qa8 P) P.funcs dfO=true:=by
 have hv:=qdl hc;have hs:=hv.few;have ha:=(qd0 (vars:=P.vars) (arrays:=qa8 P) (fs:=P.funcs) hc).1
 have h0:0<=((qa8 P).map (·.2)).sum:=by
  have:∀ l:List Int,(∀ x∈l,0<=x)->0<=l.sum:=by
   intro l
   induction l with
   |nil=>intro _;exact Int.le_refl _
   |cons a l ih=>
    intro h;rw[sum_cons];have h1:=h a zMs;have h2:=ih λx hx=>h x (zMo _ hx);omega
  refine this _ λx hx=>?_;obtain⟨p,hp,rfl⟩:=zRf hx;have:=(qd0 (vars:=P.vars) (arrays:=qa8 P) (fs:=P.funcs) hc).2.1 p hp;omega
 unfold qeS qe8 qhp dfO;simp only[zBa,Bool.not_eq_true',zDe,decide_eq_false_iff_not];refine⟨⟨⟨⟨⟨?_,?_⟩,?_⟩,?_⟩,?_⟩,?_⟩ <;> omega
theorem cmp_default{P:Pr}(hc:qbj P=0)(hnum:∀ f∈P.funcs,qbu f.body)(hnd:ndFs P.funcs<=2000000):(∃ t,cmpP P.vars (qa8 P) P.funcs dfO=.ok t)∨cmpP P.vars (qa8 P) P.funcs dfO=.error 6:=by
 have hfit:=qm1 hc;have hA:=qvO hc hnum hfit hnd;have hcl:∀ w∈qaW P dfO,qbv w:=qjZ hc hfit;have hw:=qez hcl;have hc':qb5 P.vars (qa8 P) P.funcs=0:=hc
 have he:(errT (defs (qaW P dfO)) [] (qfR (join (qaW P dfO) [32]))).2=0:=by
  refine qka _ _ ?_ ?_;rw[qcQ,hw];exact hA.1;rw[qcQ,hw];exact hA.2
 have hJ:join (prW P.vars (qa8 P) P.funcs dfO) [32]=join (qaW P dfO) [32]:=rfl;unfold cmpP;rw[zn (λh=>h hc'),zn (by rw[hfit];decide),hJ];unfold asmP;rw[zn zDd,hw,zn (by rw[he];decide)];split
 rename_i e h
 split at h;injection h with h;rw[<-h];exact .inr rfl;cases h;exact .inl ⟨_,rfl⟩
end
end Go.Stele.Wi
namespace Go.Proofs.YtegmklafpoldgaaGreatDoor
open Go.GL
noncomputable abbrev zTp:=Tryz.prog
abbrev zRw:=TEnter zTp
abbrev zRx:=TField zTp
abbrev zRy:=TZero zTp
abbrev zRz:=TSize zTp
abbrev zS:=TOne zTp
abbrev zSa:=TStruct zTp
abbrev zSb:=TSlice zTp
abbrev zSc:=TAgg zTp
abbrev zSd:=TRow zTp
abbrev zSe:=TConcrete zTp
instance:TMixed zTp:=⟨zk⟩
instance:zRz 3 1:=.of zk
instance:zS 3:=.of zk
instance:TKind zTp 3 .i64:=.of zk
instance:zRy 3 [.int .i64 0]:=.of (v:=.int .i64 0) (n:=1) zk rfl rfl
instance:zSd 3 1 8:=.of zk
instance:zRz 4 1:=.of zk
instance:zS 4:=.of zk
instance:TKind zTp 5 .u8:=.of zk
instance:zRy 5 [.int .u8 0]:=.of (v:=.int .u8 0) (n:=1) zk rfl rfl
instance:zSd 5 1 1:=.of zk
instance:zRz 9 1:=.of zk
instance:zS 9:=.of zk
instance:TStr zTp 9:=.of zk
instance:zRy 9 [.string ⟨#[]⟩]:=.of (v:=.string ⟨#[]⟩) (n:=1) zk rfl rfl
instance:zSd 9 1 16:=.of zk
instance:zRz 22 1:=.of zk
instance:zS 22:=.of zk
instance:zSb 22 84 1:=.of zk
instance:zRz 24 1:=.of zk
instance:zS 24:=.of zk
instance:zSb 24 9 1:=.of zk
instance:zRy 24 [.slice none 0 0]:=.of (v:=.slice none 0 0) (n:=1) zk rfl rfl
instance:zRz 25 1:=.of zk
instance:zS 25:=.of zk
instance:zSb 25 86 2:=.of zk
instance:zRz 26 1:=.of zk
instance:zS 26:=.of zk
instance:zSb 26 89 4:=.of zk
instance:zRz 28 3:=.of zk
instance:zSc 28 3:=.of zk
instance:zRx 28 0 0:=.of zk
instance:zRx 28 1 1:=.of zk
instance:zRx 28 2 2:=.of zk
instance:zSa 28 [(0,1),(1,1),(2,1)]:=.of zk
instance:zRy 28 [.slice none 0 0,.slice none 0 0,.slice none 0 0]:=.of (v:=.agg #[.slice none 0 0,.slice none 0 0,.slice none 0 0]) (n:=3) zk rfl rfl
instance:zRz 29 1:=.of zk
instance:zS 29:=.of zk
instance:zRy 29 [.int .i64 0]:=.of (v:=.int .i64 0) (n:=1) zk rfl rfl
instance:zRz 35 3:=.of zk
instance:zSc 35 3:=.of zk
instance:zRx 35 0 0:=.of zk
instance:zRx 35 1 1:=.of zk
instance:zRx 35 2 2:=.of zk
instance:zSa 35 [(0,1),(1,1),(2,1)]:=.of zk
instance:zRy 35 [.int .i64 0,.int .i64 0,.int .i64 0]:=.of (v:=.agg #[.int .i64 0,.int .i64 0,.int .i64 0]) (n:=3) zk rfl rfl
instance:zRz 38 3:=.of zk
instance:zSc 38 3:=.of zk
instance:zRx 38 0 0:=.of zk
instance:zRx 38 1 1:=.of zk
instance:zRx 38 2 2:=.of zk
instance:zSa 38 [(0,1),(1,1),(2,1)]:=.of zk
instance:zRy 38 [.string ⟨#[]⟩,.int .i64 0,.int .i64 0]:=.of (v:=.agg #[.string ⟨#[]⟩,.int .i64 0,.int .i64 0]) (n:=3) zk rfl rfl
instance:zSb 47 71 2:=.of zk
instance:zS 52:=.of zk
instance:zSb 52 114 3:=.of zk
instance:zRz 56 2:=.of zk
instance:zSe 56:=.of zk
instance:zRx 56 0 0:=.of zk
instance:zRx 56 1 1:=.of zk
instance:zSa 56 [(0,1),(1,1)]:=.of zk
instance:zRy 56 [.int .i64 0,.int .i64 0]:=.of (v:=.agg #[.int .i64 0,.int .i64 0]) (n:=2) zk rfl rfl
instance:zS 58:=.of zk
instance:zRx 60 0 0:=.of zk
instance:zRx 60 1 1:=.of zk
instance:zRx 60 2 2:=.of zk
instance:zSa 60 [(0,1),(1,1),(2,1)]:=.of zk
instance:zRy 60 [.slice none 0 0,.int .i64 0,.int .i64 0]:=.of (v:=.agg #[.slice none 0 0,.int .i64 0,.int .i64 0]) (n:=3) zk rfl rfl
instance:zS 63:=.of zk
instance:zS 64:=.of zk
instance:zRx 66 0 0:=.of zk
instance:zRx 66 1 1:=.of zk
instance:zRx 66 2 2:=.of zk
instance:zRx 66 3 3:=.of zk
instance:zRx 66 4 4:=.of zk
instance:zRx 66 5 5:=.of zk
instance:zSa 66 [(0,1),(1,1),(2,1),(3,1),(4,1),(5,1)]:=.of zk
instance:zRy 66 [.slice none 0 0,.int .i64 0,.int .i64 0,.map none,.map none,.string ⟨#[]⟩]:=.of (v:=.agg #[.slice none 0 0,.int .i64 0,.int .i64 0,.map none,.map none,.string ⟨#[]⟩]) (n:=6) zk rfl rfl
instance:zRz 71 2:=.of zk
instance:zSc 71 2:=.of zk
instance:zRx 71 0 0:=.of zk
instance:zRx 71 1 1:=.of zk
instance:zSa 71 [(0,1),(1,1)]:=.of zk
instance:zRy 71 [.string ⟨#[]⟩,.int .i64 0]:=.of (v:=.agg #[.string ⟨#[]⟩,.int .i64 0]) (n:=2) zk rfl rfl
instance:zSd 71 2 24:=.of zk
instance:zS 75:=.of zk
instance:zS 77:=.of zk
instance:zS 78:=.of zk
instance:zS 79:=.of zk
instance:zRz 80 1:=.of zk
instance:zS 80:=.of zk
instance:zSb 80 5 1:=.of zk
instance:zRx 82 0 0:=.of zk
instance:zRx 82 1 3:=.of zk
instance:zRx 82 2 4:=.of zk
instance:zRx 82 3 5:=.of zk
instance:zRx 82 4 6:=.of zk
instance:zRx 82 5 7:=.of zk
instance:zRx 82 6 8:=.of zk
instance:zRx 82 7 9:=.of zk
instance:zRx 82 8 10:=.of zk
instance:zSa 82 [(0,3),(3,1),(4,1),(5,1),(6,1),(7,1),(8,1),(9,1),(10,1)]:=.of zk
instance:zRy 82 [.slice none 0 0,.slice none 0 0,.slice none 0 0,.map none,.slice none 0 0,.slice none 0 0,.int .i64 0,.int .i64 0,.map none,.map none,.map none]:=.of (v:=.agg #[.slice none 0 0,.slice none 0 0,.slice none 0 0,.map none,.slice none 0 0,.slice none 0 0,.int .i64 0,.int .i64 0,.map none,.map none,.map none]) (n:=11) zk rfl rfl
instance:zRz 84 1:=.of zk
instance:zS 84:=.of zk
instance:TKind zTp 84 .u32:=.of zk
instance:zRy 84 [.int .u32 0]:=.of (v:=.int .u32 0) (n:=1) zk rfl rfl
instance:zSd 84 1 4:=.of zk
instance:zRz 86 2:=.of zk
instance:zSc 86 2:=.of zk
instance:zRx 86 0 0:=.of zk
instance:zRx 86 1 1:=.of zk
instance:zSa 86 [(0,1),(1,1)]:=.of zk
instance:zRy 86 [.string ⟨#[]⟩,.int .i64 0]:=.of (v:=.agg #[.string ⟨#[]⟩,.int .i64 0]) (n:=2) zk rfl rfl
instance:zSd 86 2 24:=.of zk
instance:zRz 87 1:=.of zk
instance:zS 87:=.of zk
instance:zSb 87 168 6:=.of zk
instance:zRz 89 4:=.of zk
instance:zSc 89 4:=.of zk
instance:zRx 89 0 0:=.of zk
instance:zRx 89 1 1:=.of zk
instance:zRx 89 2 2:=.of zk
instance:zRx 89 3 3:=.of zk
instance:zSa 89 [(0,1),(1,1),(2,1),(3,1)]:=.of zk
instance:zRy 89 [.string ⟨#[]⟩,.slice none 0 0,.slice none 0 0,.slice none 0 0]:=.of (v:=.agg #[.string ⟨#[]⟩,.slice none 0 0,.slice none 0 0,.slice none 0 0]) (n:=4) zk rfl rfl
instance:zSd 89 4 88:=.of zk
instance:zRz 95 2:=.of zk
instance:zSc 95 2:=.of zk
instance:zRx 95 0 0:=.of zk
instance:zRx 95 1 1:=.of zk
instance:zSa 95 [(0,1),(1,1)]:=.of zk
instance:zRy 95 [.int .i64 0,.string ⟨#[]⟩]:=.of (v:=.agg #[.int .i64 0,.string ⟨#[]⟩]) (n:=2) zk rfl rfl
instance:zSb 96 95 2:=.of zk
instance:zRz 99 2:=.of zk
instance:zSe 99:=.of zk
instance:zRx 99 0 0:=.of zk
instance:zRx 99 1 1:=.of zk
instance:zSa 99 [(0,1),(1,1)]:=.of zk
instance:zRy 99 [.string ⟨#[]⟩,.int .i64 0]:=.of (v:=.agg #[.string ⟨#[]⟩,.int .i64 0]) (n:=2) zk rfl rfl
instance:zRz 102 1:=.of zk
instance:zS 102:=.of zk
instance:zS 103:=.of zk
instance:zRx 105 0 0:=.of zk
instance:zRx 105 1 1:=.of zk
instance:zRx 105 2 2:=.of zk
instance:zRx 105 3 3:=.of zk
instance:zRx 105 4 4:=.of zk
instance:zRx 105 5 5:=.of zk
instance:zRx 105 6 6:=.of zk
instance:zSa 105 [(0,1),(1,1),(2,1),(3,1),(4,1),(5,1),(6,1)]:=.of zk
instance:zRy 105 [.map none,.map none,.map none,.map none,.string ⟨#[]⟩,.map none,.int .i64 0]:=.of (v:=.agg #[.map none,.map none,.map none,.map none,.string ⟨#[]⟩,.map none,.int .i64 0]) (n:=7) zk rfl rfl
instance:zSb 106 150 2:=.of zk
instance:zRz 114 3:=.of zk
instance:zSc 114 3:=.of zk
instance:zRx 114 0 0:=.of zk
instance:zRx 114 1 1:=.of zk
instance:zRx 114 2 2:=.of zk
instance:zSa 114 [(0,1),(1,1),(2,1)]:=.of zk
instance:zRy 114 [.int .i64 0,.string ⟨#[]⟩,.int .i64 0]:=.of (v:=.agg #[.int .i64 0,.string ⟨#[]⟩,.int .i64 0]) (n:=3) zk rfl rfl
instance:zSd 114 3 32:=.of zk
instance:zRz 125 2:=.of zk
instance:zSc 125 2:=.of zk
instance:zRx 125 0 0:=.of zk
instance:zRx 125 1 1:=.of zk
instance:zSa 125 [(0,1),(1,1)]:=.of zk
instance:zRy 125 [.int .i64 0,.int .i64 0]:=.of (v:=.agg #[.int .i64 0,.int .i64 0]) (n:=2) zk rfl rfl
instance:zSb 126 125 2:=.of zk
instance:zRx 134 1 1:=.of zk
instance:zRy 134 [.pointer none,.slice none 0 0]:=.of (v:=.agg #[.pointer none,.slice none 0 0]) (n:=2) zk rfl rfl
instance:zRz 142 1:=.of zk
instance:zSe 142:=.of zk
instance:zRx 142 0 0:=.of zk
instance:zSa 142 [(0,1)]:=.of zk
instance:zRy 142 [.int .i64 0]:=.of (v:=.agg #[.int .i64 0]) (n:=1) zk rfl rfl
instance:zRz 143 1:=.of zk
instance:zS 143:=.of zk
instance:zRy 143 [.nilFunc]:=.of (v:=.nilFunc) (n:=1) zk rfl rfl
instance:zRz 150 2:=.of zk
instance:zSc 150 2:=.of zk
instance:zRx 150 0 0:=.of zk
instance:zRx 150 1 1:=.of zk
instance:zSa 150 [(0,1),(1,1)]:=.of zk
instance:zRy 150 [.string ⟨#[]⟩,.int .i64 0]:=.of (v:=.agg #[.string ⟨#[]⟩,.int .i64 0]) (n:=2) zk rfl rfl
instance:zSd 150 2 24:=.of zk
instance:zSb 154 155 1:=.of zk
instance:zS 155:=.of zk
instance:zRy 155 [.nilFunc]:=.of (v:=.nilFunc) (n:=1) zk rfl rfl
instance:zSc 158 2:=.of zk
instance:zRx 158 0 0:=.of zk
instance:zRx 158 1 1:=.of zk
instance:zSa 158 [(0,1),(1,1)]:=.of zk
instance:zRy 158 [.slice none 0 0,.map none]:=.of (v:=.agg #[.slice none 0 0,.map none]) (n:=2) zk rfl rfl
instance:zS 160:=.of zk
instance:zRx 163 0 0:=.of zk
instance:zRx 163 1 1:=.of zk
instance:zRx 163 2 2:=.of zk
instance:zRx 163 3 3:=.of zk
instance:zRx 163 4 4:=.of zk
instance:zRx 163 5 5:=.of zk
instance:zRx 163 6 6:=.of zk
instance:zRx 163 7 7:=.of zk
instance:zRx 163 8 8:=.of zk
instance:zRx 163 9 9:=.of zk
instance:zSa 163 [(0,1),(1,1),(2,1),(3,1),(4,1),(5,1),(6,1),(7,1),(8,1),(9,1)]:=.of zk
instance:zRy 163 [.slice none 0 0,.int .u32 0,.slice none 0 0,.slice none 0 0,.slice none 0 0,.slice none 0 0,.bool false,.int .i64 0,.bool false,.map none]:=.of (v:=.agg #[.slice none 0 0,.int .u32 0,.slice none 0 0,.slice none 0 0,.slice none 0 0,.slice none 0 0,.bool false,.int .i64 0,.bool false,.map none]) (n:=10) zk rfl rfl
instance:zRz 166 1:=.of zk
instance:zS 166:=.of zk
instance:zSb 166 170 4:=.of zk
instance:zRz 168 6:=.of zk
instance:zSc 168 6:=.of zk
instance:zRx 168 0 0:=.of zk
instance:zRx 168 1 1:=.of zk
instance:zRx 168 2 2:=.of zk
instance:zRx 168 3 3:=.of zk
instance:zRx 168 4 4:=.of zk
instance:zRx 168 5 5:=.of zk
instance:zSa 168 [(0,1),(1,1),(2,1),(3,1),(4,1),(5,1)]:=.of zk
instance:zRy 168 [.int .i64 0,.string ⟨#[]⟩,.slice none 0 0,.slice none 0 0,.slice none 0 0,.slice none 0 0]:=.of (v:=.agg #[.int .i64 0,.string ⟨#[]⟩,.slice none 0 0,.slice none 0 0,.slice none 0 0,.slice none 0 0]) (n:=6) zk rfl rfl
instance:zSd 168 6 120:=.of zk
instance:zRz 170 4:=.of zk
instance:zSc 170 4:=.of zk
instance:zRx 170 0 0:=.of zk
instance:zRx 170 1 1:=.of zk
instance:zRx 170 2 2:=.of zk
instance:zRx 170 3 3:=.of zk
instance:zSa 170 [(0,1),(1,1),(2,1),(3,1)]:=.of zk
instance:zRy 170 [.string ⟨#[]⟩,.int .u32 0,.string ⟨#[]⟩,.slice none 0 0]:=.of (v:=.agg #[.string ⟨#[]⟩,.int .u32 0,.string ⟨#[]⟩,.slice none 0 0]) (n:=4) zk rfl rfl
instance:zSd 170 4 64:=.of zk
instance:zRz 176 3:=.of zk
instance:zRx 176 0 0:=.of zk
instance:zRx 176 1 1:=.of zk
instance:zRx 176 2 2:=.of zk
instance:zSa 176 [(0,1),(1,1),(2,1)]:=.of zk
instance:zRy 176 [.int .i64 0,.int .i64 0,.int .i64 0]:=.of (v:=.agg #[.int .i64 0,.int .i64 0,.int .i64 0]) (n:=3) zk rfl rfl
instance:zS 190:=.of zk
instance:zSb 190 24 1:=.of zk
instance:zRz 204 0:=.of zk
instance:zSe 204:=.of zk
instance:zSa 204 []:=.of zk
instance:zRy 204 []:=.of (v:=.agg #[]) (n:=0) zk rfl rfl
instance:TKind zTp 208 .u64:=.of zk
instance:zRz 246 1:=.of zk
instance:zS 246:=.of zk
instance:zRy 246 [.nilFunc]:=.of (v:=.nilFunc) (n:=1) zk rfl rfl
instance:zSb 270 3 1:=.of zk
instance:zRw 7:=.of zk
instance:zRw 8:=.of zk
instance:zRw 9:=.of zk
instance:zRw 10:=.of zk
instance:zRw 11:=.of zk
instance:zRw 13:=.of zk
instance:zRw 14:=.of zk
instance:zRw 15:=.of zk
instance:zRw 16:=.of zk
instance:zRw 17:=.of zk
instance:zRw 18:=.of zk
instance:zRw 19:=.of zk
instance:zRw 20:=.of zk
instance:zRw 21:=.of zk
instance:zRw 22:=.of zk
instance:zRw 23:=.of zk
instance:zRw 24:=.of zk
instance:zRw 25:=.of zk
instance:zRw 26:=.of zk
instance:zRw 27:=.of zk
instance:zRw 28:=.of zk
instance:zRw 29:=.of zk
instance:zRw 30:=.of zk
instance:zRw 31:=.of zk
instance:zRw 33:=.of zk
instance:zRw 34:=.of zk
instance:zRw 35:=.of zk
instance:zRw 36:=.of zk
instance:zRw 37:=.of zk
instance:zRw 38:=.of zk
instance:zRw 39:=.of zk
instance:zRw 40:=.of zk
instance:zRw 41:=.of zk
instance:zRw 42:=.of zk
instance:zRw 43:=.of zk
instance:zRw 44:=.of zk
instance:zRw 45:=.of zk
instance:zRw 46:=.of zk
instance:zRw 47:=.of zk
instance:zRw 48:=.of zk
instance:zRw 49:=.of zk
instance:zRw 50:=.of zk
instance:zRw 51:=.of zk
instance:zRw 52:=.of zk
instance:zRw 53:=.of zk
instance:zRw 54:=.of zk
instance:zRw 55:=.of zk
instance:zRw 57:=.of zk
instance:zRw 58:=.of zk
instance:zRw 59:=.of zk
instance:zRw 60:=.of zk
instance:zRw 61:=.of zk
instance:zRw 62:=.of zk
instance:zRw 63:=.of zk
instance:zRw 64:=.of zk
instance:zRw 65:=.of zk
instance:zRw 66:=.of zk
instance:zRw 67:=.of zk
instance:zRw 68:=.of zk
instance:zRw 69:=.of zk
instance:zRw 70:=.of zk
instance:zRw 71:=.of zk
instance:zRw 72:=.of zk
instance:zRw 73:=.of zk
instance:zRw 74:=.of zk
instance:zRw 75:=.of zk
instance:zRw 76:=.of zk
instance:zRw 77:=.of zk
instance:zRw 78:=.of zk
instance:zRw 79:=.of zk
instance:zRw 80:=.of zk
instance:zRw 81:=.of zk
instance:zRw 82:=.of zk
instance:zRw 83:=.of zk
instance:zRw 84:=.of zk
instance:zRw 85:=.of zk
instance:zRw 86:=.of zk
instance:zRw 87:=.of zk
instance:zRw 88:=.of zk
instance:zRw 90:=.of zk
instance:zRw 91:=.of zk
instance:zRw 92:=.of zk
instance:zRw 93:=.of zk
instance:zRw 94:=.of zk
instance:zRw 95:=.of zk
instance:zRw 96:=.of zk
instance:zRw 97:=.of zk
instance:zRw 98:=.of zk
instance:zRw 99:=.of zk
instance:zRw 100:=.of zk
instance:zRw 101:=.of zk
instance:zRw 102:=.of zk
instance:zRw 103:=.of zk
instance:zRw 104:=.of zk
instance:zRw 105:=.of zk
instance:zRw 106:=.of zk
instance:zRw 107:=.of zk
instance:zRw 108:=.of zk
instance:zRw 109:=.of zk
instance:zRw 110:=.of zk
instance:zRw 111:=.of zk
instance:zRw 112:=.of zk
instance:zRw 116:=.of zk
instance:zRw 117:=.of zk
instance:zRw 118:=.of zk
instance:zRw 119:=.of zk
instance:zRw 120:=.of zk
instance:zRw 121:=.of zk
instance:zRw 122:=.of zk
instance:zRw 123:=.of zk
instance:zRw 124:=.of zk
instance:zRw 125:=.of zk
instance:zRw 126:=.of zk
instance:zRw 127:=.of zk
instance:zRw 128:=.of zk
instance:zRw 130:=.of zk
instance:zRw 131:=.of zk
instance:zRw 132:=.of zk
instance:zRw 133:=.of zk
instance:zRw 134:=.of zk
instance:zRw 135:=.of zk
instance:zRw 136:=.of zk
instance:zRw 137:=.of zk
instance:zRw 138:=.of zk
instance:zRw 139:=.of zk
instance:zRw 140:=.of zk
instance:zRw 141:=.of zk
instance:zRw 142:=.of zk
instance:zRw 143:=.of zk
instance:zRw 144:=.of zk
instance:zRw 145:=.of zk
instance:zRw 146:=.of zk
instance:zRw 147:=.of zk
instance:zRw 148:=.of zk
instance:zRw 153:=.of zk
instance:zRw 154:=.of zk
instance:zRw 157:=.of zk
instance:zRw 158:=.of zk
instance:zRw 159:=.of zk
instance:zRw 161:=.of zk
instance:zRw 162:=.of zk
instance:zRw 163:=.of zk
instance:zRw 164:=.of zk
instance:zRw 166:=.of zk
instance:zRw 167:=.of zk
instance:zRw 168:=.of zk
instance:zRw 169:=.of zk
instance:zRw 170:=.of zk
instance:zRw 173:=.of zk
instance:zRw 174:=.of zk
instance:zRw 175:=.of zk
instance:zRw 176:=.of zk
instance:zRw 178:=.of zk
instance:zRw 179:=.of zk
instance:zRw 180:=.of zk
instance:zRw 181:=.of zk
instance:zRw 187:=.of zk
instance:zRw 199:=.of zk
instance:zRw 204:=.of zk
instance:zRw 205:=.of zk
instance:zRw 206:=.of zk
instance:zRw 207:=.of zk
instance:zRw 208:=.of zk
instance:zRw 209:=.of zk
instance:zRw 212:=.of zk
instance:zRw 213:=.of zk
instance:zRw 214:=.of zk
instance:zRw 215:=.of zk
instance:zRw 229:=.of zk
instance:zRw 230:=.of zk
instance:zRw 231:=.of zk
instance:zRw 232:=.of zk
instance:zRw 233:=.of zk
instance:zRw 234:=.of zk
instance:zRw 235:=.of zk
instance:zRw 236:=.of zk
instance:zRw 242:=.of zk
instance:zRw 243:=.of zk
instance:zRw 244:=.of zk
open Go.GL Go.RowKit Go.Stele
noncomputable abbrev KC(B0:Nat)(w0:World):Ctx:=⟨Tryz.prog,B0,w0⟩
attribute [local irreducible] LOps qah qae LCalls Go.GL.Pure qaw qam qad
section
variable{B0:Nat}{w0:World}
theorem qhI(c:UInt8):LCalls (KC B0 w0) 107 [int .u8 c.toNat] [] (Ret (bool (qar c))):=by
 refine cJ Tryz.func107 (n:=9) ?_;refine gac ?_;refine oB 5 rfl (λht=>?_) (λht=>?_);refine gan ?_;exact qak rfl (zra rfl) (by simp[qbE,qar,ht]);refine gab ?_;exact qak rfl (zra rfl) (by simp[qbE,qar,ht])
theorem qgG(c:UInt8):LCalls (KC B0 w0) 109 [int .u8 c.toNat] [] (Ret (bool (qaV c))):=by
 refine cJ Tryz.func109 (n:=9) ?_;refine gac ?_;refine oB 5 rfl (λht=>?_) (λht=>?_);refine gan ?_;exact qak rfl (zra rfl) (by simp[qbE,qaV,ht]);refine gab ?_;exact qak rfl (zra rfl) (by simp[qbE,qaV,ht])
theorem qqh(c:UInt8):LCalls (KC B0 w0) 105 [int .u8 c.toNat] [] (Ret (bool (qwc c))):=by
 refine cJ Tryz.func105 (n:=5) ?_;refine gac ?_;exact qak rfl (zra rfl) rfl
theorem qqu(c:UInt8):LCalls (KC B0 w0) 163 [int .u8 c.toNat] [] (Ret (bool (qaU c))):=by
 refine cJ Tryz.func163 (n:=13) ?_;refine gag ?_;refine oS (sF [_] rfl (qgG c) ?_) rfl;refine gab ?_;refine oB 5 rfl (λht=>?_) (λht=>?_);refine gab ?_;exact qak rfl (zra rfl) (by simp[qbE,qaU,ht]);refine gab ?_;refine oS (sF [_] rfl (qhI c) ?_) rfl;refine gab ?_;refine oB 9 rfl (λhd=>?_) (λhd=>?_);refine gab ?_;exact qak rfl (zra rfl) (by simp[qbE,qaU,ht,hd]);refine gab ?_;exact qak rfl (zra rfl) (by simp[qbE,qaU,ht,hd])
theorem qqI(c:UInt8):LCalls (KC B0 w0) 106 [int .u8 c.toNat] [] (Ret (bool (qh2 c))):=by
 refine cJ Tryz.func106 (n:=13) ?_;refine gaa ?_;refine oB 5 rfl (λht=>?_) (λht=>?_);refine gab ?_;exact qak rfl (zra rfl) (by simp[qbE,qh2,ht]);refine gab ?_;refine oB 9 rfl (λhd=>?_) (λhd=>?_);refine gab ?_;exact qak rfl (zra rfl) (by simp[qbE,qh2,ht,hd]);refine gab ?_;exact qak rfl (zra rfl) (by simp[qbE,qh2,ht,hd])
end
end Go.Proofs.YtegmklafpoldgaaGreatDoor
namespace Go.Proofs.YtegmklafpoldgaaGreatDoor
open Go.GL Go.RowKit Go.Stele
mutual
def qbS:Ex->List LV
 |.mk _ _ _ a=>qrO a
def qrO:List Ex->List LV
 |[]=>[]
 |e::r=>.agg [str (exOp e),int .u32 (qeE e),str (qcM e),.list (qbS e)]::qrO r
end
def encE(e:Ex):LV:=.agg [str (exOp e),int .u32 (qeE e),str (qcM e),.list (qbS e)]
theorem qnp:∀ l:List Ex,qrO l=l.map encE
 |[]=>by simp[qrO]
 |e::r=>by rw[qrO,qnp r];try rfl
theorem qjz(o:List UInt8)(n:Nat)(nm:List UInt8)(a:List Ex):qbS (.mk o n nm a)=a.map encE:=by rw[qbS,qnp]
theorem qcH(o:List UInt8)(n:Nat)(nm:List UInt8)(a:List Ex):encE (.mk o n nm a)=.agg [str o,int .u32 n,str nm,.list (a.map encE)]:=by rw[encE,qjz];try rfl
mutual
def qot:Sm->List LV
 |.mk _ _ _ _ t _=>qqe t
def qoA:Sm->List LV
 |.mk _ _ _ _ _ e=>qqe e
def qqe:List Sm->List LV
 |[]=>[]
 |s::r=>.agg [int .i64 (qrk s),str (qsa s),.list ((qnP s).map encE),.list ((qoj s).map encE),.list (qot s),.list (qoA s)]::qqe r
end
def encS(s:Sm):LV:=.agg [int .i64 (qrk s),str (qsa s),.list ((qnP s).map encE),.list ((qoj s).map encE),.list (qot s),.list (qoA s)]
theorem qkf:∀ l:List Sm,qqe l=l.map encS
 |[]=>by simp[qqe]
 |e::r=>by rw[qqe,qkf r];try rfl
theorem qca(k:Int)(n:List UInt8)(i v:List Ex)(t e:List Sm):encS (.mk k n i v t e)=.agg [int .i64 k,str n,.list (i.map encE),.list (v.map encE),.list (t.map encS),.list (e.map encS)]:=by
 rw[encS,qot,qoA,qkf,qkf];try rfl
def qgC(a:Ar):LV:=.agg [str a.name,int .i64 a.size]
def qaM(f:FnD):LV:=.agg [str f.name,.list (f.params.map str),.list (f.locals.map str),.list (f.body.map encS)]
def qfk(p:Pr):LV:=.agg [.list (p.vars.map str),.list (p.arrays.map qgC),.list (p.funcs.map qaM)]
end Go.Proofs.YtegmklafpoldgaaGreatDoor
