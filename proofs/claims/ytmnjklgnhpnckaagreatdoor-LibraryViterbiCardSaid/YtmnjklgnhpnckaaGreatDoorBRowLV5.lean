import Derived.Lib.Replace
import Derived.Test.YtmnjklgnhpnckaaGreatDoorBRowLV4
set_option linter.unusedVariables false
set_option linter.unusedSimpArgs false
set_option maxRecDepth 100000
set_option maxHeartbeats 4000000
open List (nodup_nil not_mem_nil nodup_cons mem_append mem_of_find?_eq_some map_map nil_append foldl_cons cons_append all_cons sum_cons)
open Nat (zero_le mod_lt zero_add)
namespace Go.ia
variable{f:Pb}{fs:List Pb}
structure IS where
 sc:List UInt8->Nat
 ar:List UInt8->List Nat
 Ia:List Nat
 out:List UInt8
 left:Nat
inductive IR (A:Type) where
 |ok (v:A) (s:IS)
 |stop (e:Int) (s:IS)
def IR.bind{A B:Type}(r:IR A)(f:A->IS->IR B):IR B:=match r with
 |.ok v s=>f v s
 |.stop e s=>.stop e s
def kf(b:Bool):Nat:=if b=true then 1 else 0
def pj(op:List UInt8)(a b:Nat):Option Nat:=
 if op=[43] then some ((a+b) % 4294967296)
 else if op=[45] then some ((a+4294967296-b) % 4294967296)
 else if op=[42] then some (a * b % 4294967296)
 else if op=[94] then some (a ^^^ b)
 else if op=[61,61] then some (kf (decide (a=b)))
 else if op=[33,61] then some (kf (decide (a≠b)))
 else if op=[60] then some (kf (decide (a<b)))
 else if op=[62] then some (kf (decide (b<a)))
 else if op=[60,61] then some (kf (decide (a<=b)))
 else if op=[62,61] then some (kf (decide (b<=a)))
 else if op=[38,38] then some (kf (decide (a≠0/\b≠0)))
 else if op=[124,124] then some (kf (decide (a≠0∨b≠0)))
 else if b=0 then none
 else if op=[47] then some (a / b) else some (a % b)
def dc(f:Pb)(name:List UInt8):List UInt8:=if name∈f.params∨name∈f.locals then f.name++[46]++name else name
def Lh(P:Pr)(name:List UInt8):Pb:=(P.funcs.find? λf=>decide (f.name=name)).getD ⟨[],[],[],[]⟩
def Sf(s:IS)(k:List UInt8)(v:Nat):IS:={ s with sc:=λx=>if x=k then v else s.sc x }
def iq(f:Pb):List (List UInt8)->List Nat->IS->IS
 |p::ps,v::vs,s=>iq f ps vs (Sf s (dc f p) v)
 |_,_,s=>s
def ek{A:Type}(g:A->IS->IR Nat):List A->IS->IR (List Nat)
 |[],s=>.ok [] s
 |a::l,s=>(g a s).bind λv s=>(ek g l s).bind λvs s=>.ok (v::vs) s
def mg(g:Sm->IS->IR (Option Nat)):List Sm->IS->IR (Option Nat)
 |[],s=>.ok none s
 |a::l,s=>(g a s).bind λr s=>match r with
  |some v=>.ok (some v) s
  |none=>mg g l s
def Ly(P:Pr)(g:Pb->Sm->IS->IR (Option Nat))(name:List UInt8)(vs:List Nat)(s:IS):IR Nat:=
 if name=[105,110] then (match s.Ia with
  |[]=>.ok 4294967295 s
  |v::r=>.ok v { s with Ia:=r })
 else if name=[111,117,116] then .ok 0 { s with out:=s.out++[UInt8.ofNat (vs.headD 0)] }
 else (mg (g (Lh P name)) (Lh P name).body (iq (Lh P name) (Lh P name).params vs s)).bind λr s=>.ok (r.getD 0) s
def FF(P:Pr)(g:Pb->Sm->IS->IR (Option Nat))(f:Pb)(op:List UInt8)(num:Nat)(name:List UInt8)(vs:List Nat)(s:IS):IR Nat:=
 if op=[110,117,109] then .ok num s
 else if op=[118,97,114] then .ok (s.sc (dc f name)) s
 else if op=[101,108,101,109] then (match (s.ar name)[vs.headD 0]? with
  |some v=>.ok v s
  |none=>.stop 2 s)
 else if op=[110,101,103] then .ok ((4294967296-vs.headD 0) % 4294967296) s
 else if op=[110,111,116] then .ok (kf (decide (vs.headD 0=0))) s
 else if op=[99,97,108,108] then Ly P g name vs s
 else match pj op (vs.headD 0) (vs.tail.headD 0) with
  |some v=>.ok v s
  |none=>.stop 12 s
def xq(P:Pr)(Ia:List Nat)(Ca:Nat):IS:=⟨λ_=>0,λx=>match P.ba.find? λa=>decide (a.name=x) with
 |some a=>List.replicate a.size 0
 |none=>[],Ia,[],Ca⟩
def Ig(P:Pr):Pb:=P.funcs.getLast?.getD ⟨[],[],[],[]⟩
abbrev Nm:=List UInt8
variable{ba vars:List Nm}{name:Nm}
def uP:List Nm:=LD++[[105,110],[111,117,116]]
def cf(s:Nm):Bool:=decide (s.length<=24) && !uP.contains s && (match s with
 |[]=>false
 |c::r=>tl c && r.all Ni)
structure fe where
 name:Nm
 params:Nat
 need:Nat
 depth:Nat
structure Bb where
 vars:List Nm
 ba:List Nm
 later:List Nm
 own:List Nm
 funcs:List fe
def Bb.globals(c:Bb):List Nm:=c.vars++c.ba++c.later
def Bb.fn(c:Bb)(name:Nm):Option fe:=c.funcs.find? λf=>decide (f.name=name)
def Ii(a b:Int):Int:=if a≠0 then a else b
def Fv:List Nm:=[[124,124],[38,38],[61,61],[33,61],[60],[62],[60,61],[62,61],[94],[43],[45],[42],[47],[37]]
def fg(op:Nm):Int:=if op=tf∨op=Uf then 0 else if op=Bj∨op=Ag∨op=jg then 1 else if op=eg then -1 else if op∈Fv then 2 else -2
def Zs(c:Bb)(name:Nm):Int:=if name∈c.vars∨name∈c.own then 0 else if name∈c.globals then 10 else 7
def Qy(c:Bb)(name:Nm):Int:=if name∈c.ba then 0 else if name∈c.globals∨name∈c.own then 10 else 7
def Lc(c:Bb)(name:Nm)(n:Nat):Int:=
 if name=[105,110] then (if n=0 then 0 else 1)
 else if name=[111,117,116] then (if n=1 then 0 else 1)
 else match c.fn name with
  |some f=>if n=f.params then 0 else 1
  |none=>if name∈c.vars∨name∈c.ba∨name∈c.own then 10 else 7
def Ay(c:Bb)(op name:Nm)(n:Nat):Int:=if op=Uf then Zs c name else if op=Bj then Qy c name else if op=eg then Lc c name n else 0
mutual
def yf(c:Bb):Ex->Int
 |.mk op num name args=>if fg op = -1∨fg op=args.length then Ii (ig c args) (Ay c op name args.length) else 3
def ig(c:Bb):List Ex->Int
 |[]=>0
 |x::l=>Ii (yf c x) (ig c l)
end
def Ky:Nat->List Nat->Nat->Nat
 |i,[],m=>m
 |i,n::l,m=>Ky (i+1) l (max m (i+n))
def Uz(c:Bb)(name:Nm)(ns:List Nat):Nat:=
 if name=[105,110] then 1
 else if name=[111,117,116] then ns.headD 0
 else match c.fn name with
  |some f=>Ky 0 ns (max (f.params+1) f.need)
  |none=>0
def IB(c:Bb)(op name:Nm)(ns:List Nat):Nat:=
 if op=tf∨op=Uf then 1
 else if op=Bj∨op=Ag then 1+ns.headD 0
 else if op=eg then Uz c name ns
 else if op=jg then max 2 (ns.headD 0)
 else if op=[62]∨op=[60,61] then max (max 3 (ns.headD 0)) (1+ns.tail.headD 0)
 else if op=[33,61] then max (max 3 (1+ns.headD 0)) (2+ns.tail.headD 0)
 else if op=[38,38] then max (1+ns.headD 0) (2+ns.tail.headD 0)
 else if op=[124,124] then max (2+ns.headD 0) (3+ns.tail.headD 0)
 else max (max 2 (ns.headD 0)) (1+ns.tail.headD 0)
mutual
def Kf(c:Bb):Ex->Nat
 |.mk op num name args=>IB c op name (oh c args)
def oh(c:Bb):List Ex->List Nat
 |[]=>[]
 |x::l=>Kf c x::oh c l
end
def Mu(c:Bb)(op name:Nm):Nat:=if op=eg/\name≠[105,110]/\name≠[111,117,116] then (match c.fn name with
 |some f=>f.depth+1
 |none=>0) else 0
mutual
def nj(c:Bb):Ex->Nat
 |.mk op num name args=>max (Ai c args) (Mu c op name)
def Ai(c:Bb):List Ex->Nat
 |[]=>0
 |x::l=>max (nj c x) (Ai c l)
end
def yS:Ex->Nm
 |.mk op _ _ _=>op
def Jh:Sm->Bool
 |.mk kind name index value Ua Cb=>
  if kind=1 then decide (name≠[]/\index.length=0/\value.length=1/\Ua.length=0/\Cb.length=0)
  else if kind=2 then decide (name≠[]/\index.length=1/\value.length=1/\Ua.length=0/\Cb.length=0)
  else if kind=3 then decide (name=[]/\index.length=0/\value.length=1)
  else if kind=4 then decide (name=[]/\index.length=0/\value.length=1/\Cb.length=0)
  else if kind=5 then decide (name=[]/\index.length=0/\value.length=1/\Ua.length=0/\Cb.length=0)
  else if kind=6 then decide (name=[]/\index.length=0/\value.length=1/\Ua.length=0/\Cb.length=0/\yS (value.headD default)=eg)
  else if kind=7 then decide (name=[]/\index.length=0/\value.length=0/\Ua.length=0/\Cb.length=0)
  else false
mutual
def Pk(c:Bb):Sm->Int
 |.mk kind name index value Ua Cb=>if Jh (.mk kind name index value Ua Cb)=false then 3
  else Ii (ig c value) (Ii (ig c index) (Ii (if kind=1 then Zs c name else if kind=2 then Qy c name else 0) (Ii (Th c Ua) (Th c Cb))))
def Th(c:Bb):List Sm->Int
 |[]=>0
 |s::l=>Ii (Pk c s) (Th c l)
end
mutual
def ED(c:Bb):Sm->Nat
 |.mk kind name index value Ua Cb=>
  if kind=7 then 0
  else if kind=2 then max (Kf c (value.headD default)) (2+Kf c (index.headD default))
  else if kind=5 then Kf c (value.headD default)
  else max 2 (max (max (Kf c (value.headD default)) (ql c Ua)) (ql c Cb))
def ql(c:Bb):List Sm->Nat
 |[]=>0
 |s::l=>max (ED c s) (ql c l)
end
mutual
def Ls(c:Bb):Sm->Nat
 |.mk kind name index value Ua Cb=>max (max (Ai c value) (Ai c index)) (max (vj c Ua) (vj c Cb))
def vj(c:Bb):List Sm->Nat
 |[]=>0
 |s::l=>max (Ls c s) (vj c l)
end
def yo:List Nm->List Nm->Int
 |known,[]=>0
 |known,s::l=>if cf s=false then 7 else if s∈known then 8 else yo (s::known) l
def eF:Int->List Int->Int
 |total,[]=>0
 |total,n::l=>if n<=0 then 2 else if 150000-total<n then 6 else eF (total+n) l
def lg(vars ba later:List Nm)(known:List fe)(f:Pb):Bb:=⟨vars,ba,later,f.params++f.locals,known⟩
def Au(vars ba later:List Nm)(known:List fe)(f:Pb):Int:=Ii (yo (vars++ba++later) (f.params++f.locals)) (Th (lg vars ba later known f) f.body)
def Zi(vars ba later:List Nm)(known:List fe)(f:Pb):fe:=⟨f.name,f.params.length,max (max 2 (f.params.length+1)) (ql (lg vars ba later known f) f.body),max 1 (vj (lg vars ba later known f) f.body)⟩
def Ys(vars ba later:List Nm):List fe->List Pb->Int
 |known,[]=>0
 |known,f::l=>Ii (Au vars ba later known f) (Ys vars ba later (known++[Zi vars ba later known f]) l)
def ZA(vars ba later:List Nm):List fe->List Pb->List fe
 |known,[]=>known
 |known,f::l=>ZA vars ba later (known++[Zi vars ba later known f]) l
def Vd(vars:List Nm)(fs:List Pb):List Nm:=vars++(fs.map λf=>(f.params++f.locals).map λx=>f.name++[46]++x).flatten
def aP(vars:List Nm)(fs:List Pb)(WW:List fe):Int:=match fs.getLast?,WW.getLast? with
 |some f,some m=>if f.name=[109,97,105,110]/\f.params=[] then (if (Vd vars fs).length<=8000/\m.need<=200/\m.depth<=60 then 0 else 6) else 9
 |_,_=>9
def Jr(vars:List Nm)(ba:List (Nm×Int))(fs:List Pb):Int:=
 Ii (yo [] (vars++ba.map (·.1)++fs.map (·.name))) (Ii (eF 0 (ba.map (·.2)))
  (Ii (Ys vars (ba.map (·.1)) (fs.map (·.name)) [] fs) (aP vars fs (ZA vars (ba.map (·.1)) (fs.map (·.name)) [] fs))))
def Vp(p:Pr):Int:=Jr p.vars (p.ba.map λa=>(a.name,(a.size:Int))) p.funcs
theorem Rc{a b:Int}:Ii a b=0 ↔ a=0/\b=0:=by unfold Ii;split;constructor;intro h;contradiction;rintro⟨h,_⟩;contradiction;constructor;intro h;exact⟨by omega,h⟩;rintro⟨_,h⟩;exact h
theorem Nv:∀ (l k:List Nm),yo k l=0->l.Nodup/\∀ s∈l,s ∉ k/\cf s=true
 |[],k,_=>⟨nodup_nil,λs hs=>(not_mem_nil hs).elim⟩
 |s::l,k,h=>by rw[yo] at h;split at h;cases h;rename_i h1;split at h;cases h;rename_i h2;obtain⟨g1,g2⟩:=Nv l (s::k) h;refine⟨List.nodup_cons.2 ⟨λhm=>(g2 s hm).1 We,g1⟩,λx hx=>?_⟩;rcases zc.1 hx with rfl|hx;exact⟨h2,by simpa using h1⟩;exact⟨λhm=>(g2 x hx).1 (Pc _ hm),(g2 x hx).2⟩
theorem uT{s:Nm}(h:cf s=true):(46:UInt8) ∉ s:=by
 unfold cf at h;rw[sd] at h;have h2:=h.2;cases s with
 |nil=>exact not_mem_nil
 |cons c r=>simp only[sd] at h2;intro hm;rcases zc.1 hm with rfl|hm;exact absurd h2.1 fa;exact absurd (List.all_eq_true.1 h2.2 46 hm) fa
theorem vZ:∀ (a b x y:Nm),(46:UInt8) ∉ a->(46:UInt8) ∉ b->a++46::x=b++46::y->a=b/\x=y
 |[],[],x,y,_,_,h=>by injection h with _ h;exact⟨rfl,h⟩
 |[],d::b,x,y,_,hb,h=>by injection h with h1 _;exact absurd (h1▸List.mem_cons_self ..) hb
 |c::a,[],x,y,ha,_,h=>by injection h with h1 _;exact absurd (h1▸List.mem_cons_self ..) ha
 |c::a,d::b,x,y,ha,hb,h=>by injection h with h1 h2;obtain⟨e1,e2⟩:=vZ a b x y (λg=>ha (Pc _ g)) (λg=>hb (Pc _ g)) h2;exact⟨by rw[h1,e1],e2⟩
theorem qm9(h:(fs.map (·.name)).Nodup){g:Pb}(hf:f∈fs)(hg:g∈fs)(he:f.name=g.name):f=g:=by
 induction fs with
 |nil=>cases hf
 |cons a l ih=>rw[jd,nodup_cons] at h;rcases zc.1 hf with rfl|jW;rcases zc.1 hg with rfl|Tx;rfl;exact absurd (qk ⟨g,Tx,he.symm⟩) h.1;rcases zc.1 hg with rfl|Tx;exact absurd (qk ⟨f,jW,he⟩) h.1;exact ih h.2 jW Tx
theorem qsC(h:yo [] (vars++ba++fs.map (·.name))=0)(hf:f∈fs)(name:Nm):f.name++[46]++name∈Vd vars fs ↔ name∈f.params++f.locals:=by
 obtain⟨h1,h2⟩:=Nv _ _ h;have hd:∀ g∈fs,(46:UInt8) ∉ g.name:=λg hg=>uT (h2 _ (Ip (.inr (qk ⟨g,hg,rfl⟩)))).2;unfold Vd;rw[mem_append];constructor;rintro(g|g);have:=uT (h2 _ (Ip (.inl (Ip (.inl g))))).2;exact absurd (by simp) this;obtain⟨l,g1,g2⟩:=List.mem_flatten.1 g;obtain⟨k,g3,rfl⟩:=Qh g1;obtain⟨x,g4,g5⟩:=Qh g2;have g6:k.name++46::x=f.name++46::name:=by simpa using g5
 obtain⟨e1,rfl⟩:=vZ _ _ _ _ (hd k g3) (hd f hf) g6;rw[<-qm9 (Xm h1).2.1 g3 hf e1];exact g4;intro g;exact .inr (List.mem_flatten.2 ⟨_,qk ⟨f,hf,rfl⟩,qk ⟨name,g,rfl⟩⟩)
theorem qAl(h:yo [] (vars++ba++fs.map (·.name))=0)(hf:f∈fs)(name:Nm):(if f.name++[46]++name∈Vd vars fs then f.name++[46]++name else name)=dc f name:=by unfold dc;simp only[qsC h hf,mem_append]
theorem qrW{known:List fe}(hf:f∈fs)(h:Zs (lg vars ba (fs.map (·.name)) known f) name=0):dc f name∈Vd vars fs:=by unfold Zs at h;unfold dc Vd;rw[mem_append];split at h;rename_i h1;split;rename_i h2;exact .inr (List.mem_flatten.2 ⟨_,qk ⟨f,hf,rfl⟩,qk ⟨name,Ip h2,rfl⟩⟩);rename_i h2;rcases h1 with h1|h1;exact .inl h1;exact absurd (xj h1) h2;split at h <;> cases h
theorem gY{P:Pr}(h:(P.funcs.map (·.name)).Nodup)(hf:f∈P.funcs):Lh P f.name=f:=by
 unfold Lh;cases hg:P.funcs.find? λg=>decide (g.name=f.name) with
 |none=>exact absurd (List.find?_eq_none.1 hg f hf) (by simp)
 |some g=>exact qm9 h (mem_of_find?_eq_some hg) hf (ag (List.find?_some (p:=λg:Pb=>decide (g.name=f.name)) hg))
open Go.Lib
variable{B D a b n:Nat}{ds:List Wd}{src w x:Wd}{z:Int}
structure CC where
 sc:Nm->Wd
 ar:Nm->Wd
 t0:Wd
 t1:Wd
 t2:Wd
variable{c:CC}
def Xl(c:CC):List Wd:=[c.t2,[33],c.t1,[33],c.t2,[64],c.t1,[64],[60]]
def Iq(c:CC)(op:Nm)(num:Nat)(name:Nm)(l:List (List Wd)):List Wd:=
 if op=tf then [decDigits num]
 else if op=Uf then [c.sc name,[64]]
 else if op=Bj then c.ar name::(l.headD []++[[43],[64]])
 else if op=eg then l.flatten++(if name=[105,110] then [[44]] else if name=[111,117,116] then [[46],[48]] else [[38,102,95]++name,[58]])
 else if op=Ag then [48]::(l.headD []++[[45]])
 else if op=jg then l.headD []++[[49],[60]]
 else if op=[33,61] then [48]::(l.headD []++(l.drop 1).headD []++[[94],[60]])
 else if op=[38,38] then [48]::(l.headD []++[[60],[48]]++(l.drop 1).headD []++[[60],[42]])
 else if op=[124,124] then [48]::[48]::(l.headD []++[[60],[48]]++(l.drop 1).headD []++[[60],[43],[60]])
 else l.headD []++(l.drop 1).headD []++(if op=[62] then Xl c else if op=[60,61] then Xl c++[[49],[94]] else if op=[62,61] then [[60],[49],[94]] else if op=[61,61] then [[94],[49],[60]] else [op])
mutual
def Mb(c:CC):Ex->List Wd
 |.mk op num name args=>Iq c op num name (Hb c args)
def Hb(c:CC):List Ex->List (List Wd)
 |[]=>[]
 |x::l=>Mb c x::Hb c l
end
def za(n:Nat):Wd:=106::decDigits n
mutual
def vg(c:CC):Nat->Sm->List Wd×Nat
 |n,.mk kind name index value Ua Cb=>
  if kind=1 then (Mb c (value.headD default)++[c.sc name,[33]],n)
  else if kind=2 then (Mb c (value.headD default)++c.ar name::(Mb c (index.headD default)++[[43],[33]]),n)
  else if kind=3 then
   (match Cb with
   |[]=>(Mb c (value.headD default)++[38::za n,[63]]++(Pa c (n+1) Ua).1++[za n++[58]],(Pa c (n+1) Ua).2)
   |_::_=>(Mb c (value.headD default)++[38::za n,[63]]++(Pa c (n+2) Ua).1++[[48],38::za (n+1),[63],za n++[58]]++(Pa c (Pa c (n+2) Ua).2 Cb).1++[za (n+1)++[58]],(Pa c (Pa c (n+2) Ua).2 Cb).2))
  else if kind=4 then ([za n++[58]]++Mb c (value.headD default)++[38::za (n+1),[63]]++(Pa c (n+2) Ua).1++[[48],38::za n,[63],za (n+1)++[58]],(Pa c (n+2) Ua).2)
  else if kind=5 then (Mb c (value.headD default)++[[59]],n)
  else if kind=6 then (Mb c (value.headD default)++[c.t0,[33]],n)
  else if kind=7 then ([[36]],n)
  else ([],n)
def Pa(c:CC):Nat->List Sm->List Wd×Nat
 |n,[]=>([],n)
 |n,s::l=>((vg c n s).1++(Pa c (vg c n s).2 l).1,(Pa c (vg c n s).2 l).2)
end
def px(l:List Nm)(S:Int)(k:Nm):Int:=if k∈l then S+3+(l.idxOf k:Nat) else 0
def ju(l:List Nm)(own name:Nm):Nm:=if own++[46]++name∈l then own++[46]++name else name
def qj:Int->List (Nm×Int)->Nm->Int
 |_,[],_=>0
 |at',(x,n)::r,name=>if x=name then at' else qj (at'+n) r name
structure xk where
 code:Int
 scalars:Int
 ba:Int
def dq(vars:List Nm)(ba:List (Nm×Int))(fs:List Pb)(o:xk)(own:Nm):CC:=
 ⟨λs=>itoa (px (Vd vars fs) o.scalars (ju (Vd vars fs) own s)),λs=>itoa (qj o.ba ba s),itoa o.scalars,itoa (o.scalars+1),itoa (o.scalars+2)⟩
def lk(c:CC)(n:Nat)(f:Pb):List Wd×Nat:=
 ([[102,95]++f.name++[58]]++f.params.reverse.flatMap (λp=>[c.sc p,[33]])++(Pa c n f.body).1++[[48],[59]],(Pa c n f.body).2)
def Oc(cc:Nm->CC):Nat->List Pb->List Wd×Nat
 |n,[]=>([],n)
 |n,f::l=>((lk (cc f.name) n f).1++(Oc cc (lk (cc f.name) n f).2 l).1,(Oc cc (lk (cc f.name) n f).2 l).2)
def EB(vars:List Nm)(ba:List (Nm×Int))(fs:List Pb)(o:xk):List Wd:=
 [[38,102,95,109,97,105,110],[58],itoa o.scalars,[33],[36]]++(Oc (dq vars ba fs o) 0 fs).1
def qH(a n:Int):Bool:=decide (0<=a/\a<=262144-n)
def gH(a n b m:Int):Bool:=decide (0<n/\0<m/\a<b+m/\b<a+n)
def zr(vars:List Nm)(ba:List (Nm×Int))(fs:List Pb)(o:xk):Bool:=
 let total:=(ba.map (·.2)).sum
 let n:Int:=3+(Vd vars fs).length
 qH o.scalars n && qH o.code 40000 && qH o.ba total && !gH o.code 40000 o.scalars n && !gH o.ba total o.scalars n && !gH o.ba total o.code 40000
def pk(vars:List Nm)(ba:List (Nm×Int))(fs:List Pb)(o:xk):Except Int Wd:=
 if Jr vars ba fs≠0 then .error (Jr vars ba fs)
 else if zr vars ba fs o=false then .error 2
 else match Gh (join (EB vars ba fs o) [32]) o.code with
  |.error e=>.error e.2
  |.ok _=>.ok (join (EB vars ba fs o) [32])
def Lt(v:Nat):Prop:=v<4294967296
mutual
def Ji:Ex->Prop
 |.mk op num name args=>Lt num/\Ck args
def Ck:List Ex->Prop
 |[]=>True
 |x::l=>Ji x/\Ck l
end
mutual
def ep:Sm->Prop
 |.mk kind name index value Ua Cb=>Ck index/\Ck value/\cj Ua/\cj Cb
def cj:List Sm->Prop
 |[]=>True
 |x::l=>ep x/\cj l
end
theorem gZ{vars ba later:List Nm}:∀ (fs:List Pb) (known:List fe),Ys vars ba later known fs=0->∀ f∈fs,(f.params++f.locals).Nodup/\∀ x∈f.params++f.locals,x ∉ vars++ba++later
 |[],known,_,f,hf=>(not_mem_nil hf).elim
 |g::l,known,h,f,hf=>by rw[Ys] at h;obtain⟨h1,h2⟩:=Rc.1 h;rcases zc.1 hf with rfl|hf;obtain⟨g1,g2⟩:=Nv _ _ (Rc.1 h1).1;exact⟨g1,λx hx=>(g2 x hx).1⟩;exact gZ l _ h2 f hf
theorem qns{A B:Type}{g:A->B}(hg:∀ x y,g x=g y->x=y):∀ {l:List A},l.Nodup->(l.map g).Nodup
 |[],_=>nodup_nil
 |a::l,h=>by rw[nodup_cons] at h;rw[jd,nodup_cons];refine⟨λhm=>?_,qns hg h.2⟩;obtain⟨b,hb,he⟩:=Qh hm;exact h.1 (hg _ _ he▸hb)
theorem qt7{fs:List Pb}:(fs.map (·.name)).Nodup->(∀ f∈fs,(46:UInt8) ∉ f.name)->(∀ f∈fs,(f.params++f.locals).Nodup)->((fs.map λf=>(f.params++f.locals).map λx=>f.name++[46]++x).flatten).Nodup:=by
 induction fs with
 |nil=>intro _ _ _;exact nodup_nil
 |cons f l ih=>
  intro h1 h2 h3;rw[jd,nodup_cons] at h1;rw[jd,List.flatten_cons,List.nodup_append];refine⟨?_,ih h1.2 (λg hg=>h2 g (Pc _ hg)) λg hg=>h3 g (Pc _ hg),?_⟩;exact qns (λx y J2=>List.append_cancel_left J2) (h3 f We);intro a ha b hb he;subst he;obtain⟨x,_,rfl⟩:=Qh ha;obtain⟨L,g1,g2⟩:=List.mem_flatten.1 hb;obtain⟨g,g3,rfl⟩:=Qh g1;obtain⟨y,_,g5⟩:=Qh g2;have g6:g.name++46::y=f.name++46::x:=by simpa using g5
  obtain⟨e1,_⟩:=vZ _ _ _ _ (h2 g (Pc _ g3)) (h2 f We) g6;exact h1.1 (qk ⟨g,g3,e1⟩)
theorem qsa(h:yo [] (vars++ba++fs.map (·.name))=0)(hf:Ys vars ba (fs.map (·.name)) [] fs=0):(Vd vars fs).Nodup:=by obtain⟨h1,h2⟩:=Nv _ _ h;have ho:=gZ fs [] hf;unfold Vd;rw[List.nodup_append];refine⟨(Xm (Xm h1).1).1,qt7 (Xm h1).2.1 (λf hf=>uT (h2 _ (Ip (.inr (qk ⟨f,hf,rfl⟩)))).2) λf hf=>(ho f hf).1,?_⟩;intro a ha b hb he;subst he;obtain⟨L,g1,g2⟩:=List.mem_flatten.1 hb;obtain⟨g,g3,rfl⟩:=Qh g1;obtain⟨y,_,g5⟩:=Qh g2;have:=uT (h2 _ (Ip (.inl (Ip (.inl ha))))).2;rw[<-g5] at this;exact absurd (by simp) this
def AJ(fs:List Pb)(known:List fe):Prop:=∀ k∈known,∃ g∈fs,g.name=k.name/\g.params.length=k.params
theorem qlk{vars ba later:List Nm}{all:List Pb}:∀ (fs:List Pb) (known:List fe),Ys vars ba later known fs=0->AJ all known->(∀ f∈fs,f∈all)->∀ f∈fs,∃ kn,Th (lg vars ba later kn f) f.body=0/\AJ all kn
 |[],known,_,_,_,f,hf=>(not_mem_nil hf).elim
 |g::l,known,h,hk,ha,f,hf=>by rw[Ys] at h;obtain⟨h1,h2⟩:=Rc.1 h;rcases zc.1 hf with rfl|hf;exact⟨known,(Rc.1 h1).2,hk⟩;refine qlk l _ h2 (λk Eo=>?_) (λx hx=>ha x (Pc _ hx)) f hf;rcases xj Eo with g1|g1;exact hk k g1;rw[Vi g1];exact⟨g,ha g We,rfl,rfl⟩
theorem qkC:∀ (l:List Int) (t:Int),0<=t->eF t l=0->∀ n∈l,0<n/\t+n<=150000
 |[],t,_,_,n,hn=>(not_mem_nil hn).elim
 |a::l,t,ht,h,n,hn=>by rw[eF] at h;split at h;cases h;split at h;cases h;rcases zc.1 hn with rfl|hn;constructor <;> omega;have:=qkC l (t+a) ga h n hn;constructor <;> omega
structure Valid(p:Pr):Prop where
 names:yo [] (p.vars++p.ba.map (·.name)++p.funcs.map (·.name))=0
 Xw:∀ a∈p.ba,0<a.size/\a.size<=150000
 own:∀ f∈p.funcs,(f.params++f.locals).Nodup/\∀ x∈f.params++f.locals,x ∉ p.vars++p.ba.map (·.name)++p.funcs.map (·.name)
 Gw:∀ f∈p.funcs,∃ kn,Th (lg p.vars (p.ba.map (·.name)) (p.funcs.map (·.name)) kn f) f.body=0/\AJ p.funcs kn
 keys:(Vd p.vars p.funcs).Nodup
 main:Ig p∈p.funcs/\(Ig p).name=[109,97,105,110]/\(Ig p).params=[]
 Dz:(Vd p.vars p.funcs).length<=8000
theorem yH{p:Pr}(h:Vp p=0):Valid p:=by
 unfold Vp Jr at h;have e1:(p.ba.map λa=>(a.name,(a.size:Int))).map (·.1)=p.ba.map (·.name):=by rw[map_map];try rfl
 rw[e1] at h;obtain⟨h1,h⟩:=Rc.1 h;obtain⟨h2,h⟩:=Rc.1 h;obtain⟨h3,h4⟩:=Rc.1 h;have hm:Ig p∈p.funcs/\(Ig p).name=[109,97,105,110]/\(Ig p).params=[]/\(Vd p.vars p.funcs).length<=8000:=by
  unfold aP at h4;split at h4
  ·rename_i f m hf wA
   split at h4
   ·rename_i h5
    split at h4
    ·rename_i h6
     have e:Ig p=f:=by unfold Ig;rw[hf];try rfl
     rw[e];exact⟨List.mem_of_getLast? hf,h5.1,h5.2,h6.1⟩
    cases h4
   cases h4
  cases h4
 refine⟨h1,λa ha=>?_,gZ _ _ h3,qlk _ _ h3 (λk hk=>(not_mem_nil hk).elim) λf hf=>hf,qsa h1 h3,⟨hm.1,hm.2.1,hm.2.2.1⟩,hm.2.2.2⟩
 have:=qkC _ 0 fa h2 (a.size:Int) (by
  rw[map_map];exact qk ⟨a,ha,rfl⟩)
 constructor <;> omega
section
variable{A B:Type}{Q:A->IS->MS->Prop}{R:B->IS->MS->Prop}{c d c1 d1 c2 d2:Int}{m m1:MS}{s:IS}
end
structure Lf where
 C:PW
 P:Pr
 cc:Pb->CC
 jb:Pb->Bb
 sa:Nm->Nat
 aa:Nm->Nat
 S:Nat
 fst:Pb->Nat
def Lf.keys(X:Lf):List Nm:=Vd X.P.vars X.P.funcs
def Lf.Data(X:Lf)(x:Nat):Prop:=(∃ k∈X.keys,x=X.sa k)∨(X.S<=x/\x<=X.S+2)∨∃ a∈X.P.ba,∃ i,i<a.size/\x=X.aa a.name+i
structure Zd(X:Lf):Prop where
 sc:∀ f∈X.P.funcs,∀ name,Zs (X.jb f) name=0->(X.cc f).sc name=decDigits (X.sa (dc f name))/\dc f name∈X.keys
 ar:∀ f∈X.P.funcs,∀ name,Qy (X.jb f) name=0->(X.cc f).ar name=decDigits (X.aa name)/\∃ a∈X.P.ba,a.name=name
 Tw:∀ f∈X.P.funcs,(X.cc f).t0=decDigits X.S/\(X.cc f).t1=decDigits (X.S+1)/\(X.cc f).t2=decDigits (X.S+2)
 low:∀ x,X.Data x->x<262144
 free:∀ x,X.Data x->x<X.C.og∨X.C.og+(ll X.C.known X.C.W).length<=x
 Zv:∀ k∈X.keys,X.S+3<=X.sa k
 inj:∀ k∈X.keys,∀ k'∈X.keys,X.sa k=X.sa k'->k=k'
 apart:∀ a∈X.P.ba,∀ i,i<a.size->(∀ k∈X.keys,X.sa k≠X.aa a.name+i)/\¬ (X.S<=X.aa a.name+i/\X.aa a.name+i<=X.S+2)
 sD:∀ a∈X.P.ba,∀ b∈X.P.ba,∀ i j,i<a.size->j<b.size->X.aa a.name+i=X.aa b.name+j->a.name=b.name/\i=j
 oy:∀ a∈X.P.ba,X.aa a.name<1000000
 Qs:∀ a∈X.P.ba,∀ b∈X.P.ba,a.name=b.name->a.size=b.size
 body:∀ f∈X.P.funcs,Th (X.jb f) f.body=0/\cj f.body
 fn:∀ f∈X.P.funcs,∀ name g,(X.jb f).fn name=some g->Lh X.P name∈X.P.funcs/\(Lh X.P name).name=name/\g.params=(Lh X.P name).params.length/\ql (X.jb (Lh X.P name)) (Lh X.P name).body<=g.need/\vj (X.jb (Lh X.P name)) (Lh X.P name).body<=g.depth
 O1:∀ f∈X.P.funcs,(∀ p∈f.params,dc f p∈X.keys/\(X.cc f).sc p=decDigits (X.sa (dc f p)))/\(f.params.map (dc f)).Nodup
 code:∀ f∈X.P.funcs,∃ nl,X.C.Code (X.fst f) (lk (X.cc f) nl f).1
 mz:∀ (j n:Nat),X.C.W[j]? = some (za n++[58])->ya (za n++[58])=some (za n)
 Ur:∀ (j n:Nat),X.C.W[j]? = some (38::za n)->Va (38::za n)=some (za n)
 mj:∀ f∈X.P.funcs,ya ([102,95]++f.name++[58])=some ([102,95]++f.name)
 Cz:∀ f∈X.P.funcs,Va ([38,102,95]++f.name)=some ([102,95]++f.name)
 label:∀ (j:Nat) (w x:Wd),X.C.W[j]? = some w->ya w=some x->X.C.known x=X.C.od j
section
variable{X:Lf}{n:Nat}
theorem kP(c:CC)(n:Nat)(kind:Int)(name:Nm)(index value:List Ex)(Ua Cb:List Sm):vg c n (.mk kind name index value Ua Cb) =
  if kind=1 then (Mb c (value.headD default)++[c.sc name,[33]],n)
  else if kind=2 then (Mb c (value.headD default)++c.ar name::(Mb c (index.headD default)++[[43],[33]]),n)
  else if kind=3 then
   (match Cb with
   |[]=>(Mb c (value.headD default)++[38::za n,[63]]++(Pa c (n+1) Ua).1++[za n++[58]],(Pa c (n+1) Ua).2)
   |_::_=>(Mb c (value.headD default)++[38::za n,[63]]++(Pa c (n+2) Ua).1++[[48],38::za (n+1),[63],za n++[58]]++(Pa c (Pa c (n+2) Ua).2 Cb).1++[za (n+1)++[58]],(Pa c (Pa c (n+2) Ua).2 Cb).2))
  else if kind=4 then ([za n++[58]]++Mb c (value.headD default)++[38::za (n+1),[63]]++(Pa c (n+2) Ua).1++[[48],38::za n,[63],za (n+1)++[58]],(Pa c (n+2) Ua).2)
  else if kind=5 then (Mb c (value.headD default)++[[59]],n)
  else if kind=6 then (Mb c (value.headD default)++[c.t0,[33]],n)
  else if kind=7 then ([[36]],n)
  else ([],n):=by
 rw[vg.eq_def];try rfl
end
theorem xZ(all:List Wd):∀ (l:List (Wd×Nat)) (met:List Wd),(Qe all met l).2=0->met.Nodup->(met++Ib (l.map (·.1))).Nodup/\∀ w∈l.map (·.1),Ko all w
 |[],met,_,hm=>by simp only[List.map_nil,Ib,List.filterMap_nil,de];exact⟨hm,λw hw=>(not_mem_nil hw).elim⟩
 |(w,ln)::r,met,h,hm=>by
  rw[Qe] at h;rw[jd,AF];cases hd:ya w with
  |some x=>
   rw[hd] at h;simp only at h ⊢;split at h;simp at h;rename_i hx;have hn:(met++[x]).Nodup:=List.nodup_append.2 ⟨hm,by simp,λa ha b hb=>by
    rw[Vi hb];exact λe=>hx (e▸ha)⟩
   obtain⟨h1,h2⟩:=xZ all r (met++[x]) h hn;refine⟨by rw[Sc] at h1;exact h1,λy hy=>?_⟩;rcases zc.1 hy with rfl|hy;unfold Ko;rw[hd];trivial
   exact h2 y hy
  |none=>
   rw[hd] at h;simp only at h ⊢;have key:Ko all w/\(Qe all met r).2=0:=by
    unfold Ko;rw[hd];cases hr:Va w with
    |some x=>rw[hr] at h;simp only at h ⊢;split at h;rename_i hx;exact⟨hx,h⟩;simp at h
    |none=>rw[hr] at h;simp only at h ⊢;split at h;rename_i hx;exact⟨hx,h⟩;simp at h
   obtain⟨h1,h2⟩:=xZ all r met key.2 hm;refine⟨by simpa using h1,λy hy=>?_⟩;rcases zc.1 hy with rfl|hy;exact key.1;exact h2 y hy
theorem PT(h:(Qe (Ib (Nj src)) [] (Ku src)).2=0):Et (Nj src):=by have:=xZ _ _ _ h nodup_nil;rw[aK,nil_append] at this;exact this
theorem qlM(known:Wd->Nat)(og:Nat){p:Wd×Nat}:∀ (l:List Wd) (s:Wd×List (Wd×Nat)),p∈s.2->p∈(l.foldl (Tg known og) s).2
 |[],s,h=>h
 |w::l,s,h=>by rw[foldl_cons];refine qlM known og l _ ?_;unfold Tg;split;exact Ip (.inl h);exact h
theorem qqS(known:Wd->Nat)(og:Nat){w x:Wd}(hd:ya w=some x):∀ (l:List Wd) (s:Wd×List (Wd×Nat)) (j:Nat),l[j]? = some w->(x,og+((l.take j).foldl (ze known) s.1).length)∈(l.foldl (Tg known og) s).2
 |[],s,j,h=>by simp at h
 |v::l,s,0,h=>by simp only[al,jm] at h;subst h;rw[foldl_cons];refine qlM known og l _ ?_;unfold Tg;rw[hd];simp
 |v::l,s,j+1,h=>by
  rw[dr] at h;have ih:=qqS known og hd l (Tg known og s v) j h;have e:(Tg known og s v).1=ze known s.1 v:=by
   unfold Tg;cases hv:ya v with
   |some y=>simp only;unfold ze;rw[hv]
   |none=>rfl
  rw[e] at ih;rw[foldl_cons,List.take_succ_cons,foldl_cons];exact ih
theorem qnu:∀ (ub:List (Wd×Nat)) (x:Wd) (n:Nat),(ub.map (·.1)).Nodup->(x,n)∈ub->wo ub x=n
 |[],x,n,_,h=>(not_mem_nil h).elim
 |(y,k)::l,x,n,hn,h=>by rw[jd,nodup_cons] at hn;unfold wo;rw[List.find?_cons];rcases zc.1 h with h|h;injection h with h1 h2;subst h1 h2;simp;have Fb:y≠x:=λe=>hn.1 (qk ⟨(x,n),h,by simp[e]⟩);simp only[Fb,decide_false];exact qnu l x n hn.2 h
theorem qod{W:List Wd}(og:Nat)(hn:(Ib W).Nodup)(he:∀ w∈W,w≠[]){j:Nat}(hw:W[j]? = some w)(hd:ya w=some x) :
  wo (Lp (λ_=>0) og W) x=PW.od ⟨W,og,wo (Lp (λ_=>0) og W)⟩ j:=by
 generalize hk:wo (Lp (λ_=>0) og W)=known;have h1:=qqS known og hd W ([],[]) j hw;have h2:Lp (λ_=>0) og W=Lp known og W:=qnZ _ _ og W he;rw[<-hk,h2];refine qnu _ _ _ ?_ ?_;have:=N0 known og W ([],[]);unfold Lp;rw[this];simpa using hn;rw[<-h2,hk];rw[h2];exact h1
theorem qs0(h:Ju x=true):x≠[]/\∀ c r,x=c::r->tl c=true:=by
 unfold Ju at h;cases x with
 |nil=>cases h
 |cons c r=>simp only[sd] at h;exact⟨by simp,λc' r' e=>by injection e with e1 _;rw[<-e1];exact h.1.2⟩
theorem HX{c:UInt8}(h:Ko ds (c::x++[58]))(h1:c≠38)(h2:cA.contains c=false):ya (c::x++[58])=some (c::x):=by
 cases hd:ya (c::x++[58]) with
 |some y=>unfold ya at hd;split at hd;injection hd with hd;rw[<-hd,List.dropLast_concat];cases hd
 |none=>
  exfalso;unfold Ko at h;rw[hd] at h;have hr:Va (c::x++[58])=none:=by unfold Va;simp only[cons_append,h1,false_and,if_false]
  rw[hr] at h;simp only at h;unfold dx at h;rw[cons_append,all_cons,h2] at h;cases h
theorem l8(h:Ko ds (38::x)):Va (38::x)=some x:=by
 have hd:ya (38::x)=none:=by
  unfold ya;split;rename_i h1;exfalso;cases x with
  |nil=>exact absurd h1.1 fa
  |cons c r=>have:=(qs0 h1.2).2 38 _ (List.dropLast_cons_cons ..);exact absurd this fa
  rfl
 cases hr:Va (38::x) with
 |some y=>unfold Va at hr;simp only[true_and] at hr;split at hr;injection hr with hr;rw[<-hr];cases hr
 |none=>exfalso;unfold Ko at h;rw[hd,hr] at h;simp only at h;unfold dx at h;rw[all_cons,show cA.contains 38=false by decide,Ui] at h;cases h
theorem qxV(h:ya (x++[58])=some x):Va (38::x)=some x:=by unfold ya at h;split at h;rename_i h1;rw[List.dropLast_concat] at h1;unfold Va;simp only[true_and,h1.2,if_true];cases h
def Gu(n:Nat):Prop:=n<=2000000
mutual
def C7:Ex->Prop
 |.mk op num name args=>Gu args.length/\UA args
def UA:List Ex->Prop
 |[]=>True
 |x::l=>C7 x/\UA l
end
mutual
def B7:Sm->Prop
 |.mk kind name index value Ua Cb=>Gu index.length/\Gu value.length/\Gu Ua.length/\Gu Cb.length/\UA index/\UA value/\TA Ua/\TA Cb
def TA:List Sm->Prop
 |[]=>True
 |x::l=>B7 x/\TA l
end
structure bT(f:Pb):Prop where
 params:Gu f.params.length
 locals:Gu f.locals.length
 body:Gu f.body.length
 stmts:TA f.body
mutual
def xl:Ex->Nat
 |.mk op num name args=>1+Sb args
def Sb:List Ex->Nat
 |[]=>0
 |x::l=>xl x+Sb l
end
mutual
def Yp:Sm->Nat
 |.mk kind name index value Ua Cb=>1+(Sb index+Sb value+Ld Ua+Ld Cb)
def Ld:List Sm->Nat
 |[]=>0
 |x::l=>Yp x+Ld l
end
def Jq(f:Pb):Nat:=1+f.params.length+f.locals.length+Ld f.body
def je:List Pb->Nat
 |[]=>0
 |f::l=>Jq f+je l
theorem pU(x:Ex):1<=xl x:=by obtain⟨op,num,name,args⟩:=x;rw[xl];omega
theorem fY(x:Sm):1<=Yp x:=by obtain⟨k,n,i,v,t,e⟩:=x;rw[Yp];omega
theorem MM:∀ l:List Ex,l.length<=Sb l
 |[]=>Jb _
 |x::l=>by have h1:=pU x;have h2:=MM l;rw[Sb,La];omega
theorem UJ:∀ l:List Sm,l.length<=Ld l
 |[]=>Jb _
 |x::l=>by have h1:=fY x;have h2:=UJ l;rw[Ld,La];omega
theorem wU:∀ l:List Pb,l.length<=je l
 |[]=>Jb _
 |x::l=>by have h2:=wU l;rw[je,La];unfold Jq;omega
theorem HU:∀ {l:List Pb} {f:Pb},f∈l->Jq f<=je l
 |g::l,f,h=>by rw[je];rcases zc.1 h with rfl|h;omega;have:=HU h;omega
theorem NY:∀ {l:List Ex} {f:Ex},f∈l->xl f<=Sb l
 |g::l,f,h=>by rw[Sb];rcases zc.1 h with rfl|h;omega;have:=NY h;omega
mutual
theorem qzO:∀ x:Ex,xl x<=2000000->C7 x
 |.mk op num name args,h=>by rw[xl] at h;have:=MM args;exact⟨show args.length<=2000000 by omega,bU args ga⟩
theorem bU:∀ l:List Ex,Sb l<=2000000->UA l
 |[],_=>trivial
 |x::l,h=>by rw[Sb] at h;exact⟨qzO x ga,bU l ga⟩
end
mutual
theorem qzS:∀ x:Sm,Yp x<=2000000->B7 x
 |.mk k n i v t e,h=>by rw[Yp] at h;have h1:=MM i;have h2:=MM v;have h3:=UJ t;have h4:=UJ e;exact⟨show i.length<=2000000 by omega,show v.length<=2000000 by omega,show t.length<=2000000 by omega,show e.length<=2000000 by omega,bU i ga,bU v ga,oU t ga,oU e ga⟩
theorem oU:∀ l:List Sm,Ld l<=2000000->TA l
 |[],_=>trivial
 |x::l,h=>by rw[Ld] at h;exact⟨qzS x ga,oU l ga⟩
end
theorem yX(h:Jq f<=2000000):bT f:=by unfold Jq at h;have:=UJ f.body;exact⟨show f.params.length<=2000000 by omega,show f.locals.length<=2000000 by omega,show f.body.length<=2000000 by omega,oU _ ga⟩
def pt(B D:Nat)(known:List fe):Prop:=∀ k∈known,k.need<=B/\k.params+1<=B/\k.depth<=D
theorem qpS(B:Nat)(c:Bb):∀ (l:List Ex) (i m:Nat),(∀ x∈l,Kf c x<=4 * xl x+B)->Ky i (oh c l) m<=max m (4 * Sb l+i+B)
 |[],i,m,_=>by rw[oh,Ky];exact Nat.le_max_left _ _
 |x::l,i,m,h=>by rw[oh,Ky,Sb];have h1:=h x We;have h2:=qpS B c l (i+1) (max m (i+Kf c x)) λy hy=>h y (Pc _ hy);have h3:=pU x;omega
mutual
theorem NM(B D:Nat)(c:Bb)(hB:pt B D c.funcs):∀ x:Ex,Kf c x<=4 * xl x+B
 |.mk op num name args=>by
  rw[Kf,xl];have ha:=qnX B D c hB args;have h0:(oh c args).headD 0<=4 * Sb args+B:=by
   cases args with
   |nil=>rw[oh];exact zero_le _
   |cons x l=>have:=ha x We;rw[oh,Sb];show Kf c x<=_;omega
  have h1:(oh c args).tail.headD 0<=4 * Sb args+B:=by
   cases args with
   |nil=>rw[oh];exact zero_le _
   |cons x l=>
    cases l with
    |nil=>rw[oh,oh];exact zero_le _
    |cons y l=>have:=ha y (Pc _ We);rw[oh,oh,Sb,Sb];show Kf c y<=_;omega
  have hc:Uz c name (oh c args)<=4 * (1+Sb args)+B:=by unfold Uz;split;omega;split;omega;unfold Bb.fn;split;rename_i k hk;have M4:=hB k (mem_of_find?_eq_some hk);have:=qpS B c args 0 (max (k.params+1) k.need) ha;omega;omega
  unfold IB;split;omega;split;omega;split;exact hc;split;omega;split;omega;split;omega;split;omega;split;omega;omega
theorem qnX(B D:Nat)(c:Bb)(hB:pt B D c.funcs):∀ (l:List Ex),∀ x∈l,Kf c x<=4 * xl x+B
 |[],x,h=>(not_mem_nil h).elim
 |a::l,x,h=>by rcases zc.1 h with h1|h1;rw[h1];exact NM B D c hB a;exact qnX B D c hB l x h1
end
theorem qwC{c:Bb}(hB:pt B D c.funcs)(op name:Nm):Mu c op name<=D+1:=by unfold Mu;split;unfold Bb.fn;split;rename_i k hk;have:=hB k (mem_of_find?_eq_some hk);omega;omega;omega
mutual
theorem qY(B D:Nat)(c:Bb)(hB:pt B D c.funcs):∀ x:Ex,nj c x<=D+1
 |.mk op num name args=>by rw[nj];have h1:=eQ B D c hB args;have h2:=qwC hB op name;omega
theorem eQ(B D:Nat)(c:Bb)(hB:pt B D c.funcs):∀ l:List Ex,Ai c l<=D+1
 |[]=>zero_le _
 |x::l=>by rw[Ai];have h1:=qY B D c hB x;have h2:=eQ B D c hB l;omega
end
theorem qkm{c:Bb}(hB:pt B D c.funcs)(l:List Ex):Kf c (l.headD default)<=4 * (Sb l+1)+B:=by
 cases l with
 |nil=>
  have:=NM B D c hB (default:Ex);have h1:xl (default:Ex)=1:=by show xl (.mk [] 0 [] [])=1;rw[xl,Sb]
  show Kf c default<=_;rw[Sb];omega
 |cons x l=>have:=NM B D c hB x;show Kf c x<=_;rw[Sb];omega
mutual
theorem qvc(B D:Nat)(c:Bb)(hB:pt B D c.funcs):∀ x:Sm,ED c x<=8 * Yp x+B
 |.mk k n i v t e=>by rw[ED,Yp];have h1:=qkm hB v;have h2:=qkm hB i;have h3:=gQ B D c hB t;have h4:=gQ B D c hB e;split;omega;split;omega;split;omega;omega
theorem gQ(B D:Nat)(c:Bb)(hB:pt B D c.funcs):∀ l:List Sm,ql c l<=8 * Ld l+B
 |[]=>by rw[ql];exact zero_le _
 |x::l=>by rw[ql,Ld];have h1:=qvc B D c hB x;have h2:=gQ B D c hB l;omega
end
mutual
theorem I'(B D:Nat)(c:Bb)(hB:pt B D c.funcs):∀ x:Sm,Ls c x<=D+1
 |.mk k n i v t e=>by rw[Ls];have h1:=eQ B D c hB v;have h2:=eQ B D c hB i;have h3:=RJ B D c hB t;have h4:=RJ B D c hB e;omega
theorem RJ(B D:Nat)(c:Bb)(hB:pt B D c.funcs):∀ l:List Sm,vj c l<=D+1
 |[]=>by rw[vj];exact zero_le _
 |x::l=>by rw[vj];have h1:=I' B D c hB x;have h2:=RJ B D c hB l;omega
end
theorem qxO{later:List Nm}{known:List fe}(hB:pt B D known):(Zi vars ba later known f).need<=8 * Jq f+B/\(Zi vars ba later known f).params+1<=8 * Jq f+B/\(Zi vars ba later known f).depth<=D+1:=by have h1:=gQ B D (lg vars ba later known f) hB f.body;have h2:=RJ B D (lg vars ba later known f) hB f.body;unfold Zi Jq;simp only;omega
structure NG(p:Pr)(n:Nat):Prop where
 vars:p.vars.length<=n
 ba:p.ba.length<=n
 size:∀ a∈p.ba,a.size<4294967296
 funcs:je p.funcs<=n
 dz:∀ f∈p.funcs,cj f.body
structure Sk(s:MS):Prop where
 mem:∀ i,s.mem i<4294967296
 pc:s.pc<4294967296
 data:∀ v∈s.data,v<4294967296
 calls:∀ v∈s.calls,v<4294967296
 Ia:∀ v∈s.Ia,v<4294967296
 Dz:s.data.length<=256
 deep:s.calls.length<=64
theorem Sk.push{s s':MS}{v:Nat}(h:Sk s)(hv:v<4294967296)(hs:xo v s=.run s'):Sk s':=by unfold xo at hs;split at hs;rename_i hl;injection hs with hs;subst hs;exact⟨h.mem,h.pc,λx hx=>(zc.1 hx).elim (λe=>e▸hv) (h.data x),h.calls,h.Ia,by simp only[La];omega,h.deep⟩;cases hs
theorem Sk.pop{s:MS}{r:List Nat}(h:Sk s)(hd:s.data=a::r):a<4294967296/\Sk { s with data:=r }:=by have h1:=h.data;have h2:=h.Dz;rw[hd] at h1 h2;exact⟨h1 a We,h.mem,h.pc,λx hx=>h1 x (Pc _ hx),h.calls,h.Ia,by simp only[La] at h2;show r.length<=256;omega,h.deep⟩
theorem qzp(ha:a<4294967296)(hb:b<4294967296):a ^^^ b<4294967296:=Nat.xor_lt_two_pow (n:=32) ha hb
theorem TT{c v:Nat}(ha:a<4294967296)(hb:b<4294967296)(h:ud c a b=some v):v<4294967296:=by unfold ud at h;split at h;injection h with h;rw[<-h];exact mod_lt _ fa;split at h;injection h with h;rw[<-h];exact mod_lt _ fa;split at h;injection h with h;rw[<-h];exact mod_lt _ fa;split at h;split at h;cases h;injection h with h;rw[<-h];exact Nat.lt_of_le_of_lt (Nat.div_le_self _ _) ha;split at h;split at h;cases h;rename_i Le;injection h with h;rw[<-h];exact Nat.lt_trans (mod_lt _ ga) hb;split at h;injection h with h;rw[<-h];exact qzp ha hb;injection h with h;rw[<-h];split <;> decide
theorem qzr{c:Nat}{s s':MS}(h:Sk s)(hc:c<4294967296)(hs:Ud c s=.run s'):Sk s':=by
 unfold Ud at hs;split at hs;rename_i hd;unfold Hn at hd;rw[sd,Gg,Gg] at hd;unfold XE at hs;split at hs;split at hs;rename_i d r ai;injection hs with hs;subst hs;obtain⟨_,h2⟩:=h.pop ai;exact⟨h2.mem,h2.pc,λx hx=>(zc.1 hx).elim (λe=>by rw[e];exact mod_lt _ fa) (h2.data x),h2.calls,h2.Ia,by have:=h.Dz;rw[ai] at this;exact this,h2.deep⟩;cases hs;exact h.push ga hs;split at hs;injection hs with hs;subst hs;exact h;split at hs;unfold UH at hs;split at hs
 rename_i a r hd;split at hs;exact(h.pop hd).2.push (h.mem a) hs;cases hs;cases hs;split at hs;unfold gq at hs;split at hs;rename_i a v r hd;split at hs;injection hs with hs;subst hs;obtain⟨h1,h2⟩:=h.pop hd;obtain⟨h3,h4⟩:=h2.pop (a:=v) (r:=r) rfl;refine⟨λi=>?_,h4.pc,h4.data,h4.calls,h4.Ia,h4.Dz,h4.deep⟩;simp only;split;exact h3;exact h.mem i;cases hs;cases hs;split at hs;unfold ku at hs;split at hs
 rename_i t v r hd;injection hs with hs;subst hs;obtain⟨h1,h2⟩:=h.pop hd;obtain⟨h3,h4⟩:=h2.pop (a:=v) (r:=r) rfl;refine⟨h4.mem,?_,h4.data,h4.calls,h4.Ia,h4.Dz,h4.deep⟩;simp only;split;exact h1;exact h.pc;cases hs;split at hs;unfold ZG at hs;split at hs;rename_i t r hd;split at hs;rename_i hl;injection hs with hs;subst hs;obtain⟨h1,h2⟩:=h.pop hd;exact⟨h2.mem,h1,h2.data,λx hx=>(zc.1 hx).elim (λe=>e▸h.pc) (h.calls x),h2.Ia,h2.Dz,by simp only[La];omega⟩;cases hs;cases hs;split at hs;unfold Hw at hs;split at hs
 rename_i t r hd;injection hs with hs;subst hs;have h1:=h.calls;have h2:=h.deep;rw[hd] at h1 h2;exact⟨h.mem,h1 t We,h.data,λx hx=>h1 x (Pc _ hx),h.Ia,h.Dz,by simp only[La] at h2;show r.length<=64;omega⟩;cases hs;split at hs;unfold RL at hs;split at hs
 rename_i v r hi;have h1:=h.Ia;rw[hi] at h1;have h2:Sk { s with Ia:=r }:=⟨h.mem,h.pc,h.data,h.calls,λx hx=>h1 x (Pc _ hx),h.Dz,h.deep⟩;exact h2.push (h1 v We) hs;exact h.push fa hs;split at hs;unfold PE at hs;split at hs
 rename_i v r hd;injection hs with hs;subst hs;obtain⟨h1,h2⟩:=h.pop hd;exact⟨h2.mem,h2.pc,h2.data,h2.calls,h2.Ia,h2.Dz,h2.deep⟩;cases hs;split at hs;cases hs;split at hs;unfold SD at hs;split at hs;rename_i b a r hd;obtain⟨h1,h2⟩:=h.pop hd;obtain⟨h3,h4⟩:=h2.pop (a:=a) (r:=r) rfl;split at hs;rename_i v hv;exact h4.push (TT h3 h1 hv) hs;cases hs;cases hs;cases hs
theorem qyT(code:Wd)(og i:Nat):Xs code og i<4294967296:=by unfold Xs;split;split;rename_i c _;have:=c.toNat_lt;omega;decide;decide
section
variable(vars ba later:List Nm)
def Xu:List fe->List Pb->Pb->List fe
 |known,[],f=>known
 |known,g::l,f=>if g.name=f.name then known else Xu (known++[Zi vars ba later known g]) l f
end
section
variable{vars ba later:List Nm}
theorem EX:∀ (fs:List Pb) (known:List fe),Ys vars ba later known fs=0->(fs.map (·.name)).Nodup->∀ f∈fs,Th (lg vars ba later (Xu vars ba later known fs f) f) f.body=0
 |[],known,_,_,f,hf=>(not_mem_nil hf).elim
 |g::l,known,h,hn,f,hf=>by rw[Ys] at h;obtain⟨h1,h2⟩:=Rc.1 h;rw[jd,nodup_cons] at hn;rw[Xu];rcases zc.1 hf with rfl|hf;rw[zp rfl];exact(Rc.1 h1).2;rw[zn (λe=>hn.1 (qk ⟨f,hf,e.symm⟩))];exact EX l _ h2 hn.2 f hf
theorem tX:∀ (fs:List Pb) (known:List fe),(fs.map (·.name)).Nodup->∀ f∈fs,∀ k∈Xu vars ba later known fs f,k∈known∨∃ g∈fs,k=Zi vars ba later (Xu vars ba later known fs g) g
 |[],known,_,f,hf,k,hk=>(not_mem_nil hf).elim
 |g::l,known,hn,f,hf,k,hk=>by rw[jd,nodup_cons] at hn;rw[Xu] at hk;rcases zc.1 hf with rfl|hf;rw[zp rfl] at hk;exact .inl hk;rw[zn (λe=>hn.1 (qk ⟨f,hf,e.symm⟩))] at hk;rcases tX l _ hn.2 f hf k hk with h|⟨x,h1,h2⟩;rcases xj h with h|h;exact .inl h;refine .inr ⟨g,List.mem_cons_self ..,?_⟩;rw[Xu,zp rfl];exact Vi h;refine .inr ⟨x,Pc _ h1,?_⟩;rw[Xu,zn (λe=>hn.1 (qk ⟨x,h1,e.symm⟩))];exact h2
theorem qoo:∀ (fs:List Pb) (known:List fe),(fs.map (·.name)).Nodup->ZA vars ba later known fs=known++fs.map λg=>Zi vars ba later (Xu vars ba later known fs g) g
 |[],known,_=>by simp[ZA]
 |g::l,known,hn=>by rw[jd,nodup_cons] at hn;rw[ZA,qoo l _ hn.2,jd,Sc];congr 1;rw[List.singleton_append];congr 1;rw[Xu,zp rfl];refine List.map_congr_left λx hx=>?_;rw[Xu,zn (λe=>hn.1 (qk ⟨x,hx,e.symm⟩))]
theorem WY(known:List fe)(f:Pb):ql (lg vars ba later known f) f.body<=(Zi vars ba later known f).need/\vj (lg vars ba later known f) f.body<=(Zi vars ba later known f).depth:=⟨Nat.le_max_right _ _,Nat.le_max_right _ _⟩
end
def DG(cc:Nm->CC):Nat->Nat->List Pb->Pb->Nat
 |_,i,[],_=>i
 |n,i,g::l,f=>if g.name=f.name then i else DG cc (lk (cc g.name) n g).2 (i+(lk (cc g.name) n g).1.length) l f
theorem r9{C:PW}{cc:Nm->CC}:∀ (fs:List Pb) (n i:Nat),C.Code i (Oc cc n fs).1->(fs.map (·.name)).Nodup->∀ f∈fs,∃ nl,C.Code (DG cc n i fs f) (lk (cc f.name) nl f).1
 |[],n,i,_,_,f,hf=>(not_mem_nil hf).elim
 |g::l,n,i,h,hn,f,hf=>by rw[jd,nodup_cons] at hn;rw[Oc] at h;obtain⟨h1,h2⟩:=h.app;rw[DG];rcases zc.1 hf with rfl|hf;rw[zp rfl];exact⟨n,h1⟩;rw[zn (λe=>hn.1 (qk ⟨f,hf,e.symm⟩))];exact r9 l _ _ h2 hn.2 f hf
theorem qpQ(W:List Wd)(og:Nat)(known:Wd->Nat):PW.Code ⟨W,og,known⟩ 0 W:=λk hk=>by rw[zero_add];exact jh hk
def zg:List Ar->Nm->Nat
 |[],_=>0
 |a::l,x=>if a.name=x then 0 else a.size+zg l x
def Uj(l:List Ar):Nat:=(l.map (·.size)).sum
theorem QP(l:List Ar):((l.map λa=>(a.name,(a.size:Int))).map (·.2)).sum=((Uj l:Nat):Int):=by
 unfold Uj;induction l with
 |nil=>rfl
 |cons a l ih=>simp only[jd,sum_cons] at ih ⊢;rw[ih];omega
theorem qqZ:∀ (l:List Ar) (at':Int) (a:Ar),a∈l->qj at' (l.map λa=>(a.name,(a.size:Int))) a.name=at'+(zg l a.name:Nat)
 |[],at',a,h=>(not_mem_nil h).elim
 |b::l,at',a,h=>by rw[jd,qj,zg];by_cases he:b.name=a.name;rw[zp he,zp he];simp;rw[zn he,zn he];rcases zc.1 h with rfl|h;exact absurd rfl he;rw[qqZ l _ a h];omega
theorem dM:∀ (l:List Ar),(l.map (·.name)).Nodup->∀ a∈l,zg l a.name+a.size<=Uj l
 |[],_,a,h=>(not_mem_nil h).elim
 |b::l,hn,a,h=>by
  rw[jd,nodup_cons] at hn;have ht:Uj (b::l)=b.size+Uj l:=by simp[Uj]
  rw[zg,ht];rcases zc.1 h with rfl|h;rw[zp rfl];omega;rw[zn (λe=>hn.1 (qk ⟨a,h,e.symm⟩))];have:=dM l hn.2 a h;omega
theorem qoc:∀ (l:List Ar),(l.map (·.name)).Nodup->∀ a∈l,∀ b∈l,a.name≠b.name->zg l a.name+a.size<=zg l b.name∨zg l b.name+b.size<=zg l a.name
 |[],_,a,h,_,_,_=>(not_mem_nil h).elim
 |x::l,hn,a,ha,b,hb,Fb=>by rw[jd,nodup_cons] at hn;rw[zg,zg];rcases zc.1 ha with rfl|ha;rw[zp rfl,zn Fb];left;omega;rw[zn (λe=>hn.1 (qk ⟨a,ha,e.symm⟩))];rcases zc.1 hb with rfl|hb;rw[zp rfl];right;omega;rw[zn (λe=>hn.1 (qk ⟨b,hb,e.symm⟩))];rcases qoc l hn.2 a ha b hb Fb with h|h;left;omega;right;omega
theorem qwl{l:List Ar}(h:(l.map (·.name)).Nodup){a b:Ar}(ha:a∈l)(hb:b∈l)(he:a.name=b.name):a=b:=by
 induction l with
 |nil=>cases ha
 |cons x l ih=>rw[jd,nodup_cons] at h;rcases zc.1 ha with rfl|Fo;rcases zc.1 hb with rfl|fS;rfl;exact absurd (qk ⟨b,fS,he.symm⟩) h.1;rcases zc.1 hb with rfl|fS;exact absurd (qk ⟨a,Fo,he⟩) h.1;exact ih h.2 Fo fS
def sf(P:Pr):List (Nm×Int):=P.ba.map λa=>(a.name,(a.size:Int))
def Ug(P:Pr)(o:xk):List Wd:=EB P.vars (sf P) P.funcs o
def iH(P:Pr)(o:xk):Wd->Nat:=wo (Lp (λ_=>0) o.code.toNat (Ug P o))
def Hi(P:Pr)(o:xk):Lf where
 C:=⟨Ug P o,o.code.toNat,iH P o⟩
 P:=P
 cc:=λf=>dq P.vars (sf P) P.funcs o f.name
 jb:=λf=>lg P.vars (P.ba.map (·.name)) (P.funcs.map (·.name)) (Xu P.vars (P.ba.map (·.name)) (P.funcs.map (·.name)) [] P.funcs f) f
 sa:=λk=>o.scalars.toNat+3+(Vd P.vars P.funcs).idxOf k
 aa:=λn=>o.ba.toNat+zg P.ba n
 S:=o.scalars.toNat
 fst:=DG (dq P.vars (sf P) P.funcs o) 0 5 P.funcs
theorem Jv(h:0<=z):itoa z=decDigits z.toNat:=by unfold itoa;rw[zn (by omega)]
structure Ow(P:Pr)(o:xk):Prop where
 s0:0<=o.scalars
 c0:0<=o.code
 a0:0<=o.ba
 s1:o.scalars.toNat+3+(Vd P.vars P.funcs).length<=262144
 c1:o.code.toNat+40000<=262144
 a1:o.ba.toNat+Uj P.ba<=262144
 cs:o.scalars.toNat+3+(Vd P.vars P.funcs).length<=o.code.toNat∨o.code.toNat+40000<=o.scalars.toNat
 asA:0<Uj P.ba->o.scalars.toNat+3+(Vd P.vars P.funcs).length<=o.ba.toNat∨o.ba.toNat+Uj P.ba<=o.scalars.toNat
 ac:0<Uj P.ba->o.code.toNat+40000<=o.ba.toNat∨o.ba.toNat+Uj P.ba<=o.code.toNat
theorem JD{P:Pr}{o:xk}(h:zr P.vars (sf P) P.funcs o=true):Ow P o:=by unfold zr qH gH at h;simp only[sd,Bool.not_eq_true',Gg,decide_eq_false_iff_not] at h;have ht:((sf P).map (·.2)).sum=((Uj P.ba:Nat):Int):=QP P.ba;rw[ht] at h;obtain⟨⟨⟨⟨⟨h1,h2⟩,h3⟩,h4⟩,h5⟩,h6⟩:=h;constructor <;> omega
section
variable{P:Pr}{o:xk}
theorem G7(hv:Valid P)(hf:Ow P o)(hm:f∈P.funcs)(name:Nm)(hk:dc f name∈Vd P.vars P.funcs):((Hi P o).cc f).sc name=decDigits ((Hi P o).sa (dc f name)):=by show itoa (px (Vd P.vars P.funcs) o.scalars (ju (Vd P.vars P.funcs) f.name name))=_;have h1:ju (Vd P.vars P.funcs) f.name name=dc f name:=qAl hv.names hm name;have h2:=hf.s0;rw[h1];unfold px;rw[zp hk,Jv (by omega)];show _=decDigits (o.scalars.toNat+3+_);congr 1;omega
theorem GJ{l:List Nm}{k:Nm}(h:k∈l):l.idxOf k<l.length:=List.idxOf_lt_length_of_mem h
theorem qyE{l:List Nm}{k k':Nm}(h:k∈l)(h':k'∈l)(he:l.idxOf k=l.idxOf k'):k=k':=by
 have h1:l[l.idxOf k]? = some k:=by rw[jh (GJ h),List.getElem_idxOf]
 have h2:l[l.idxOf k']? = some k':=by rw[jh (GJ h'),List.getElem_idxOf]
 rw[he,h2] at h1;injection h1 with h1;exact h1.symm
theorem qzi(hc:Vp P=0)(ec:∀ f∈P.funcs,cj f.body)(Be:zr P.vars (sf P) P.funcs o=true)(ik:Et (Ug P o))(Fb:∀ w∈Ug P o,w≠[])(na:(ll (iH P o) (Ug P o)).length<=40000):Zd (Hi P o):=by
 have hv:=yH hc;have hF:=JD Be;have Km:=(Nv _ _ hv.names).1;have Vc:(P.funcs.map (·.name)).Nodup:=(Xm Km).2.1;have JI:(P.ba.map (·.name)).Nodup:=(Xm (Xm Km).1).2.1;have Fl:Ys P.vars (P.ba.map (·.name)) (P.funcs.map (·.name)) [] P.funcs=0:=by
  unfold Vp Jr at hc;have e1:(P.ba.map λa=>(a.name,(a.size:Int))).map (·.1)=P.ba.map (·.name):=by rw[map_map];try rfl
  rw[e1] at hc;exact(Rc.1 (Rc.1 (Rc.1 hc).2).2).1
 obtain⟨s0,c0,a0,s1,c1,a1,cs,G6,ac⟩:=hF;have hF:Ow P o:=⟨s0,c0,a0,s1,c1,a1,cs,G6,ac⟩;have vf:∀ f∈P.funcs,∃ nl,(Hi P o).C.Code ((Hi P o).fst f) (lk ((Hi P o).cc f) nl f).1:=λf hf=>by have h1:PW.Code (Hi P o).C 0 ([[38,102,95,109,97,105,110],[58],itoa o.scalars,[33],[36]]++(Oc (dq P.vars (sf P) P.funcs o) 0 P.funcs).1):=qpQ _ _ _;exact r9 P.funcs 0 5 h1.app.2 Vc f hf
 have Uh:∀ {j:Nat} {w:Wd},(Ug P o)[j]? = some w->Ko (Ib (Ug P o)) w:=λh=>ik.2 _ (List.mem_of_getElem? h)
 have zI:∀ f∈P.funcs,ya ([102,95]++f.name++[58])=some ([102,95]++f.name):=λf hf=>by
  obtain⟨nl,h⟩:=vf f hf;unfold lk at h;simp only[List.singleton_append,cons_append,Sc] at h;have h1:(Ug P o)[(Hi P o).fst f]? = some (102::(95::f.name)++[58]):=by have h0:=h.cons.1;simp only[Sc,cons_append,nil_append] at h0 ⊢;exact h0
  have h2:=HX (Uh h1) fa fa;simpa using h2
 refine⟨λf hf name h=>?_,λf hf name h=>?_,λf hf=>?_,λx hx=>?_,λx hx=>?_,λk hk=>?_,λk hk k' Eo h=>?_,λa ha i hi=>?_,λa ha b hb i j hi hj h=>?_,λa ha=>?_,λa ha b hb h=>?_,λf hf=>⟨EX _ _ Fl Vc f hf,ec f hf⟩,λf hf name g h=>?_,λf hf=>?_,vf,λj n h=>?_,λj n h=>?_,zI,λf hf=>qxV (zI f hf),λj w x hw hd=>?_⟩;have hk:dc f name∈Vd P.vars P.funcs:=qrW hf h;exact⟨G7 hv hF hf name hk,hk⟩;unfold Qy at h;split at h
 rename_i hm;obtain⟨a,h1,h2⟩:=Qh (show name∈P.ba.map (·.name) from hm);refine⟨?_,a,h1,h2⟩;show itoa (qj o.ba (sf P) name)=decDigits (o.ba.toNat+zg P.ba name);rw[<-h2];unfold sf;rw[qqZ _ _ _ h1,Jv (by omega)];congr 1;omega;split at h <;> cases h;show itoa o.scalars=decDigits o.scalars.toNat/\itoa (o.scalars+1)=decDigits (o.scalars.toNat+1)/\itoa (o.scalars+2)=decDigits (o.scalars.toNat+2);rw[Jv s0,Jv (by omega),Jv (by omega)];exact⟨rfl,by congr 1;omega,by congr 1;omega⟩;rcases hx with⟨k,hk,rfl⟩|hx|⟨a,ha,i,hi,rfl⟩;have h1:(Vd P.vars P.funcs).idxOf k<_:=GJ hk;show o.scalars.toNat+3+(Vd P.vars P.funcs).idxOf k<262144;omega;have h1:o.scalars.toNat<=x/\x<=o.scalars.toNat+2:=hx;omega;have h1:=dM _ JI a ha;show o.ba.toNat+zg P.ba a.name+i<262144;omega;show x<o.code.toNat∨o.code.toNat+(ll (iH P o) (Ug P o)).length<=x;rcases hx with⟨k,hk,rfl⟩|hx|⟨a,ha,i,hi,rfl⟩;have h1:(Vd P.vars P.funcs).idxOf k<_:=GJ hk;show o.scalars.toNat+3+(Vd P.vars P.funcs).idxOf k<_∨_<=o.scalars.toNat+3+(Vd P.vars P.funcs).idxOf k;omega;have h1:o.scalars.toNat<=x/\x<=o.scalars.toNat+2:=hx;omega;have h1:=dM _ JI a ha;have h2:=ac (by have:i<a.size:=hi;omega);have h3:i<a.size:=hi;show o.ba.toNat+zg P.ba a.name+i<_∨_<=o.ba.toNat+zg P.ba a.name+i;omega;exact Nat.le_add_right _ _;have h1:o.scalars.toNat+3+(Vd P.vars P.funcs).idxOf k=o.scalars.toNat+3+(Vd P.vars P.funcs).idxOf k':=h;have h2:(Vd P.vars P.funcs).idxOf k=(Vd P.vars P.funcs).idxOf k':=by omega
 exact qyE hk Eo h2;have h1:=dM _ JI a ha;have h2:=G6 ga;refine⟨λk hk=>?_,?_⟩;have h3:(Vd P.vars P.funcs).idxOf k<_:=GJ hk;show o.scalars.toNat+3+(Vd P.vars P.funcs).idxOf k≠o.ba.toNat+zg P.ba a.name+i;omega;show ¬ (o.scalars.toNat<=o.ba.toNat+zg P.ba a.name+i/\o.ba.toNat+zg P.ba a.name+i<=o.scalars.toNat+2);omega;have h:o.ba.toNat+zg P.ba a.name+i=o.ba.toNat+zg P.ba b.name+j:=h
 by_cases he:a.name=b.name;rw[he] at h;exact⟨he,by omega⟩;rcases qoc _ JI a ha b hb he with h1|h1;omega;omega;have h1:=dM _ JI a ha;show o.ba.toNat+zg P.ba a.name<1000000;omega;rw[qwl JI ha hb h]
 ·have h1:g∈Xu P.vars (P.ba.map (·.name)) (P.funcs.map (·.name)) [] P.funcs f:=mem_of_find?_eq_some h;have h2:g.name=name:=ag (List.find?_some (p:=λg:fe=>decide (g.name=name)) h);rcases tX P.funcs [] Vc f hf g h1 with h3|⟨x,h3,h4⟩;exact(not_mem_nil h3).elim;have h5:x.name=name:=by rw[<-h2,h4];try rfl
  have h6:=gY (P:=P) Vc h3;rw[h5] at h6;show Lh P name∈P.funcs/\_;rw[show(Hi P o).P=P from rfl,h6,h4];exact⟨h3,h5,rfl,(WY _ x).1,(WY _ x).2⟩
 have ho:=hv.own f hf;have DC:∀ p∈f.params,dc f p=f.name++[46]++p:=λp hp=>by unfold dc;rw[zp (.inl hp)]
 refine⟨λp hp=>?_,?_⟩
 have hk:dc f p∈Vd P.vars P.funcs:=by rw[DC p hp];exact(qsC hv.names hf p).2 (Ip (.inl hp))
 exact⟨hk,G7 hv hF hf p hk⟩;have hn:f.params.Nodup:=(Xm ho.1).1;refine List.pairwise_map.2 (hn.imp_of_mem λ{a b} ha hb yz he=>yz ?_);rw[DC a ha,DC b hb] at he;exact List.append_cancel_left he;exact HX (c:=106) (x:=decDigits n) (Uh h) fa fa;exact l8 (Uh h);exact qod o.code.toNat ik.1 Fb hw hd
end
def Zf(l:List Wd):Prop:=∀ w∈l,Xj w
theorem ap:Zf []:=λw hw=>(not_mem_nil hw).elim
theorem Yj{l:List Wd}:Zf (w::l) ↔ Xj w/\Zf l:=List.forall_mem_cons
theorem Oj{a b:List Wd}:Zf (a++b) ↔ Zf a/\Zf b:=List.forall_mem_append
def FX(w:Wd):Bool:=decide (w≠[]) && w.all λc=>decide (c≠10/\c≠32/\c≠35)
theorem PX(h:FX w=true):Xj w:=by unfold FX at h;rw[sd,Gg,List.all_eq_true] at h;refine⟨h.1,λc hc=>?_⟩;have:=ag (h.2 c hc);exact this
theorem Qu{l:List Wd}(h:l.all FX=true):Zf l:=λw hw=>PX (List.all_eq_true.1 h w hw)
theorem fN(h:0<=z):Xj (itoa z):=by rw[Jv h];exact jQ _
theorem nZ{a b:Wd}(h:vq a)(h2:vq b)(Fb:a≠[]):Xj (a++b):=⟨λh=>Fb (List.append_eq_nil_iff.1 h).1,λc hc=>(xj hc).elim (h c) (h2 c)⟩
theorem Bv{p:Prop} [Decidable p]{a b:List Wd}(h1:p->Zf a)(h2:¬ p->Zf b):Zf (if p then a else b):=by by_cases h:p;rw[zp h];exact h1 h;rw[zn h];exact h2 h
structure oE(c:CC):Prop where
 sc:∀ n,Xj (c.sc n)
 ar:∀ n,Xj (c.ar n)
 t0:Xj c.t0
 t1:Xj c.t1
 t2:Xj c.t2
theorem qwA{s:Nm}(h:cf s=true):vq s:=by
 unfold cf at h;rw[sd] at h;have h2:=h.2;have hi:∀ c:UInt8,tl c=true∨Ni c=true->c≠10/\c≠32/\c≠35:=λc hc=>by refine⟨?_,?_,?_⟩ <;> (rintro rfl;exact absurd hc fa)
 cases s with
 |nil=>exact λc hc=>(not_mem_nil hc).elim
 |cons c r=>simp only[sd] at h2;intro d hd;rcases zc.1 hd with rfl|hd;exact hi _ (.inl h2.1);exact hi _ (.inr (List.all_eq_true.1 h2.2 d hd))
theorem qmH(hc:oE c):Zf (Xl c):=by
 have hs:∀ {k:UInt8},(k≠10/\k≠32/\k≠35)->Xj [k]:=λh=>⟨by simp,λx hx=>by rw[Vi hx];exact h⟩;unfold Xl
 repeat' first|exact hc.t1|exact hc.t2|exact hs fa|exact ap|refine Yj.2 ⟨?_,?_⟩
theorem qs1(hc:oE c){op:Nm}{num:Nat}{l:List (List Wd)}(hl:∀ ws∈l,Zf ws)(Xc:fg op ≠ -2)(PC:op=eg->vq name):Zf (Iq c op num name l):=by
 have hh:Zf (l.headD []):=by
  cases l with
  |nil=>exact ap
  |cons a r=>exact hl a We
 have h2:Zf ((l.drop 1).headD []):=by
  cases l with
  |nil=>exact ap
  |cons a r=>
   cases r with
   |nil=>exact ap
   |cons b r=>exact hl b (Pc _ We)
 have hf:Zf l.flatten:=λw hw=>by obtain⟨ws,h1,h3⟩:=List.mem_flatten.1 hw;exact hl ws h1 w h3
 have hg:=qmH hc;have hs:∀ {k:UInt8},(k≠10/\k≠32/\k≠35)->Xj [k]:=λh=>⟨by simp,λx hx=>by rw[Vi hx];exact h⟩
 have Jl:¬ (op=tf)->¬ (op=Uf)->¬ (op=Bj)->¬ (op=eg)->¬ (op=Ag)->¬ (op=jg)->Xj op:=by intro a1 a2 a3 a4 a5 a6;unfold fg at Xc;rw[zn (by simp[a1,a2]),zn (by simp[a3,a5,a6]),zn a4] at Xc;split at Xc;rename_i h;exact Qu (l:=Fv) fa op h;exact absurd rfl Xc
 unfold Iq;refine Bv (λn1=>?_) λn1=>Bv (λn2=>?_) λn2=>Bv (λn3=>?_) λn3=>Bv (λn4=>?_) λn4=>Bv (λn5=>?_) λn5=>Bv (λn6=>?_) λn6=>Bv (λn7=>?_) λn7=>Bv (λn8=>?_) λn8=>Bv (λn9=>?_) λn9=>?_;exact Yj.2 ⟨jQ _,ap⟩
 ·repeat' first|exact hh|exact h2|exact ap|exact hc.sc _|exact hc.ar _|exact hs fa|refine Yj.2 ⟨?_,?_⟩|refine Oj.2 ⟨?_,?_⟩
 ·repeat' first|exact hh|exact h2|exact ap|exact hc.sc _|exact hc.ar _|exact hs fa|refine Yj.2 ⟨?_,?_⟩|refine Oj.2 ⟨?_,?_⟩
 refine Oj.2 ⟨hf,Bv (λ_=>Qu fa) λ_=>Bv (λ_=>Qu fa) λ_=>?_⟩;refine Yj.2 ⟨nZ (λx hx=>?_) (PC n4) (by simp),Qu fa⟩;have:=List.all_eq_true.1 (show([38,102,95]:Wd).all (λc=>decide (c≠10/\c≠32/\c≠35))=true by decide) x hx;exact ag this
 ·repeat' first|exact hh|exact h2|exact ap|exact hc.sc _|exact hc.ar _|exact hs fa|refine Yj.2 ⟨?_,?_⟩|refine Oj.2 ⟨?_,?_⟩
 ·repeat' first|exact hh|exact h2|exact ap|exact hc.sc _|exact hc.ar _|exact hs fa|refine Yj.2 ⟨?_,?_⟩|refine Oj.2 ⟨?_,?_⟩
 ·repeat' first|exact hh|exact h2|exact ap|exact hc.sc _|exact hc.ar _|exact hs fa|refine Yj.2 ⟨?_,?_⟩|refine Oj.2 ⟨?_,?_⟩
 ·repeat' first|exact hh|exact h2|exact ap|exact hc.sc _|exact hc.ar _|exact hs fa|refine Yj.2 ⟨?_,?_⟩|refine Oj.2 ⟨?_,?_⟩
 ·repeat' first|exact hh|exact h2|exact ap|exact hc.sc _|exact hc.ar _|exact hs fa|refine Yj.2 ⟨?_,?_⟩|refine Oj.2 ⟨?_,?_⟩
 refine Oj.2 ⟨Oj.2 ⟨hh,h2⟩,?_⟩;refine Bv (λ_=>hg) λ_=>Bv (λ_=>Oj.2 ⟨hg,Qu fa⟩) λ_=>Bv (λ_=>Qu fa) λ_=>Bv (λ_=>Qu fa) λ_=>?_;exact Yj.2 ⟨Jl n1 n2 n3 n4 n5 n6,ap⟩
mutual
theorem qnJ{c:CC}(hc:oE c){env:Bb}(Vc:∀ k∈env.funcs,vq k.name):∀ e,yf env e=0->Zf (Mb c e)
 |.mk op num name args,h=>by
  rw[yf] at h;split at h;rename_i ho;obtain⟨h1,h3⟩:=Rc.1 h;rw[Mb];refine qs1 hc (qly hc Vc args h1) ga λGe=>?_;subst Ge;unfold Ay at h3;rw[zn fa,zn fa,zp rfl] at h3;unfold Lc at h3;split at h3
  rename_i e;rw[e];exact λx hx=>ag (List.all_eq_true.1 (show([105,110]:Wd).all (λc=>decide (c≠10/\c≠32/\c≠35))=true by decide) x hx);split at h3
  rename_i e;rw[e];exact λx hx=>ag (List.all_eq_true.1 (show([111,117,116]:Wd).all (λc=>decide (c≠10/\c≠32/\c≠35))=true by decide) x hx);unfold Bb.fn at h3
  cases hf:env.funcs.find? λf=>decide (f.name=name) with
  |none=>rw[hf] at h3;simp only at h3;split at h3 <;> cases h3
  |some k=>have e:k.name=name:=ag (List.find?_some (p:=λg:fe=>decide (g.name=name)) hf);rw[<-e];exact Vc k (mem_of_find?_eq_some hf)
  cases h
theorem qly{c:CC}(hc:oE c){env:Bb}(Vc:∀ k∈env.funcs,vq k.name):∀ l,ig env l=0->∀ ws∈Hb c l,Zf ws
 |[],h,ws,hw=>by rw[Hb] at hw;exact(not_mem_nil hw).elim
 |x::l,h,ws,hw=>by rw[ig] at h;obtain⟨h1,h2⟩:=Rc.1 h;rw[Hb] at hw;rcases zc.1 hw with rfl|hw;exact qnJ hc Vc x h1;exact qly hc Vc l h2 ws hw
end
theorem OD(n:Nat):Xj (za n)/\Xj (38::za n)/\Xj (za n++[58]):=by
 have h:=(jQ n).2;have h1:∀ {c:UInt8} {w:Wd},(c≠10/\c≠32/\c≠35)->vq w->vq (c::w):=λhc hw x hx=>by rcases zc.1 hx with rfl|hx;exact hc;exact hw x hx
 have h2:vq (za n):=h1 fa h;exact⟨⟨by simp[za],h2⟩,⟨by simp,h1 fa h2⟩,nZ h2 (h1 fa λx hx=>(not_mem_nil hx).elim) (by simp[za])⟩
section
variable{c:CC}{env:Bb}
theorem VJ{k:UInt8}(h:k≠10/\k≠32/\k≠35):Xj [k]:=⟨by simp,λx hx=>by rw[Vi hx];exact h⟩
theorem qln(hc:oE c)(Vc:∀ k∈env.funcs,vq k.name){l:List Ex}(h1:l.length=1)(h:ig env l=0):Zf (Mb c (l.headD default)):=by obtain⟨x,rfl⟩:=gv h1;rw[ig] at h;exact qnJ hc Vc x (Rc.1 h).1
mutual
theorem qtw(hc:oE c)(Vc:∀ k∈env.funcs,vq k.name):∀ (s:Sm) (n:Nat),Pk env s=0->Zf (vg c n s).1
 |.mk kind name index value Ua Cb,n,h=>by
  rw[Pk] at h;by_cases hf:Jh (.mk kind name index value Ua Cb)=false;rw[zp hf] at h;cases h;rw[zn hf] at h;obtain⟨h1,h⟩:=Rc.1 h;obtain⟨h2,h⟩:=Rc.1 h;obtain⟨h3,h⟩:=Rc.1 h;obtain⟨h4,h5⟩:=Rc.1 h;rw[Bool.not_eq_false] at hf;unfold Jh at hf;have hv:kind=1∨kind=2∨kind=3∨kind=4∨kind=5∨kind=6->Zf (Mb c (value.headD default)):=λhk=>qln hc Vc (by
   rcases hk with rfl|rfl|rfl|rfl|rfl|rfl <;> simp at hf <;> simp[hf]) h1
  have ht:=λn=>kV hc Vc Ua n h4;have he:=λn=>kV hc Vc Cb n h5;unfold vg
  by_cases k1:kind=1;rw[zp k1];exact Oj.2 ⟨hv (by simp[k1]),Yj.2 ⟨hc.sc _,Qu fa⟩⟩;rw[zn k1];by_cases k2:kind=2;rw[zp k2];refine Oj.2 ⟨hv (by simp[k2]),Yj.2 ⟨hc.ar _,Oj.2 ⟨qln hc Vc ?_ h2,Qu fa⟩⟩⟩;subst k2;simp at hf;simp[hf];rw[zn k2];by_cases k3:kind=3;rw[zp k3];have h8:=hv (by simp[k3]);cases Cb with
  |nil=>simp only;exact Oj.2 ⟨Oj.2 ⟨Oj.2 ⟨h8,Yj.2 ⟨(OD n).2.1,Qu fa⟩⟩,ht _⟩,Yj.2 ⟨(OD n).2.2,ap⟩⟩
  |cons a r=>simp only;exact Oj.2 ⟨Oj.2 ⟨Oj.2 ⟨Oj.2 ⟨Oj.2 ⟨h8,Yj.2 ⟨(OD n).2.1,Qu fa⟩⟩,ht _⟩,Yj.2 ⟨VJ fa,Yj.2 ⟨(OD (n+1)).2.1,Yj.2 ⟨VJ fa,Yj.2 ⟨(OD n).2.2,ap⟩⟩⟩⟩⟩,he _⟩,Yj.2 ⟨(OD (n+1)).2.2,ap⟩⟩
  rw[zn k3];by_cases k4:kind=4;rw[zp k4];have h8:=hv (by simp[k4]);exact Oj.2 ⟨Oj.2 ⟨Oj.2 ⟨Oj.2 ⟨Yj.2 ⟨(OD n).2.2,ap⟩,h8⟩,Yj.2 ⟨(OD (n+1)).2.1,Qu fa⟩⟩,ht _⟩,Yj.2 ⟨VJ fa,Yj.2 ⟨(OD n).2.1,Yj.2 ⟨VJ fa,Yj.2 ⟨(OD (n+1)).2.2,ap⟩⟩⟩⟩⟩;rw[zn k4];by_cases k5:kind=5;rw[zp k5];exact Oj.2 ⟨hv (by simp[k5]),Qu fa⟩;rw[zn k5];by_cases k6:kind=6;rw[zp k6];exact Oj.2 ⟨hv (by simp[k6]),Yj.2 ⟨hc.t0,Qu fa⟩⟩;rw[zn k6];by_cases k7:kind=7;rw[zp k7];exact Yj.2 ⟨VJ fa,ap⟩;rw[zn k7];exact ap
theorem kV(hc:oE c)(Vc:∀ k∈env.funcs,vq k.name):∀ (l:List Sm) (n:Nat),Th env l=0->Zf (Pa c n l).1
 |[],n,h=>by rw[Pa];exact ap
 |s::l,n,h=>by rw[Th] at h;obtain⟨h1,h2⟩:=Rc.1 h;rw[Pa];exact Oj.2 ⟨qtw hc Vc s n h1,kV hc Vc l _ h2⟩
end
theorem qtV(hc:oE c)(Vc:∀ k∈env.funcs,vq k.name)(f:Pb)(n:Nat)(Oq:vq f.name)(h:Th env f.body=0):Zf (lk c n f).1:=by unfold lk;simp only;refine Oj.2 ⟨Oj.2 ⟨Oj.2 ⟨Yj.2 ⟨?_,ap⟩,λw hw=>?_⟩,kV hc Vc _ _ h⟩,Qu fa⟩;rw[Sc];refine nZ (λx hx=>?_) (λx hx=>?_) (by simp);exact ag (List.all_eq_true.1 (show([102,95]:Wd).all (λc=>decide (c≠10/\c≠32/\c≠35))=true by decide) x hx);rcases xj hx with h|h;exact Oq x h;exact(VJ (k:=58) fa).2 x h;obtain⟨p,h1,h2⟩:=List.mem_flatMap.1 hw;rcases zc.1 h2 with rfl|h2;exact hc.sc _;rw[Vi h2];exact VJ fa
end
theorem qk6{cc:Nm->CC}(hc:∀ n,oE (cc n)):∀ (fs:List Pb) (n:Nat),(∀ f∈fs,∀ m,Zf (lk (cc f.name) m f).1)->Zf (Oc cc n fs).1
 |[],n,_=>by rw[Oc];exact ap
 |f::l,n,h=>by rw[Oc];exact Oj.2 ⟨h f We n,qk6 hc l _ λg hg=>h g (Pc _ hg)⟩
section
variable{P:Pr}{o:xk}
theorem cQ:∀ (l:List (Nm×Int)) (a:Int),0<=a->(∀ p∈l,0<=p.2)->∀ n,0<=qj a l n
 |[],a,_,_,n=>by simp[qj]
 |(x,k)::l,a,h,hl,n=>by rw[qj];split;exact h;have:0<=k:=hl (x,k) We;exact cQ l _ ga (λp hp=>hl p (Pc _ hp)) n
theorem qpX(hF:Ow P o)(own:Nm):oE (dq P.vars (sf P) P.funcs o own):=by have s0:=hF.s0;refine⟨λn=>?_,λn=>?_,?_,?_,?_⟩;refine fN ?_;unfold px;split <;> omega;refine fN (cQ _ _ hF.a0 (λp hp=>?_) n);obtain⟨a,_,rfl⟩:=Qh hp;exact Int.natCast_nonneg _;exact fN s0;exact fN (z:=o.scalars+1) ga;exact fN (z:=o.scalars+2) ga
theorem bZ(hc:Vp P=0)(Be:zr P.vars (sf P) P.funcs o=true):Zf (Ug P o):=by have hv:=yH hc;have hF:=JD Be;have cm:=Nv _ _ hv.names;have Un:∀ f∈P.funcs,vq f.name:=λf hf=>qwA (cm.2 _ (Ip (.inr (qk ⟨f,hf,rfl⟩)))).2;have h1:Zf ([[38,102,95,109,97,105,110],[58],itoa o.scalars,[33],[36]]:List Wd):=Yj.2 ⟨PX fa,Yj.2 ⟨PX fa,Yj.2 ⟨fN hF.s0,Qu fa⟩⟩⟩;refine Oj.2 ⟨h1,qk6 (λn=>qpX hF n) P.funcs 0 λf hf m=>?_⟩;obtain⟨kn,k1,k2⟩:=hv.Gw f hf;refine qtV (qpX hF f.name) (λk hk=>?_) f m (Un f hf) k1;obtain⟨g,g1,g2,_⟩:=k2 k hk;rw[<-g2];exact Un g g1
theorem yP{t:Wd}(ec:∀ f∈P.funcs,cj f.body)(h:pk P.vars (sf P) P.funcs o=.ok t) :
  Vp P=0/\zr P.vars (sf P) P.funcs o=true/\t=join (Ug P o) [32]/\Nj t=Ug P o/\Gh t o.code=.ok (ll (iH P o) (Ug P o),Lp (λ_=>0) o.code.toNat (Ug P o))/\Zd (Hi P o)/\o.code.toNat+(ll (iH P o) (Ug P o)).length<=262144:=by
 unfold pk at h;split at h;cases h;rename_i h1;split at h;cases h;rename_i h2;have hc:Vp P=0:=by have:=Classical.not_not.1 h1;exact this
 have Be:zr P.vars (sf P) P.funcs o=true:=by simpa using h2
 have Ge:=bZ hc Be;have hw:Nj (join (Ug P o) [32])=Ug P o:=pV Ge;split at h;cases h;rename_i x hx;injection h with h;have hx:Gh (join (Ug P o) [32]) o.code=.ok x:=hx;have ht:t=join (Ug P o) [32]:=h.symm;rw[ht];have ZH:=hx;unfold Gh at hx;rw[hw] at hx;split at hx;cases hx;split at hx;cases hx;rename_i h4;split at hx;cases hx;rename_i h5;injection hx with hx;have hA:Et (Ug P o):=by have:=PT (src:=join (Ug P o) [32]) (by rw[hw];exact Classical.not_not.1 h4);rwa [hw] at this
 have na:(ll (iH P o) (Ug P o)).length<=40000:=Nat.le_of_not_lt h5;have hF:=JD Be;refine⟨hc,Be,rfl,hw,by rw[ZH,<-hx];try rfl,qzi hc ec Be hA (λw hw=>(Ge w hw).1) na,?_⟩;have:=hF.c1;omega
end
structure PG(c:CC):Prop where
 sc:∀ n,(c.sc n).length<=10
 ar:∀ n,(c.ar n).length<=10
 t0:c.t0.length<=10
 t1:c.t1.length<=10
 t2:c.t2.length<=10
def pr(l:List (List Wd)):Nat:=(l.map Ef).sum
theorem QU(a:List Wd)(l:List (List Wd)):pr (a::l)=Ef a+pr l:=by simp[pr]
theorem qwg(l:List (List Wd)):Ef (l.headD [])+Ef ((l.drop 1).headD [])<=pr l:=by
 cases l with
 |nil=>simp[Ef,pr]
 |cons a r=>
  rw[QU];cases r with
  |nil=>simp[Ef,pr]
  |cons b r=>rw[QU];simp only[List.headD_cons,List.drop_one,List.tail_cons];omega
theorem qqt:∀ l:List (List Wd),Ef l.flatten=pr l
 |[]=>rfl
 |a::l=>by rw[List.flatten_cons,Vl,qqt l,QU]
theorem Iv{p:Prop} [Decidable p]{a b:List Wd}(h1:p->Ef a<=n)(h2:¬ p->Ef b<=n):Ef (if p then a else b)<=n:=by by_cases h:p;rw[zp h];exact h1 h;rw[zn h];exact h2 h
theorem qzq{op:Nm}(h:op∈Fv):op.length<=2:=by
 have:∀ o∈Fv,o.length<=2:=by decide
 exact this op h
theorem qy7(hc:PG c){op:Nm}{num:Nat}{l:List (List Wd)}(hn:num<4294967296)(Xc:fg op ≠ -2)(PC:op=eg->name.length<=24):Ef (Iq c op num name l)<=60+pr l:=by
 have hh:=qwg l;have hf:=qqt l;have hd:=rM hn;have h0:=hc.t0;have h1:=hc.t1;have h2:=hc.t2;have hs:=hc.sc name;have ha:=hc.ar name;have Jl:¬ (op=tf)->¬ (op=Uf)->¬ (op=Bj)->¬ (op=eg)->¬ (op=Ag)->¬ (op=jg)->op.length<=2:=by intro a1 a2 a3 a4 a5 a6;unfold fg at Xc;rw[zn (by simp[a1,a2]),zn (by simp[a3,a5,a6]),zn a4] at Xc;split at Xc;rename_i h;exact qzq h;exact absurd rfl Xc
 have hg:Ef (Xl c)<=54:=by unfold Xl;simp only[Zj,ml,La,oc];omega
 unfold Iq;refine Iv (λn1=>?_) λn1=>Iv (λn2=>?_) λn2=>Iv (λn3=>?_) λn3=>Iv (λn4=>?_) λn4=>Iv (λn5=>?_) λn5=>Iv (λn6=>?_) λn6=>Iv (λn7=>?_) λn7=>Iv (λn8=>?_) λn8=>Iv (λn9=>?_) λn9=>?_;simp only[Zj,ml];omega;simp only[Zj,ml,La,oc];omega;simp only[Zj,Vl,ml,La,oc];omega;have Nq:=PC n4;rw[Vl,hf]
 have:Ef (if name=[105,110] then ([[44]]:List Wd) else if name=[111,117,116] then [[46],[48]] else [[38,102,95]++name,[58]])<=60:=Iv (λ_=>by decide) λ_=>Iv (λ_=>by decide) λ_=>by simp only[Zj,ml,Ga,La,oc];omega
 omega;simp only[Zj,Vl,ml,La,oc];omega;simp only[Zj,Vl,ml,La,oc];omega;simp only[Zj,Vl,ml,La,oc];omega;simp only[Zj,Vl,ml,La,oc];omega;simp only[Zj,Vl,ml,La,oc];omega;have hb:=Jl n1 n2 n3 n4 n5 n6;rw[Vl,Vl];have:Ef (if op=[62] then Xl c else if op=[60,61] then Xl c++[[49],[94]] else if op=[62,61] then ([[60],[49],[94]]:List Wd) else if op=[61,61] then [[94],[49],[60]] else [op])<=60:=Iv (λ_=>by omega) λ_=>Iv (λ_=>by
  simp only[Zj,Vl,ml,La,oc];omega) λ_=>Iv (λ_=>by decide) λ_=>Iv (λ_=>by decide) λ_=>by
  simp only[Zj,ml];omega
 omega
mutual
theorem S9{c:CC}(hc:PG c){env:Bb}(Vc:∀ k∈env.funcs,k.name.length<=24):∀ e,Ji e->yf env e=0->Ef (Mb c e)<=60 * xl e
 |.mk op num name args,hn,h=>by
  rw[yf] at h;rw[Ji] at hn;rw[xl];split at h;rename_i ho;obtain⟨h1,h3⟩:=Rc.1 h;rw[Mb];have:=qqP hc Vc args hn.2 h1;have h5:=qy7 hc (op:=op) (name:=name) (num:=num) (l:=Hb c args) hn.1 ga λGe=>?_;omega;subst Ge;unfold Ay at h3;rw[zn fa,zn fa,zp rfl] at h3;unfold Lc at h3;split at h3
  rename_i e;rw[e];decide;split at h3;rename_i e;rw[e];decide;unfold Bb.fn at h3;cases hf:env.funcs.find? λf=>decide (f.name=name) with
  |none=>rw[hf] at h3;simp only at h3;split at h3 <;> cases h3
  |some k=>have e:k.name=name:=ag (List.find?_some (p:=λg:fe=>decide (g.name=name)) hf);rw[<-e];exact Vc k (mem_of_find?_eq_some hf)
  cases h
theorem qqP{c:CC}(hc:PG c){env:Bb}(Vc:∀ k∈env.funcs,k.name.length<=24):∀ l,Ck l->ig env l=0->pr (Hb c l)<=60 * Sb l
 |[],_,h=>by rw[Hb];exact zero_le _
 |x::l,hn,h=>by rw[ig] at h;rw[Ck] at hn;obtain⟨h1,h2⟩:=Rc.1 h;have a1:=S9 hc Vc x hn.1 h1;have a2:=qqP hc Vc l hn.2 h2;rw[Hb,QU,Sb];omega
end
theorem qqA(hc:PG c){env:Bb}(Vc:∀ k∈env.funcs,k.name.length<=24){l:List Ex}(h1:l.length=1)(hn:Ck l)(h:ig env l=0):Ef (Mb c (l.headD default))<=60 * Sb l:=by obtain⟨x,rfl⟩:=gv h1;rw[ig] at h;rw[Ck] at hn;have:=S9 hc Vc x hn.1 (Rc.1 h).1;rw[Sb];simp only[List.headD_cons];omega
theorem vM(h:n<=4000000000):(za n).length<=11:=by have:=rM (u:=n) ga;simp only[za,La];omega
mutual
theorem qx7{c:CC}(hc:PG c){env:Bb}(Vc:∀ k∈env.funcs,k.name.length<=24):∀ (s:Sm) (n:Nat),ep s->Pk env s=0->n+2 * Yp s<=4000000000->Ef (vg c n s).1<=60 * Yp s/\(vg c n s).2<=n+2 * Yp s
 |.mk kind name index value Ua Cb,n,sz,h,hN=>by
  rw[Pk] at h;rw[ep] at sz;rw[Yp] at hN ⊢;obtain⟨m1,m2,m3,m4⟩:=sz;by_cases hf:Jh (.mk kind name index value Ua Cb)=false;rw[zp hf] at h;cases h;rw[zn hf] at h;obtain⟨h1,h⟩:=Rc.1 h;obtain⟨h2,h⟩:=Rc.1 h;obtain⟨h3,h⟩:=Rc.1 h;obtain⟨h4,h5⟩:=Rc.1 h;rw[Bool.not_eq_false] at hf;unfold Jh at hf;have hv:kind=1∨kind=2∨kind=3∨kind=4∨kind=5∨kind=6->Ef (Mb c (value.headD default))<=60 * Sb value:=λhk=>qqA hc Vc (by
   rcases hk with rfl|rfl|rfl|rfl|rfl|rfl <;> simp at hf <;> simp[hf]) m2 h1
  have ht:=λn hn=>DU hc Vc Ua n m3 h4 hn;have he:=λn hn=>DU hc Vc Cb n m4 h5 hn;have l0:=vM (n:=n) ga;have l1:=vM (n:=n+1) ga;have t0:=hc.t0;have ts:=hc.sc name;have ta:=hc.ar name;unfold vg
  by_cases k1:kind=1;have:=hv (by simp[k1]);rw[zp k1];simp only[Zj,Vl,ml,La,oc];omega;rw[zn k1];by_cases k2:kind=2;have:=hv (by simp[k2]);have hi:Ef (Mb c (index.headD default))<=60 * Sb index:=by refine qqA hc Vc ?_ m1 h2;subst k2;simp at hf;simp[hf]
  rw[zp k2];simp only[Zj,Vl,ml,La,oc];omega;rw[zn k2];by_cases k3:kind=3;rw[zp k3];have h8:=hv (by simp[k3]);cases Cb with
  |nil=>have h9:=ht (n+1) ga;simp only[Zj,Vl,ml,La,oc,Ga];omega
  |cons a r=>have h9:=ht (n+2) ga;have Yx:=he (Pa c (n+2) Ua).2 ga;simp only[Zj,Vl,ml,La,oc,Ga];omega
  rw[zn k3];by_cases k4:kind=4;rw[zp k4];have h8:=hv (by simp[k4]);have h9:=ht (n+2) ga;simp only[Zj,Vl,ml,La,oc,Ga];omega;rw[zn k4];by_cases k5:kind=5;have:=hv (by simp[k5]);rw[zp k5];simp only[Zj,Vl,ml,La,oc];omega;rw[zn k5];by_cases k6:kind=6;have:=hv (by simp[k6]);rw[zp k6];simp only[Zj,Vl,ml,La,oc];omega;rw[zn k6];by_cases k7:kind=7;rw[zp k7];simp only[Zj,ml,La,oc];omega;rw[zn k7];simp only[ml];omega
theorem DU{c:CC}(hc:PG c){env:Bb}(Vc:∀ k∈env.funcs,k.name.length<=24):∀ (l:List Sm) (n:Nat),cj l->Th env l=0->n+2 * Ld l<=4000000000->Ef (Pa c n l).1<=60 * Ld l/\(Pa c n l).2<=n+2 * Ld l
 |[],n,_,h,_=>by rw[Pa];simp[ml]
 |s::l,n,sz,h,hN=>by rw[Th] at h;rw[cj] at sz;rw[Ld] at hN ⊢;obtain⟨h1,h2⟩:=Rc.1 h;have a1:=qx7 hc Vc s n sz.1 h1 ga;have a2:=DU hc Vc l (vg c n s).2 sz.2 h2 ga;rw[Pa];simp only[Vl];omega
end
theorem qnL{c:CC}(hc:PG c):∀ l:List Nm,Ef (l.flatMap λp=>[c.sc p,[33]])<=20 * l.length
 |[]=>Jb _
 |p::l=>by have:=qnL hc l;have:=hc.sc p;rw[List.flatMap_cons,Vl];simp only[Zj,ml,La,oc];omega
theorem qxG(hc:PG c){env:Bb}(Vc:∀ k∈env.funcs,k.name.length<=24)(f:Pb)(n:Nat)(Oq:f.name.length<=24)(sz:cj f.body)(h:Th env f.body=0)(hN:n+2 * Jq f<=4000000000):Ef (lk c n f).1<=60 * Jq f/\(lk c n f).2<=n+2 * Jq f:=by unfold Jq at hN ⊢;have h1:=DU hc Vc f.body n sz h ga;have h2:=qnL hc f.params.reverse;rw[List.length_reverse] at h2;unfold lk;simp only[Zj,Vl,ml,La,oc,Ga];omega
theorem qpY{cc:Nm->CC}:∀ (fs:List Pb) (n:Nat),(∀ f∈fs,∀ m,m+2 * Jq f<=4000000000->Ef (lk (cc f.name) m f).1<=60 * Jq f/\(lk (cc f.name) m f).2<=m+2 * Jq f)->n+2 * je fs<=4000000000->Ef (Oc cc n fs).1<=60 * je fs/\(Oc cc n fs).2<=n+2 * je fs
 |[],n,_,_=>by rw[Oc];simp[ml]
 |f::l,n,h,hN=>by rw[je] at hN ⊢;have a1:=h f We n ga;have a2:=qpY l (lk (cc f.name) n f).2 (λg hg=>h g (Pc _ hg)) ga;rw[Oc];simp only[Vl];omega
section
variable{P:Pr}{o:xk}
theorem OM(h:0<=z)(h2:z<4294967296):(itoa z).length<=10:=by rw[Jv h];exact rM ga
theorem uM:∀ (l:List (Nm×Int)) (a:Int),0<=a->(∀ p∈l,0<=p.2)->∀ n,qj a l n<=a+(l.map (·.2)).sum
 |[],a,h,_,n=>by simp[qj];exact h
 |(x,k)::l,a,h,hl,n=>by
  have hk:0<=k:=hl (x,k) We;have Rx:=λp hp=>hl p (Pc (x,k) hp)
  have hs:∀ m:List (Nm×Int),(∀ p∈m,0<=p.2)->0<=(m.map (·.2)).sum:=by
   intro m;induction m with
   |nil=>intro _;simp
   |cons q m ih=>intro hm;have h1:=hm q We;have h2:=ih λp hp=>hm p (Pc _ hp);rw[jd,sum_cons];omega
  have ou:=hs l Rx;rw[qj,jd,sum_cons];split;show a<=a+(k+_);omega;have:=uM l (a+k) ga Rx n;show _<=a+(k+_);omega
theorem qwx(hF:Ow P o)(own:Nm):PG (dq P.vars (sf P) P.funcs o own):=by
 have s0:=hF.s0;have s1:=hF.s1;have a0:=hF.a0;have a1:=hF.a1;have hp:∀ p∈sf P,0<=p.2:=λp hp=>by obtain⟨a,_,rfl⟩:=Qh hp;exact Int.natCast_nonneg _
 refine⟨λn=>?_,λn=>?_,?_,?_,?_⟩;refine OM ?_ ?_;unfold px;split <;> omega;unfold px;split
 rename_i h;have:=List.idxOf_lt_length_of_mem h;omega;omega;refine OM (cQ _ _ a0 hp n) ?_;have h1:=uM (sf P) o.ba a0 hp n;have h2:((sf P).map (·.2)).sum=((Uj P.ba:Nat):Int):=QP P.ba;rw[h2] at h1;omega;exact OM s0 ga;exact OM (z:=o.scalars+1) ga ga;exact OM (z:=o.scalars+2) ga ga
theorem lY(hc:Vp P=0)(ec:∀ f∈P.funcs,cj f.body)(Be:zr P.vars (sf P) P.funcs o=true)(rh:je P.funcs<=2000000):Ef (Ug P o)<=60+60 * je P.funcs/\(Oc (dq P.vars (sf P) P.funcs o) 0 P.funcs).2<=2 * je P.funcs:=by
 have hv:=yH hc;have hF:=JD Be;have cm:=Nv _ _ hv.names;have Un:∀ f∈P.funcs,f.name.length<=24:=λf hf=>by have h:=(cm.2 _ (Ip (.inr (qk ⟨f,hf,rfl⟩)))).2;unfold cf at h;rw[sd,sd,Gg] at h;exact h.1.1
 have hb:=qpY (cc:=dq P.vars (sf P) P.funcs o) P.funcs 0 (λf hf m hm=>by
  obtain⟨kn,k1,k2⟩:=hv.Gw f hf;refine qxG (qwx hF f.name) (λk hk=>?_) f m (Un f hf) (ec f hf) k1 hm;obtain⟨g,g1,g2,_⟩:=k2 k hk;rw[<-g2];exact Un g g1) ga
 have ht:=OM (z:=o.scalars) hF.s0 (by have:=hF.s1;omega);refine⟨?_,by omega⟩;unfold Ug EB;rw[Vl];simp only[Zj,ml,La,oc];omega
end
def pi(vars:List Nm)(ba:List (Nm×Int))(fs:List Pb):Pr:=⟨vars,ba.map λa=>⟨a.1,a.2.toNat⟩,fs⟩
theorem qum{ba:List (Nm×Int)}(h:∀ a∈ba,0<=a.2):sf (pi vars ba fs)=ba:=by
 unfold sf pi;simp only[map_map]
 conv=>rhs;rw[<-List.map_id ba]
 refine List.map_congr_left λa ha=>?_;have:=h a ha;simp only[Function.comp,id];rw[Int.toNat_of_nonneg this]
theorem qn8:∀ (l:List Int) (t:Int),0<=t->t<=150000->eF t l=0->t+l.sum<=150000/\∀ n∈l,0<n
 |[],t,h0,h1,_=>by rw[List.sum_nil];exact⟨by omega,λn hn=>(not_mem_nil hn).elim⟩
 |a::l,t,h0,h1,h=>by rw[eF] at h;split at h;cases h;split at h;cases h;obtain⟨g1,g2⟩:=qn8 l (t+a) ga ga h;rw[sum_cons];refine⟨by omega,λn hn=>?_⟩;rcases zc.1 hn with rfl|hn;omega;exact g2 n hn
theorem qoN{ba:List (Nm×Int)}(h:Jr vars ba fs=0):(ba.map (·.2)).sum<=150000/\(∀ a∈ba,0<a.2)/\sf (pi vars ba fs)=ba/\Vp (pi vars ba fs)=0/\Valid (pi vars ba fs):=by
 have h0:=h;unfold Jr at h;obtain⟨h1,h⟩:=Rc.1 h;obtain⟨h2,h⟩:=Rc.1 h;obtain⟨s1,s2⟩:=qn8 _ 0 fa fa h2;have hp:∀ a∈ba,0<a.2:=λa ha=>s2 a.2 (List.mem_map_of_mem ha);have ha:=qum (vars:=vars) (fs:=fs) λa ha=>Int.le_of_lt (hp a ha)
 have hc:Vp (pi vars ba fs)=0:=by have:(pi vars ba fs).ba.map (λa=>(a.name,(a.size:Int)))=ba:=ha;unfold Vp;rw[this];exact h0
 exact⟨by omega,hp,ha,hc,yH hc⟩
def ug:Int->List (Nm×Int)->List (Nm×Int)
 |_,[]=>[]
 |a,(x,n)::r=>(x,a)::ug (a+n) r
theorem qlH:∀ (l:List (Nm×Int)) (a:Int),(ug a l).map (·.1)=l.map (·.1)
 |[],_=>rfl
 |(x,n)::r,a=>by rw[ug,jd,jd,qlH r]
theorem zY:∀ (l:List (Nm×Int)) (a:Int),(ug a l).length=l.length
 |[],_=>rfl
 |(x,n)::r,a=>by rw[ug,La,La,zY r]
theorem qqs:∀ (l m:List (Nm×Int)) (a:Int),ug a (l++m)=ug a l++ug (a+(l.map (·.2)).sum) m
 |[],m,a=>by simp[ug]
 |(x,n)::r,m,a=>by rw[cons_append,ug,qqs r m,ug,cons_append,jd,sum_cons,Int.add_assoc]
def jH(r:Int×Int):Bool:=qH r.1 r.2
def DJ(r s:Int×Int):Bool:=gH r.1 r.2 s.1 s.2
def aD:List (Int×Int)->List (Int×Int)->Bool
 |_,[]=>true
 |prev,r::da=>jH r && (prev.all λs=>!DJ r s) && aD (prev++[r]) da
theorem qyu(vars:List Nm)(ba:List (Nm×Int))(fs:List Pb)(o:xk):zr vars ba fs o=aD [] [(o.scalars,3+((Vd vars fs).length:Nat)),(o.code,40000),(o.ba,(ba.map (·.2)).sum)]:=by unfold zr aD aD aD aD jH DJ;simp only[List.all_nil,nil_append,all_cons,List.singleton_append,cons_append,Bool.and_true];generalize qH o.scalars _=a;generalize qH o.code 40000=b;generalize qH o.ba _=c;generalize gH o.code 40000 o.scalars _=d;generalize gH o.ba _ o.scalars _=e;generalize gH o.ba _ o.code 40000=f;revert a b c d e f;decide
section
variable{P:Pr}{o o':xk}{t t' x x':Wd}{ub VH:List (Wd×Nat)}
end
theorem qox{known:Wd->Nat}{w:Wd}(h:Ko ds w)(hd:ya w=none):∀ c∈af known w,cA.contains c=true:=by
 unfold Ko at h;rw[hd] at h;unfold af;cases hr:Va w with
 |some x=>intro c hc;exact qlg ((oQ (known x)).2 c hc)
 |none=>rw[hr] at h;simp only at h;exact λc hc=>List.all_eq_true.1 h c hc
theorem qkt{ds:List Wd}{known:Wd->Nat}:∀ (l:List Wd) (t:Wd),(∀ w∈l,Ko ds w)->(∀ c∈t,cA.contains c=true∨c=32)->∀ c∈l.foldl (ze known) t,cA.contains c=true∨c=32
 |[],t,_,h=>h
 |w::l,t,hw,h=>by
  rw[foldl_cons];refine qkt l _ (λx hx=>hw x (Pc _ hx)) λc hc=>?_;unfold ze at hc
  cases hd:ya w with
  |some y=>rw[hd] at hc;exact h c hc
  |none=>rw[hd] at hc;simp only at hc;rcases xj hc with hc|hc;rcases xj hc with hc|hc;exact h c hc;split at hc;exact .inr (Vi hc);exact(not_mem_nil hc).elim;exact .inl (qox (hw w We) hd c hc)
theorem qmY{x:Wd}{og:Int}{ub:List (Wd×Nat)}(h:Gh src og=.ok (x,ub)):x.length<=40000/\(Ib (Nj src)).Nodup/\∀ c∈x,cA.contains c=true∨c=32:=by unfold Gh at h;split at h;cases h;split at h;cases h;rename_i h1;split at h;cases h;rename_i h2;injection h with h;injection h with h _;have hA:=PT (Classical.not_not.1 h1);refine⟨by rw[<-h];exact Nat.le_of_not_lt h2,hA.1,?_⟩;rw[<-h];exact qkt _ _ hA.2 λc hc=>(not_mem_nil hc).elim
theorem MU(all:List Wd):∀ (l:List (Wd×Nat)) (met:List Wd),(Qe all met l).2=0∨(Qe all met l).2=8∨(Qe all met l).2=7∨(Qe all met l).2=3
 |[],met=>.inl rfl
 |(w,ln)::r,met=>by
  rw[Qe];cases hd:ya w with
  |some x=>simp only;split;exact .inr (.inl rfl);exact MU all r _
  |none=>
   simp only;cases hr:Va w with
   |some x=>simp only;split;exact MU all r _;exact .inr (.inr (.inl rfl))
   |none=>simp only;split;exact MU all r _;exact .inr (.inr (.inr rfl))
theorem qvD{og:Int}(h:0<=og/\og<262144){e:Nat×Nat}(he:Gh src og=.error e):e.2=8∨e.2=7∨e.2=3∨e.2=6:=by unfold Gh at he;split at he;omega;split at he;rename_i h1;injection he with he;rw[<-he];rcases MU (Ib (Nj src)) (Ku src) [] with h2|h2|h2|h2;exact absurd h2 h1;exact .inl h2;exact .inr (.inl h2);exact .inr (.inr (.inl h2));split at he;injection he with he;rw[<-he];exact .inr (.inr (.inr rfl));cases he
section
variable{vars:List Nm}{ba:List (Nm×Int)}{fs:List Pb}{o:xk}
end
section
variable{W:List Wd}{ok:Nat->Bool}{w x:Wd}{r:List Wd}
end
theorem qvd{op:Wd}(h:Yo a op b=some n):∃ c:UInt8,op=[c]/\jc c/\ud c.toNat a b=some n:=by unfold Yo at h;unfold jc;split at h;rename_i e;exact⟨43,e,by decide,h⟩;split at h;rename_i e;exact⟨45,e,by decide,h⟩;split at h;rename_i e;exact⟨42,e,by decide,h⟩;split at h;rename_i e;exact⟨94,e,by decide,h⟩;split at h;rename_i e;refine⟨60,e,by decide,?_⟩;rw[<-h];unfold ud;simp;split at h;rename_i e;exact⟨47,e,by decide,h⟩;split at h;rename_i e;exact⟨37,e,by decide,h⟩;cases h
section
variable{W W':List Wd}{ok ok':Nat->Bool}{r q:List Wd}
theorem qoO{c:UInt8}(hc:c=43∨c=42∨c=94)(a x y:Nat):∃ u z,ud c.toNat a x=some u/\ud c.toNat x y=some z/\ud c.toNat u y=ud c.toNat a z:=by rcases hc with rfl|rfl|rfl;refine⟨_,_,rfl,rfl,?_⟩;unfold ud;simp[Nat.add_assoc];refine⟨_,_,rfl,rfl,?_⟩;unfold ud;simp[Nat.mul_assoc];refine⟨_,_,rfl,rfl,?_⟩;unfold ud;simp[Nat.xor_assoc]
end
open Go.Lib (decDigits)
theorem PW.JS{C:PW}{s:MS}{i:Nat}(hk:C.Ok s.mem)(h:C.At s i)(hw:C.W[i]? = some w)(hd:ya w=none)(Fb:af C.known w≠[])(hg:∀ c∈af C.known w,me c=true)(hv:Qg 0 (af C.known w)<4294967296)(Xa:s.data.length<256) :
  (C.od i<=C.od (i+1)/\Hh (C.od (i+1)-C.od i) s { s with pc:=C.od (i+1),data:=Qg 0 (af C.known w)::s.data,digit:=true })/\Jf (C.pre (i+1))=true:=by
 obtain⟨h1,h2,h3⟩:=C.piece hk hw hd;have hf:Wl (af C.known w)=true:=by
  cases hp:af C.known w with
  |nil=>exact absurd hp Fb
  |cons c r=>exact hg c (by rw[hp];simp)
 have hl:Jf (C.pre (i+1))=true:=by rw[h1,dZ Fb];unfold Jf;rw[List.getLast?_eq_some_getLast Fb];exact hg _ (List.getLast_mem Fb)
 refine⟨?_,hl⟩;obtain⟨oq,bq⟩:=h;have Jm:C.od (i+1)=C.od i+(if Jf (C.pre i) && Wl (af C.known w) then [32] else []:Wd).length+(af C.known w).length:=by unfold PW.od;rw[h1,Ga,Ga];omega
 rw[hf,Bool.and_true] at h2 Jm;refine⟨by omega,?_⟩;by_cases Bo:Jf (C.pre i)=true
 ·rw[zp Bo] at h2 Jm;obtain⟨m1,m2⟩:=h2.app;have m0:=m1 0 (by simp);simp only[Nat.add_zero,List.getElem_cons_zero] at m0;simp only[La,oc] at Jm m2
  have Kk:gb s=.run { s with pc:=s.pc+1,digit:=false }:=by unfold gb;rw[zp (by rw[oq];omega),oq,m0];unfold Ud;rw[zn fa,zp fa];try rfl
  have Rq:=qqQ (s:={ s with pc:=s.pc+1,digit:=false }) Fb hg rfl Xa (by simp only;rw[oq];exact m2) (by simp only;rw[oq];omega) hv;have:=(Hh.one Kk).trans Rq;simp only at this;rw[show C.od (i+1)-C.od i=1+(af C.known w).length by omega,Jm,<-oq];exact this
 rw[zn Bo] at h2 Jm;rw[nil_append] at h2;have hdf:s.digit=false:=by
  cases hx:s.digit with
  |false=>rfl
  |true=>exact absurd (bq hx) Bo
 have Rq:=qqQ (s:=s) Fb hg hdf Xa (by rw[oq];exact h2) (by rw[oq];simp only[oc] at Jm;omega) hv;simp only[oc,Nat.add_zero] at Jm;rw[show C.od (i+1)-C.od i=(af C.known w).length by omega,Jm,<-oq];exact Rq
theorem PW.WA{C:PW}{mem:Nat->Nat}{i:Nat}{c:UInt8}(hk:C.Ok mem)(hw:C.W[i]? = some [c])(hd:ya [c]=none)(hr:Va [c]=none)(hc:me c=false):C.od (i+1)=C.od i+1:=by
 obtain⟨h1,h2,h3⟩:=C.piece hk hw hd;have hp:af C.known [c]=[c]:=by unfold af;rw[hr]
 have hf:Wl [c]=false:=hc;rw[hp,hf,Bool.and_false,zn fa,de] at h1;unfold PW.od;rw[h1,Ga];try rfl
end Go.ia
namespace Go.ia.Wi
open Go.Lib
variable{a b i n v:Nat}{c:UInt8}{r:List Wd}{w x:Wd}
structure PW where
 W:List Wd
 D:Nat->Bool
structure MS where
 mem:Nat->Nat
 pc:List Wd
 data:List Nat
 calls:List (List Wd)
 Ia:List Nat
 out:Wd
 digit:Bool
variable{s s':MS}
inductive MR where
 |run (s:MS)
 |stop (e:Nat) (out:Wd)
def sk(x:Wd):List Wd->Option (List Wd)
 |[]=>none
 |w::r=>if ya w=some x then some r else sk x r
def lost(s:MS):MR:=.stop 99 s.out
def ym(s:MS)(r:List Wd)(d:List Nat)(n:Nat)(f:Bool):MR:=if d.length<256 then .run { s with pc:=r,data:=n::d,digit:=f } else lost s
def uJ(D:Nat->Bool)(s:MS)(r:List Wd):MR:=match s.data with
 |a::d=>if D a=true then ym s r d (s.mem a) false else lost s
 |[]=>lost s
def FJ(D:Nat->Bool)(s:MS)(r:List Wd):MR:=match s.data with
 |a::x::d=>if D a=true then .run { s with pc:=r,data:=d,mem:=λi=>if i=a then x else s.mem i,digit:=false } else lost s
 |_=>lost s
def YG(s:MS):MR:=match s.calls with
 |k::l=>.run { s with pc:=k,calls:=l,digit:=false }
 |[]=>lost s
def nP(s:MS)(r:List Wd):MR:=match s.data with
 |x::d=>.run { s with pc:=r,data:=d,out:=s.out++[UInt8.ofNat x],digit:=false }
 |[]=>lost s
def Qk(s:MS)(c:UInt8)(r:List Wd):MR:=match s.data with
 |b::a::d=>(match ud c.toNat a b with
  |some x=>ym s r d x false
  |none=>.stop 12 s.out)
 |_=>lost s
def Ou(D:Nat->Bool)(s:MS)(c:UInt8)(r:List Wd):MR:=
 if c=64 then uJ D s r
 else if c=33 then FJ D s r
 else if c=59 then YG s
 else if c=44 then ym { s with Ia:=s.Ia.tail } r s.data (s.Ia.headD 4294967295) false
 else if c=46 then nP s r
 else if c=36 then .stop 0 s.out
 else if c=43∨c=45∨c=42∨c=47∨c=37∨c=94∨c=60 then Qk s c r
 else lost s
def XG(s:MS)(k r:List Wd):MR:=match s.data with
 |a::d=>.run { s with pc:=if a=0 then k else r,data:=d,digit:=false }
 |[]=>lost s
def Iy(C:PW)(s:MS)(x:Wd)(r:List Wd):MR:=match sk x C.W,r with
 |some k,o::r=>if s.data.length<256 then (if o=[63] then XG s k r else if o=[58] then (if s.calls.length<64 then .run { s with pc:=k,calls:=r::s.calls,digit:=false } else lost s) else lost s) else lost s
 |_,_=>lost s
def Ny(C:PW)(s:MS)(w:Wd)(r:List Wd):MR:=match ya w with
 |some _=>.run { s with pc:=r }
 |none=>match Eb w with
  |some n=>ym s r s.data n true
  |none=>match Va w with
   |some x=>Iy C s x r
   |none=>match w with
    |[c]=>Ou C.D s c r
    |_=>lost s
def gb(C:PW)(s:MS):MR:=match s.pc with
 |[]=>lost s
 |w::r=>Ny C s w r
def aB(f:Bool)(w:Wd):Nat:=if (ya w).isSome=true then 0 else if (Eb w).isSome=true then w.length+one f else if (Va w).isSome=true then 7+one f else 1
def Bi(s:MS):Nat:=aB s.digit (s.pc.headD [])
inductive Hh (C:PW):Nat->MS->MS->Prop
 |zero (s:MS):Hh C 0 s s
 |step {k:Nat} {s s' s2:MS}:gb C s=.run s'->Hh C k s' s2->Hh C (Bi s+k) s s2
section
variable{C:PW}
theorem Hh.one(h:gb C s=.run s'):Hh C (Bi s) s s':=.step h (.zero _)
theorem Hh.trans{s2:MS}(h:Hh C a s s')(k:Hh C b s' s2):Hh C (a+b) s s2:=by
 induction h with
 |zero s=>rw[zero_add];exact k
 |step h1 _ ih=>rw[Nat.add_assoc];exact .step h1 (ih k)
def Gf(C:PW)(m:Nat)(s s':MS):Prop:=∃ k,k<=m/\Hh C k s s'
theorem Gf.refl(s:MS):Gf C 0 s s:=⟨0,Jb _,.zero _⟩
theorem Gf.trans{a b:Nat}{s s' s2:MS}(h:Gf C a s s')(k:Gf C b s' s2):Gf C (a+b) s s2:=by obtain⟨i,h1,h2⟩:=h;obtain⟨j,k1,k2⟩:=k;exact⟨i+j,by omega,h2.trans k2⟩
theorem Gf.mono(h:Gf C a s s')(yz:a<=b):Gf C b s s':=by obtain⟨i,h1,h2⟩:=h;exact⟨i,by omega,h2⟩
def PW.od(C:PW)(i:Nat):List Wd:=C.W.drop i
def PW.At(C:PW)(s:MS)(i:Nat):Prop:=∃ ds,s.pc=ds++C.od i/\∀ w∈ds,(ya w).isSome=true
def PW.Ok(C:PW)(mem:Nat->Nat):Prop:=True
def PW.Code(C:PW)(i:Nat)(ws:List Wd):Prop:=∀ k (h:k<ws.length),C.W[i+k]? = some ws[k]
theorem PW.Code.app{a b:List Wd}(h:C.Code i (a++b)):C.Code i a/\C.Code (i+a.length) b:=by constructor;intro k hk;have:=h k (by rw[Ga];omega);rwa [List.getElem_append_left hk] at this;intro k hk;have:=h (a.length+k) (by rw[Ga];omega);rw[List.getElem_append_right (by omega)] at this;rw[Nat.add_assoc];simpa using this
theorem PW.Code.cons{b:List Wd}(h:C.Code i (w::b)):C.W[i]? = some w/\C.Code (i+1) b:=by have h1:=PW.Code.app (a:=[w]) (b:=b) h;have h2:=h1.1 0 (by simp);exact⟨by simpa using h2,h1.2⟩
def PW.put(C:PW)(s:MS)(i:Nat)(d:List Nat):MS:={ s with pc:=C.od i,data:=d,digit:=false }
theorem PW.CB(C:PW)(s:MS)(i:Nat)(d:List Nat):C.At (C.put s i d) i:=⟨[],rfl,λw hw=>by cases hw⟩
theorem PW.wh(h:s.pc=C.od i):C.At s i:=⟨[],h,λw hw=>by cases hw⟩
theorem EU(hw:C.W[i]? = some w):C.od i=w::C.od (i+1):=by obtain⟨hi,rfl⟩:=List.getElem?_eq_some_iff.1 hw;exact List.drop_eq_getElem_cons hi
theorem vk(hv:s.pc=w::r):gb C s=Ny C s w r:=by unfold gb;rw[hv]
theorem yU(hv:s.pc=w::r)(h:ya w=some x):gb C s=.run { s with pc:=r }:=by unfold gb Ny;rw[hv];simp only;rw[h]
theorem SP(hv:s.pc=w::r)(h:ya w=some x):Bi s=0:=by unfold Bi aB;rw[hv];simp[h]
theorem oZ:∀ (ds:List Wd) (s:MS) (r:List Wd),s.pc=ds++r->(∀ w∈ds,(ya w).isSome=true)->Hh C 0 s { s with pc:=r }
 |[],s,r,h,_=>by
  have:s={ s with pc:=r }:=by rw[<-show s.pc=r from h]
  rw[<-this];exact .zero s
 |w::ds,s,r,h,hd=>by obtain⟨x,hx⟩:=zR (hd w We);have h1:=Hh.step (yU (C:=C) h hx) (oZ ds { s with pc:=ds++r } r rfl λy hy=>hd y (Pc _ hy));rw[SP h hx] at h1;exact h1
theorem PW.TS(h:C.At s i)(hw:C.W[i]? = some w)(hd:ya w=some x):C.At s (i+1):=by obtain⟨ds,h1,h2⟩:=h;refine⟨ds++[w],by rw[h1,EU hw,Sc];try rfl,λy hy=>?_⟩;rcases xj hy with hy|hy;exact h2 y hy;rw[Vi hy,hd];try rfl
theorem PW.ahead(h:C.At s i)(hw:C.W[i]? = some w):Hh C 0 s { s with pc:=w::C.od (i+1) }:=by obtain⟨ds,h1,h2⟩:=h;rw[EU hw] at h1;exact oZ ds s _ h1 h2
theorem PW.once{m:Nat}(h:C.At s i)(hw:C.W[i]? = some w)(hs:gb C { s with pc:=w::C.od (i+1) }=.run s')(hc:aB s.digit w<=m):Gf C m s s':=by have h1:=(PW.ahead h hw).trans (.one hs);rw[zero_add] at h1;exact⟨_,hc,h1⟩
theorem zZ{w:Wd}(h:Eb w=some n):w≠[]/\∀ c∈w,me c=true:=by obtain⟨h1,h2⟩:=(zB w n).1 h;rw[<-h2];exact⟨dK n,iN n⟩
theorem PZ(h:me c=false):Eb [c]=none:=by
 cases hn:Eb [c] with
 |none=>rfl
 |some n=>have h1:=(zZ hn).2 c (Mo rfl);rw[h] at h1;cases h1
theorem zq(h:Eb w=some n):ya w=none/\Va w=none:=by have:=FP h;exact⟨this.1,this.2⟩
theorem JU(h:Va w=some x):Eb w=none:=by
 cases hn:Eb w with
 |none=>rfl
 |some n=>rw[(zq hn).2] at h;cases h
theorem QJ(h:Eb w=some n):Ny C s w r=ym s r s.data n true:=by unfold Ny;rw[(zq h).1];simp only;rw[h]
theorem PJ{f:Bool}(h:Eb w=some n):aB f w=w.length+one f:=by unfold aB;rw[(zq h).1,h];try rfl
theorem tF(h:Va w=some x):Ny C s w r=Iy C s x r:=by unfold Ny;rw[dt h];simp only;rw[JU h];simp only;rw[h]
theorem GH{f:Bool}(h:Va w=some x):aB f w=7+one f:=by unfold aB;rw[dt h,JU h,h];try rfl
abbrev kl:Wd:=[43,45,42,47,37,94,60,64,33,63,58,59,44,46,36]
theorem Ov(h:c∈kl):Ny C s [c] r=Ou C.D s c r:=by obtain⟨e1,e2,e3⟩:=xx h;unfold Ny;rw[e1];simp only;rw[PZ e3];simp only;rw[e2]
theorem yZ{f:Bool}(h:c∈kl):aB f [c]=1:=by obtain⟨e1,e2,e3⟩:=xx h;unfold aB;rw[e1,PZ e3,e2];try rfl
theorem vx(h:jc c):c∈kl:=by unfold jc at h;rcases h with rfl|rfl|rfl|rfl|rfl|rfl|rfl <;> decide
theorem DP{D:Nat->Bool}(h:jc c):Ou D s c r=Qk s c r:=by unfold jc at h;unfold Ou;rcases h with rfl|rfl|rfl|rfl|rfl|rfl|rfl <;> rfl
theorem TX(f:Bool):Go.ia.one f<=1:=Go.ia.one_le f
section
variable{s:MS}{i:Nat}
theorem PW.num(h:C.At s i){m:Nat}(hw:C.W[i]? = some (decDigits n))(hn:n<4294967296)(Xa:s.data.length<256)(hm:(decDigits n).length+1<=m):Gf C m s { s with pc:=C.od (i+1),data:=n::s.data,digit:=true }:=by have hN:=qF hn;refine PW.once h hw ?_ (by rw[PJ hN];have:=TX s.digit;omega);rw[vk rfl,QJ hN];unfold ym;rw[zp Xa]
theorem PW.load(h:C.At s i)(hw:C.W[i]? = some [64]){r:List Nat}(hd:s.data=a::r)(ha:C.D a=true)(Xa:r.length<256):Gf C 1 s (C.put s (i+1) (s.mem a::r)):=by refine KA ?_;rw[vk rfl,Ov fa];show uJ C.D _ _=_;unfold uJ ym;simp[hd,ha,Xa,PW.put]
theorem PW.store(h:C.At s i)(hw:C.W[i]? = some [33]){r:List Nat}(hd:s.data=a::v::r)(ha:C.D a=true):Gf C 1 s { C.put s (i+1) r with mem:=λi=>if i=a then v else s.mem i }:=by refine KA ?_;rw[vk rfl,Ov fa];show FJ C.D _ _=_;unfold FJ;simp[hd,ha,PW.put]
theorem PW.back(h:C.At s i)(hw:C.W[i]? = some [59]){t:List Wd}{r:List (List Wd)}(hd:s.calls=t::r):Gf C 1 s { s with pc:=t,calls:=r,digit:=false }:=by refine KA ?_;rw[vk rfl,Ov fa];show YG _=_;unfold YG;simp[hd]
theorem PW.read(h:C.At s i)(hw:C.W[i]? = some [44])(Xa:s.data.length<256):Gf C 1 s { C.put s (i+1) ((s.Ia.headD 4294967295)::s.data) with Ia:=s.Ia.tail }:=by refine KA ?_;rw[vk rfl,Ov fa];show ym _ _ _ _ _=_;unfold ym;simp[Xa,PW.put]
theorem PW.write(h:C.At s i)(hw:C.W[i]? = some [46]){r:List Nat}(hd:s.data=v::r):Gf C 1 s { C.put s (i+1) r with out:=s.out++[UInt8.ofNat v] }:=by refine KA ?_;rw[vk rfl,Ov fa];show nP _ _=_;unfold nP;simp[hd,PW.put]
theorem PW.halt(h:C.At s i)(hw:C.W[i]? = some [36]):∃ m,Hh C 0 s m/\gb C m=.stop 0 s.out:=by refine⟨_,PW.ahead h hw,?_⟩;rw[vk rfl,Ov fa];try rfl
theorem PW.op(h:C.At s i)(hc:jc c)(hw:C.W[i]? = some [c]){r:List Nat}(hd:s.data=b::a::r)(hv:ud c.toNat a b=some v)(Xa:r.length<256):Gf C 1 s (C.put s (i+1) (v::r)):=by refine PW.once h hw ?_ (by rw[yZ (vx hc)];exact Jb 1);rw[vk rfl,Ov (vx hc),DP hc];unfold Qk ym;simp[hd,hv,Xa,PW.put]
theorem PW.Rv(h:C.At s i)(hc:jc c)(hw:C.W[i]? = some [c]){r:List Nat}(hd:s.data=b::a::r)(hv:ud c.toNat a b=none):∃ m,Hh C 0 s m/\gb C m=.stop 12 s.out:=by refine⟨_,PW.ahead h hw,?_⟩;rw[vk rfl,Ov (vx hc),DP hc];unfold Qk;simp[hd,hv]
theorem PW.jump(h:C.At s i){k:List Wd}(hw:C.W[i]? = some w)(VQ:C.W[i+1]? = some [63])(hr:Va w=some x)(hk:sk x C.W=some k){r:List Nat}(hd:s.data=v::r)(Xa:r.length+1<256):Gf C 8 s { C.put s (i+2) r with pc:=if v=0 then k else C.od (i+2) }:=by refine PW.once h hw ?_ (by rw[GH hr];have:=TX s.digit;omega);rw[vk rfl,tF hr,EU VQ];unfold Iy XG;simp[hk,hd,Xa,PW.put]
theorem PW.call(h:C.At s i){k:List Wd}(hw:C.W[i]? = some w)(VQ:C.W[i+1]? = some [58])(hr:Va w=some x)(hk:sk x C.W=some k)(Xa:s.data.length<256)(hc:s.calls.length<64):Gf C 8 s { s with pc:=k,calls:=C.od (i+2)::s.calls,digit:=false }:=by refine PW.once h hw ?_ (by rw[GH hr];have:=TX s.digit;omega);rw[vk rfl,tF hr,EU VQ];unfold Iy;simp[hk,Xa,hc]
end
end
end Go.ia.Wi
