import Derived.Test.YtmnjklgnhpnckaaGreatDoorBRowLV5
set_option linter.unusedVariables false
set_option linter.unusedSimpArgs false
set_option maxRecDepth 100000
set_option maxHeartbeats 4000000
open List (not_mem_nil cons_append eq_nil_of_length_eq_zero length_singleton drop_drop length_drop take_succ_cons foldl_cons)
open Nat (add_comm)
namespace Go.ia.Wi
open Go.Lib
variable{W p r da:List Wd}{a b e k n v:Nat}{c:UInt8}{d Ia:List Nat}{l o w x:Wd}{m m':MS}{s:IS}
def Xz(C:PW)(B:Int)(m:MS)(e:Int)(s:IS):Prop:=
 (e=0∨e=12->∃ k:Nat,∃ m',(k:Int)<=B/\Hh C k m m'/\gb C m'=.stop e.toNat s.out)/\(e=13->∃ k m',Hh C k m m'/\m'.out=s.out)
variable{C:PW}
theorem Xz.pre{B:Int}{m1:MS}{e:Int}(h:Hh C k m m1)(g:Xz C B m1 e s):Xz C (k+B) m e s:=by refine⟨λhe=>?_,λhe=>?_⟩;obtain⟨y,m',k1,k2,k3⟩:=g.1 he;exact⟨k+y,m',by omega,h.trans k2,k3⟩;obtain⟨y,m',k2,k3⟩:=g.2 he;exact⟨k+y,m',h.trans k2,k3⟩
theorem Xz.mono{B B':Int}{e:Int}(h:Xz C B m e s)(hb:B<=B'):Xz C B' m e s:=
 ⟨λhe=>by
  obtain⟨y,m',k1,k2,k3⟩:=h.1 he;exact⟨y,m',by omega,k2,k3⟩,h.2⟩
section
variable{A B:Type}{Q:A->IS->MS->Prop}{R:B->IS->MS->Prop}{c d c1 d1 c2 d2:Int}{m m1:MS}{s:IS}
end
theorem cK{A B D:Type}(r:IR A)(f:A->IS->IR B)(g:B->IS->IR D):(r.bind f).bind g=r.bind λv s=>(f v s).bind g:=by cases r <;> rfl
structure Lf where
 C:PW
 P:Pr
 cc:Pb->CC
 jb:Pb->Bb
 sa:Nm->Nat
 aa:Nm->Nat
 S:Nat
 fst:Pb->Nat
variable{X:Lf}
def Lf.keys(X:Lf):List Nm:=Vd X.P.vars X.P.funcs
def Lf.Data(X:Lf)(x:Nat):Prop:=(∃ k∈X.keys,x=X.sa k)∨(X.S<=x/\x<=X.S+2)∨∃ a∈X.P.ba,∃ i,i<a.size/\x=X.aa a.name+i
structure Zd(X:Lf):Prop where
 sc:∀ f∈X.P.funcs,∀ name,Zs (X.jb f) name=0->(X.cc f).sc name=decDigits (X.sa (dc f name))/\dc f name∈X.keys
 ar:∀ f∈X.P.funcs,∀ name,Qy (X.jb f) name=0->(X.cc f).ar name=decDigits (X.aa name)/\∃ a∈X.P.ba,a.name=name
 Tw:∀ f∈X.P.funcs,(X.cc f).t0=decDigits X.S/\(X.cc f).t1=decDigits (X.S+1)/\(X.cc f).t2=decDigits (X.S+2)
 low:∀ x,X.Data x->x<262144
 EL:∀ x,X.Data x->X.C.D x=true
 Zv:∀ k∈X.keys,X.S+3<=X.sa k
 inj:∀ k∈X.keys,∀ k'∈X.keys,X.sa k=X.sa k'->k=k'
 apart:∀ a∈X.P.ba,∀ i,i<a.size->(∀ k∈X.keys,X.sa k≠X.aa a.name+i)/\¬ (X.S<=X.aa a.name+i/\X.aa a.name+i<=X.S+2)
 sD:∀ a∈X.P.ba,∀ b∈X.P.ba,∀ i j,i<a.size->j<b.size->X.aa a.name+i=X.aa b.name+j->a.name=b.name/\i=j
 oy:∀ a∈X.P.ba,X.aa a.name<1000000
 Qs:∀ a∈X.P.ba,∀ b∈X.P.ba,a.name=b.name->a.size=b.size
 body:∀ f∈X.P.funcs,Th (X.jb f) f.body=0/\cj f.body
 fn:∀ f∈X.P.funcs,∀ name g,(X.jb f).fn name=some g->Lh X.P name∈X.P.funcs/\(Lh X.P name).name=name/\g.params=(Lh X.P name).params.length/\ql (X.jb (Lh X.P name)) (Lh X.P name).body<=g.need/\vj (X.jb (Lh X.P name)) (Lh X.P name).body<=g.depth
 O1:∀ f∈X.P.funcs,(∀ p∈f.params,dc f p∈X.keys/\(X.cc f).sc p=decDigits (X.sa (dc f p)))/\(f.params.map (dc f)).Nodup
 code:∀ f∈X.P.funcs,∃ nl,X.C.Code (X.fst f) (lk (X.cc f) nl f).1
 mz:∀ (j n:Nat),X.C.W[j]? = some (za n++[58])->ya (za n++[58])=some (za n)
 Ur:∀ (j n:Nat),X.C.W[j]? = some (38::za n)->Va (38::za n)=some (za n)
 mj:∀ f∈X.P.funcs,ya ([102,95]++f.name++[58])=some ([102,95]++f.name)
 Cz:∀ f∈X.P.funcs,Va ([38,102,95]++f.name)=some ([102,95]++f.name)
 label:∀ (j:Nat) (w x:Wd),X.C.W[j]? = some w->ya w=some x->sk x X.C.W=some (X.C.od (j+1))
structure Lf.Rel(X:Lf)(s:IS)(m:MS):Prop where
 ok:X.C.Ok m.mem
 sc:∀ k∈X.keys,m.mem (X.sa k)=s.sc k
 ar:∀ a∈X.P.ba,(s.ar a.name).length=a.size/\∀ i (h:i<(s.ar a.name).length),m.mem (X.aa a.name+i)=(s.ar a.name)[i]
 Ia:m.Ia=s.Ia
 out:m.out=s.out
theorem Lf.Rel.same{s':IS}(h:X.Rel s m)(h1:m'.mem=m.mem)(h2:m'.Ia=m.Ia)(h3:m'.out=m.out)(k1:s'.sc=s.sc)(k2:s'.ar=s.ar)(k3:s'.Ia=s.Ia)(k4:s'.out=s.out):X.Rel s' m':=
 ⟨by rw[h1];exact h.ok,by rw[h1,k1];exact h.sc,by rw[h1,k2];exact h.ar,by rw[h2,k3];exact h.Ia,by rw[h3,k4];exact h.out⟩
theorem Lf.Dj(hX:Zd X){mem:Nat->Nat}(h:X.C.Ok mem){x:Nat}(hx:X.Data x):X.C.Ok (λi=>if i=x then v else mem i):=trivial
theorem Lf.Rel.Dy(hX:Zd X)(h:X.Rel s m){x:Nat}(hx:X.S<=x/\x<=X.S+2)(h1:m'.mem=λi=>if i=x then v else m.mem i)(h2:m'.Ia=m.Ia)(h3:m'.out=m.out):X.Rel s m':=by refine⟨by rw[h1];exact X.Dj hX h.ok (.inr (.inl hx)),λk hk=>?_,λa ha=>?_,by rw[h2];exact h.Ia,by rw[h3];exact h.out⟩;rw[h1];simp only;have:=hX.Zv k hk;rw[zn (by omega)];exact h.sc k hk;obtain⟨e1,e2⟩:=h.ar a ha;refine⟨e1,λi hi=>?_⟩;rw[h1];simp only;have:=(hX.apart a ha i ga).2;rw[zn (λh=>this (by rw[h];exact hx))];exact e2 i hi
theorem Lf.Rel.UE(hX:Zd X)(h:X.Rel s m){k:Nm}(hk:k∈X.keys)(h1:m'.mem=λi=>if i=X.sa k then v else m.mem i)(h2:m'.Ia=m.Ia)(h3:m'.out=m.out):X.Rel (Sf s k v) m':=by
 refine⟨by rw[h1];exact X.Dj hX h.ok (.inl ⟨k,hk,rfl⟩),λk' Eo=>?_,λa ha=>?_,by rw[h2];exact h.Ia,by rw[h3];exact h.out⟩;rw[h1];unfold Sf;simp only
 by_cases he:k'=k;subst he;rw[zp rfl,zp rfl];rw[zn λh=>he (hX.inj _ Eo _ hk h),zn he];exact h.sc k' Eo;obtain⟨e1,e2⟩:=h.ar a ha;refine⟨e1,λi hi=>?_⟩;rw[h1];simp only;have xw:i<(s.ar a.name).length:=hi;have:=(hX.apart a ha i ga).1 k hk;rw[zn (λh=>this h.symm)];exact e2 i xw
theorem Lf.Rel.elem(hX:Zd X)(h:X.Rel s m){a:Ar}(ha:a∈X.P.ba){i:Nat}(hi:i<(s.ar a.name).length)(h1:m'.mem=λx=>if x=X.aa a.name+i then v else m.mem x)(h2:m'.Ia=m.Ia)(h3:m'.out=m.out) :
  X.Rel { s with ar:=λx=>if x=a.name then (s.ar a.name).set i v else s.ar x } m':=by
 have hs:=(h.ar a ha).1;refine⟨by rw[h1];exact X.Dj hX h.ok (.inr (.inr ⟨a,ha,i,by omega,rfl⟩)),λk' Eo=>?_,λb hb=>?_,by rw[h2];exact h.Ia,by rw[h3];exact h.out⟩;rw[h1];simp only;rw[zn ((hX.apart a ha i (by omega)).1 k' Eo)];exact h.sc k' Eo;obtain⟨e1,e2⟩:=h.ar b hb
 by_cases he:b.name=a.name;have yz:=hX.Qs b hb a ha he;simp only[he,if_true,List.length_set];refine⟨by omega,λj hj=>?_⟩;rw[h1];simp only
 by_cases wc:j=i;subst wc;rw[zp rfl,List.getElem_set_self];rw[zn (by omega),List.getElem_set_ne (λh=>wc h.symm)];exact(h.ar a ha).2 j hj;simp only[he,if_false];refine⟨e1,λj hj=>?_⟩;rw[h1];simp only;rw[zn (λh=>he (hX.sD b hb a ha j i (by omega) (by omega) h).1)];exact e2 j hj
structure Lf.Vw(X:Lf)(s:IS)(i:Nat)(d:List Nat)(c:List (List Wd))(m:MS):Prop where
 here:X.C.At m i
 rel:X.Rel s m
 data:m.data=d
 calls:m.calls=c
theorem Lf.Vw.cast{i j:Nat}{c:List (List Wd)}(v:X.Vw s i d c m)(h:i=j):X.Vw s j d c m:=h▸v
section
variable{X:Lf}{s:IS}{i:Nat}{d:List Nat}{c:List (List Wd)}{m:MS}
theorem Lf.Vw.steps(v:X.Vw s i d c m)(l:Nat):X.Vw { s with left:=l } i d c m:=⟨v.here,v.rel.same rfl rfl rfl rfl rfl rfl rfl,v.data,v.calls⟩
theorem Lf.Vw.num(v:X.Vw s i d c m){n k:Nat}(hw:X.C.W[i]? = some (decDigits n))(hn:n<4294967296)(hl:(decDigits n).length+1<=k)(hd:d.length<256):∃ m',Gf X.C k m m'/\X.Vw s (i+1) (n::d) c m'/\m'.mem=m.mem:=
 ⟨_,PW.num v.here hw hn (by rw[v.data];exact hd) hl,⟨PW.wh rfl,v.rel.same rfl rfl rfl rfl rfl rfl rfl,by simp only;rw[v.data],v.calls⟩,rfl⟩
theorem Z1(h:n<1000000):(decDigits n).length+1<=7:=by have:=MD 5 n h;omega
theorem Lf.Vw.addr(v:X.Vw s i d c m)(hw:X.C.W[i]? = some (decDigits n))(hn:n<1000000)(hd:d.length<256):∃ m',Gf X.C 7 m m'/\X.Vw s (i+1) (n::d) c m'/\m'.mem=m.mem:=v.num hw ga (Z1 hn) hd
theorem qnY(h:n<10):decDigits n=[UInt8.ofNat (48+n)]:=by rw[decDigits,dif_pos h]
theorem Lf.Vw.Ew(v:X.Vw s i d c m)(hw:X.C.W[i]? = some w)(hn:n<10)(he:w=[UInt8.ofNat (48+n)])(hd:d.length<256):∃ m',Gf X.C 2 m m'/\X.Vw s (i+1) (n::d) c m'/\m'.mem=m.mem:=by rw[he,<-qnY hn] at hw;exact v.num hw ga (by rw[qnY hn];exact Jb 2) hd
theorem Lf.Vw.load{a:Nat}(v:X.Vw s i (a::d) c m)(hw:X.C.W[i]? = some [64])(ha:X.C.D a=true)(hd:d.length<256):∃ m',Gf X.C 1 m m'/\X.Vw s (i+1) (m.mem a::d) c m'/\m'.mem=m.mem:=
 ⟨_,PW.load v.here hw v.data ha hd,⟨X.C.CB _ _ _,v.rel.same rfl rfl rfl rfl rfl rfl rfl,rfl,v.calls⟩,rfl⟩
theorem Lf.Vw.op{a b x:Nat}{ch:UInt8}(v:X.Vw s i (b::a::d) c m)(hw:X.C.W[i]? = some [ch])(ho:jc ch)(hv:ud ch.toNat a b=some x)(hd:d.length<256):∃ m',Gf X.C 1 m m'/\X.Vw s (i+1) (x::d) c m'/\m'.mem=m.mem:=
 ⟨_,PW.op v.here ho hw v.data hv hd,⟨X.C.CB _ _ _,v.rel.same rfl rfl rfl rfl rfl rfl rfl,rfl,v.calls⟩,rfl⟩
theorem Lf.Vw.Dy(hX:Zd X){a x:Nat}(v:X.Vw s i (a::x::d) c m)(hw:X.C.W[i]? = some [33])(ha:X.S<=a/\a<=X.S+2):∃ m',Gf X.C 1 m m'/\X.Vw s (i+1) d c m'/\m'.mem=λy=>if y=a then x else m.mem y:=
 ⟨_,PW.store v.here hw v.data (hX.EL a (.inr (.inl ha))),⟨PW.wh rfl,v.rel.Dy hX ha rfl rfl rfl,rfl,v.calls⟩,rfl⟩
theorem Lf.Vw.UE(hX:Zd X){k:Nm}{x:Nat}(hk:k∈X.keys)(v:X.Vw s i (X.sa k::x::d) c m)(hw:X.C.W[i]? = some [33]):∃ m',Gf X.C 1 m m'/\X.Vw (Sf s k x) (i+1) d c m':=
 ⟨_,PW.store v.here hw v.data (hX.EL _ (.inl ⟨k,hk,rfl⟩)),⟨PW.wh rfl,v.rel.UE hX hk rfl rfl rfl,rfl,v.calls⟩⟩
theorem Lf.Vw.read(v:X.Vw s i d c m)(hw:X.C.W[i]? = some [44])(hd:d.length<256):∃ m',Gf X.C 1 m m'/\X.Vw { s with Ia:=s.Ia.tail } (i+1) (s.Ia.headD 4294967295::d) c m':=by refine⟨_,PW.read v.here hw (by rw[v.data];exact hd),⟨PW.wh rfl,⟨v.rel.ok,v.rel.sc,v.rel.ar,?_,v.rel.out⟩,?_,v.calls⟩⟩;simp only;rw[v.rel.Ia];simp only[PW.put];rw[v.rel.Ia,v.data]
theorem Lf.Vw.write{x:Nat}(v:X.Vw s i (x::d) c m)(hw:X.C.W[i]? = some [46]):∃ m',Gf X.C 1 m m'/\X.Vw { s with out:=s.out++[UInt8.ofNat x] } (i+1) d c m':=by refine⟨_,PW.write v.here hw v.data,⟨PW.wh rfl,⟨v.rel.ok,v.rel.sc,v.rel.ar,v.rel.Ia,?_⟩,rfl,v.calls⟩⟩;simp only;rw[v.rel.out]
theorem Lf.Vw.Zx(hX:Zd X){f:Pb}(hf:f∈X.P.funcs)(v:X.Vw s i (b::a::d) c m)(hc:X.C.Code i (Xl (X.cc f)))(hd:d.length+3<=256):∃ m',Gf X.C 33 m m'/\X.Vw s (i+9) (kf (decide (b<a))::d) c m':=by
 obtain⟨_,t1,t2⟩:=hX.Tw f hf;unfold Xl at hc;rw[t1,t2] at hc;have hS:X.S+2<262144:=hX.low _ (.inr (.inl ⟨by omega,by omega⟩));obtain⟨w0,hc⟩:=hc.cons;obtain⟨w1,hc⟩:=hc.cons;obtain⟨w2,hc⟩:=hc.cons;obtain⟨w3,hc⟩:=hc.cons;obtain⟨w4,hc⟩:=hc.cons;obtain⟨w5,hc⟩:=hc.cons;obtain⟨w6,hc⟩:=hc.cons;obtain⟨w7,hc⟩:=hc.cons;obtain⟨w8,hc⟩:=hc.cons;obtain⟨m1,s1,v1,e1⟩:=v.addr w0 ga (by simp only[La];omega);obtain⟨m2,s2,v2,e2⟩:=v1.Dy hX w1 ⟨by omega,by omega⟩;obtain⟨m3,s3,v3,e3⟩:=v2.addr w2 ga (by simp only[La];omega);obtain⟨m4,s4,v4,e4⟩:=v3.Dy hX w3 ⟨by omega,by omega⟩;obtain⟨m5,s5,v5,e5⟩:=v4.addr w4 ga ga;obtain⟨m6,s6,v6,e6⟩:=v5.load w5 (hX.EL _ (.inr (.inl ⟨by omega,by omega⟩))) ga;obtain⟨m7,s7,v7,e7⟩:=v6.addr w6 ga (by simp only[La];omega);obtain⟨m8,s8,v8,e8⟩:=v7.load w7 (hX.EL _ (.inr (.inl ⟨by omega,by omega⟩))) (by simp only[La];omega);have q1:m5.mem (X.S+2)=b:=by rw[e5,e4];simp only;rw[zn (by omega),e3,e2];simp
 have q2:m7.mem (X.S+1)=a:=by rw[e7,e6,e5,e4];simp
 rw[q1] at v6 v7 v8;rw[q2] at v8;obtain⟨m9,s9,v9,_⟩:=v8.op (x:=kf (decide (b<a))) w8 (by unfold jc;simp) (by
  unfold ud kf;simp) ga
 exact⟨m9,(s1.trans (s2.trans (s3.trans (s4.trans (s5.trans (s6.trans (s7.trans (s8.trans s9)))))))).mono ga,v9⟩
end
theorem ZP{A:Type}(g:A->IS->IR Nat)(x:A)(s:IS):ek g [x] s=(g x s).bind λv s=>.ok [v] s:=by unfold ek;cases g x s <;> rfl
theorem qwd{A:Type}(g:A->IS->IR Nat)(x y:A)(s:IS):ek g [x,y] s=(g x s).bind λa s=>(g y s).bind λb s=>.ok [a,b] s:=by
 unfold ek;cases g x s with
 |stop e s=>rfl
 |ok a s=>show(ek g [y] s).bind _=(g y s).bind _;rw[ZP];try cases g y s <;> rfl
section
variable{X:Lf}{n:Nat}
theorem CH(a b:Nat):(if a<b then 1 else 0)=kf (decide (a<b)):=by unfold kf;simp
theorem xor_zero:a ^^^ b<1 ↔ a=b:=by
 constructor;intro h;have h0:a ^^^ b=0:=by omega
 exact Nat.eq_of_testBit_eq λj=>by have h2:=congrArg (λx=>x.testBit j) h0;simp only[Nat.testBit_xor,Nat.zero_testBit] at h2;revert h2;cases a.testBit j <;> cases b.testBit j <;> simp
 rintro rfl;rw[Nat.xor_self];decide
theorem qmT:∀ (ns:List Nat) (i m B:Nat),Ky i ns m<=B->m<=B/\∀ k (h:k<ns.length),i+k+ns[k]<=B
 |[],i,m,B,h=>⟨h,λk hk=>by cases hk⟩
 |a::ns,i,m,B,h=>by
  rw[Ky] at h;obtain⟨h1,h2⟩:=qmT ns (i+1) _ B h;refine⟨by omega,λk hk=>?_⟩
  cases k with
  |zero=>simp only[List.getElem_cons_zero];omega
  |succ k=>have:=h2 k (by simpa using hk);simp only[List.getElem_cons_succ];omega
theorem qlq(c:Bb):∀ (l:List Ex),(oh c l).length=l.length/\∀ k (h:k<l.length) (h2:k<(oh c l).length),(oh c l)[k]=Kf c l[k]
 |[]=>⟨by simp[oh],λk h=>by cases h⟩
 |x::l=>by
  obtain⟨h1,h2⟩:=qlq c l;refine⟨by simp[oh,h1],λk hk Ng=>?_⟩
  cases k with
  |zero=>simp[oh]
  |succ k=>simp only[oh,List.getElem_cons_succ];exact h2 k (by simpa using hk) _
end
theorem O8(b:Bool):kf b<=1:=by unfold kf;split <;> omega
theorem qqr{op:Nm}(h:fg op=2):op∈Fv/\op≠tf/\op≠Uf/\op≠Bj/\op≠Ag/\op≠jg/\op≠eg:=by unfold fg at h;split at h;cases h;rename_i h1;split at h;cases h;rename_i h2;split at h;cases h;rename_i h3;split at h;rename_i h4;exact⟨h4,λe=>h1 (.inl e),λe=>h1 (.inr e),λe=>h2 (.inl e),λe=>h2 (.inr (.inl e)),λe=>h2 (.inr (.inr e)),h3⟩;cases h
theorem qyq(P:Pr)(g:Pb->Sm->IS->IR (Option Nat))(f:Pb){op:Nm}(h:op∈Fv)(num:Nat)(name:Nm)(a b:Nat)(s:IS):FF P g f op num name [a,b] s=match pj op a b with
  |some r=>.ok r s
  |none=>.stop 12 s:=by
 simp only[Fv,zc,not_mem_nil,or_false] at h;rcases h with rfl|rfl|rfl|rfl|rfl|rfl|rfl|rfl|rfl|rfl|rfl|rfl|rfl|rfl <;> rfl
theorem qqC:∀ (ns:List Nat) (i m:Nat),m<=Ky i ns m
 |[],i,m=>Jb _
 |a::ns,i,m=>by rw[Ky];have:=qqC ns (i+1) (max m (i+a));omega
theorem LM(c:Bb):∀ e:Ex,yf c e=0->1<=Kf c e
 |.mk op num name args,h=>by
  rw[yf] at h;split at h
  case isFalse=>cases h
  rename_i Xc;obtain⟨h1,h2⟩:=Rc.1 h;rw[Kf];unfold IB;split;omega;split;omega;split;rename_i hc;subst hc;have Se:Lc c name args.length=0:=h2;unfold Uz;split;omega;rename_i k1;split;rename_i k2;unfold Lc at Se;rw[zn k1,zp k2] at Se;split at Se;rename_i hl;obtain⟨x,rfl⟩:=gv hl;rw[ig] at h1;have:=LM c x (Rc.1 h1).1;rw[oh];exact this;cases Se;rename_i k2;unfold Lc at Se;rw[zn k1,zn k2] at Se;split;rename_i g hg;have:=qqC (oh c args) 0 (max (g.params+1) g.need);omega;rename_i hg;rw[hg] at Se;simp only at Se;split at Se <;> cases Se
  repeat' split
  all_goals omega
section
variable{X:Lf}{n:Nat}
end
def R6(X:Lf)(j:Nat)(d:List Nat)(t:List Wd)(da:List (List Wd)):Option Nat->IS->MS->Prop
 |none,s',m'=>X.Vw s' j d (t::da) m'
 |some v,s',m'=>m'.pc=t/\m'.digit=false/\X.Rel s' m'/\m'.data=v::d/\m'.calls=da
section
variable{X:Lf}{n:Nat}
section
variable{s:IS}{i j:Nat}{d:List Nat}{c:List (List Wd)}{m:MS}
theorem Lf.Vw.branch(hX:Zd X)(v:X.Vw s i (a::d) c m)(hc:X.C.Code i [38::za k,[63]])(hj:X.C.W[j]? = some (za k++[58]))(hd:d.length+2<=256):∃ m',Gf X.C 8 m m'/\X.Vw s (if a=0 then j+1 else i+2) d c m':=by obtain⟨w0,hc⟩:=hc.cons;obtain⟨w1,_⟩:=hc.cons;have h1:=hX.mz j k hj;have t2:=PW.jump v.here w0 w1 (hX.Ur _ _ w0) (hX.label j _ _ hj h1) v.data ga;by_cases ha:a=0;subst ha;rw[zp rfl] at t2 ⊢;exact⟨_,t2,⟨PW.wh rfl,v.rel.same rfl rfl rfl rfl rfl rfl rfl,rfl,v.calls⟩⟩;rw[zn ha] at t2 ⊢;exact⟨_,t2,⟨PW.wh rfl,v.rel.same rfl rfl rfl rfl rfl rfl rfl,rfl,v.calls⟩⟩
theorem Lf.Vw.goto(hX:Zd X)(v:X.Vw s i d c m)(hc:X.C.Code i [[48],38::za k,[63]])(hj:X.C.W[j]? = some (za k++[58]))(hd:d.length+2<=256):∃ m',Gf X.C 10 m m'/\X.Vw s (j+1) d c m':=by obtain⟨w0,hc⟩:=hc.cons;obtain⟨m1,t1,v1,_⟩:=v.Ew (n:=0) w0 fa rfl ga;obtain⟨m2,t2,v2⟩:=v1.branch hX hc hj hd;rw[zp rfl] at v2;exact⟨m2,(t1.trans t2).mono ga,v2⟩
theorem Lf.Vw.pass(v:X.Vw s i d c m)(hw:X.C.W[i]? = some w)(hd:ya w=some x):X.Vw s (i+1) d c m:=⟨PW.TS v.here hw hd,v.rel,v.data,v.calls⟩
end
theorem qrn(s:IS){k k':Nm}(h:k≠k')(v v':Nat):Sf (Sf s k v) k' v'=Sf (Sf s k' v') k v:=by unfold Sf;congr 1;funext x;by_cases h1:x=k;subst h1;simp[h];simp[h1]
theorem qlI(g:Pb):∀ (ps:List Nm) (vs:List Nat) (s:IS) (k:Nm) (v:Nat),k ∉ ps.map (dc g)->iq g ps vs (Sf s k v)=Sf (iq g ps vs s) k v
 |[],vs,s,k,v,_=>by cases vs <;> rfl
 |p::ps,[],s,k,v,_=>rfl
 |p::ps,w::vs,s,k,v,h=>by rw[jd,zc,not_or] at h;rw[iq,iq,qrn s h.1,qlI g ps vs _ k v h.2]
theorem qlc(g:Pb):∀ (ps:List Nm) (vs:List Nat) (s:IS) (p:Nm) (v:Nat),ps.length=vs.length->iq g (ps++[p]) (vs++[v]) s=Sf (iq g ps vs s) (dc g p) v
 |[],[],s,p,v,_=>rfl
 |q::ps,w::vs,s,p,v,h=>by rw[cons_append,cons_append,iq,iq,qlc g ps vs _ p v (by simpa using h)]
theorem qli(g:Pb):∀ (ps:List Nm) (vs:List Nat) (s:IS),(iq g ps vs s).left=s.left
 |[],vs,s=>by cases vs <;> rfl
 |p::ps,[],s=>rfl
 |p::ps,w::vs,s=>by rw[iq,qli g ps vs];try rfl
theorem X9(hX:Zd X){g:Pb}:∀ (k:Nat) (ps:List Nm) (vs:List Nat) (i:Nat) (s:IS) (d:List Nat) (c:List (List Wd)) (m:MS),ps.length=k->ps.length=vs.length->(∀ p∈ps,dc g p∈X.keys/\(X.cc g).sc p=decDigits (X.sa (dc g p)))->(ps.map (dc g)).Nodup->X.C.Code i (ps.reverse.flatMap λp=>[(X.cc g).sc p,[33]])->X.Vw s i (vs.reverse++d) c m->d.length+ps.length+1<=256 ->
  ∃ m',Gf X.C (8 * ps.length) m m'/\X.Vw (iq g ps vs s) (i+(ps.reverse.flatMap λp=>[(X.cc g).sc p,[33]]).length) d c m'
 |0,ps,vs,i,s,d,c,m,hk,hl,_,_,_,v,_=>by obtain rfl:=eq_nil_of_length_eq_zero hk;obtain rfl:vs=[]:=eq_nil_of_length_eq_zero (by rw[<-hl];try rfl);exact⟨m,.refl _,v⟩
 |k+1,ps,vs,i,s,d,c,m,hk,hl,hp,rh,hc,v,hd=>by
  have Fb:ps≠[]:=λh=>by rw[h] at hk;cases hk
  have hnv:vs≠[]:=λh=>by rw[h] at hl;rw[hk] at hl;cases hl
  have e1:=(List.dropLast_concat_getLast Fb).symm;have e2:=(List.dropLast_concat_getLast hnv).symm;generalize ps.dropLast=M1 at e1;generalize ps.getLast Fb=p at e1;generalize vs.dropLast=wD at e2;generalize vs.getLast hnv=w at e2;subst e1 e2;rw[Ga,length_singleton] at hk hd;rw[Ga,Ga,length_singleton,length_singleton] at hl;rw[List.reverse_append] at hc v ⊢;simp only[List.reverse_cons,List.reverse_nil,List.nil_append,cons_append,List.flatMap_cons] at hc v ⊢;rw[Je,List.map_singleton] at rh;obtain⟨n1,n2,n3⟩:=Xm rh;obtain⟨q1,q2⟩:=hp p (by simp);rw[q2] at hc;obtain⟨w0,hc⟩:=hc.cons;obtain⟨w1,hc⟩:=hc.cons;have BR:=hX.low _ (.inl ⟨_,q1,rfl⟩);obtain⟨m1,t1,v1,_⟩:=v.addr w0 ga (by simp only[La,Ga,List.length_reverse];omega);obtain⟨m2,t2,v2⟩:=v1.UE hX q1 w1;obtain⟨m3,t3,v3⟩:=X9 hX k M1 wD (i+1+1) (Sf s (dc g p) w) d c m2 ga ga (λx hx=>hp x (by simp[hx])) n1 hc v2 ga;refine⟨m3,(t1.trans (t2.trans t3)).mono (by rw[Ga,length_singleton];omega),?_⟩;rw[qlc g M1 wD s p w (by omega),<-qlI g M1 wD s (dc g p) w (λh=>n3 _ h _ (Mo rfl) rfl)];exact v3.cast (by simp only[La];omega)
end
section
variable{X:Lf}{n:Nat}
theorem Lf.Vw.elem(hX:Zd X){s:IS}{i:Nat}{d:List Nat}{c:List (List Wd)}{m:MS}{A:Ar}(hA:A∈X.P.ba){j x:Nat}(v:X.Vw s i ((X.aa A.name+j)::x::d) c m)(hj:j<(s.ar A.name).length)(hw:X.C.W[i]? = some [33]):∃ m',Gf X.C 1 m m'/\X.Vw { s with ar:=λy=>if y=A.name then (s.ar A.name).set j x else s.ar y } (i+1) d c m':=
 ⟨_,PW.store v.here hw v.data (hX.EL _ (.inr (.inr ⟨A,hA,j,by have:=(v.rel.ar A hA).1;omega,rfl⟩))),⟨PW.wh rfl,v.rel.elem hX hA hj rfl rfl rfl,rfl,v.calls⟩⟩
theorem kP(c:CC)(n:Nat)(kind:Int)(name:Nm)(index value:List Ex)(Ua Cb:List Sm):vg c n (.mk kind name index value Ua Cb) =
  if kind=1 then (Mb c (value.headD default)++[c.sc name,[33]],n)
  else if kind=2 then (Mb c (value.headD default)++c.ar name::(Mb c (index.headD default)++[[43],[33]]),n)
  else if kind=3 then
   (match Cb with
   |[]=>(Mb c (value.headD default)++[38::za n,[63]]++(Pa c (n+1) Ua).1++[za n++[58]],(Pa c (n+1) Ua).2)
   |_::_=>(Mb c (value.headD default)++[38::za n,[63]]++(Pa c (n+2) Ua).1++[[48],38::za (n+1),[63],za n++[58]]++(Pa c (Pa c (n+2) Ua).2 Cb).1++[za (n+1)++[58]],(Pa c (Pa c (n+2) Ua).2 Cb).2))
  else if kind=4 then ([za n++[58]]++Mb c (value.headD default)++[38::za (n+1),[63]]++(Pa c (n+2) Ua).1++[[48],38::za n,[63],za (n+1)++[58]],(Pa c (n+2) Ua).2)
  else if kind=5 then (Mb c (value.headD default)++[[59]],n)
  else if kind=6 then (Mb c (value.headD default)++[c.t0,[33]],n)
  else if kind=7 then ([[36]],n)
  else ([],n):=by
 rw[vg.eq_def];try rfl
theorem j8{A:Type}{l:List A}(h:l.length=1):∃ x,l=[x]:=gv h
end
def VY(n:Nat)(c:UInt8):Prop:=n=0/\(c=43∨c=45∨c=94)∨n=1/\(c=42∨c=47)
inductive Kind (ja:Wd->Bool):List Wd->List Wd->List Wd->Prop
 |fold {x y op z:Wd} {da:List Wd}:ak x op y=some z->Kind ja (x::y::op::da) [z] da
 |neutral {x:Wd} {n:Nat} {c:UInt8} {da:List Wd}:Eb x=some n->VY n c->Kind ja (x::[c]::da) [] da
 |Sg {x y z:Wd} {c:UInt8} {da:List Wd}:(c=43∨c=42∨c=94)->ak x [c] y=some z->Kind ja (x::[c]::y::[c]::da) [z,[c]] da
 |same {x:Wd} {n:Nat} {da:List Wd}:Eb x=some n->Kind ja (x::[64]::x::[33]::da) [] da
 |double {w l:Wd} {da:List Wd}:Va w=some l->Kind ja ([49]::[60]::[49]::[60]::w::[63]::da) [w,[63]] da
 |never {x w l:Wd} {n:Nat} {da:List Wd}:Eb x=some n->n≠0->Va w=some l->Kind ja (x::w::[63]::da) [] da
 |next {w l:Wd} {da:List Wd}:Va w=some l->Gt l da=true->Kind ja ([48]::w::[63]::da) [] da
 |Dp {w l:Wd} {dead da:List Wd}:Va w=some l->(∀ y∈dead,ya y=none)->(∀ y r,da=y::r->(ya y).isSome=true)->Kind ja ([48]::w::[63]::(dead++da)) [[48],w,[63]] da
 |tn {c:UInt8} {dead da:List Wd}:(c=59∨c=36)->(∀ y∈dead,ya y=none)->(∀ y r,da=y::r->(ya y).isSome=true)->Kind ja ([c]::(dead++da)) [[c]] da
 |unused {w l:Wd} {da:List Wd}:ya w=some l->ja l=false->Kind ja (w::da) [] da
theorem wq:Eb [48]=some 0:=by decide +kernel
theorem cF:Eb [49]=some 1:=by decide +kernel
theorem qlr(l:List Wd):∃ dead da,l=dead++da/\dead.length=Cq l/\(∀ y∈dead,ya y=none)/\(∀ y r,da=y::r->(ya y).isSome=true):=by
 refine⟨l.takeWhile λw=>(ya w).isNone,l.dropWhile λw=>(ya w).isNone,(List.takeWhile_append_dropWhile).symm,rfl,λy hy=>?_,λy r h=>?_⟩
 have:(ya y).isNone=true:=by
  have key:∀ {p:Wd->Bool} {l:List Wd} {x:Wd},x∈l.takeWhile p->p x=true:=by
   intro p l;induction l with
   |nil=>intro x hx;simp at hx
   |cons a r ih=>intro x hx;rw[List.takeWhile_cons] at hx;split at hx;rename_i hp;rcases zc.1 hx with rfl|hx;exact hp;exact ih hx;simp at hx
  exact key (p:=λw=>(ya w).isNone) hy
 cases h:ya y with
 |none=>rfl
 |some x=>rw[h] at this;cases this
 have h2:=List.head?_dropWhile_not (λw=>(ya w).isNone) l;rw[h] at h2;simp only[List.head?_cons] at h2
 cases hd:ya y with
 |none=>rw[hd] at h2;simp at h2
 |some x=>rfl
theorem qt5(ja:Wd->Bool)(v:List Wd)(h:(Ke ja v).1≠0):Kind ja v (Ke ja v).2 (v.drop (Ke ja v).1):=by
 by_cases h1:∃ s,Dn v=some s;obtain⟨s,h1⟩:=h1;rw[JT h1];have Ja:=Dq (xF h1).2.1;match v,Ja,h1 with
 |a::b::c::r,_,h1=>exact .fold h1
 have h1:Dn v=Option.none:=by
  cases h:Dn v with
  |none=>rfl
  |some s=>exact absurd ⟨s,h⟩ h1
 by_cases h2:Vu v;rw[zT h1 h2];have Ja:1<v.length:=Dq (by
  rcases h2 with⟨_,h|h|h⟩|⟨_,h|h⟩ <;> (rw[h];decide))
 match v,Ja,h2 with
 |a::b::r,_,h2=>have h2:a=[48]/\(b=[43]∨b=[45]∨b=[94])∨a=[49]/\(b=[42]∨b=[47]):=h2;rcases h2 with⟨rfl,rfl|rfl|rfl⟩|⟨rfl,rfl|rfl⟩;exact .neutral wq (.inl ⟨rfl,.inl rfl⟩);exact .neutral wq (.inl ⟨rfl,.inr (.inl rfl)⟩);exact .neutral wq (.inl ⟨rfl,.inr (.inr rfl)⟩);exact .neutral cF (.inr ⟨rfl,.inl rfl⟩);exact .neutral cF (.inr ⟨rfl,.inr rfl⟩)
 by_cases h3:Em v/\∃ s,Aq v=some s;obtain⟨h3,s,h4⟩:=h3;rw[DT h1 h2 h3 h4];have h5:ka v 3≠[]:=by rw[h3.2];exact(xF h4).2.1
 have Ja:=Dq h5;match v,Ja,h3,h4 with
 |a::b::c::e::r,_,h3,h4=>obtain⟨k1,k2⟩:=h3;have k1:b=[43]∨b=[42]∨b=[94]:=k1;have k2:e=b:=k2;subst k2;have h4:ak a e c=some s:=h4;rcases k1 with rfl|rfl|rfl;exact .Sg (.inl rfl) h4;exact .Sg (.inr (.inl rfl)) h4;exact .Sg (.inr (.inr rfl)) h4
 have h3:¬ Em v∨Aq v=Option.none:=by by_cases hc:Em v;exact tE;exact .inl hc
 by_cases h4:fx v;rw[vT h1 h2 h3 h4];have Ja:3<v.length:=Dq (by rw[h4.2.2.2];decide);match v,Ja,h4 with
 |a::b::c::e::r,_,h4=>obtain⟨k1,k2,k3,k4⟩:=h4;have k1:(Eb a).isSome=true:=k1;have k2:b=[64]:=k2;have k3:c=a:=k3;have k4:e=[33]:=k4;obtain⟨n,hn⟩:=zR k1;rw[k2,k3,k4];exact .same hn
 by_cases h5:Wy v;rw[wT h1 h2 h3 h4 h5];obtain⟨l,hl⟩:=zR h5.1;have h6:=lA hl;match v,h6,h5,hl with
 |a::b::c::e::f::g::r,_,h5,hl=>obtain⟨_,k2,k3,k4,k5⟩:=h5;have k2:a=[49]:=k2;have k3:b=[60]:=k3;have k4:c=[49]:=k4;have k5:e=[60]:=k5;subst k2 k3 k4 k5;unfold zm at hl;split at hl;rename_i x hx;split at hl;rename_i hy;have hx:Va f=some x:=hx;have hy:g=[63]:=hy;subst hy;exact .double hx;cases hl;cases hl
 have jk:∀ {v:List Wd} {l:Wd},zm v 1=some l->∃ a w r,v=a::w::[63]::r/\Va w=some l:=by
  intro v l hl;have h6:=lA hl;match v,h6,hl with
  |a::b::c::r,_,hl=>unfold zm at hl;split at hl;rename_i x hx;split at hl;rename_i hy;have hx:Va b=some x:=hx;have hy:c=[63]:=hy;subst hy;injection hl with hl;subst hl;exact⟨_,_,_,rfl,hx⟩;cases hl;cases hl
 cases h6:qx v with
 |true=>
  rw[HT h1 h2 h3 h4 h5 h6];unfold qx at h6;split at h6;rename_i n hn;have h7:n≠0/\(zm v 1).isSome=true:=by simpa using h6
  obtain⟨l,hl⟩:=zR h7.2;obtain⟨a,w,r,rfl,hw⟩:=jk hl;exact .never hn h7.1 hw;cases h6
 |false=>
  cases h7:My v with
  |true=>
   rw[MT h1 h2 h3 h4 h5 h6 h7];unfold My at h7;split at h7
   ·rename_i l hl
    obtain⟨a,w,r,rfl,hw⟩:=jk hl;have h8:a=[48]/\Gt l r=true:=by simpa [ka] using h7
    obtain⟨rfl,h8⟩:=h8;exact .next hw h8
   cases h7
  |false=>
   by_cases h8:CD v;rw[FT h1 h2 h3 h4 h5 h6 h7 h8];obtain⟨k1,k2⟩:=h8;simp only;unfold Mj at k1 k2 ⊢;split at k1;rename_i hj;rw[zp hj] at k2 ⊢;obtain⟨l,hl⟩:=zR hj.1;obtain⟨a,w,r,rfl,hw⟩:=jk hl;have ha:a=[48]:=hj.2;subst ha;obtain⟨dead,da,e1,e2,e3,e4⟩:=qlr r;have hd:([48]::w::[63]::r).drop 3=r:=rfl;rw[hd,<-e2,e1];have h9:([48]::w::[63]::(dead++da)).drop (3+dead.length)=da:=by rw[add_comm,<-drop_drop];simp
   rw[h9];exact .Dp hw e3 e4;rename_i hj;rw[zn hj] at k2 ⊢;split at k1;rename_i hs;rw[zp hs] at k2 ⊢;match v,hs,k2 with
   |[],hs,_=>rcases hs with h|h <;> (exact absurd h fa)
   |a::r,hs,k2=>
    have hs:a=[59]∨a=[36]:=hs;obtain⟨dead,da,e1,e2,e3,e4⟩:=qlr r;have hd:(a::r).drop 1=r:=rfl;rw[hd,<-e2,e1];have h9:(a::(dead++da)).drop (1+dead.length)=da:=by rw[add_comm,<-drop_drop];simp
    rw[h9];rcases hs with rfl|rfl;exact .tn (.inl rfl) e3 e4;exact .tn (.inr rfl) e3 e4
   exact absurd k1 fa;rw[CT h1 h2 h3 h4 h5 h6 h7 h8] at h ⊢;unfold Su at h ⊢;split at h;rename_i l hl;split at h;exact absurd rfl h;rename_i hu;rw[zn hu];match v,hl with
   |[],hl=>
    have h0:ya (ka [] 0)=none:=by decide
    rw[h0] at hl;cases hl
   |a::r,hl=>have hl:ya a=some l:=hl;exact .unused hl (by simpa using hu)
   exact absurd rfl h
theorem wQ(ja:Wd->Bool):∀ (f:Nat) (v:List Wd),v.length<=f->rk ja f v=rk ja v.length v
 |0,v,h=>by obtain rfl:=eq_nil_of_length_eq_zero (Nat.le_zero.1 h);rfl
 |f+1,[],_=>rfl
 |f+1,w::r,h=>by
  simp only[La] at h ⊢;rw[rk,rk];split;rw[wQ ja f r (by omega)];rename_i h0;have:=kH ja (w::r) h0;have hl:((w::r).drop (Ke ja (w::r)).1).length<=r.length:=by rw[length_drop,La];omega
  rw[wQ ja f _ (by omega),wQ ja r.length _ hl]
def O(ja:Wd->Bool)(v:List Wd):List Wd:=rk ja v.length v
theorem iM(ja:Wd->Bool)(w:Wd)(r:List Wd):(O ja (w::r)=w::O ja r/\(Ke ja (w::r)).1=0)∨∃ p da,Kind ja (w::r) p da/\O ja (w::r)=p++O ja da/\da.length<=r.length:=by
 unfold O;rw[La,rk];split;rename_i h;exact .inl ⟨rfl,h⟩;rename_i h;have Dc:=kH ja (w::r) h;have hl:((w::r).drop (Ke ja (w::r)).1).length<=r.length:=by rw[length_drop,La];omega
 exact .inr ⟨_,_,qt5 ja _ h,by rw[wQ ja r.length _ hl],hl⟩
theorem qi0(h:VY n c):jc c:=by unfold jc;rcases h with⟨_,rfl|rfl|rfl⟩|⟨_,rfl|rfl⟩ <;> decide
theorem qso{ja:Wd->Bool}(hc:c=63∨c=58)(h:Kind ja ([c]::r) p da):False:=by
 have hn:Eb [c]=none/\ya [c]=none:=by rcases hc with rfl|rfl <;> decide +kernel
 generalize hv:[c]::r=v at h;have hj:∀ {x op y z:Wd},ak x op y=some z->Eb x≠none:=λhj e=>by unfold ak at hj;rw[e] at hj;cases hj
 cases h with
 |fold h1=>injection hv with e _;exact hj h1 (by rw[<-e];exact hn.1)
 |neutral h1 _=>injection hv with e _;rw[<-e,hn.1] at h1;cases h1
 |Sg _ h1=>injection hv with e _;exact hj h1 (by rw[<-e];exact hn.1)
 |same h1=>injection hv with e _;rw[<-e,hn.1] at h1;cases h1
 |double _=>injection hv with e _;injection e with e _;rcases hc with rfl|rfl <;> exact absurd e fa
 |never h1 _ _=>injection hv with e _;rw[<-e,hn.1] at h1;cases h1
 |next _ _=>injection hv with e _;injection e with e _;rcases hc with rfl|rfl <;> exact absurd e fa
 |Dp _ _ _=>injection hv with e _;injection e with e _;rcases hc with rfl|rfl <;> exact absurd e fa
 |tn h1 _ _=>injection hv with e _;injection e with e _;rw[<-e] at h1;rcases hc with rfl|rfl <;> exact absurd h1 fa
 |unused h1 _=>injection hv with e _;rw[<-e,hn.2] at h1;cases h1
theorem wP(ja:Wd->Bool)(hc:c=63∨c=58)(r:List Wd):O ja ([c]::r)=[c]::O ja r:=by rcases iM ja [c] r with⟨h,_⟩|⟨p,da,h,_⟩;exact h;exact(qso hc h).elim
theorem qvA{ja:Wd->Bool}(hw:Va w=some x)(h:Kind ja (w::r) p da):False:=by
 have hn:Eb w=none/\ya w=none:=⟨JU hw,dt hw⟩;have hc:∀ c:UInt8,c≠38->w≠[c]:=λc h38 e=>by rw[e] at hw;unfold Va at hw;simp only[h38,false_and,if_false] at hw;cases hw
 generalize hv:w::r=v at h;have hj:∀ {x op y z:Wd},ak x op y=some z->Eb x≠none:=λhj e=>by unfold ak at hj;rw[e] at hj;cases hj
 cases h with
 |fold h1=>injection hv with e _;exact hj h1 (by rw[<-e];exact hn.1)
 |neutral h1 _=>injection hv with e _;rw[<-e,hn.1] at h1;cases h1
 |Sg _ h1=>injection hv with e _;exact hj h1 (by rw[<-e];exact hn.1)
 |same h1=>injection hv with e _;rw[<-e,hn.1] at h1;cases h1
 |double _=>injection hv with e _;exact hc 49 fa e
 |never h1 _ _=>injection hv with e _;rw[<-e,hn.1] at h1;cases h1
 |next _ _=>injection hv with e _;exact hc 48 fa e
 |Dp _ _ _=>injection hv with e _;exact hc 48 fa e
 |tn h1 _ _=>injection hv with e _;rcases h1 with rfl|rfl;exact hc 59 fa e;exact hc 36 fa e
 |unused h1 _=>injection hv with e _;rw[<-e,hn.2] at h1;cases h1
theorem dT(ja:Wd->Bool)(hw:Va w=some x)(r:List Wd):O ja (w::r)=w::O ja r:=by rcases iM ja w r with⟨h,_⟩|⟨p,da,h,_⟩;exact h;exact(qvA hw h).elim
inductive Ends (C:PW):Nat->MS->Nat->Wd->Nat->Prop
 |stop {s:MS} {e:Nat} {o:Wd}:gb C s=.stop e o->e≠99->Ends C 0 s e o 1
 |step {n k e:Nat} {o:Wd} {s s':MS}:gb C s=.run s'->Ends C n s' e o k->Ends C (n+1) s e o (Bi s+k)
theorem qwN{C:PW}{s s':MS}(h:Hh C k s s')(hs:gb C s'=.stop e o)(he:e≠99):∃ n,Ends C n s e o (k+1):=by
 induction h with
 |zero s=>exact⟨0,.stop hs he⟩
 |@step k s s' s2 h1 _ ih=>obtain⟨n,h2⟩:=ih hs;refine⟨n+1,?_⟩;rw[Nat.add_assoc];exact .step h1 h2
section
variable{C:PW}{n k e:Nat}{o:Wd}{s s':MS}{r:List Wd}
theorem rF(h:Ends C n s e o k)(hs:gb C s=.run s'):∃ m j,n=m+1/\k=Bi s+j/\Ends C m s' e o j:=by
 cases h with
 |stop h1 _=>rw[h1] at hs;cases hs
 |step h1 h2=>rw[h1] at hs;injection hs with hs;subst hs;exact⟨_,_,rfl,rfl,h2⟩
theorem Mt(h:Ends C n s e o k){o':Wd}(hs:gb C s=.stop 99 o'):False:=by
 cases h with
 |stop h1 h2=>rw[h1] at hs;injection hs with hs;exact h2 hs
 |step h1 _=>rw[h1] at hs;cases hs
theorem sZ{t:MS}{f:Bool}(h:Ends C n s e o k)(hs:gb C s=ym t r d v f)(ht:t.out=s.out):d.length<256/\∃ m j,n=m+1/\k=Bi s+j/\Ends C m { t with pc:=r,data:=v::d,digit:=f } e o j:=by unfold ym at hs;split at hs;rename_i hl;exact⟨hl,rF h hs⟩;exact(Mt h hs).elim
theorem Yy(hw:Eb w=some v)(hv:s.pc=w::r)(h:Ends C n s e o k):s.data.length<256/\∃ m j,n=m+1/\k=w.length+Go.ia.one s.digit+j/\Ends C m { s with pc:=r,data:=v::s.data,digit:=true } e o j:=by
 have h1:=sZ (t:=s) h (by rw[vk hv,QJ hw]) rfl;have hc:Bi s=w.length+Go.ia.one s.digit:=by unfold Bi;rw[hv];exact PJ hw
 rw[hc] at h1;exact h1
theorem lM(hc:c∈kl)(hv:s.pc=[c]::r):Bi s=1:=by unfold Bi;rw[hv];exact yZ hc
theorem zM(hc:jc c)(hv:s.pc=[c]::r)(hd:s.data=b::a::d)(hb:ud c.toNat a b=some v)(h:Ends C n s e o k):∃ m j,n=m+1/\k=1+j/\Ends C m { s with pc:=r,data:=v::d,digit:=false } e o j:=by
 have h1:=sZ (t:=s) h (by
  rw[vk hv,Ov (vx hc),DP hc];unfold Qk;rw[hd];simp only;rw[hb]) rfl
 rw[lM (vx hc) hv] at h1;exact h1.2
theorem YU(hr:Va w=some l)(hv:s.pc=w::[63]::r)(hd:s.data=a::d)(h:Ends C n s e o k):∃ t,sk l C.W=some t/\s.data.length<256/\∃ m j,n=m+1/\k=7+Go.ia.one s.digit+j/\Ends C m { s with pc:=if a=0 then t else r,data:=d,digit:=false } e o j:=by
 have hs:gb C s=Iy C s l ([63]::r):=by rw[vk hv,tF hr]
 have hc:Bi s=7+Go.ia.one s.digit:=by unfold Bi;rw[hv];exact GH hr
 unfold Iy at hs;cases ht:sk l C.W with
 |none=>rw[ht] at hs;exact(Mt h hs).elim
 |some t=>rw[ht] at hs;simp only at hs;split at hs;rename_i hl;unfold XG at hs;rw[hd] at hs;simp only[if_true] at hs;have h1:=rF h hs;rw[hc] at h1;exact⟨t,rfl,hl,h1⟩;exact(Mt h hs).elim
end
theorem nV{x:Wd}:∀ (a b:List Wd),x ∉ Ib a->sk x (a++b)=sk x b
 |[],b,_=>rfl
 |w::a,b,h=>by rw[AF] at h;have Fb:¬ ya w=some x:=λe=>h (by rw[e];simp);rw[cons_append,sk,zn Fb];exact nV a b λhx=>h (Ip (.inr hx))
theorem qrC{ja:Wd->Bool}{w:Wd}{r:List Wd}(h:(Ke ja (w::r)).1≠0):(∀ d∈Ib ((w::r).take (Ke ja (w::r)).1),ja d=false)/\Ib (Ke ja (w::r)).2=[]:=⟨(PU ja _ h).PO,(PU ja _ h).put⟩
theorem qyP(ja:Wd->Bool)(hx:ja x=true):∀ (n:Nat) (v k:List Wd),v.length<=n->sk x v=some k->sk x (O ja v)=some (O ja k):=by
 intro n;induction n with
 |zero=>intro v k hn h;obtain rfl:=eq_nil_of_length_eq_zero (Nat.le_zero.1 hn);cases h
 |succ n ih=>
  intro v k hn h;cases v with
  |nil=>cases h
  |cons w r=>
   rw[La] at hn;by_cases h0:(Ke ja (w::r)).1=0;have e:O ja (w::r)=w::O ja r:=by unfold O;rw[La,rk,zp h0]
   rw[e,sk];rw[sk] at h;split at h;rename_i hd;rw[zp hd];injection h with h;rw[h];rename_i hd;rw[zn hd];exact ih r k ga h;have Dc:=kH ja (w::r) h0;obtain⟨f1,f2⟩:=qrC h0;have e:O ja (w::r)=(Ke ja (w::r)).2++O ja ((w::r).drop (Ke ja (w::r)).1):=by unfold O;rw[La,rk,zn h0,wQ ja r.length _ (by rw[length_drop,La];omega)]
   rw[e,nV _ _ (by rw[f2];simp)];have h2:sk x (w::r)=sk x ((w::r).drop (Ke ja (w::r)).1):=by
    conv=>lhs;rw[<-List.take_append_drop (Ke ja (w::r)).1 (w::r)]
    exact nV _ _ λhm=>by rw[f1 x hm] at hx;cases hx
   rw[h2] at h;exact ih _ k (by rw[length_drop,La];omega) h
theorem tV{x:Wd}:∀ {W k:List Wd},sk x W=some k->∃ p w,W=p++w::k/\ya w=some x
 |[],k,h=>by cases h
 |w::r,k,h=>by rw[sk] at h;split at h;rename_i hd;injection h with h;subst h;exact⟨[],w,rfl,hd⟩;obtain⟨p,w',h1,h2⟩:=tV h;exact⟨w::p,w',by rw[h1];try rfl,h2⟩
theorem qvI{l:List Wd}(h:w∈l)(hd:ya w=some x):x∈Ib l:=List.mem_filterMap.2 ⟨w,h,hd⟩
theorem qk8{l:Wd}:∀ {da:List Wd},Gt l da=true->∃ ds k,da=ds++k/\sk l da=some k/\(∀ w∈ds,(ya w).isSome=true)
 |[],h=>by cases h
 |w::r,h=>by
  rw[Gt] at h;cases hd:ya w with
  |none=>rw[hd] at h;cases h
  |some d=>
   rw[hd] at h;simp only[Bool.or_eq_true,Gg] at h;by_cases he:d=l
   ·subst he;exact⟨[w],r,rfl,by rw[sk,zp hd],λy hy=>by rw[Vi hy,hd];try rfl⟩
   obtain⟨ds,k,h1,h2,h3⟩:=qk8 (da:=r) (by rcases h with h|h;exact absurd h he;exact h);refine⟨w::ds,k,by rw[h1];try rfl,?_,λy hy=>?_⟩;rw[sk,zn (by rw[hd];intro e;injection e with e;exact he e)];exact h2;rcases zc.1 hy with rfl|hy
   ·rw[hd];try rfl
   exact h3 y hy
theorem qrJ{k:List Wd}(hn:(Ib W).Nodup)(hW:W=p++da)(h:sk l da=some k):sk l W=some k:=by obtain⟨q,w,h1,h2⟩:=tV h;rw[hW,jA] at hn;have h3:=(Xm hn).2.2;rw[hW,nV _ _ λhm=>h3 l hm l (qvI (by rw[h1];simp) h2) rfl];exact h
theorem q8(ja:Wd->Bool):∀ (ds k:List Wd),(∀ w∈ds,(ya w).isSome=true)->∃ es,O ja (ds++k)=es++O ja k/\∀ w∈es,(ya w).isSome=true
 |[],k,_=>⟨[],rfl,λw hw=>by cases hw⟩
 |w::ds,k,h=>by
  obtain⟨es,h1,h2⟩:=q8 ja ds k λy hy=>h y (Pc _ hy);obtain⟨x,hx⟩:=zR (h w We);rw[cons_append];rcases iM ja w (ds++k) with⟨e,_⟩|⟨p,da,q,e,_⟩
  ·refine⟨w::es,by rw[e,h1];try rfl,λy hy=>?_⟩;rcases zc.1 hy with rfl|hy
   ·rw[hx];try rfl
   exact h2 y hy
  rw[e];generalize hv:w::(ds++k)=v at q;have ec:Eb w=none:=by
   cases hq:Eb w with
   |none=>rfl
   |some n=>rw[(zq hq).1] at hx;cases hx
  have Fb:∀ c:UInt8,ya [c]=none->w≠[c]:=λc hc e=>by rw[e,hc] at hx;cases hx
  have hj:∀ {x op y z:Wd},ak x op y=some z->Eb x≠none:=λhj e=>by unfold ak at hj;rw[e] at hj;cases hj
  cases q with
  |fold q=>injection hv with e _;exact absurd (by rw[<-e];exact ec) (hj q)
  |neutral q _=>injection hv with e _;rw[<-e,ec] at q;cases q
  |Sg _ q=>injection hv with e _;exact absurd (by rw[<-e];exact ec) (hj q)
  |same q=>injection hv with e _;rw[<-e,ec] at q;cases q
  |double _=>injection hv with e _;exact absurd e (Fb 49 (zq cF).1)
  |never q _ _=>injection hv with e _;rw[<-e,ec] at q;cases q
  |next _ _=>injection hv with e _;exact absurd e (Fb 48 (zq wq).1)
  |Dp _ _ _=>injection hv with e _;exact absurd e (Fb 48 (zq wq).1)
  |@tn c _ _ q _ _=>injection hv with e _;exact absurd e (Fb c (by rcases q with rfl|rfl <;> decide +kernel))
  |unused q _=>injection hv with e1 e2;subst e2;exact⟨es,h1,h2⟩
structure AW(ja:Wd->Bool)(s t:MS):Prop where
 pc:t.pc=O ja s.pc
 data:t.data=s.data
 calls:t.calls=s.calls.map (O ja)
 mem:t.mem=s.mem
 Ia:t.Ia=s.Ia
 out:t.out=s.out
structure Pw(W:List Wd)(s:MS):Prop where
 data:∀ v∈s.data,v<4294967296
 mem:∀ a,s.mem a<4294967296
 Ia:∀ v∈s.Ia,v<4294967296
 here:∃ p,W=p++s.pc
 calls:∀ c∈s.calls,∃ p,W=p++c
def DV(g f:Bool):Nat:=if g=true/\f=false then 1 else 0
theorem qx1(g f:Bool):Go.ia.one g<=Go.ia.one f+DV g f:=by cases g <;> cases f <;> decide
theorem eM(g f:Bool):DV g f<=1:=by cases g <;> cases f <;> decide
theorem EH(f:Bool):DV f f=0:=by cases f <;> decide
theorem TT{c:Nat}(ha:a<4294967296)(hb:b<4294967296)(h:ud c a b=some v):v<4294967296:=by unfold ud at h;split at h;injection h with h;omega;split at h;injection h with h;omega;split at h;injection h with h;rw[<-h];exact Nat.mod_lt _ fa;split at h;split at h;cases h;injection h with h;rw[<-h];exact Nat.lt_of_le_of_lt (Nat.div_le_self a b) ha;split at h;split at h;cases h;injection h with h;rw[<-h];exact Nat.lt_of_le_of_lt (Nat.mod_le a b) ha;split at h;injection h with h;rw[<-h];exact Nat.xor_lt_two_pow (n:=32) ha hb;injection h with h;rw[<-h];split <;> decide
theorem qoz(ha:a<4294967296)(h:VY n c):ud c.toNat a n=some a:=by rcases h with⟨rfl,rfl|rfl|rfl⟩|⟨rfl,rfl|rfl⟩;show some ((a+0) % 4294967296)=_;rw[Nat.add_zero,Nat.mod_eq_of_lt ha];show some ((a+4294967296-0) % 4294967296)=_;rw[Nat.sub_zero,Nat.add_mod_right,Nat.mod_eq_of_lt ha];show some (a ^^^ 0)=_;rw[Nat.xor_zero];show some (a * 1 % 4294967296)=_;rw[Nat.mul_one,Nat.mod_eq_of_lt ha];show some (a / 1)=_;rw[Nat.div_one]
section
variable{W:List Wd}{D:Nat->Bool}{n k e:Nat}{o:Wd}{s s' t:MS}{r:List Wd}
theorem qvB{C:PW}{c:Nat}(h:Hh C c s s')(g:Ends C n s' e o k):∃ m,Ends C m s e o (c+k):=by
 induction h with
 |zero s=>exact⟨n,by rw[Nat.zero_add];exact g⟩
 |@step c s s' s2 h1 _ ih=>obtain⟨m,h2⟩:=ih g;exact⟨m+1,by rw[Nat.add_assoc];exact .step h1 h2⟩
theorem OY{C:PW}(hc:jc c)(hv:s.pc=[c]::r)(h:Ends C n s e o k):∃ b a d,s.data=b::a::d:=by
 have hs:gb C s=Qk s c r:=by rw[vk hv,Ov (vx hc),DP hc]
 unfold Qk at hs;match hd:s.data with
 |b::a::d=>exact⟨b,a,d,rfl⟩
 |[]=>rw[hd] at hs;exact(Mt h hs).elim
 |[_]=>rw[hd] at hs;exact(Mt h hs).elim
theorem quI{C:PW}(hv:s.pc=[64]::r)(hd:s.data=a::d)(h:Ends C n s e o k):C.D a=true/\∃ m j,n=m+1/\k=1+j/\Ends C m { s with pc:=r,data:=s.mem a::d,digit:=false } e o j:=by
 have hs:gb C s=uJ C.D s r:=by rw[vk hv,Ov fa];try rfl
 unfold uJ at hs;rw[hd] at hs;simp only at hs;split at hs;rename_i hD;have h1:=sZ (t:=s) h hs rfl;rw[lM fa hv] at h1;exact⟨hD,h1.2⟩;exact(Mt h hs).elim
theorem qrm{C:PW}{x:Nat}(hv:s.pc=[33]::r)(hd:s.data=a::x::d)(h:Ends C n s e o k):∃ m j,n=m+1/\k=1+j/\Ends C m { s with pc:=r,data:=d,mem:=λi=>if i=a then x else s.mem i,digit:=false } e o j:=by
 have hs:gb C s=FJ C.D s r:=by rw[vk hv,Ov fa];try rfl
 unfold FJ at hs;rw[hd] at hs;simp only at hs;split at hs;have h1:=rF h hs;rw[lM fa hv] at h1;exact h1;exact(Mt h hs).elim
theorem Pw.to(h:Pw W s)(oq:∃ p,W=p++s'.pc)(hd:∀ v∈s'.data,v<4294967296)(hm:s'.mem=s.mem)(hi:s'.Ia=s.Ia)(hc:s'.calls=s.calls):Pw W s':=
 ⟨hd,by rw[hm];exact h.mem,by rw[hi];exact h.Ia,oq,by rw[hc];exact h.calls⟩
theorem Cj(h:∃ p,W=p++w::r):∃ p,W=p++r:=by obtain⟨p,hp⟩:=h;exact⟨p++[w],by rw[hp,Sc];try rfl⟩
theorem rQ{q:List Wd}(h:sk x W=some q):∃ p,W=p++q:=by obtain⟨p,w,h1,_⟩:=tV h;exact Cj ⟨p,h1⟩
theorem LX(h:∃ p,W=p++w::r)(hx:Va w=some x):Ad W x=true:=by obtain⟨p,hp⟩:=h;exact List.any_eq_true.2 ⟨w,by rw[hp];simp,by simp[hx]⟩
theorem UZ{q:List Wd}(hu:Ad W x=true)(h:sk x W=some q):sk x (O (Ad W) W)=some (O (Ad W) q):=qyP _ hu _ _ _ (Jb _) h
theorem qwm(hS:AW (Ad W) s t)(hF:Pw W s)(hr:∃ p,W=p++r):match Ou D s c r with
  |.run s1=>∃ t1,Ou D t c (O (Ad W) r)=.run t1/\AW (Ad W) s1 t1/\t1.digit=false/\s1.digit=false/\Pw W s1
  |.stop e o=>Ou D t c (O (Ad W) r)=.stop e o:=by
 obtain⟨mem,pc,data,calls,Ia,out,digit⟩:=s;obtain⟨wK,pc',vn,C6,PQ,Sr,y6⟩:=t;obtain⟨h1,h2,h3,h4,h5,h6⟩:=hS;simp only at h1 h2 h3 h4 h5 h6;subst h1 h2 h3 h4 h5 h6;obtain⟨f1,f2,f3,f4,f5⟩:=hF;simp only at f1 f2 f3 f4 f5;have kR:∀ (i:List Nat) (d:List Nat) (v:Nat),(∀ x∈i,x<4294967296)->(∀ x∈d,x<4294967296)->v<4294967296->∀ (q q':List Wd) (b b':Bool),match ym ⟨wK,q,vn,calls,i,Sr,b⟩ r d v false with
   |.run s1=>∃ t1,ym ⟨wK,q',vn,calls.map (O (Ad W)),i,Sr,b'⟩ (O (Ad W) r) d v false=.run t1/\AW (Ad W) s1 t1/\t1.digit=false/\s1.digit=false/\Pw W s1
   |.stop e o=>ym ⟨wK,q',vn,calls.map (O (Ad W)),i,Sr,b'⟩ (O (Ad W) r) d v false=.stop e o:=by
  intro i d v hi hd hv q q' b b';unfold ym;by_cases hl:d.length<256;rw[zp hl,zp hl];refine⟨_,rfl,⟨rfl,rfl,rfl,rfl,rfl,rfl⟩,rfl,rfl,⟨λx hx=>?_,f2,hi,hr,f5⟩⟩;rcases zc.1 hx with rfl|hx;exact hv;exact hd x hx;rw[zn hl,zn hl]
  try rfl
 unfold Ou;by_cases c1:c=64
 ·rw[zp c1,zp c1];unfold uJ
  cases vn with
  |nil=>rfl
  |cons a d=>
   simp only;by_cases hD:D a=true
   ·rw[zp hD,zp hD];have hd:=λx hx=>f1 x (Pc a hx);unfold ym
    by_cases hl:d.length<256;rw[zp hl,zp hl];refine⟨_,rfl,⟨rfl,rfl,rfl,rfl,rfl,rfl⟩,rfl,rfl,⟨λx hx=>?_,f2,f3,hr,f5⟩⟩;rcases zc.1 hx with rfl|hx;exact f2 a;exact hd x hx;rw[zn hl,zn hl]
    try rfl
   rw[zn hD,zn hD];try rfl
 rw[zn c1,zn c1];by_cases c2:c=33
 ·rw[zp c2,zp c2];unfold FJ
  match vn,f1 with
  |[],_=>rfl
  |[_],_=>rfl
  |a::x::d,f1=>
   simp only;by_cases hD:D a=true;rw[zp hD,zp hD];refine⟨_,rfl,⟨rfl,rfl,rfl,rfl,rfl,rfl⟩,rfl,rfl,⟨λy hy=>f1 y (Pc _ (Pc _ hy)),λi=>?_,f3,hr,f5⟩⟩;simp only;split;exact f1 x (by simp);exact f2 i;rw[zn hD,zn hD]
   try rfl
 rw[zn c2,zn c2];by_cases c3:c=59;rw[zp c3,zp c3];unfold YG;cases calls with
 |nil=>rfl
 |cons q l=>exact⟨_,rfl,⟨rfl,rfl,rfl,rfl,rfl,rfl⟩,rfl,rfl,⟨f1,f2,f3,f5 q We,λc hc=>f5 c (Pc _ hc)⟩⟩
 rw[zn c3,zn c3];by_cases c4:c=44;rw[zp c4,zp c4];refine kR PQ.tail vn _ (λx hx=>f3 x (List.mem_of_mem_tail hx)) f1 ?_ _ _ _ _
 cases PQ with
 |nil=>show(4294967295:Nat)<_;decide
 |cons v l=>exact f3 v We
 rw[zn c4,zn c4];by_cases c5:c=46;rw[zp c5,zp c5];unfold nP;cases vn with
 |nil=>rfl
 |cons a d=>exact⟨_,rfl,⟨rfl,rfl,rfl,rfl,rfl,rfl⟩,rfl,rfl,⟨λx hx=>f1 x (Pc _ hx),f2,f3,hr,f5⟩⟩
 rw[zn c5,zn c5];by_cases c6:c=36;rw[zp c6,zp c6];rw[zn c6,zn c6];by_cases c7:c=43∨c=45∨c=42∨c=47∨c=37∨c=94∨c=60
 ·rw[zp c7,zp c7];unfold Qk
  match vn,f1 with
  |[],_=>rfl
  |[_],_=>rfl
  |b::a::d,f1=>
   simp only;cases hb:ud c.toNat a b with
   |none=>rfl
   |some v=>
    simp only;have hv:=TT (f1 a (by simp)) (f1 b (by simp)) hb;unfold ym;by_cases hl:d.length<256;rw[zp hl,zp hl];refine⟨_,rfl,⟨rfl,rfl,rfl,rfl,rfl,rfl⟩,rfl,rfl,⟨λx hx=>?_,f2,f3,hr,f5⟩⟩;rcases zc.1 hx with rfl|hx;exact hv;exact f1 x (Pc _ (Pc _ hx));rw[zn hl,zn hl]
    try rfl
 rw[zn c7,zn c7];try rfl
def rK(C:PW)(u:MS)(w:Wd)(v:List Wd):MR:=match w with
 |[c]=>Ou C.D u c v
 |_=>lost u
theorem FZ{C:PW}{u:MS}{v:List Wd}(hd:ya w=none)(hn:Eb w=none)(hr:Va w=none):Ny C u w v=rK C u w v:=by unfold Ny rK;rw[hd];simp only;rw[hn];simp only;rw[hr];try rfl
theorem qi6{op y z:Wd}(h:ak x op y=some z):∃ a b c ch,Eb x=some a/\Eb y=some b/\op=[ch]/\jc ch/\ud ch.toNat a b=some c/\Eb z=some c/\z.length<=x.length+y.length+1/\c<4294967296:=by have hl:=tQ h;unfold ak at h;split at h;rename_i a b ha hb;split at h;rename_i c hc;split at h;injection h with h;have Ja:=EP ((zB _ _).1 ha).1 ((zB _ _).1 hb).1 hc;obtain⟨ch,h1,h2,h3⟩:=qvd hc;exact⟨a,b,c,ch,ha,hb,h1,h2,h3,by rw[<-h];exact qF Ja,hl,Ja⟩;cases h;cases h;cases h
end
theorem qsE{D:Nat->Bool}(hn:(Ib W).Nodup):∀ (n:Nat) (s t:MS) (e:Nat) (o:Wd) (k:Nat),Ends ⟨W,D⟩ n s e o k->AW (Ad W) s t->Pw W s->∃ n' k',Ends ⟨O (Ad W) W,D⟩ n' t e o k'/\k'<=k+DV t.digit s.digit:=by
 intro n;induction n using Nat.strongRecOn with
 |ind n ih=>
 intro s t e o k h hS hF;have hT:=hF.here;cases hv:s.pc with
 |nil=>exact(Mt h (o':=s.out) (by unfold gb;rw[hv];try rfl)).elim
 |cons w r=>
  rw[hv] at hT;have hp:=hS.pc;rw[hv] at hp;have hpo:=qx1 t.digit s.digit;have aak:=eM t.digit s.digit;rcases iM (Ad W) w r with⟨eO,_⟩|⟨p,da,q,eO,_⟩
  ·rw[eO] at hp
   cases hd:ya w with
   |some x=>obtain⟨m,j,rfl,rfl,h1⟩:=rF h (yU hv hd);obtain⟨n',k',g1,g2⟩:=ih m ga _ { t with pc:=O (Ad W) r } e o j h1 ⟨rfl,hS.data,hS.calls,hS.mem,hS.Ia,hS.out⟩ (hF.to (Cj hT) hF.data rfl rfl rfl);refine⟨_,_,.step (yU hp hd) g1,?_⟩;rw[SP hp hd,SP hv hd];simp only at g2;omega
   |none=>
    cases ec:Eb w with
    |some v=>
     obtain⟨hl,m,j,rfl,rfl,h1⟩:=Yy ec hv h;obtain⟨n',k',g1,g2⟩:=ih m ga _ { t with pc:=O (Ad W) r,data:=v::s.data,digit:=true } e o j h1 ⟨rfl,rfl,hS.calls,hS.mem,hS.Ia,hS.out⟩ (hF.to (Cj hT) (λx hx=>by
      rcases zc.1 hx with rfl|hx;exact HP ec;exact hF.data x hx) rfl rfl rfl)
     refine⟨_,_,.step (s':={ t with pc:=O (Ad W) r,data:=v::s.data,digit:=true }) ?_ g1,?_⟩;rw[vk hp,QJ ec];unfold ym;rw[hS.data,zp hl];have hc:Bi t=w.length+Go.ia.one t.digit:=by unfold Bi;rw[hp];exact PJ ec
     rw[hc];simp only[EH] at g2;omega
    |none=>
     cases hr:Va w with
     |some x=>
      have hu:=LX hT hr;have hs:gb ⟨W,D⟩ s=Iy ⟨W,D⟩ s x r:=by rw[vk hv,tF hr]
      have hc:Bi s=7+Go.ia.one s.digit:=by unfold Bi;rw[hv];exact GH hr
      have yG:Bi t=7+Go.ia.one t.digit:=by unfold Bi;rw[hp];exact GH hr
      unfold Iy at hs;cases hk:sk x W with
      |none=>simp only[hk] at hs;exact(Mt h hs).elim
      |some kk=>
       have Ng:=UZ hu hk;cases r with
       |nil=>simp only[hk] at hs;exact(Mt h hs).elim
       |cons y r=>
        simp only[hk] at hs;by_cases hl:s.data.length<256;rotate_left;rw[zn hl] at hs;exact(Mt h hs).elim;rw[zp hl] at hs;by_cases hy:y=[63];subst hy;rw[zp rfl] at hs;rw[wP _ (.inl rfl)] at hp;unfold XG at hs;cases Xh:s.data with
        |nil=>rw[Xh] at hs;exact(Mt h hs).elim
        |cons a d=>
         rw[Xh] at hs;simp only at hs;obtain⟨m,j,rfl,rfl,h1⟩:=rF h hs;have hf:=hF.data;rw[Xh] at hf;obtain⟨n',k',g1,g2⟩:=ih m ga _ { t with pc:=if a=0 then O (Ad W) kk else O (Ad W) r,data:=d,digit:=false } e o j h1 ⟨by simp only;split <;> rfl,rfl,hS.calls,hS.mem,hS.Ia,hS.out⟩ (hF.to (by
          simp only;split;exact rQ hk;exact Cj (Cj hT)) (λx hx=>hf x (Pc _ hx)) rfl rfl rfl)
         refine⟨_,_,.step (s':={ t with pc:=if a=0 then O (Ad W) kk else O (Ad W) r,data:=d,digit:=false }) ?_ g1,?_⟩;rw[vk hp,tF hr];unfold Iy XG;have Rx:(a::d).length<256:=by rw[<-Xh];exact hl
         simp only[Ng,hS.data,Xh,if_true];rw[zp Rx];rw[yG,hc];simp only[EH] at g2;omega
        rw[zn hy] at hs;by_cases TQ:y=[58];rotate_left;rw[zn TQ] at hs;exact(Mt h hs).elim;subst TQ;rw[zp rfl] at hs;rw[wP _ (.inr rfl)] at hp;by_cases Ge:s.calls.length<64;rotate_left;rw[zn Ge] at hs;exact(Mt h hs).elim;rw[zp Ge] at hs;obtain⟨m,j,rfl,rfl,h1⟩:=rF h hs;obtain⟨n',k',g1,g2⟩:=ih m ga _ { t with pc:=O (Ad W) kk,calls:=O (Ad W) r::t.calls,digit:=false } e o j h1 ⟨rfl,hS.data,by simp only[jd];rw[hS.calls],hS.mem,hS.Ia,hS.out⟩ ⟨hF.data,hF.mem,hF.Ia,rQ hk,λc hc=>by
         rcases zc.1 hc with rfl|hc;exact Cj (Cj hT);exact hF.calls c hc⟩
        refine⟨_,_,.step (s':={ t with pc:=O (Ad W) kk,calls:=O (Ad W) r::t.calls,digit:=false }) ?_ g1,?_⟩;rw[vk hp,tF hr];unfold Iy;have Aw:t.calls.length<64:=by rw[hS.calls,Db];exact Ge
        simp[Ng,hS.data,hl,Aw];rw[yG,hc];simp only[EH] at g2;omega
     |none=>
      have DI:∀ (u:MS) (v:List Wd),u.pc=w::v->Bi u=1:=λu v hu=>by unfold Bi aB;rw[hu];simp[hd,ec,hr]
      have hs:gb ⟨W,D⟩ s=_:=(vk hv).trans (FZ hd ec hr);have Wk:gb ⟨O (Ad W) W,D⟩ t=_:=(vk hp).trans (FZ hd ec hr);rcases w with _|⟨c,_|⟨c2,w2⟩⟩;exact(Mt h hs).elim;rotate_left;exact(Mt h hs).elim;have hs:gb ⟨W,D⟩ s=Ou D s c r:=hs;have Wk:gb ⟨O (Ad W) W,D⟩ t=Ou D t c (O (Ad W) r):=Wk;have key:=qwm (D:=D) (c:=c) hS hF (Cj hT);cases UD:Ou D s c r with
      |stop e2 o2=>
       rw[UD] at key hs;simp only at key;rw[key] at Wk;cases h with
       |stop h1 h2=>rw[hs] at h1;injection h1 with h1 h3;subst h1 h3;exact⟨_,_,.stop Wk h2,by omega⟩
       |step h1 _=>rw[hs] at h1;cases h1
      |run s1=>rw[UD] at key hs;obtain⟨t1,k1,k2,k3,k4,k5⟩:=key;rw[k1] at Wk;obtain⟨m,j,rfl,rfl,h1⟩:=rF h hs;obtain⟨n',k',g1,g2⟩:=ih m ga _ t1 e o j h1 k2 k5;refine⟨_,_,.step Wk g1,?_⟩;rw[DI t _ hp,DI s _ hv];rw[k3,k4,EH] at g2;omega
  rw[eO] at hp;generalize hvv:w::r=v at q;rw[hvv] at hv hT;clear hvv eO;cases q with
  |@fold x y op z da h1=>
   obtain⟨a,b,c,ch,p1,p2,rfl,p4,p5,p6,p7,p8⟩:=qi6 h1;obtain⟨hl,m1,j1,rfl,rfl,h2⟩:=Yy p1 hv h;obtain⟨qp,m2,j2,rfl,rfl,h3⟩:=Yy p2 rfl h2;obtain⟨m3,j3,rfl,rfl,h4⟩:=zM p4 rfl rfl p5 h3;obtain⟨n',k',g1,g2⟩:=ih m3 ga _ { t with pc:=O (Ad W) da,data:=c::s.data,digit:=true } e o j3 h4 ⟨rfl,rfl,hS.calls,hS.mem,hS.Ia,hS.out⟩ (hF.to (Cj (Cj (Cj hT))) (λx hx=>by
     rcases zc.1 hx with rfl|hx;exact p8;exact hF.data x hx) rfl rfl rfl)
   have hp:t.pc=z::O (Ad W) da:=hp;refine⟨_,_,.step (s':={ t with pc:=O (Ad W) da,data:=c::s.data,digit:=true }) ?_ g1,?_⟩;rw[vk hp,QJ p6];unfold ym;rw[hS.data,zp hl];have hc:Bi t=z.length+Go.ia.one t.digit:=by unfold Bi;rw[hp];exact PJ p6
   rw[hc];simp only at g2 ⊢;have:=eM true false;have e1:Go.ia.one true=1:=rfl;omega
  |@neutral x nn c da h1 h2=>have Xc:=qi0 h2;obtain⟨hl,m1,j1,rfl,rfl,h3⟩:=Yy h1 hv h;obtain⟨b,a,d,hd⟩:=OY Xc rfl h3;simp only at hd;injection hd with Rq hd;subst Rq;obtain⟨m2,j2,rfl,rfl,h4⟩:=zM Xc rfl (by simp only;rw[hd]) (qoz (hF.data a (by rw[hd];simp)) h2) h3;obtain⟨n',k',g1,g2⟩:=ih m2 ga _ t e o j2 h4 ⟨hp,by simp only;rw[hS.data,hd],hS.calls,hS.mem,hS.Ia,hS.out⟩ (hF.to (Cj (Cj hT)) (by simp only;rw[<-hd];exact hF.data) rfl rfl rfl);refine⟨n',k',g1,?_⟩;have:=eM t.digit false;simp only at g2;omega
  |@Sg x y z c da hc h1=>
   obtain⟨a,b,cc,ch,p1,p2,p3,p4,p5,p6,p7,p8⟩:=qi6 h1;injection p3 with p3 _;subst p3;obtain⟨hl,m1,j1,rfl,rfl,h3⟩:=Yy p1 hv h;obtain⟨b',a',d,hd⟩:=OY p4 rfl h3;simp only at hd;injection hd with Rq hd;subst Rq;obtain⟨u,z',b1,b2,b3⟩:=qoO hc a' a b;rw[p5] at b2;injection b2 with b2;subst b2;obtain⟨m2,j2,rfl,rfl,h4⟩:=zM p4 rfl (by simp only;rw[hd]) b1 h3;obtain⟨qp,m3,j3,rfl,rfl,h5⟩:=Yy p2 rfl h4;have cG:∃ v,ud c.toNat u b=some v:=by rcases hc with rfl|rfl|rfl <;> exact⟨_,rfl⟩
   obtain⟨v,cG⟩:=cG;obtain⟨m4,j4,rfl,rfl,h6⟩:=zM p4 rfl rfl cG h5;have ha:=hF.data a' (by rw[hd];simp);have V2:=TT ha p8 (by rw[<-b3];exact cG);obtain⟨n',k',g1,g2⟩:=ih m4 ga _ { t with pc:=O (Ad W) da,data:=v::d,digit:=false } e o j4 h6 ⟨rfl,rfl,hS.calls,hS.mem,hS.Ia,hS.out⟩ (hF.to (Cj (Cj (Cj (Cj hT)))) (λx hx=>by
     rcases zc.1 hx with rfl|hx;exact V2;exact hF.data x (by rw[hd];exact Pc _ hx)) rfl rfl rfl)
   have hp:t.pc=z::[c]::O (Ad W) da:=hp;rw[hd] at hl;simp only[La] at hl;refine⟨_,_,.step (s':={ t with pc:=[c]::O (Ad W) da,data:=cc::s.data,digit:=true }) ?_ (.step (s':={ t with pc:=O (Ad W) da,data:=v::d,digit:=false }) ?_ g1),?_⟩;rw[vk hp,QJ p6];unfold ym;rw[hS.data,hd,zp (by simp only[La];omega)];rw[vk rfl,Ov (vx p4),DP p4];unfold Qk;simp only[hd];rw[<-b3,cG];simp only;unfold ym;rw[zp (by omega)];have hc:Bi t=z.length+Go.ia.one t.digit:=by unfold Bi;rw[hp];exact PJ p6
   rw[hc,lM (vx p4) rfl];simp only[EH] at g2 ⊢;have e1:Go.ia.one false=0:=rfl;omega
  |@same x nn da h1=>
   obtain⟨hl,m1,j1,rfl,rfl,h3⟩:=Yy h1 hv h;obtain⟨hD,m2,j2,rfl,rfl,h4⟩:=quI rfl rfl h3;obtain⟨qp,m3,j3,rfl,rfl,h5⟩:=Yy h1 rfl h4;obtain⟨m4,j4,rfl,rfl,h6⟩:=qrm rfl rfl h5;have hm:(λi=>if i=nn then s.mem nn else s.mem i)=s.mem:=by funext i;split;rename_i e;rw[e];rfl
   obtain⟨n',k',g1,g2⟩:=ih m4 ga _ t e o j4 h6 ⟨hp,hS.data,hS.calls,hS.mem.trans hm.symm,hS.Ia,hS.out⟩ (hF.to (Cj (Cj (Cj (Cj hT)))) hF.data hm rfl rfl);refine⟨n',k',g1,?_⟩;have:=eM t.digit false;simp only at g2;omega
  |@double w l da h1=>
   have ho:jc 60:=by unfold jc;decide
   obtain⟨hl,m1,j1,rfl,rfl,h3⟩:=Yy cF hv h;obtain⟨b',a,d,hd⟩:=OY ho rfl h3;simp only at hd;injection hd with Rq hd;subst Rq;obtain⟨m2,j2,rfl,rfl,h4⟩:=zM ho rfl (v:=if a<1 then 1 else 0) (by simp only;rw[hd]) (by unfold ud;simp) h3;obtain⟨qp,m3,j3,rfl,rfl,h5⟩:=Yy cF rfl h4;obtain⟨m4,j4,rfl,rfl,h6⟩:=zM ho rfl (v:=if (if a<1 then 1 else 0)<1 then 1 else 0) rfl (by unfold ud;simp) h5;obtain⟨kk,hk,_,m5,j5,rfl,rfl,h7⟩:=YU h1 rfl rfl h6;have hT5:=Cj (Cj (Cj (Cj hT)));have Ng:=UZ (LX hT5 h1) hk;have hz:((if (if a<1 then 1 else 0)<1 then 1 else 0)=0)=(a=0):=by by_cases ha:a=0;subst ha;simp;rw[zn (show ¬ a<1 by omega)];simp[ha]
   simp only[hz] at h7;obtain⟨n',k',g1,g2⟩:=ih m5 ga _ { t with pc:=if a=0 then O (Ad W) kk else O (Ad W) da,data:=d,digit:=false } e o j5 h7 ⟨by simp only;split <;> rfl,rfl,hS.calls,hS.mem,hS.Ia,hS.out⟩ (hF.to (by
     simp only;split;exact rQ hk;exact Cj (Cj hT5)) (λx hx=>hF.data x (by rw[hd];exact Pc _ hx)) rfl rfl rfl)
   have hp:t.pc=w::[63]::O (Ad W) da:=hp;have yG:Bi t=7+Go.ia.one t.digit:=by unfold Bi;rw[hp];exact GH h1
   refine⟨_,_,.step (s':={ t with pc:=if a=0 then O (Ad W) kk else O (Ad W) da,data:=d,digit:=false }) ?_ g1,?_⟩;rw[vk hp,tF h1];unfold Iy XG;have Rx:(a::d).length<256:=by rw[<-hd];exact hl
   simp only[Ng,hS.data,hd,if_true];rw[zp Rx];rw[yG];simp only[EH] at g2 ⊢;have e1:Go.ia.one false=0:=rfl;have e2:([49]:Wd).length=1:=rfl;omega
  |@never x w l nn da h1 h2 h3=>obtain⟨hl,m1,j1,rfl,rfl,h4⟩:=Yy h1 hv h;obtain⟨kk,hk,_,m2,j2,rfl,rfl,h5⟩:=YU h3 rfl rfl h4;rw[zn h2] at h5;obtain⟨n',k',g1,g2⟩:=ih m2 ga _ t e o j2 h5 ⟨hp,hS.data,hS.calls,hS.mem,hS.Ia,hS.out⟩ (hF.to (Cj (Cj (Cj hT))) hF.data rfl rfl rfl);refine⟨n',k',g1,?_⟩;have:=eM t.digit false;simp only at g2;omega
  |@next w l da h1 h2=>
   obtain⟨hl,m1,j1,rfl,rfl,h4⟩:=Yy wq hv h;obtain⟨kk,hk,_,m2,j2,rfl,rfl,h5⟩:=YU h1 rfl rfl h4;rw[zp rfl] at h5;obtain⟨ds,k2,e1,e2,e3⟩:=qk8 h2;have hT3:=Cj (Cj (Cj hT));obtain⟨p0,WD⟩:=hT3;have Eo:=qrJ hn WD e2;rw[hk] at Eo;injection Eo with Eo;subst Eo;obtain⟨es,q1,q2⟩:=q8 (Ad W) ds kk e3;have hp:t.pc=es++O (Ad W) kk:=by rw[<-q1,<-e1];exact hp
   obtain⟨n',k',g1,g2⟩:=ih m2 ga _ { t with pc:=O (Ad W) kk } e o j2 h5 ⟨rfl,hS.data,hS.calls,hS.mem,hS.Ia,hS.out⟩ (hF.to (rQ hk) hF.data rfl rfl rfl);obtain⟨n2,g3⟩:=qvB (oZ es t _ hp q2) g1;refine⟨n2,_,g3,?_⟩;have:=eM t.digit false;simp only at g2;omega
  |@Dp w l dead da h1 h2 h3=>
   obtain⟨hl,m1,j1,rfl,rfl,h4⟩:=Yy wq hv h;obtain⟨kk,hk,qp,m2,j2,rfl,rfl,h5⟩:=YU h1 rfl rfl h4;rw[zp rfl] at h5;have Ng:=UZ (LX (Cj hT) h1) hk;have hp:t.pc=[48]::w::[63]::O (Ad W) da:=hp;obtain⟨n',k',g1,g2⟩:=ih m2 ga _ { t with pc:=O (Ad W) kk,digit:=false } e o j2 h5 ⟨rfl,hS.data,hS.calls,hS.mem,hS.Ia,hS.out⟩ (hF.to (rQ hk) hF.data rfl rfl rfl);refine⟨_,_,.step (s':={ t with pc:=w::[63]::O (Ad W) da,data:=0::s.data,digit:=true }) ?_ (.step (s':={ t with pc:=O (Ad W) kk,digit:=false }) ?_ g1),?_⟩;rw[vk hp,QJ wq];unfold ym;rw[hS.data,zp hl];rw[vk rfl,tF h1];unfold Iy XG;have TK:(0::s.data).length<256:=qp;simp only[Ng,if_true];rw[zp TK,<-hS.data];have hc:Bi t=([48]:Wd).length+Go.ia.one t.digit:=by unfold Bi;rw[hp];exact PJ wq
   have ef:Bi { t with pc:=w::[63]::O (Ad W) da,data:=0::s.data,digit:=true }=7+Go.ia.one true:=GH h1;rw[hc,ef];simp only[EH] at g2 ⊢;omega
  |@tn c dead da h1 h2 h3=>
   have hp:t.pc=[c]::O (Ad W) da:=hp;have jG:c∈kl:=by rcases h1 with rfl|rfl <;> decide
   have hs:gb ⟨W,D⟩ s=Ou D s c (dead++da):=by rw[vk hv,Ov jG]
   have Wk:gb ⟨O (Ad W) W,D⟩ t=Ou D t c (O (Ad W) da):=by rw[vk hp,Ov jG]
   have hc:=lM jG hv;have yG:=lM jG hp;rcases h1 with rfl|rfl;have hs:gb ⟨W,D⟩ s=YG s:=hs;have Wk:gb ⟨O (Ad W) W,D⟩ t=YG t:=Wk;unfold YG at hs Wk;cases Ge:s.calls with
   |nil=>rw[Ge] at hs;exact(Mt h hs).elim
   |cons kk l=>rw[Ge] at hs;rw[hS.calls,Ge,jd] at Wk;simp only at hs Wk;obtain⟨m1,j1,rfl,rfl,h4⟩:=rF h hs;obtain⟨n',k',g1,g2⟩:=ih m1 ga _ { t with pc:=O (Ad W) kk,calls:=l.map (O (Ad W)),digit:=false } e o j1 h4 ⟨rfl,hS.data,rfl,hS.mem,hS.Ia,hS.out⟩ ⟨hF.data,hF.mem,hF.Ia,hF.calls kk (by rw[Ge];simp),λc hc=>hF.calls c (by rw[Ge];exact Pc _ hc)⟩;refine⟨_,_,.step Wk g1,?_⟩;rw[yG,hc];simp only[EH] at g2;omega
   have hs:gb ⟨W,D⟩ s=.stop 0 s.out:=hs;have Wk:gb ⟨O (Ad W) W,D⟩ t=.stop 0 t.out:=Wk;cases h with
   |stop h4 h5=>rw[hs] at h4;injection h4 with h4 h6;subst h4 h6;rw[hS.out] at Wk;exact⟨_,_,.stop Wk h5,by omega⟩
   |step h4 _=>rw[hs] at h4;cases h4
  |@unused w l da h1 h2=>obtain⟨m1,j1,rfl,rfl,h4⟩:=rF h (yU hv h1);obtain⟨n',k',g1,g2⟩:=ih m1 ga _ t e o j1 h4 ⟨hp,hS.data,hS.calls,hS.mem,hS.Ia,hS.out⟩ (hF.to (Cj hT) hF.data rfl rfl rfl);refine⟨n',k',g1,?_⟩;rw[SP hv h1];simp only at g2;omega
theorem qsb{D:Nat->Bool}{Ia:List Nat}(hn:(Ib W).Nodup)(hi:∀ v∈Ia,v<4294967296)(h:Ends ⟨W,D⟩ n ⟨λ_=>0,W,[],[],Ia,[],false⟩ e o k):∃ n' k',Ends ⟨Np W,D⟩ n' ⟨λ_=>0,Np W,[],[],Ia,[],false⟩ e o k'/\k'<=k:=
 qsE hn n _ ⟨λ_=>0,Np W,[],[],Ia,[],false⟩ e o k h ⟨rfl,rfl,rfl,rfl,rfl,rfl⟩ ⟨λv hv=>(not_mem_nil hv).elim,λ_=>(by show(0:Nat)<_;decide),hi,⟨[],rfl⟩,λc hc=>(not_mem_nil hc).elim⟩
theorem qlj{D:Nat->Bool}{Ia:List Nat}(hi:∀ v∈Ia,v<4294967296){e:Nat}{o:Wd}:∀ (f:Nat) {W:List Wd} {n k:Nat},Et W->Ends ⟨W,D⟩ n ⟨λ_=>0,W,[],[],Ia,[],false⟩ e o k->∃ n' k',Ends ⟨Wg f W,D⟩ n' ⟨λ_=>0,Wg f W,[],[],Ia,[],false⟩ e o k'/\k'<=k
 |0,W,n,k,_,h=>⟨n,k,h,Jb _⟩
 |f+1,W,n,k,hA,h=>by rw[Wg];split;exact⟨n,k,h,Jb _⟩;obtain⟨n1,k1,h1,h2⟩:=qsb hA.1 hi h;obtain⟨n2,k2,h3,h4⟩:=qlj hi f (qqk hA) h1;exact⟨n2,k2,h3,Qf h4 h2⟩
theorem qvb{D:Nat->Bool}{Ia:List Nat}(hi:∀ v∈Ia,v<4294967296)(hA:Et W)(h:Ends ⟨W,D⟩ n ⟨λ_=>0,W,[],[],Ia,[],false⟩ e o k):∃ n' k',Ends ⟨qi W,D⟩ n' ⟨λ_=>0,qi W,[],[],Ia,[],false⟩ e o k'/\k'<=k:=qlj hi _ hA h
def jD(c:UInt8):Option (Nat×Nat):=
 if c=64 then some (1,1) else if c=33 then some (2,0) else if c=44 then some (0,1) else if c=46 then some (1,0)
 else if c=43∨c=45∨c=42∨c=47∨c=37∨c=94∨c=60 then some (2,1) else none
inductive Ty (L:Wd->Nat):Option Nat->List Wd->Prop
 |nil {o:Option Nat}:Ty L o []
 |free {d:Nat} {v:List Wd}:Ty L (some d) v->Ty L none v
 |nk {w x:Wd} {r:List Wd}:ya w=some x->L x=0->Ty L (some 0) r->Ty L (some 0) (w::r)
 |mj {w x:Wd} {r:List Wd}:ya w=some x->Ty L (some (L x)) r->Ty L none (w::r)
 |num {d n:Nat} {w:Wd} {r:List Wd}:Eb w=some n->Ty L (some (d+1)) r->Ty L (some d) (w::r)
 |jump {w x:Wd} {r:List Wd}:Va w=some x->L x=0->Ty L (some 0) r->Ty L (some 1) (w::[63]::r)
 |goto {w x:Wd} {r:List Wd}:Va w=some x->L x=0->Ty L none r->Ty L (some 0) ([48]::w::[63]::r)
 |call {d:Nat} {w x:Wd} {r:List Wd}:Va w=some x->Ty L (some (d+1)) r->Ty L (some (d+L x)) (w::[58]::r)
 |sign {d a b:Nat} {c:UInt8} {r:List Wd}:jD c=some (a,b)->Ty L (some (d+b)) r->Ty L (some (d+a)) ([c]::r)
 |stop {d:Nat} {c:UInt8} {r:List Wd}:(c=59∨c=36)->Ty L none r->Ty L (some d) ([c]::r)
theorem vF{p:Nat×Nat}(h:jD c=some p):c∈kl/\c≠59/\c≠36:=by
 have key:∀ n:Nat,n<256->(jD (UInt8.ofNat n)).isSome=true->UInt8.ofNat n∈kl/\UInt8.ofNat n≠59/\UInt8.ofNat n≠36:=by decide +kernel
 have:=key c.toNat c.toNat_lt;rw[UInt8.ofNat_toNat] at this;exact this (by rw[h];try rfl)
theorem Kt(h:c∈kl):ya [c]=none/\Eb [c]=none/\Va [c]=none:=by obtain⟨e1,e2,e3⟩:=xx h;exact⟨e1,PZ e3,e2⟩
theorem IH(h:c=59∨c=36):c∈kl:=by rcases h with rfl|rfl <;> decide
section
variable{L:Wd->Nat}{d:Nat}{o:Option Nat}{w x:Wd}{r:List Wd}
theorem jF(hn:Eb w=some n)(hr:∀ y q,r=y::q->Va y=none)(h:Ty L (some d) (w::r)):Ty L (some (d+1)) r:=by
 obtain⟨k1,k2⟩:=zq hn;generalize hv:w::r=v at h;generalize ho:some d=o at h;cases h with
 |nil=>cases hv
 |free _=>cases ho
 |nk h1 _ _=>injection hv with e _;rw[<-e,k1] at h1;cases h1
 |mj _ _=>cases ho
 |num _ h2=>injection hv with _ e;injection ho with ho;subst e ho;exact h2
 |jump h1 _ _=>injection hv with e _;rw[<-e,k2] at h1;cases h1
 |goto h1 _ _=>injection hv with _ e;rw[hr _ _ e] at h1;cases h1
 |call h1 _=>injection hv with e _;rw[<-e,k2] at h1;cases h1
 |sign h1 _=>injection hv with e _;rw[e,(Kt (vF h1).1).2.1] at hn;cases hn
 |stop h1 _=>injection hv with e _;rw[e,(Kt (IH h1)).2.1] at hn;cases hn
theorem nH(hc:jD c=some (a,b))(h:Ty L (some d) ([c]::r)):∃ e,d=e+a/\Ty L (some (e+b)) r:=by
 obtain⟨k0,k4,k5⟩:=vF hc;obtain⟨k1,k2,k3⟩:=Kt k0;generalize hv:[c]::r=v at h;generalize ho:some d=o at h;cases h with
 |nil=>cases hv
 |free _=>cases ho
 |nk h1 _ _=>injection hv with e _;rw[<-e,k1] at h1;cases h1
 |mj _ _=>cases ho
 |num h1 h2=>injection hv with e _;rw[<-e,k2] at h1;cases h1
 |jump h1 _ _=>injection hv with e _;rw[<-e,k3] at h1;cases h1
 |goto h1 _ _=>injection hv with e _;rw[e,wq] at k2;cases k2
 |call h1 _=>injection hv with e _;rw[<-e,k3] at h1;cases h1
 |sign h1 h2=>injection hv with e e2;injection e with e _;subst e e2;rw[hc] at h1;injection h1 with h1;injection h1 with e1 e2;subst e1 e2;injection ho with ho;exact⟨_,ho,h2⟩
 |stop h1 _=>injection hv with e _;injection e with e _;rw[<-e] at h1;rcases h1 with h1|h1;exact absurd h1 k4;exact absurd h1 k5
theorem qsH(hr:Va w=some x)(h:Ty L (some d) (w::[63]::r)):d=1/\L x=0/\Ty L (some 0) r:=by
 have k1:=dt hr;have k2:=JU hr;generalize hv:w::[63]::r=v at h;generalize ho:some d=o at h;cases h with
 |nil=>cases hv
 |free _=>cases ho
 |nk h1 _ _=>injection hv with e _;rw[<-e,k1] at h1;cases h1
 |mj _ _=>cases ho
 |num h1 h2=>injection hv with e _;rw[<-e,k2] at h1;cases h1
 |jump h1 h2 h3=>injection hv with e e2;injection e2 with _ e2;subst e e2;rw[hr] at h1;injection h1 with h1;subst h1;injection ho with ho;exact⟨ho,h2,h3⟩
 |goto h1 _ _=>injection hv with e _;rw[e,wq] at k2;cases k2
 |call h1 _=>injection hv with _ e;injection e with e _;exact absurd e fa
 |sign h1 _=>injection hv with e _;rw[e,(Kt (vF h1).1).2.2] at hr;cases hr
 |stop h1 _=>injection hv with e _;rw[e,(Kt (IH h1)).2.2] at hr;cases hr
theorem OX{z:Wd}(hz:Eb z=some n)(hr:Va w=some x)(h:Ty L (some d) (z::w::[63]::r)):d=0/\L x=0/\Ty L none r/\(n≠0->Ty L (some 0) r):=by
 obtain⟨k1,k2⟩:=zq hz;generalize hv:z::w::[63]::r=v at h;generalize ho:some d=o at h;cases h with
 |nil=>cases hv
 |free _=>cases ho
 |nk h1 _ _=>injection hv with e _;rw[<-e,k1] at h1;cases h1
 |mj _ _=>cases ho
 |num h1 h2=>injection hv with _ e;injection ho with ho;subst e ho;obtain⟨e1,e2,e3⟩:=qsH hr h2;exact⟨by omega,e2,.free e3,λ_=>e3⟩
 |jump h1 _ _=>injection hv with e _;rw[<-e,k2] at h1;cases h1
 |goto h1 h2 h3=>
  injection hv with e0 e;injection e with e e2;injection e2 with _ e2;subst e e2;rw[hr] at h1;injection h1 with h1;subst h1;injection ho with ho;refine⟨ho,h2,h3,λhn=>?_⟩;rw[e0,wq] at hz;injection hz with hz
  exact absurd hz.symm hn
 |call h1 _=>injection hv with e _;rw[<-e,k2] at h1;cases h1
 |sign h1 _=>injection hv with e _;rw[e,(Kt (vF h1).1).2.1] at hz;cases hz
 |stop h1 _=>injection hv with e _;rw[e,(Kt (IH h1)).2.1] at hz;cases hz
theorem qx9(hc:c=59∨c=36)(h:Ty L (some d) ([c]::r)):Ty L none r:=by
 obtain⟨k1,k2,k3⟩:=Kt (IH hc);generalize hv:[c]::r=v at h;generalize ho:some d=o at h;cases h with
 |nil=>cases hv
 |free _=>cases ho
 |nk h1 _ _=>injection hv with e _;rw[<-e,k1] at h1;cases h1
 |mj _ _=>cases ho
 |num h1 h2=>injection hv with e _;rw[<-e,k2] at h1;cases h1
 |jump h1 _ _=>injection hv with e _;rw[<-e,k3] at h1;cases h1
 |goto h1 _ _=>injection hv with e _;rw[e,wq] at k2;cases k2
 |call h1 _=>injection hv with e _;rw[<-e,k3] at h1;cases h1
 |sign h1 h2=>injection hv with e e2;injection e with e _;subst e;rcases hc with rfl|rfl;exact absurd rfl (vF h1).2.1;exact absurd rfl (vF h1).2.2
 |stop h1 h2=>injection hv with _ e;subst e;exact h2
theorem DX(hd:ya w=some x)(h:Ty L (some d) (w::r)):d=0/\L x=0/\Ty L (some 0) r:=by
 generalize hv:w::r=v at h;generalize ho:some d=o at h;cases h with
 |nil=>cases hv
 |free _=>cases ho
 |nk h1 h2 h3=>injection hv with e e2;subst e e2;rw[hd] at h1;injection h1 with h1;subst h1;injection ho with ho;exact⟨ho,h2,h3⟩
 |mj _ _=>cases ho
 |num h1 h2=>injection hv with e _;rw[e,(zq h1).1] at hd;cases hd
 |jump h1 _ _=>injection hv with e _;rw[e,dt h1] at hd;cases hd
 |goto h1 _ _=>injection hv with e _;rw[e,(zq wq).1] at hd;cases hd
 |call h1 _=>injection hv with e _;rw[e,dt h1] at hd;cases hd
 |sign h1 h2=>injection hv with e _;rw[e,(Kt (vF h1).1).1] at hd;cases hd
 |stop h1 h2=>injection hv with e _;rw[e,(Kt (IH h1)).1] at hd;cases hd
theorem eY(h:Ty L none (w::r)):(∃ d,Ty L (some d) (w::r))∨∃ x,ya w=some x/\Ty L (some (L x)) r:=by
 cases h with
 |free h=>exact .inl ⟨_,h⟩
 |mj h1 h2=>exact .inr ⟨_,h1,h2⟩
end
section
variable{L:Wd->Nat}
theorem N9(np:∀ y r,da=y::r->(ya y).isSome=true):∀ (n:Nat) (dead:List Wd) (o:Option Nat),dead.length<=n->(∀ y∈dead,ya y=none)->Ty L o (dead++da)->Ty L none da:=by
 have qc:∀ {o:Option Nat} {v:List Wd},Ty L o v->Ty L none v:=λ{o v} h=>by
  cases o with
  |none=>exact h
  |some d=>exact .free h
 have cut:∀ {dead r:List Wd} {z:Wd},dead++da=z::r->ya z=none->∃ NI,dead=z::NI/\r=NI++da:=by
  intro dead r z e hz;cases dead with
  |nil=>have:=np z r e;rw[hz] at this;cases this
  |cons y dead=>rw[cons_append] at e;injection e with e1 e2;subst e1 e2;exact⟨dead,rfl,rfl⟩
 intro n;induction n with
 |zero=>intro dead o hn hd h;obtain rfl:=eq_nil_of_length_eq_zero (Nat.le_zero.1 hn);exact qc h
 |succ n ih=>
  intro dead o hn hd h;cases dead with
  |nil=>exact qc h
  |cons y dead=>
   have hy:=hd y We;have ru:=λz hz=>hd z (Pc y hz);rw[La] at hn
   have main:∀ d,Ty L (some d) (y::(dead++da))->Ty L none da:=by
    intro d h;generalize hv:y::(dead++da)=v at h;generalize ho:some d=o at h;cases h with
    |nil=>cases hv
    |free _=>cases ho
    |nk h1 _ _=>injection hv with e _;rw[<-e,hy] at h1;cases h1
    |mj _ _=>cases ho
    |num h1 h2=>injection hv with _ e;subst e;exact ih dead _ ga ru h2
    |jump h1 _ h2=>injection hv with _ e;obtain⟨q,rfl,rfl⟩:=cut e (by decide +kernel);exact ih q _ (by simp only[La] at hn;omega) (λz hz=>ru z (Pc _ hz)) h2
    |goto h1 _ h2=>injection hv with _ e;obtain⟨q,rfl,e2⟩:=cut e (dt h1);obtain⟨q2,rfl,rfl⟩:=cut e2.symm (by decide +kernel);exact ih q2 _ (by simp only[La] at hn;omega) (λz hz=>ru z (Pc _ (Pc _ hz))) h2
    |call h1 h2=>injection hv with _ e;obtain⟨q,rfl,rfl⟩:=cut e (by decide +kernel);exact ih q _ (by simp only[La] at hn;omega) (λz hz=>ru z (Pc _ hz)) h2
    |sign h1 h2=>injection hv with _ e;subst e;exact ih dead _ ga ru h2
    |stop h1 h2=>injection hv with _ e;subst e;exact ih dead _ ga ru h2
   cases o with
   |some d=>exact main d h
   |none=>rcases eY h with⟨d,h⟩|⟨x,h1,_⟩;exact main d h;rw[hy] at h1;cases h1
theorem qyQ(hl:L l=0):∀ {da:List Wd},Gt l da=true->Ty L none da->Ty L (some 0) da
 |[],h,_=>by cases h
 |w::r,h,ht=>by
  rcases eY ht with⟨d,ht⟩|⟨x,h1,h2⟩;cases hd:ya w with
  |none=>rw[Gt,hd] at h;cases h
  |some x=>obtain⟨rfl,_,_⟩:=DX hd ht;exact ht
  rw[Gt,h1] at h;simp only[Bool.or_eq_true,Gg] at h;have h0:L x=0:=by
   rcases h with rfl|h;exact hl;cases r with
   |nil=>cases h
   |cons y q=>
    cases hd:ya y with
    |none=>rw[Gt,hd] at h;cases h
    |some z=>exact(DX hd h2).1
  rw[h0] at h2;exact .nk h1 h0 h2
theorem fM(h:jc c):jD c=some (2,1):=by unfold jc at h;rcases h with rfl|rfl|rfl|rfl|rfl|rfl|rfl <;> decide
theorem qsg{y:Wd}(h:Eb y=some n):Va y=none:=(zq h).2
theorem qys{ja:Wd->Bool}{v:List Wd}(h:Kind ja v p da){d:Nat}(ht:Ty L (some d) v)(T:List Wd)(hT:∀ o,Ty L o da->Ty L o T):Ty L (some d) (p++T):=by
 have Yw:∀ {c:UInt8} {q:List Wd},c∈kl->∀ y s,[c]::q=y::s->Va y=none:=λhc y s e=>by injection e with e _;rw[<-e];exact(Kt hc).2.2
 cases h with
 |@fold x y op z da h1=>
  obtain⟨k1,k2,k3,k4⟩:=C1 h1;unfold ak at h1;split at h1;rename_i a b ha hb;split at h1;rename_i c hc;split at h1;injection h1 with h1;have Ja:=EP ((zB _ _).1 ha).1 ((zB _ _).1 hb).1 hc;have Xc:∃ ch,op=[ch]/\jc ch:=by unfold Yo at hc;unfold jc;split at hc;rename_i e;exact⟨_,e,by decide⟩;split at hc;rename_i e;exact⟨_,e,by decide⟩;split at hc;rename_i e;exact⟨_,e,by decide⟩;split at hc;rename_i e;exact⟨_,e,by decide⟩;split at hc;rename_i e;exact⟨_,e,by decide⟩;split at hc;rename_i e;exact⟨_,e,by decide⟩;split at hc;rename_i e;exact⟨_,e,by decide⟩;cases hc
  obtain⟨ch,rfl,Xc⟩:=Xc;have t1:=jF ha (λy s e=>by injection e with e _;rw[<-e];exact qsg hb) ht;have t2:=jF hb (Yw (vx Xc)) t1;obtain⟨e,he,t3⟩:=nH (fM Xc) t2;obtain rfl:e=d:=by omega
  subst h1;exact .num (qF Ja) (hT _ t3);cases h1;cases h1;cases h1
 |@neutral x n c da h1 h2=>
  have Xc:=qi0 h2;have t1:=jF h1 (Yw (vx Xc)) ht;obtain⟨e,he,t3⟩:=nH (fM Xc) t1;obtain rfl:e+1=d:=by omega
  exact hT _ t3
 |@Sg x y z c da hc h1=>
  have Xc:jc c:=by unfold jc;rcases hc with rfl|rfl|rfl <;> decide
  unfold ak at h1;split at h1;rename_i a b ha hb;split at h1;rename_i k hk;split at h1;injection h1 with h1;have Ja:=EP ((zB _ _).1 ha).1 ((zB _ _).1 hb).1 hk;have t1:=jF ha (Yw (vx Xc)) ht;obtain⟨e,he,t2⟩:=nH (fM Xc) t1;have t3:=jF hb (Yw (vx Xc)) t2;obtain⟨e',Ka,t4⟩:=nH (fM Xc) t3;subst h1;refine .num (qF Ja) ?_;have e1:d+1=e'+2:=by omega
  rw[e1];exact .sign (fM Xc) (hT _ t4);cases h1;cases h1;cases h1
 |@same x n da h1=>
  have t1:=jF h1 (Yw fa) ht;obtain⟨e,he,t2⟩:=nH (a:=1) (b:=1) fa t1;have t3:=jF h1 (Yw fa) t2;obtain⟨e',Ka,t4⟩:=nH (a:=2) (b:=0) fa t3;obtain rfl:e'=d:=by omega
  exact hT _ t4
 |@double w l da h1=>
  have t1:=jF cF (Yw fa) ht;obtain⟨e,he,t2⟩:=nH (a:=2) (b:=1) fa t1;have t3:=jF cF (Yw fa) t2;obtain⟨e',Ka,t4⟩:=nH (a:=2) (b:=1) fa t3;obtain⟨j1,j2,j3⟩:=qsH h1 t4;obtain rfl:d=1:=by omega
  exact .jump h1 j2 (hT _ j3)
 |@never x w l n da h1 h2 h3=>obtain⟨j1,j2,j3,j4⟩:=OX h1 h3 ht;subst j1;exact hT _ (j4 h2)
 |@next w l da h1 h2=>obtain⟨j1,j2,j3,j4⟩:=OX wq h1 ht;subst j1;exact hT _ (qyQ j2 h2 j3)
 |@Dp w l dead da h1 h2 h3=>obtain⟨j1,j2,j3,j4⟩:=OX wq h1 ht;subst j1;exact .goto h1 j2 (hT _ (N9 h3 _ dead _ (Jb _) h2 j3))
 |@tn c dead da h1 h2 h3=>exact .stop h1 (hT _ (N9 h3 _ dead _ (Jb _) h2 (qx9 h1 ht)))
 |@unused w l da h1 h2=>obtain⟨j1,j2,j3⟩:=DX h1 ht;subst j1;exact hT _ j3
theorem qxS(ja:Wd->Bool):∀ (n:Nat) (v:List Wd) (o:Option Nat),v.length<=n->Ty L o v->Ty L o (O ja v):=by
 intro n;induction n with
 |zero=>intro v o hn h;obtain rfl:=eq_nil_of_length_eq_zero (Nat.le_zero.1 hn);exact .nil
 |succ n ih=>
  intro v o hn h;cases v with
  |nil=>exact .nil
  |cons w r=>
   rw[La] at hn;have main:∀ d,Ty L (some d) (w::r)->Ty L (some d) (O ja (w::r)):=by
    intro d h;rcases iM ja w r with⟨e,_⟩|⟨p,da,k,e,hl⟩
    ·rw[e];generalize hv:w::r=v at h;generalize ho:some d=o at h
     cases h with
     |nil=>cases hv
     |free _=>cases ho
     |nk h1 h2 h3=>injection hv with e1 e2;subst e1 e2;exact .nk h1 h2 (ih _ _ ga h3)
     |mj _ _=>cases ho
     |num h1 h2=>injection hv with e1 e2;subst e1 e2;exact .num h1 (ih _ _ ga h2)
     |jump h1 h2 h3=>injection hv with e1 e2;subst e1 e2;rw[wP ja (.inl rfl)];simp only[La] at hn;exact .jump h1 h2 (ih _ _ ga h3)
     |goto h1 h2 h3=>injection hv with e1 e2;subst e1 e2;rw[dT ja h1,wP ja (.inl rfl)];simp only[La] at hn;exact .goto h1 h2 (ih _ _ ga h3)
     |call h1 h2=>injection hv with e1 e2;subst e1 e2;rw[wP ja (.inr rfl)];simp only[La] at hn;exact .call h1 (ih _ _ ga h2)
     |sign h1 h2=>injection hv with e1 e2;subst e1 e2;exact .sign h1 (ih _ _ ga h2)
     |stop h1 h2=>injection hv with e1 e2;subst e1 e2;exact .stop h1 (ih _ _ ga h2)
    rw[e];exact qys k h _ λo ho=>ih _ _ ga ho
   cases o with
   |some d=>exact main d h
   |none=>
    rcases eY h with⟨d,h⟩|⟨x,h1,h2⟩;exact .free (main d h);have h3:=ih r _ ga h2;rcases iM ja w r with⟨e,_⟩|⟨p,da,k,e,hl⟩;rw[e];exact .mj h1 h3;rw[e];generalize hv:w::r=v at k;have ec:Eb w=none:=by
     cases hq:Eb w with
     |none=>rfl
     |some n=>rw[(zq hq).1] at h1;cases h1
    have Fb:∀ c:UInt8,ya [c]=none->w≠[c]:=λc hc e=>by rw[e,hc] at h1;cases h1
    have hj:∀ {x op y z:Wd},ak x op y=some z->Eb x≠none:=λhj e=>by unfold ak at hj;rw[e] at hj;cases hj
    cases k with
    |fold q=>injection hv with e _;exact absurd (by rw[<-e];exact ec) (hj q)
    |neutral q _=>injection hv with e _;rw[<-e,ec] at q;cases q
    |Sg _ q=>injection hv with e _;exact absurd (by rw[<-e];exact ec) (hj q)
    |same q=>injection hv with e _;rw[<-e,ec] at q;cases q
    |double _=>injection hv with e _;exact absurd e (Fb 49 (zq cF).1)
    |never q _ _=>injection hv with e _;rw[<-e,ec] at q;cases q
    |next _ _=>injection hv with e _;exact absurd e (Fb 48 (zq wq).1)
    |Dp _ _ _=>injection hv with e _;exact absurd e (Fb 48 (zq wq).1)
    |@tn c _ _ q _ _=>injection hv with e _;exact absurd e (Fb c (Kt (IH q)).1)
    |unused q _=>injection hv with e1 e2;subst e1 e2;exact .free h3
theorem qxN{o:Option Nat}{v:List Wd}(h:Ty L o v):Ty L o (Np v):=qxS _ _ v o (Jb _) h
theorem Y'{o:Option Nat}:∀ (f:Nat) {v:List Wd},Ty L o v->Ty L o (Wg f v)
 |0,v,h=>h
 |f+1,v,h=>by rw[Wg];split;exact h;exact Y' f (qxN h)
theorem qzQ{o:Option Nat}{v:List Wd}(h:Ty L o v):Ty L o (qi v):=Y' _ h
theorem NO(known:Wd->Nat){o:Option Nat}{v:List Wd}(h:Ty L o v):∀ (t:Wd),(Jf t=true->∃ d,o=some (d+1))->∀ (j:Nat) (w x:Wd),v[j]? = some w->ya w=some x->Jf ((v.take j).foldl (ze known) t)=false:=by
 have Yw:∀ {c:UInt8} (t:Wd),c∈kl->Jf (ze known t [c])=false:=λ{c} t hc=>by obtain⟨e1,e2,e3⟩:=xx hc;have h1:=(UP known t [c] e1 (by simp)).2.1;rw[h1];unfold af;rw[e2];unfold Jf;simp[e3]
 have pass:∀ {t w x:Wd},ya w=some x->ze known t w=t:=λhd=>by unfold ze;rw[hd]
 have no:∀ {t:Wd},Jf t=false->∀ {P:Prop},Jf t=true->P:=λh1 _ h2=>by rw[h1] at h2;cases h2
 induction h with
 |nil=>intro t ht j w x hw;simp at hw
 |free _ ih=>intro t ht;exact ih t λh=>by obtain⟨d,hd⟩:=ht h;cases hd
 |@nk w x r h1 h2 h3 ih=>
  intro t ht j y z hy hz;have h0:Jf t=false:=by
   cases hl:Jf t with
   |false=>rfl
   |true=>obtain⟨d,hd⟩:=ht hl;injection hd with hd;omega
  cases j with
  |zero=>exact h0
  |succ j=>rw[take_succ_cons,foldl_cons,pass h1];exact ih t (no h0) j y z (by simpa using hy) hz
 |@mj w x r h1 h2 ih=>
  intro t ht j y z hy hz;have h0:Jf t=false:=by
   cases hl:Jf t with
   |false=>rfl
   |true=>obtain⟨d,hd⟩:=ht hl;cases hd
  cases j with
  |zero=>exact h0
  |succ j=>rw[take_succ_cons,foldl_cons,pass h1];exact ih t (no h0) j y z (by simpa using hy) hz
 |@num d n w r h1 h2 ih=>
  intro t ht j y z hy hz;cases j with
  |zero=>simp only[al,jm] at hy;rw[<-hy,(zq h1).1] at hz;cases hz
  |succ j=>rw[take_succ_cons,foldl_cons];exact ih _ (λ_=>⟨d,rfl⟩) j y z (by simpa using hy) hz
 |@jump w x r h1 h2 h3 ih=>
  intro t ht j y z hy hz;match j,hy with
  |0,hy=>simp only[al,jm] at hy;rw[<-hy,dt h1] at hz;cases hz
  |1,hy=>simp only[al,dr,jm] at hy;rw[<-hy,(Kt (c:=63) fa).1] at hz;cases hz
  |j+2,hy=>rw[take_succ_cons,take_succ_cons,foldl_cons,foldl_cons];exact ih _ (no (Yw _ fa)) j y z (by simpa using hy) hz
 |@goto w x r h1 h2 h3 ih=>
  intro t ht j y z hy hz;match j,hy with
  |0,hy=>simp only[al,jm] at hy;rw[<-hy,(zq wq).1] at hz;cases hz
  |1,hy=>simp only[al,dr,jm] at hy;rw[<-hy,dt h1] at hz;cases hz
  |2,hy=>simp only[al,dr,jm] at hy;rw[<-hy,(Kt (c:=63) fa).1] at hz;cases hz
  |j+3,hy=>rw[take_succ_cons,take_succ_cons,take_succ_cons,foldl_cons,foldl_cons,foldl_cons];exact ih _ (no (Yw _ fa)) j y z (by simpa using hy) hz
 |@call d w x r h1 h2 ih=>
  intro t ht j y z hy hz;match j,hy with
  |0,hy=>simp only[al,jm] at hy;rw[<-hy,dt h1] at hz;cases hz
  |1,hy=>simp only[al,dr,jm] at hy;rw[<-hy,(Kt (c:=58) fa).1] at hz;cases hz
  |j+2,hy=>rw[take_succ_cons,take_succ_cons,foldl_cons,foldl_cons];exact ih _ (no (Yw _ fa)) j y z (by simpa using hy) hz
 |@sign d a b c r h1 h2 ih=>
  intro t ht j y z hy hz;cases j with
  |zero=>simp only[al,jm] at hy;rw[<-hy,(Kt (vF h1).1).1] at hz;cases hz
  |succ j=>rw[take_succ_cons,foldl_cons];exact ih _ (no (Yw _ (vF h1).1)) j y z (by simpa using hy) hz
 |@stop d c r h1 h2 ih=>
  intro t ht j y z hy hz;cases j with
  |zero=>simp only[al,jm] at hy;rw[<-hy,(Kt (IH h1)).1] at hz;cases hz
  |succ j=>rw[take_succ_cons,foldl_cons];exact ih _ (no (Yw _ (IH h1))) j y z (by simpa using hy) hz
end
abbrev PM:=Go.ia.PW
abbrev SM:=Go.ia.MS
structure Lk(C:PM)(D:Nat->Bool):Prop where
 label:∀ (j:Nat) (w x:Wd),C.W[j]? = some w->ya w=some x->C.known x=C.od j
 nb:∀ (j:Nat) (w x:Wd),C.W[j]? = some w->ya w=some x->Jf (C.pre j)=false
 data:∀ a,D a=true->a<262144/\(a<C.og∨C.og+(ll C.known C.W).length<=a)
def OG(C:PM)(k:List Wd)(t:Nat)(f:Bool):Prop:=∃ i,k=C.W.drop i/\t=C.od i/\Jf (C.pre i)=f
inductive Rw {A B:Type} (R:A->B->Prop):List A->List B->Prop
 |nil:Rw R [] []
 |cons {a:A} {b:B} {l:List A} {m:List B}:R a b->Rw R l m->Rw R (a::l) (b::m)
theorem Rw.len{A B:Type}{R:A->B->Prop}{l:List A}{m:List B}(h:Rw R l m):l.length=m.length:=by
 induction h with
 |nil=>rfl
 |cons _ _ ih=>rw[La,La,ih]
structure S6(C:PM)(D:Nat->Bool)(s:MS)(m:SM):Prop where
 ok:C.Ok m.mem
 here:OG C s.pc m.pc s.digit
 digit:m.digit=s.digit
 data:m.data=s.data
 calls:Rw (λk t=>OG C k t false) s.calls m.calls
 mem:∀ a,D a=true->m.mem a=s.mem a
 Ia:m.Ia=s.Ia
 out:m.out=s.out
section
variable{C:PM}{D:Nat->Bool}{s:MS}{m:SM}{i:Nat}{w x:Wd}{r:List Wd}
theorem Y9(h:w::r=C.W.drop i):C.W[i]? = some w/\r=C.W.drop (i+1):=by have h1:=congrArg (λl=>l[0]?) h;simp only[al,List.getElem?_drop,Nat.add_zero] at h1;refine⟨h1.symm,?_⟩;rw[<-drop_drop,<-h];try rfl
theorem qqI(hw:C.W[i]? = some w)(hd:ya w=some x):C.od (i+1)=C.od i/\C.pre (i+1)=C.pre i:=by
 have h1:=C.Pt hw;have h2:ze C.known (C.pre i) w=C.pre i:=by unfold ze;rw[hd]
 rw[h2] at h1;refine⟨?_,h1⟩;unfold Go.ia.PW.od;rw[h1]
theorem qq9(hL:Lk C D){k:List Wd}(h:sk x C.W=some k):OG C k (C.known x) false:=by
 obtain⟨p,w,h1,h2⟩:=tV h;have hw:C.W[p.length]? = some w:=by rw[h1,List.getElem?_append_right (Jb _)];simp
 obtain⟨e1,e2⟩:=qqI hw h2;refine⟨p.length+1,?_,?_,?_⟩
 ·conv=>rhs;rw[h1]
  rw[<-drop_drop,List.drop_left];try rfl
 rw[e1];exact hL.label _ _ _ hw h2;rw[e2];exact hL.nb _ _ _ hw h2
theorem qqn(hk:C.Ok m.mem)(oq:m.pc=C.od i)(bq:Jf (C.pre i)=m.digit)(hw:C.W[i]? = some w)(hd:ya w=none)(Fb:af C.known w≠[])(hg:∀ c∈af C.known w,me c=true)(hv:Qg 0 (af C.known w)<4294967296)(Xa:m.data.length<256) :
  Go.ia.Hh ((af C.known w).length+one m.digit) m { m with pc:=C.od (i+1),data:=Qg 0 (af C.known w)::m.data,digit:=true }/\Jf (C.pre (i+1))=true:=by
 obtain⟨⟨h1,h2⟩,h3⟩:=C.JS hk ⟨oq,λh=>by rw[bq];exact h⟩ hw hd Fb hg hv Xa;refine⟨?_,h3⟩
 have hf:Wl (af C.known w)=true:=by
  cases hp:af C.known w with
  |nil=>exact absurd hp Fb
  |cons c r=>exact hg c (by rw[hp];simp)
 have h4:=(C.piece hk hw hd).1;have Jm:C.od (i+1)=C.od i+((af C.known w).length+one m.digit):=by unfold Go.ia.PW.od;rw[h4,Ga,Ga,hf,Bool.and_true,bq];unfold one;cases m.digit <;> simp <;> omega
 rw[Jm,Nat.add_sub_cancel_left,<-Jm] at h2;exact h2
theorem oH{m':SM}(h:Go.ia.Gf 1 m m')(Fb:m≠m'):Go.ia.Hh 1 m m':=by
 obtain⟨k,h1,h2⟩:=h;rcases Nat.lt_or_ge k 1 with h0|h0;obtain rfl:k=0:=by omega
 cases h2;exact absurd rfl Fb;obtain rfl:k=1:=by omega
 exact h2
theorem xU(hk:C.Ok m.mem)(hc:c∈kl)(hw:C.W[i]? = some [c]):C.od (i+1)=C.od i+1/\Jf (C.pre (i+1))=false:=by
 obtain⟨e1,e2,e3⟩:=xx hc;refine⟨C.WA hk hw e1 e2 e3,?_⟩;have h1:=(C.piece hk hw e1).1;have hp:af C.known [c]=[c]:=by unfold af;rw[e2]
 rw[h1,hp,dZ (by simp)];unfold Jf;simp[e3]
theorem Dj(hL:Lk C D){mem:Nat->Nat}(hk:C.Ok mem)(ha:D a=true):C.Ok λi=>if i=a then v else mem i:=by refine⟨λk h=>?_,hk.fits⟩;have h1:=hk.here k h;have h2:=(hL.data a ha).2;rw[zn (by omega)];exact h1
theorem qnG(hL:Lk C D)(h:S6 C D s m):match gb ⟨C.W,D⟩ s with
  |.run s'=>∃ m',Go.ia.Hh (Bi s) m m'/\S6 C D s' m'
  |.stop e o=>e≠99->Go.ia.gb m=.stop e o:=by
 obtain⟨hk,⟨i,h1,h2,h3⟩,bq,Xh,Nk,Uh,rp,kg⟩:=h;have KI:C.At m i:=⟨h2,λh=>by rw[h3,<-bq];exact h⟩;have aad:C.od i<=262144:=Qf (C.Qv i) hk.fits
 cases hv:s.pc with
 |nil=>
  have:gb ⟨C.W,D⟩ s=lost s:=by unfold gb;rw[hv]
  rw[this];exact λh=>absurd rfl h
 |cons w r=>
  rw[hv] at h1;obtain⟨hw,hr⟩:=Y9 h1;rw[vk hv];cases hd:ya w with
  |some x=>
   have hs:Ny ⟨C.W,D⟩ s w r=.run { s with pc:=r }:=by unfold Ny;rw[hd]
   obtain⟨e1,e2⟩:=qqI hw hd;rw[hs];refine⟨m,?_,⟨hk,⟨i+1,hr,h2.trans e1.symm,by rw[e2];exact h3⟩,bq,Xh,Nk,Uh,rp,kg⟩⟩;rw[SP hv hd];exact .zero m
  |none=>
   cases hn:Eb w with
   |some n=>
    rw[QJ hn];obtain⟨n1,n2⟩:=(zB w n).1 hn;have KK:=(zq hn).2;have hp:af C.known w=w:=by unfold af;rw[KK]
    unfold ym;by_cases hl:s.data.length<256;rw[zp hl];have fk:Qg 0 w=n:=by rw[<-n2,JY]
    obtain⟨k1,k2⟩:=qqn hk h2 (by rw[h3,bq]) hw hd (by rw[hp];exact(zZ hn).1) (by rw[hp];exact(zZ hn).2) (by rw[hp,fk];exact n1) (by rw[Xh];exact hl);rw[hp,fk] at k1;have hc:Bi s=w.length+one s.digit:=by unfold Bi;rw[hv];exact PJ hn
    rw[hc,<-bq];exact⟨_,k1,⟨hk,⟨i+1,hr,rfl,k2⟩,rfl,by simp only;rw[Xh],Nk,Uh,rp,kg⟩⟩;rw[zn hl];exact λh=>absurd rfl h
   |none=>
    cases KK:Va w with
    |some x=>
     rw[tF KK];have hc:Bi s=7+one s.digit:=by unfold Bi;rw[hv];exact GH KK
     unfold Iy;cases hka:sk x C.W with
     |none=>exact λh=>absurd rfl h
     |some k=>
      have Bo:=qq9 hL hka;have uI:C.known x<1000000:=by obtain⟨j,_,j2,_⟩:=Bo;have:=Qf (C.Qv j) hk.fits;omega
      cases r with
      |nil=>exact λh=>absurd rfl h
      |cons y r=>
       simp only;obtain⟨ft,oe⟩:=Y9 hr;by_cases hl:s.data.length<256;rotate_left;rw[zn hl];exact λh=>absurd rfl h;rw[zp hl];obtain⟨b1,b2⟩:=oQ (C.known x);have hp:af C.known w=Qp (C.known x):=by unfold af;rw[KK]
       obtain⟨k1,k2⟩:=qqn hk h2 (by rw[h3,bq]) hw hd (by rw[hp];intro h;rw[h] at b1;cases b1) (by rw[hp];exact b2) (by rw[hp,qog uI];omega) (by rw[Xh];exact hl);rw[hp,qog uI,b1] at k1;generalize tz:({ m with pc:=C.od (i+1),data:=C.known x::m.data,digit:=true }:SM)=m1 at k1;have q1:m1.mem=m.mem:=by rw[<-tz]
       have q2:m1.data=C.known x::m.data:=by rw[<-tz]
       have q3:m1.calls=m.calls:=by rw[<-tz]
       have q4:m1.Ia=m.Ia:=by rw[<-tz]
       have q5:m1.out=m.out:=by rw[<-tz]
       have rS:C.At m1 (i+1):=by rw[<-tz];exact⟨rfl,λ_=>k2⟩
       have jt:C.Ok m1.mem:=by rw[q1];exact hk
       have BA:6+one m.digit+1=Bi s:=by rw[hc,bq];omega
       by_cases hy:y=[63];subst hy;rw[zp rfl];unfold XG;cases lC:s.data with
       |nil=>exact λh=>absurd rfl h
       |cons a d=>
        simp only;have t1:=C.jump jt rS ft (t:=C.known x) (v:=a) (r:=d) (by rw[q2,Xh,lC]);have t2:=oH t1 (by
         intro he;have:=congrArg (λz:SM=>z.data.length) he;simp only[Go.ia.PW.put,q2,Xh,lC,La] at this;omega)
        have t3:=k1.trans t2;rw[BA] at t3;refine⟨_,t3,⟨jt,?_,rfl,rfl,by show Rw _ s.calls m1.calls;rw[q3];exact Nk,by show ∀ a,D a=true->m1.mem a=s.mem a;rw[q1];exact Uh,by show m1.Ia=_;rw[q4];exact rp,by show m1.out=_;rw[q5];exact kg⟩⟩;by_cases ha:a=0;subst ha;simp only[if_true];exact Bo;simp only[zn ha];exact⟨i+1+1,oe,rfl,(xU hk fa ft).2⟩
       rw[zn hy];by_cases TQ:y=[58];rotate_left;rw[zn TQ];exact λh=>absurd rfl h;subst TQ;rw[zp rfl];have Ge:m.calls.length=s.calls.length:=(Nk.len).symm
       by_cases qp:s.calls.length<64;rotate_left;rw[zn qp];exact λh=>absurd rfl h;rw[zp qp];have t1:=C.call jt rS ft (t:=C.known x) (r:=m.data) q2 (by rw[q3,Ge];exact qp)
       have t2:=oH t1 (by
        intro he;have:=congrArg (λz:SM=>z.calls.length) he;simp only[La] at this;omega)
       have t3:=k1.trans t2;rw[BA] at t3;exact⟨_,t3,⟨jt,Bo,rfl,Xh,.cons ⟨i+1+1,oe,rfl,(xU hk fa ft).2⟩ (by rw[q3];exact Nk),by show ∀ a,D a=true->m1.mem a=s.mem a;rw[q1];exact Uh,by show m1.Ia=_;rw[q4];exact rp,by show m1.out=_;rw[q5];exact kg⟩⟩
    |none=>
     rw[FZ hd hn KK];have hc:Bi s=1:=by unfold Bi aB;rw[hv];simp[hd,hn,KK]
     rw[hc];rcases w with _|⟨c,_|⟨c2,w2⟩⟩;exact λh=>absurd rfl h;rotate_left;exact λh=>absurd rfl h;have pu:rK ⟨C.W,D⟩ s [c] r=Ou D s c r:=rfl;rw[pu];have spot:c∈kl->OG C r (C.od (i+1)) false:=λBA=>⟨i+1,hr,rfl,(xU hk BA hw).2⟩
     have FB:c∈kl->∀ {m':SM},m'.pc=C.od (i+1)->m≠m':=λBA m' hp he=>by have h4:=(xU hk BA hw).1;rw[<-he,h2] at hp;omega
     unfold Ou;by_cases c1:c=64
     ·subst c1;rw[zp rfl];unfold uJ
      cases lC:s.data with
      |nil=>exact λh=>absurd rfl h
      |cons a d=>
       simp only;by_cases hD:D a=true;rotate_left;rw[zn hD];exact λh=>absurd rfl h;rw[zp hD];unfold ym
       by_cases hl:d.length<256;rotate_left;rw[zn hl];exact λh=>absurd rfl h;rw[zp hl];have t1:=C.load hk KI hw (by rw[Xh,lC]) (hL.data a hD).1 hl;exact⟨_,oH t1 (FB fa rfl),⟨hk,spot fa,rfl,by simp only[Go.ia.PW.put];rw[Uh a hD],Nk,Uh,rp,kg⟩⟩
     rw[zn c1];by_cases c2:c=33
     ·subst c2;rw[zp rfl];unfold FJ
      match lC:s.data with
      |[]=>exact λh=>absurd rfl h
      |[_]=>exact λh=>absurd rfl h
      |a::v::d=>simp only;by_cases hD:D a=true;rotate_left;rw[zn hD];exact λh=>absurd rfl h;rw[zp hD];have t1:=C.store hk KI hw (by rw[Xh,lC]) (hL.data a hD).1;refine⟨_,oH t1 (FB fa rfl),⟨Dj hL hk hD,spot fa,rfl,rfl,Nk,λb hb=>?_,rp,kg⟩⟩;simp only;split;rfl;exact Uh b hb
     rw[zn c2];by_cases c3:c=59;subst c3;rw[zp rfl];unfold YG;cases Ge:s.calls with
     |nil=>exact λh=>absurd rfl h
     |cons kk l=>
      rw[Ge] at Nk;simp only;cases dW:m.calls with
      |nil=>rw[dW] at Nk;cases Nk
      |cons tt l2=>
       rw[dW] at Nk;cases Nk with
       |cons g1 g2=>
        have t1:=C.back hk KI hw dW;exact⟨_,oH t1 (by
         intro he;have:=congrArg (λz:SM=>z.calls.length) he;simp only[dW,La] at this;omega),⟨hk,g1,rfl,Xh,g2,Uh,rp,kg⟩⟩
     rw[zn c3];by_cases c4:c=44
     ·subst c4;rw[zp rfl];unfold ym
      by_cases hl:s.data.length<256;rotate_left;rw[zn hl];exact λh=>absurd rfl h;rw[zp hl];have t1:=C.read hk KI hw (by rw[Xh];exact hl);exact⟨_,oH t1 (FB fa rfl),⟨hk,spot fa,rfl,by simp only[Go.ia.PW.put];rw[rp,Xh],Nk,Uh,by simp only;rw[rp],kg⟩⟩
     rw[zn c4];by_cases c5:c=46;subst c5;rw[zp rfl];unfold nP;cases lC:s.data with
     |nil=>exact λh=>absurd rfl h
     |cons v d=>have t1:=C.write hk KI hw (v:=v) (r:=d) (by rw[Xh,lC]);exact⟨_,oH t1 (FB fa rfl),⟨hk,spot fa,rfl,rfl,Nk,Uh,rp,by simp only;rw[kg]⟩⟩
     rw[zn c5];by_cases c6:c=36;subst c6;rw[zp rfl];intro _;rw[C.halt hk KI hw,kg];rw[zn c6];by_cases c7:c=43∨c=45∨c=42∨c=47∨c=37∨c=94∨c=60;rotate_left;rw[zn c7];exact λh=>absurd rfl h;rw[zp c7]
     have Xc:jc c:=by unfold jc;rcases c7 with h|h|h|h|h|h|h <;> simp[h]
     unfold Qk;match lC:s.data with
     |[]=>exact λh=>absurd rfl h
     |[_]=>exact λh=>absurd rfl h
     |b::a::d=>
      simp only;cases hb:ud c.toNat a b with
      |none=>intro _;rw[C.Rv hk KI Xc hw (by rw[Xh,lC]) hb,kg]
      |some v=>simp only;unfold ym;by_cases hl:d.length<256;rotate_left;rw[zn hl];exact λh=>absurd rfl h;rw[zp hl];have t1:=C.op hk KI Xc hw (by rw[Xh,lC]) hb hl;exact⟨_,oH t1 (FB (vx Xc) rfl),⟨hk,spot (vx Xc),rfl,rfl,Nk,Uh,rp,kg⟩⟩
theorem qvh(hL:Lk C D):∀ {n e k:Nat} {o:Wd} {s:MS} {m:SM},Ends ⟨C.W,D⟩ n s e o k->S6 C D s m->∀ N,k<=N->runM N m=(e,o,k):=by
 intro n e k o s m h;induction h generalizing m with
 |@stop s e o h1 h2=>intro hl N hN;have key:=qnG hL hl;rw[h1] at key;have key:=key h2;obtain⟨n,rfl⟩:∃ n,N=n+1:=⟨N-1,by omega⟩;rw[runM,key]
 |@step n k e o s s' h1 _ ih=>intro hl N hN;have key:=qnG hL hl;rw[h1] at key;obtain⟨m',k1,k2⟩:=key;obtain⟨n,rfl⟩:∃ n,N=Bi s+n:=⟨N-Bi s,by omega⟩;rw[qyA k1,ih k2 n (by omega)];simp only[add_comm]
end
theorem qlt{W:List Wd}{L:Wd->Nat}{og:Nat}(hA:Et W)(Fb:∀ w∈W,w≠[])(hT:Ty L (some 0) W){known:Wd->Nat}(yA:known=wo (Lp (λ_=>0) og W))(na:(ll known W).length<=40000)(qR:og+40000<=262144)
  (h:Ends ⟨W,λx=>decide (x<262144/\(x<og∨og+40000<=x))⟩ n ⟨λ_=>0,W,[],[],Ia,[],false⟩ e o k) (N:Nat) (hN:k<=N):runM N (Dv (ll known W) og Ia)=(e,o,k):=by
 subst yA;generalize hk:wo (Lp (λ_=>0) og W)=known at *;have hL:Lk ⟨W,og,known⟩ λx=>decide (x<262144/\(x<og∨og+40000<=x)):=by refine⟨λj w x hw hd=>?_,λj w x hw hd=>?_,λa ha=>?_⟩;have:=qod og hA.1 Fb hw hd;rw[hk] at this;exact this;exact NO known hT [] (λh=>by cases h) j w x hw hd;have:=ag ha;show _/\(a<og∨og+(ll known W).length<=a);omega
 refine qvh hL h (C:=⟨W,og,known⟩) ⟨⟨qx6 _ _,by show og+(ll known W).length<=262144;omega⟩,⟨0,rfl,rfl,rfl⟩,rfl,rfl,.nil,λa ha=>?_,rfl,rfl⟩ N hN;have:=ag ha;show Xs (ll known W) og a=0;unfold Xs;split;rw[List.getElem?_eq_none (by omega)];rfl
def ET(C:PW)(Ia:List Nat):MS:=⟨λ_=>0,C.od 0,[],[],Ia,[],false⟩
section
variable{X:Lf}
theorem qsW(hX:Zd X)(Ia:List Nat)(Ca:Nat):X.Rel (xq X.P Ia Ca) (ET X.C Ia):=by
 refine⟨trivial,λk hk=>rfl,λa ha=>?_,rfl,rfl⟩
 have fL:(xq X.P Ia Ca).ar a.name=List.replicate a.size 0:=by
  show(match X.P.ba.find? λb=>decide (b.name=a.name) with
   |some b=>List.replicate b.size 0
   |none=>[])=_
  cases hf:X.P.ba.find? λb=>decide (b.name=a.name) with
  |none=>exact absurd (List.find?_eq_none.1 hf a ha) (by simp)
  |some b=>have h1:=List.mem_of_find?_eq_some hf;have h2:b.name=a.name:=ag (List.find?_some (p:=λb:Ar=>decide (b.name=a.name)) hf);simp only;rw[hX.Qs b h1 a ha h2]
 rw[fL];refine⟨List.length_replicate,λi hi=>?_⟩;rw[List.length_replicate] at hi;rw[List.getElem_replicate]
 try rfl
end
theorem qpP{x w:Wd}:∀ (W:List Wd) (j:Nat),(Ib W).Nodup->W[j]? = some w->ya w=some x->sk x W=some (W.drop (j+1))
 |[],j,_,h,_=>by simp at h
 |v::W,0,hn,h,hd=>by simp only[al,jm] at h;subst h;rw[sk,zp hd];try rfl
 |v::W,j+1,hn,h,hd=>by
  rw[dr] at h;have hm:x∈Ib W:=List.mem_filterMap.2 ⟨w,List.mem_of_getElem? h,hd⟩;rw[AF] at hn;have tC:=Xm hn;have Fb:¬ ya v=some x:=λe=>by rw[e] at tC;exact tC.2.2 x (Mo rfl) x hm rfl
  rw[sk,zn Fb,List.drop_succ_cons];exact qpP W j tC.2.1 h hd
def J7(X:Go.ia.Lf)(D:Nat->Bool):Lf:=⟨⟨X.C.W,D⟩,X.P,X.cc,X.jb,X.sa,X.aa,X.S,X.fst⟩
theorem qvm{X:Go.ia.Lf}{D:Nat->Bool}(h:Go.ia.Zd X)(hD:∀ x,X.Data x->D x=true)(hn:(Ib X.C.W).Nodup):Zd (J7 X D):=
 ⟨h.sc,h.ar,h.Tw,h.low,hD,h.Zv,h.inj,h.apart,h.sD,h.oy,h.Qs,h.body,h.fn,h.O1,h.code,h.mz,h.Ur,h.mj,h.Cz,λj w x hw hd=>qpP _ _ hn hw hd⟩
def TL(og:Nat):Nat->Bool:=λx=>decide (x<262144/\(x<og∨og+40000<=x))
theorem qwh{P:Pr}{o:xk}(hc:Vp P=0)(Be:zr P.vars (sf P) P.funcs o=true):∀ x,(Hi P o).Data x->TL o.code.toNat x=true:=λx hx=>by have hv:=yH hc;have hF:=JD Be;have Km:=(Nv _ _ hv.names).1;have JI:(P.ba.map (·.name)).Nodup:=(Xm (Xm Km).1).2.1;obtain⟨s0,c0,a0,s1,c1,a1,cs,G6,ac⟩:=hF;refine Nf ?_;rcases hx with⟨k,hk,rfl⟩|hx|⟨a,ha,i,hi,rfl⟩;have h1:(Vd P.vars P.funcs).idxOf k<_:=GJ hk;show o.scalars.toNat+3+(Vd P.vars P.funcs).idxOf k<262144/\(o.scalars.toNat+3+(Vd P.vars P.funcs).idxOf k<_∨_<=o.scalars.toNat+3+(Vd P.vars P.funcs).idxOf k);omega;have h1:o.scalars.toNat<=x/\x<=o.scalars.toNat+2:=hx;omega;have h1:=dM _ JI a ha;have h2:=ac (by have:i<a.size:=hi;omega);have h3:i<a.size:=hi;show o.ba.toNat+zg P.ba a.name+i<262144/\(o.ba.toNat+zg P.ba a.name+i<_∨_<=o.ba.toNat+zg P.ba a.name+i);omega
end Go.ia.Wi
