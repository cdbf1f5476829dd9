import Derived.Test.YtmnjklgnhpnckaaGreatDoorBRowLB5
set_option linter.unusedVariables false
set_option linter.unusedSimpArgs false
set_option maxRecDepth 100000
set_option maxHeartbeats 4000000
open List (drop_drop length_drop cons_append not_mem_nil take_succ_cons foldl_cons nil_append)
open Nat (add_comm)
namespace Go.ea.Wi
open Go.Lib
variable{P:Pr}{W p r rest:List Wd}{a b e k n v:Nat}{c:UInt8}{d xa:List Nat}{l o w x:Wd}
def XX(n:Nat)(c:UInt8):Prop:=n=0/\(c=43∨c=45∨c=94)∨n=1/\(c=42∨c=47)
inductive Kind (used:Wd->Bool):List Wd->List Wd->List Wd->Prop
 |fold {x y op z:Wd} {rest:List Wd}:Kj x op y=some z->Kind used (x::y::op::rest) [z] rest
 |neutral {x:Wd} {n:Nat} {c:UInt8} {rest:List Wd}:ib x=some n->XX n c->Kind used (x::[c]::rest) [] rest
 |Kg {x y z:Wd} {c:UInt8} {rest:List Wd}:(c=43∨c=42∨c=94)->Kj x [c] y=some z->Kind used (x::[c]::y::[c]::rest) [z,[c]] rest
 |same {x:Wd} {n:Nat} {rest:List Wd}:ib x=some n->Kind used (x::[64]::x::[33]::rest) [] rest
 |double {w l:Wd} {rest:List Wd}:La w=some l->Kind used ([49]::[60]::[49]::[60]::w::[63]::rest) [w,[63]] rest
 |never {x w l:Wd} {n:Nat} {rest:List Wd}:ib x=some n->n≠0->La w=some l->Kind used (x::w::[63]::rest) [] rest
 |next {w l:Wd} {rest:List Wd}:La w=some l->Qs l rest=true->Kind used ([48]::w::[63]::rest) [] rest
 |To {w l:Wd} {dead rest:List Wd}:La w=some l->(∀ y∈dead,ma y=none)->(∀ y r,rest=y::r->(ma y).isSome=true)->Kind used ([48]::w::[63]::(dead++rest)) [[48],w,[63]] rest
 |Um {c:UInt8} {dead rest:List Wd}:(c=59∨c=36)->(∀ y∈dead,ma y=none)->(∀ y r,rest=y::r->(ma y).isSome=true)->Kind used ([c]::(dead++rest)) [[c]] rest
 |unused {w l:Wd} {rest:List Wd}:ma w=some l->used l=false->Kind used (w::rest) [] rest
theorem Yp:ib [48]=some 0:=by decide +kernel
theorem ZD:ib [49]=some 1:=by decide +kernel
theorem qlB(l:List Wd):∃ dead rest,l=dead++rest/\dead.length=fq l/\(∀ y∈dead,ma y=none)/\(∀ y r,rest=y::r->(ma y).isSome=true):=by
 refine⟨l.takeWhile λw=>(ma w).isNone,l.dropWhile λw=>(ma w).isNone,(List.takeWhile_append_dropWhile).symm,rfl,λy hy=>?_,λy r h=>?_⟩
 have:(ma y).isNone=true:=by
  have key:∀ {p:Wd->Bool} {l:List Wd} {x:Wd},x∈l.takeWhile p->p x=true:=by
   intro p l;induction l with
   |nil=>intro x hx;simp at hx
   |cons a r ih=>intro x hx;rw[List.takeWhile_cons] at hx;split at hx;rename_i hp;rcases lc.1 hx with rfl|hx;exact hp;exact ih hx;simp at hx
  exact key (p:=λw=>(ma w).isNone) hy
 cases h:ma y with
 |none=>rfl
 |some x=>rw[h] at this;cases this
 have h2:=List.head?_dropWhile_not (λw=>(ma w).isNone) l;rw[h] at h2;simp only[List.head?_cons] at h2
 cases hd:ma y with
 |none=>rw[hd] at h2;simp at h2
 |some x=>rfl
theorem qt2(used:Wd->Bool)(v:List Wd)(h:(ue used v).1≠0):Kind used v (ue used v).2 (v.drop (ue used v).1):=by
 by_cases h1:∃ s,jn v=some s;obtain⟨s,h1⟩:=h1;rw[OS h1];have za:=gq (BE h1).2.1;match v,za,h1 with
 |a::b::c::r,_,h1=>exact .fold h1
 have h1:jn v=Option.none:=by
  cases h:jn v with
  |none=>rfl
  |some s=>exact absurd ⟨s,h⟩ h1
 by_cases h2:wu v;rw[TS h1 h2];have za:1<v.length:=gq (by
  rcases h2 with⟨_,h|h|h⟩|⟨_,h|h⟩ <;> (rw[h];decide))
 match v,za,h2 with
 |a::b::r,_,h2=>have h2:a=[48]/\(b=[43]∨b=[45]∨b=[94])∨a=[49]/\(b=[42]∨b=[47]):=h2;rcases h2 with⟨rfl,rfl|rfl|rfl⟩|⟨rfl,rfl|rfl⟩;exact .neutral Yp (.inl ⟨rfl,.inl rfl⟩);exact .neutral Yp (.inl ⟨rfl,.inr (.inl rfl)⟩);exact .neutral Yp (.inl ⟨rfl,.inr (.inr rfl)⟩);exact .neutral ZD (.inr ⟨rfl,.inl rfl⟩);exact .neutral ZD (.inr ⟨rfl,.inr rfl⟩)
 by_cases h3:cm v/\∃ s,cq v=some s;obtain⟨h3,s,h4⟩:=h3;rw[bT h1 h2 h3 h4];have h5:fa v 3≠[]:=by rw[h3.2];exact(BE h4).2.1
 have za:=gq h5;match v,za,h3,h4 with
 |a::b::c::e::r,_,h3,h4=>obtain⟨k1,k2⟩:=h3;have k1:b=[43]∨b=[42]∨b=[94]:=k1;have k2:e=b:=k2;subst k2;have h4:Kj a e c=some s:=h4;rcases k1 with rfl|rfl|rfl;exact .Kg (.inl rfl) h4;exact .Kg (.inr (.inl rfl)) h4;exact .Kg (.inr (.inr rfl)) h4
 have h3:¬ cm v∨cq v=Option.none:=by by_cases hc:cm v;exact sD;exact .inl hc
 by_cases h4:Iw v;rw[NS h1 h2 h3 h4];have za:3<v.length:=gq (by rw[h4.2.2.2];decide);match v,za,h4 with
 |a::b::c::e::r,_,h4=>obtain⟨k1,k2,k3,k4⟩:=h4;have k1:(ib a).isSome=true:=k1;have k2:b=[64]:=k2;have k3:c=a:=k3;have k4:e=[33]:=k4;obtain⟨n,hn⟩:=zR k1;rw[k2,k3,k4];exact .same hn
 by_cases h5:vy v;rw[QS h1 h2 h3 h4 h5];obtain⟨l,hl⟩:=zR h5.1;have h6:=Cz hl;match v,h6,h5,hl with
 |a::b::c::e::f::g::r,_,h5,hl=>obtain⟨_,k2,k3,k4,k5⟩:=h5;have k2:a=[49]:=k2;have k3:b=[60]:=k3;have k4:c=[49]:=k4;have k5:e=[60]:=k5;subst k2 k3 k4 k5;unfold Wl at hl;split at hl;rename_i x hx;split at hl;rename_i hy;have hx:La f=some x:=hx;have hy:g=[63]:=hy;subst hy;exact .double hx;cases hl;cases hl
 have jk:∀ {v:List Wd} {l:Wd},Wl v 1=some l->∃ a w r,v=a::w::[63]::r/\La w=some l:=by
  intro v l hl;have h6:=Cz hl;match v,h6,hl with
  |a::b::c::r,_,hl=>unfold Wl at hl;split at hl;rename_i x hx;split at hl;rename_i hy;have hx:La b=some x:=hx;have hy:c=[63]:=hy;subst hy;injection hl with hl;subst hl;exact⟨_,_,_,rfl,hx⟩;cases hl;cases hl
 cases h6:Kw v with
 |true=>
  rw[YS h1 h2 h3 h4 h5 h6];unfold Kw at h6;split at h6;rename_i n hn;have h7:n≠0/\(Wl v 1).isSome=true:=by simpa using h6
  obtain⟨l,hl⟩:=zR h7.2;obtain⟨a,w,r,rfl,hw⟩:=jk hl;exact .never hn h7.1 hw;cases h6
 |false=>
  cases h7:jy v with
  |true=>
   rw[ZS h1 h2 h3 h4 h5 h6 h7];unfold jy at h7;split at h7
   ·rename_i l hl
    obtain⟨a,w,r,rfl,hw⟩:=jk hl;have h8:a=[48]/\Qs l r=true:=by simpa [fa] using h7
    obtain⟨rfl,h8⟩:=h8;exact .next hw h8
   cases h7
  |false=>
   by_cases h8:qC v;rw[XS h1 h2 h3 h4 h5 h6 h7 h8];obtain⟨k1,k2⟩:=h8;simp only;unfold wj at k1 k2 ⊢;split at k1;rename_i hj;rw[zp hj] at k2 ⊢;obtain⟨l,hl⟩:=zR hj.1;obtain⟨a,w,r,rfl,hw⟩:=jk hl;have ha:a=[48]:=hj.2;subst ha;obtain⟨dead,rest,e1,e2,e3,e4⟩:=qlB r;have hd:([48]::w::[63]::r).drop 3=r:=rfl;rw[hd,<-e2,e1];have h9:([48]::w::[63]::(dead++rest)).drop (3+dead.length)=rest:=by rw[add_comm,<-drop_drop];simp
   rw[h9];exact .To hw e3 e4;rename_i hj;rw[zn hj] at k2 ⊢;split at k1;rename_i hs;rw[zp hs] at k2 ⊢;match v,hs,k2 with
   |[],hs,_=>rcases hs with h|h <;> (exact absurd h da)
   |a::r,hs,k2=>
    have hs:a=[59]∨a=[36]:=hs;obtain⟨dead,rest,e1,e2,e3,e4⟩:=qlB r;have hd:(a::r).drop 1=r:=rfl;rw[hd,<-e2,e1];have h9:(a::(dead++rest)).drop (1+dead.length)=rest:=by rw[add_comm,<-drop_drop];simp
    rw[h9];rcases hs with rfl|rfl;exact .Um (.inl rfl) e3 e4;exact .Um (.inr rfl) e3 e4
   exact absurd k1 da;rw[US h1 h2 h3 h4 h5 h6 h7 h8] at h ⊢;unfold uu at h ⊢;split at h;rename_i l hl;split at h;exact absurd rfl h;rename_i hu;rw[zn hu];match v,hl with
   |[],hl=>
    have h0:ma (fa [] 0)=none:=by decide
    rw[h0] at hl;cases hl
   |a::r,hl=>have hl:ma a=some l:=hl;exact .unused hl (by simpa using hu)
   exact absurd rfl h
theorem NP(used:Wd->Bool):∀ (f:Nat) (v:List Wd),v.length<=f->Wj used f v=Wj used v.length v
 |0,v,h=>by obtain rfl:=List.eq_nil_of_length_eq_zero (Nat.le_zero.1 h);rfl
 |f+1,[],_=>rfl
 |f+1,w::r,h=>by
  simp only[Ba] at h ⊢;rw[Wj,Wj];split;rw[NP used f r (by omega)];rename_i h0;have:=BG used (w::r) h0;have hl:((w::r).drop (ue used (w::r)).1).length<=r.length:=by rw[length_drop,Ba];omega
  rw[NP used f _ (by omega),NP used r.length _ hl]
def O(used:Wd->Bool)(v:List Wd):List Wd:=Wj used v.length v
theorem rL(used:Wd->Bool)(w:Wd)(r:List Wd):(O used (w::r)=w::O used r/\(ue used (w::r)).1=0)∨∃ p rest,Kind used (w::r) p rest/\O used (w::r)=p++O used rest/\rest.length<=r.length:=by
 unfold O;rw[Ba,Wj];split;rename_i h;exact .inl ⟨rfl,h⟩;rename_i h;have xc:=BG used (w::r) h;have hl:((w::r).drop (ue used (w::r)).1).length<=r.length:=by rw[length_drop,Ba];omega
 exact .inr ⟨_,_,qt2 used _ h,by rw[NP used r.length _ hl],hl⟩
theorem qi5(h:XX n c):Xb c:=by unfold Xb;rcases h with⟨_,rfl|rfl|rfl⟩|⟨_,rfl|rfl⟩ <;> decide
theorem qsp{used:Wd->Bool}(hc:c=63∨c=58)(h:Kind used ([c]::r) p rest):False:=by
 have hn:ib [c]=none/\ma [c]=none:=by rcases hc with rfl|rfl <;> decide +kernel
 generalize hv:[c]::r=v at h;have hj:∀ {x op y z:Wd},Kj x op y=some z->ib x≠none:=λhj e=>by unfold Kj at hj;rw[e] at hj;cases hj
 cases h with
 |fold h1=>injection hv with e _;exact hj h1 (by rw[<-e];exact hn.1)
 |neutral h1 _=>injection hv with e _;rw[<-e,hn.1] at h1;cases h1
 |Kg _ h1=>injection hv with e _;exact hj h1 (by rw[<-e];exact hn.1)
 |same h1=>injection hv with e _;rw[<-e,hn.1] at h1;cases h1
 |double _=>injection hv with e _;injection e with e _;rcases hc with rfl|rfl <;> exact absurd e da
 |never h1 _ _=>injection hv with e _;rw[<-e,hn.1] at h1;cases h1
 |next _ _=>injection hv with e _;injection e with e _;rcases hc with rfl|rfl <;> exact absurd e da
 |To _ _ _=>injection hv with e _;injection e with e _;rcases hc with rfl|rfl <;> exact absurd e da
 |Um h1 _ _=>injection hv with e _;injection e with e _;rw[<-e] at h1;rcases hc with rfl|rfl <;> exact absurd h1 da
 |unused h1 _=>injection hv with e _;rw[<-e,hn.2] at h1;cases h1
theorem MO(used:Wd->Bool)(hc:c=63∨c=58)(r:List Wd):O used ([c]::r)=[c]::O used r:=by rcases rL used [c] r with⟨h,_⟩|⟨p,rest,h,_⟩;exact h;exact(qsp hc h).elim
theorem qvB{used:Wd->Bool}(hw:La w=some x)(h:Kind used (w::r) p rest):False:=by
 have hn:ib w=none/\ma w=none:=⟨JU hw,As hw⟩;have hc:∀ c:UInt8,c≠38->w≠[c]:=λc h38 e=>by rw[e] at hw;unfold La at hw;simp only[h38,false_and,if_false] at hw;cases hw
 generalize hv:w::r=v at h;have hj:∀ {x op y z:Wd},Kj x op y=some z->ib x≠none:=λhj e=>by unfold Kj at hj;rw[e] at hj;cases hj
 cases h with
 |fold h1=>injection hv with e _;exact hj h1 (by rw[<-e];exact hn.1)
 |neutral h1 _=>injection hv with e _;rw[<-e,hn.1] at h1;cases h1
 |Kg _ h1=>injection hv with e _;exact hj h1 (by rw[<-e];exact hn.1)
 |same h1=>injection hv with e _;rw[<-e,hn.1] at h1;cases h1
 |double _=>injection hv with e _;exact hc 49 da e
 |never h1 _ _=>injection hv with e _;rw[<-e,hn.1] at h1;cases h1
 |next _ _=>injection hv with e _;exact hc 48 da e
 |To _ _ _=>injection hv with e _;exact hc 48 da e
 |Um h1 _ _=>injection hv with e _;rcases h1 with rfl|rfl;exact hc 59 da e;exact hc 36 da e
 |unused h1 _=>injection hv with e _;rw[<-e,hn.2] at h1;cases h1
theorem qS(used:Wd->Bool)(hw:La w=some x)(r:List Wd):O used (w::r)=w::O used r:=by rcases rL used w r with⟨h,_⟩|⟨p,rest,h,_⟩;exact h;exact(qvB hw h).elim
inductive Ends (C:PW):Nat->MS->Nat->Wd->Nat->Prop
 |stop {s:MS} {e:Nat} {o:Wd}:Sa C s=.stop e o->e≠99->Ends C 0 s e o 1
 |step {n k e:Nat} {o:Wd} {s s':MS}:Sa C s=.run s'->Ends C n s' e o k->Ends C (n+1) s e o (ji s+k)
theorem qwX{C:PW}{s s':MS}(h:wh C k s s')(hs:Sa C s'=.stop e o)(he:e≠99):∃ n,Ends C n s e o (k+1):=by
 induction h with
 |zero s=>exact⟨0,.stop hs he⟩
 |@step k s s' s2 h1 _ ih=>obtain⟨n,h2⟩:=ih hs;refine⟨n+1,?_⟩;rw[Nat.add_assoc];exact .step h1 h2
section
variable{C:PW}{n k e:Nat}{o:Wd}{s s':MS}{r:List Wd}
theorem oE(h:Ends C n s e o k)(hs:Sa C s=.run s'):∃ m j,n=m+1/\k=ji s+j/\Ends C m s' e o j:=by
 cases h with
 |stop h1 _=>rw[h1] at hs;cases hs
 |step h1 h2=>rw[h1] at hs;injection hs with hs;subst hs;exact⟨_,_,rfl,rfl,h2⟩
theorem Zs(h:Ends C n s e o k){o':Wd}(hs:Sa C s=.stop 99 o'):False:=by
 cases h with
 |stop h1 h2=>rw[h1] at hs;injection hs with hs;exact h2 hs
 |step h1 _=>rw[h1] at hs;cases hs
theorem cZ{t:MS}{f:Bool}(h:Ends C n s e o k)(hs:Sa C s=Vl t r d v f)(ht:t.out=s.out):d.length<256/\∃ m j,n=m+1/\k=ji s+j/\Ends C m { t with pc:=r,data:=v::d,digit:=f } e o j:=by unfold Vl at hs;split at hs;rename_i hl;exact⟨hl,oE h hs⟩;exact(Zs h hs).elim
theorem yy(hw:ib w=some v)(hv:s.pc=w::r)(h:Ends C n s e o k):s.data.length<256/\∃ m j,n=m+1/\k=w.length+Go.ea.one s.digit+j/\Ends C m { s with pc:=r,data:=v::s.data,digit:=true } e o j:=by
 have h1:=cZ (t:=s) h (by rw[ak hv,bJ hw]) rfl;have hc:ji s=w.length+Go.ea.one s.digit:=by unfold ji;rw[hv];exact aJ hw
 rw[hc] at h1;exact h1
theorem vL(hc:c∈Tk)(hv:s.pc=[c]::r):ji s=1:=by unfold ji;rw[hv];exact GY hc
theorem NL(hc:Xb c)(hv:s.pc=[c]::r)(hd:s.data=b::a::d)(hb:ad c.toNat a b=some v)(h:Ends C n s e o k):∃ m j,n=m+1/\k=1+j/\Ends C m { s with pc:=r,data:=v::d,digit:=false } e o j:=by
 have h1:=cZ (t:=s) h (by
  rw[ak hv,tv (Qw hc),SO hc];unfold yk;rw[hd];simp only;rw[hb]) rfl
 rw[vL (Qw hc) hv] at h1;exact h1.2
theorem DU(hr:La w=some l)(hv:s.pc=w::[63]::r)(hd:s.data=a::d)(h:Ends C n s e o k):∃ t,Xj l C.W=some t/\s.data.length<256/\∃ m j,n=m+1/\k=7+Go.ea.one s.digit+j/\Ends C m { s with pc:=if a=0 then t else r,data:=d,digit:=false } e o j:=by
 have hs:Sa C s=dy C s l ([63]::r):=by rw[ak hv,qE hr]
 have hc:ji s=7+Go.ea.one s.digit:=by unfold ji;rw[hv];exact QG hr
 unfold dy at hs;cases ht:Xj l C.W with
 |none=>rw[ht] at hs;exact(Zs h hs).elim
 |some t=>rw[ht] at hs;simp only at hs;split at hs;rename_i hl;unfold cG at hs;rw[hd] at hs;simp only[if_true] at hs;have h1:=oE h hs;rw[hc] at h1;exact⟨t,rfl,hl,h1⟩;exact(Zs h hs).elim
end
theorem BU{x:Wd}:∀ (a b:List Wd),x ∉ yb a->Xj x (a++b)=Xj x b
 |[],b,_=>rfl
 |w::a,b,h=>by rw[AE] at h;have ub:¬ ma w=some x:=λe=>h (by rw[e];simp);rw[cons_append,Xj,zn ub];exact BU a b λhx=>h (ap (.inr hx))
theorem qrB{used:Wd->Bool}{w:Wd}{r:List Wd}(h:(ue used (w::r)).1≠0):(∀ d∈yb ((w::r).take (ue used (w::r)).1),used d=false)/\yb (ue used (w::r)).2=[]:=⟨(wU used _ h).aO,(wU used _ h).put⟩
theorem qyR(used:Wd->Bool)(hx:used x=true):∀ (n:Nat) (v k:List Wd),v.length<=n->Xj x v=some k->Xj x (O used v)=some (O used k):=by
 intro n;induction n with
 |zero=>intro v k hn h;obtain rfl:=List.eq_nil_of_length_eq_zero (Nat.le_zero.1 hn);cases h
 |succ n ih=>
  intro v k hn h;cases v with
  |nil=>cases h
  |cons w r=>
   rw[Ba] at hn;by_cases h0:(ue used (w::r)).1=0;have e:O used (w::r)=w::O used r:=by unfold O;rw[Ba,Wj,zp h0]
   rw[e,Xj];rw[Xj] at h;split at h;rename_i hd;rw[zp hd];injection h with h;rw[h];rename_i hd;rw[zn hd];exact ih r k (by omega) h;have xc:=BG used (w::r) h0;obtain⟨f1,f2⟩:=qrB h0;have e:O used (w::r)=(ue used (w::r)).2++O used ((w::r).drop (ue used (w::r)).1):=by unfold O;rw[Ba,Wj,zn h0,NP used r.length _ (by rw[length_drop,Ba];omega)]
   rw[e,BU _ _ (by rw[f2];simp)];have h2:Xj x (w::r)=Xj x ((w::r).drop (ue used (w::r)).1):=by
    conv=>lhs;rw[<-List.take_append_drop (ue used (w::r)).1 (w::r)]
    exact BU _ _ λhm=>by rw[f1 x hm] at hx;cases hx
   rw[h2] at h;exact ih _ k (by rw[length_drop,Ba];omega) h
theorem fV{x:Wd}:∀ {W k:List Wd},Xj x W=some k->∃ p w,W=p++w::k/\ma w=some x
 |[],k,h=>by cases h
 |w::r,k,h=>by rw[Xj] at h;split at h;rename_i hd;injection h with h;subst h;exact⟨[],w,rfl,hd⟩;obtain⟨p,w',h1,h2⟩:=fV h;exact⟨w::p,w',by rw[h1];try rfl,h2⟩
theorem qvK{l:List Wd}(h:w∈l)(hd:ma w=some x):x∈yb l:=List.mem_filterMap.2 ⟨w,h,hd⟩
theorem qlh{l:Wd}:∀ {rest:List Wd},Qs l rest=true->∃ ds k,rest=ds++k/\Xj l rest=some k/\(∀ w∈ds,(ma w).isSome=true)
 |[],h=>by cases h
 |w::r,h=>by
  rw[Qs] at h;cases hd:ma w with
  |none=>rw[hd] at h;cases h
  |some d=>
   rw[hd] at h;simp only[Bool.or_eq_true,Mf] at h;by_cases he:d=l
   ·subst he;exact⟨[w],r,rfl,by rw[Xj,zp hd],λy hy=>by rw[cj hy,hd];try rfl⟩
   obtain⟨ds,k,h1,h2,h3⟩:=qlh (rest:=r) (by rcases h with h|h;exact absurd h he;exact h);refine⟨w::ds,k,by rw[h1];try rfl,?_,λy hy=>?_⟩;rw[Xj,zn (by rw[hd];intro e;injection e with e;exact he e)];exact h2;rcases lc.1 hy with rfl|hy
   ·rw[hd];try rfl
   exact h3 y hy
theorem qrI{k:List Wd}(hn:(yb W).Nodup)(hW:W=p++rest)(h:Xj l rest=some k):Xj l W=some k:=by obtain⟨q,w,h1,h2⟩:=fV h;rw[hW,Az] at hn;have h3:=(Dm hn).2.2;rw[hW,BU _ _ λhm=>h3 l hm l (qvK (by rw[h1];simp) h2) rfl];exact h
theorem K8(used:Wd->Bool):∀ (ds k:List Wd),(∀ w∈ds,(ma w).isSome=true)->∃ es,O used (ds++k)=es++O used k/\∀ w∈es,(ma w).isSome=true
 |[],k,_=>⟨[],rfl,λw hw=>by cases hw⟩
 |w::ds,k,h=>by
  obtain⟨es,h1,h2⟩:=K8 used ds k λy hy=>h y (Gc _ hy);obtain⟨x,hx⟩:=zR (h w Ce);rw[cons_append];rcases rL used w (ds++k) with⟨e,_⟩|⟨p,rest,q,e,_⟩
  ·refine⟨w::es,by rw[e,h1];try rfl,λy hy=>?_⟩;rcases lc.1 hy with rfl|hy
   ·rw[hx];try rfl
   exact h2 y hy
  rw[e];generalize hv:w::(ds++k)=v at q;have Vb:ib w=none:=by
   cases hq:ib w with
   |none=>rfl
   |some n=>rw[(bq hq).1] at hx;cases hx
  have ub:∀ c:UInt8,ma [c]=none->w≠[c]:=λc hc e=>by rw[e,hc] at hx;cases hx
  have hj:∀ {x op y z:Wd},Kj x op y=some z->ib x≠none:=λhj e=>by unfold Kj at hj;rw[e] at hj;cases hj
  cases q with
  |fold q=>injection hv with e _;exact absurd (by rw[<-e];exact Vb) (hj q)
  |neutral q _=>injection hv with e _;rw[<-e,Vb] at q;cases q
  |Kg _ q=>injection hv with e _;exact absurd (by rw[<-e];exact Vb) (hj q)
  |same q=>injection hv with e _;rw[<-e,Vb] at q;cases q
  |double _=>injection hv with e _;exact absurd e (ub 49 (bq ZD).1)
  |never q _ _=>injection hv with e _;rw[<-e,Vb] at q;cases q
  |next _ _=>injection hv with e _;exact absurd e (ub 48 (bq Yp).1)
  |To _ _ _=>injection hv with e _;exact absurd e (ub 48 (bq Yp).1)
  |@Um c _ _ q _ _=>injection hv with e _;exact absurd e (ub c (by rcases q with rfl|rfl <;> decide +kernel))
  |unused q _=>injection hv with e1 e2;subst e2;exact⟨es,h1,h2⟩
structure YV(used:Wd->Bool)(s t:MS):Prop where
 pc:t.pc=O used s.pc
 data:t.data=s.data
 calls:t.calls=s.calls.map (O used)
 mem:t.mem=s.mem
 xa:t.xa=s.xa
 out:t.out=s.out
structure uw(W:List Wd)(s:MS):Prop where
 data:∀ v∈s.data,v<4294967296
 mem:∀ a,s.mem a<4294967296
 xa:∀ v∈s.xa,v<4294967296
 here:∃ p,W=p++s.pc
 calls:∀ c∈s.calls,∃ p,W=p++c
def mV(g f:Bool):Nat:=if g=true/\f=false then 1 else 0
theorem qx6(g f:Bool):Go.ea.one g<=Go.ea.one f+mV g f:=by cases g <;> cases f <;> decide
theorem iL(g f:Bool):mV g f<=1:=by cases g <;> cases f <;> decide
theorem NG(f:Bool):mV f f=0:=by cases f <;> decide
theorem lT{c:Nat}(ha:a<4294967296)(hb:b<4294967296)(h:ad c a b=some v):v<4294967296:=by unfold ad at h;split at h;injection h with h;omega;split at h;injection h with h;omega;split at h;injection h with h;rw[<-h];exact Nat.mod_lt _ da;split at h;split at h;cases h;injection h with h;rw[<-h];exact Nat.lt_of_le_of_lt (Nat.div_le_self a b) ha;split at h;split at h;cases h;injection h with h;rw[<-h];exact Nat.lt_of_le_of_lt (Nat.mod_le a b) ha;split at h;injection h with h;rw[<-h];exact Nat.xor_lt_two_pow (n:=32) ha hb;injection h with h;rw[<-h];split <;> decide
theorem qoI(ha:a<4294967296)(h:XX n c):ad c.toNat a n=some a:=by rcases h with⟨rfl,rfl|rfl|rfl⟩|⟨rfl,rfl|rfl⟩;show some ((a+0) % 4294967296)=_;rw[Nat.add_zero,Nat.mod_eq_of_lt ha];show some ((a+4294967296-0) % 4294967296)=_;rw[Nat.sub_zero,Nat.add_mod_right,Nat.mod_eq_of_lt ha];show some (a ^^^ 0)=_;rw[Nat.xor_zero];show some (a * 1 % 4294967296)=_;rw[Nat.mul_one,Nat.mod_eq_of_lt ha];show some (a / 1)=_;rw[Nat.div_one]
section
variable{W:List Wd}{D:Nat->Bool}{n k e:Nat}{o:Wd}{s s' t:MS}{r:List Wd}
theorem qvC{C:PW}{c:Nat}(h:wh C c s s')(g:Ends C n s' e o k):∃ m,Ends C m s e o (c+k):=by
 induction h with
 |zero s=>exact⟨n,by rw[Nat.zero_add];exact g⟩
 |@step c s s' s2 h1 _ ih=>obtain⟨m,h2⟩:=ih g;exact⟨m+1,by rw[Nat.add_assoc];exact .step h1 h2⟩
theorem tY{C:PW}(hc:Xb c)(hv:s.pc=[c]::r)(h:Ends C n s e o k):∃ b a d,s.data=b::a::d:=by
 have hs:Sa C s=yk s c r:=by rw[ak hv,tv (Qw hc),SO hc]
 unfold yk at hs;match hd:s.data with
 |b::a::d=>exact⟨b,a,d,rfl⟩
 |[]=>rw[hd] at hs;exact(Zs h hs).elim
 |[_]=>rw[hd] at hs;exact(Zs h hs).elim
theorem quJ{C:PW}(hv:s.pc=[64]::r)(hd:s.data=a::d)(h:Ends C n s e o k):C.D a=true/\∃ m j,n=m+1/\k=1+j/\Ends C m { s with pc:=r,data:=s.mem a::d,digit:=false } e o j:=by
 have hs:Sa C s=EI C.D s r:=by rw[ak hv,tv da];try rfl
 unfold EI at hs;rw[hd] at hs;simp only at hs;split at hs;rename_i hD;have h1:=cZ (t:=s) h hs rfl;rw[vL da hv] at h1;exact⟨hD,h1.2⟩;exact(Zs h hs).elim
theorem qrl{C:PW}{x:Nat}(hv:s.pc=[33]::r)(hd:s.data=a::x::d)(h:Ends C n s e o k):∃ m j,n=m+1/\k=1+j/\Ends C m { s with pc:=r,data:=d,mem:=λi=>if i=a then x else s.mem i,digit:=false } e o j:=by
 have hs:Sa C s=QI C.D s r:=by rw[ak hv,tv da];try rfl
 unfold QI at hs;rw[hd] at hs;simp only at hs;split at hs;have h1:=oE h hs;rw[vL da hv] at h1;exact h1;exact(Zs h hs).elim
theorem uw.to(h:uw W s)(Np:∃ p,W=p++s'.pc)(hd:∀ v∈s'.data,v<4294967296)(hm:s'.mem=s.mem)(hi:s'.xa=s.xa)(hc:s'.calls=s.calls):uw W s':=
 ⟨hd,by rw[hm];exact h.mem,by rw[hi];exact h.xa,Np,by rw[hc];exact h.calls⟩
theorem lj(h:∃ p,W=p++w::r):∃ p,W=p++r:=by obtain⟨p,hp⟩:=h;exact⟨p++[w],by rw[hp,Pc];try rfl⟩
theorem DP{q:List Wd}(h:Xj x W=some q):∃ p,W=p++q:=by obtain⟨p,w,h1,_⟩:=fV h;exact lj ⟨p,h1⟩
theorem nX(h:∃ p,W=p++w::r)(hx:La w=some x):dd W x=true:=by obtain⟨p,hp⟩:=h;exact List.any_eq_true.2 ⟨w,by rw[hp];simp,by simp[hx]⟩
theorem tZ{q:List Wd}(hu:dd W x=true)(h:Xj x W=some q):Xj x (O (dd W) W)=some (O (dd W) q):=qyR _ hu _ _ _ (Nb _) h
theorem qwv(hS:YV (dd W) s t)(hF:uw W s)(hr:∃ p,W=p++r):match qu D s c r with
  |.run s1=>∃ t1,qu D t c (O (dd W) r)=.run t1/\YV (dd W) s1 t1/\t1.digit=false/\s1.digit=false/\uw W s1
  |.stop e o=>qu D t c (O (dd W) r)=.stop e o:=by
 obtain⟨mem,pc,data,calls,xa,out,digit⟩:=s;obtain⟨GJ,pc',Vm,L6,nQ,Yq,G6⟩:=t;obtain⟨h1,h2,h3,h4,h5,h6⟩:=hS;simp only at h1 h2 h3 h4 h5 h6;subst h1 h2 h3 h4 h5 h6;obtain⟨f1,f2,f3,f4,f5⟩:=hF;simp only at f1 f2 f3 f4 f5;have HQ:∀ (i:List Nat) (d:List Nat) (v:Nat),(∀ x∈i,x<4294967296)->(∀ x∈d,x<4294967296)->v<4294967296->∀ (q q':List Wd) (b b':Bool),match Vl ⟨GJ,q,Vm,calls,i,Yq,b⟩ r d v false with
   |.run s1=>∃ t1,Vl ⟨GJ,q',Vm,calls.map (O (dd W)),i,Yq,b'⟩ (O (dd W) r) d v false=.run t1/\YV (dd W) s1 t1/\t1.digit=false/\s1.digit=false/\uw W s1
   |.stop e o=>Vl ⟨GJ,q',Vm,calls.map (O (dd W)),i,Yq,b'⟩ (O (dd W) r) d v false=.stop e o:=by
  intro i d v hi hd hv q q' b b';unfold Vl;by_cases hl:d.length<256;rw[zp hl,zp hl];refine⟨_,rfl,⟨rfl,rfl,rfl,rfl,rfl,rfl⟩,rfl,rfl,⟨λx hx=>?_,f2,hi,hr,f5⟩⟩;rcases lc.1 hx with rfl|hx;exact hv;exact hd x hx;rw[zn hl,zn hl]
  try rfl
 unfold qu;by_cases c1:c=64
 ·rw[zp c1,zp c1];unfold EI
  cases Vm with
  |nil=>rfl
  |cons a d=>
   simp only;by_cases hD:D a=true
   ·rw[zp hD,zp hD];have hd:=λx hx=>f1 x (Gc a hx);unfold Vl
    by_cases hl:d.length<256;rw[zp hl,zp hl];refine⟨_,rfl,⟨rfl,rfl,rfl,rfl,rfl,rfl⟩,rfl,rfl,⟨λx hx=>?_,f2,f3,hr,f5⟩⟩;rcases lc.1 hx with rfl|hx;exact f2 a;exact hd x hx;rw[zn hl,zn hl]
    try rfl
   rw[zn hD,zn hD];try rfl
 rw[zn c1,zn c1];by_cases c2:c=33
 ·rw[zp c2,zp c2];unfold QI
  match Vm,f1 with
  |[],_=>rfl
  |[_],_=>rfl
  |a::x::d,f1=>
   simp only;by_cases hD:D a=true;rw[zp hD,zp hD];refine⟨_,rfl,⟨rfl,rfl,rfl,rfl,rfl,rfl⟩,rfl,rfl,⟨λy hy=>f1 y (Gc _ (Gc _ hy)),λi=>?_,f3,hr,f5⟩⟩;simp only;split;exact f1 x (by simp);exact f2 i;rw[zn hD,zn hD]
   try rfl
 rw[zn c2,zn c2];by_cases c3:c=59;rw[zp c3,zp c3];unfold gG;cases calls with
 |nil=>rfl
 |cons q l=>exact⟨_,rfl,⟨rfl,rfl,rfl,rfl,rfl,rfl⟩,rfl,rfl,⟨f1,f2,f3,f5 q Ce,λc hc=>f5 c (Gc _ hc)⟩⟩
 rw[zn c3,zn c3];by_cases c4:c=44;rw[zp c4,zp c4];refine HQ nQ.tail Vm _ (λx hx=>f3 x (List.mem_of_mem_tail hx)) f1 ?_ _ _ _ _
 cases nQ with
 |nil=>show(4294967295:Nat)<_;decide
 |cons v l=>exact f3 v Ce
 rw[zn c4,zn c4];by_cases c5:c=46;rw[zp c5,zp c5];unfold DO;cases Vm with
 |nil=>rfl
 |cons a d=>exact⟨_,rfl,⟨rfl,rfl,rfl,rfl,rfl,rfl⟩,rfl,rfl,⟨λx hx=>f1 x (Gc _ hx),f2,f3,hr,f5⟩⟩
 rw[zn c5,zn c5];by_cases c6:c=36;rw[zp c6,zp c6];rw[zn c6,zn c6];by_cases c7:c=43∨c=45∨c=42∨c=47∨c=37∨c=94∨c=60
 ·rw[zp c7,zp c7];unfold yk
  match Vm,f1 with
  |[],_=>rfl
  |[_],_=>rfl
  |b::a::d,f1=>
   simp only;cases hb:ad c.toNat a b with
   |none=>rfl
   |some v=>
    simp only;have hv:=lT (f1 a (by simp)) (f1 b (by simp)) hb;unfold Vl;by_cases hl:d.length<256;rw[zp hl,zp hl];refine⟨_,rfl,⟨rfl,rfl,rfl,rfl,rfl,rfl⟩,rfl,rfl,⟨λx hx=>?_,f2,f3,hr,f5⟩⟩;rcases lc.1 hx with rfl|hx;exact hv;exact f1 x (Gc _ (Gc _ hx));rw[zn hl,zn hl]
    try rfl
 rw[zn c7,zn c7];try rfl
def DJ(C:PW)(u:MS)(w:Wd)(v:List Wd):MR:=match w with
 |[c]=>qu C.D u c v
 |_=>lost u
theorem gZ{C:PW}{u:MS}{v:List Wd}(hd:ma w=none)(hn:ib w=none)(hr:La w=none):my C u w v=DJ C u w v:=by unfold my DJ;rw[hd];simp only;rw[hn];simp only;rw[hr];try rfl
theorem qjd{op y z:Wd}(h:Kj x op y=some z):∃ a b c ch,ib x=some a/\ib y=some b/\op=[ch]/\Xb ch/\ad ch.toNat a b=some c/\ib z=some c/\z.length<=x.length+y.length+1/\c<4294967296:=by have hl:=TP h;unfold Kj at h;split at h;rename_i a b ha hb;split at h;rename_i c hc;split at h;injection h with h;have za:=UO ((FA _ _).1 ha).1 ((FA _ _).1 hb).1 hc;obtain⟨ch,h1,h2,h3⟩:=qve hc;exact⟨a,b,c,ch,ha,hb,h1,h2,h3,by rw[<-h];exact nE za,hl,za⟩;cases h;cases h;cases h
end
theorem qsE{D:Nat->Bool}(hn:(yb W).Nodup):∀ (n:Nat) (s t:MS) (e:Nat) (o:Wd) (k:Nat),Ends ⟨W,D⟩ n s e o k->YV (dd W) s t->uw W s->∃ n' k',Ends ⟨O (dd W) W,D⟩ n' t e o k'/\k'<=k+mV t.digit s.digit:=by
 intro n;induction n using Nat.strongRecOn with
 |ind n ih=>
 intro s t e o k h hS hF;have hT:=hF.here;cases hv:s.pc with
 |nil=>exact(Zs h (o':=s.out) (by unfold Sa;rw[hv];try rfl)).elim
 |cons w r=>
  rw[hv] at hT;have hp:=hS.pc;rw[hv] at hp;have hpo:=qx6 t.digit s.digit;have aak:=iL t.digit s.digit;rcases rL (dd W) w r with⟨eO,_⟩|⟨p,rest,q,eO,_⟩
  ·rw[eO] at hp
   cases hd:ma w with
   |some x=>obtain⟨m,j,rfl,rfl,h1⟩:=oE h (tU hv hd);obtain⟨n',k',g1,g2⟩:=ih m (by omega) _ { t with pc:=O (dd W) r } e o j h1 ⟨rfl,hS.data,hS.calls,hS.mem,hS.xa,hS.out⟩ (hF.to (lj hT) hF.data rfl rfl rfl);refine⟨_,_,.step (tU hp hd) g1,?_⟩;rw[fP hp hd,fP hv hd];simp only at g2;omega
   |none=>
    cases Vb:ib w with
    |some v=>
     obtain⟨hl,m,j,rfl,rfl,h1⟩:=yy Vb hv h;obtain⟨n',k',g1,g2⟩:=ih m (by omega) _ { t with pc:=O (dd W) r,data:=v::s.data,digit:=true } e o j h1 ⟨rfl,rfl,hS.calls,hS.mem,hS.xa,hS.out⟩ (hF.to (lj hT) (λx hx=>by
      rcases lc.1 hx with rfl|hx;exact ZO Vb;exact hF.data x hx) rfl rfl rfl)
     refine⟨_,_,.step (s':={ t with pc:=O (dd W) r,data:=v::s.data,digit:=true }) ?_ g1,?_⟩;rw[ak hp,bJ Vb];unfold Vl;rw[hS.data,zp hl];have hc:ji t=w.length+Go.ea.one t.digit:=by unfold ji;rw[hp];exact aJ Vb
     rw[hc];simp only[NG] at g2;omega
    |none=>
     cases hr:La w with
     |some x=>
      have hu:=nX hT hr;have hs:Sa ⟨W,D⟩ s=dy ⟨W,D⟩ s x r:=by rw[ak hv,qE hr]
      have hc:ji s=7+Go.ea.one s.digit:=by unfold ji;rw[hv];exact QG hr
      have rF:ji t=7+Go.ea.one t.digit:=by unfold ji;rw[hp];exact QG hr
      unfold dy at hs;cases hk:Xj x W with
      |none=>simp only[hk] at hs;exact(Zs h hs).elim
      |some kk=>
       have Ah:=tZ hu hk;cases r with
       |nil=>simp only[hk] at hs;exact(Zs h hs).elim
       |cons y r=>
        simp only[hk] at hs;by_cases hl:s.data.length<256;rotate_left;rw[zn hl] at hs;exact(Zs h hs).elim;rw[zp hl] at hs;by_cases hy:y=[63];subst hy;rw[zp rfl] at hs;rw[MO _ (.inl rfl)] at hp;unfold cG at hs;cases Ih:s.data with
        |nil=>rw[Ih] at hs;exact(Zs h hs).elim
        |cons a d=>
         rw[Ih] at hs;simp only at hs;obtain⟨m,j,rfl,rfl,h1⟩:=oE h hs;have hf:=hF.data;rw[Ih] at hf;obtain⟨n',k',g1,g2⟩:=ih m (by omega) _ { t with pc:=if a=0 then O (dd W) kk else O (dd W) r,data:=d,digit:=false } e o j h1 ⟨by simp only;split <;> rfl,rfl,hS.calls,hS.mem,hS.xa,hS.out⟩ (hF.to (by
          simp only;split;exact DP hk;exact lj (lj hT)) (λx hx=>hf x (Gc _ hx)) rfl rfl rfl)
         refine⟨_,_,.step (s':={ t with pc:=if a=0 then O (dd W) kk else O (dd W) r,data:=d,digit:=false }) ?_ g1,?_⟩;rw[ak hp,qE hr];unfold dy cG;have kx:(a::d).length<256:=by rw[<-Ih];exact hl
         simp only[Ah,hS.data,Ih,if_true];rw[zp kx];rw[rF,hc];simp only[NG] at g2;omega
        rw[zn hy] at hs;by_cases rQ:y=[58];rotate_left;rw[zn rQ] at hs;exact(Zs h hs).elim;subst rQ;rw[zp rfl] at hs;rw[MO _ (.inr rfl)] at hp;by_cases oe:s.calls.length<64;rotate_left;rw[zn oe] at hs;exact(Zs h hs).elim;rw[zp oe] at hs;obtain⟨m,j,rfl,rfl,h1⟩:=oE h hs;obtain⟨n',k',g1,g2⟩:=ih m (by omega) _ { t with pc:=O (dd W) kk,calls:=O (dd W) r::t.calls,digit:=false } e o j h1 ⟨rfl,hS.data,by simp only[jd];rw[hS.calls],hS.mem,hS.xa,hS.out⟩ ⟨hF.data,hF.mem,hF.xa,DP hk,λc hc=>by
         rcases lc.1 hc with rfl|hc;exact lj (lj hT);exact hF.calls c hc⟩
        refine⟨_,_,.step (s':={ t with pc:=O (dd W) kk,calls:=O (dd W) r::t.calls,digit:=false }) ?_ g1,?_⟩;rw[ak hp,qE hr];unfold dy;have cw:t.calls.length<64:=by rw[hS.calls,ab];exact oe
        simp[Ah,hS.data,hl,cw];rw[rF,hc];simp only[NG] at g2;omega
     |none=>
      have OH:∀ (u:MS) (v:List Wd),u.pc=w::v->ji u=1:=λu v hu=>by unfold ji qA;rw[hu];simp[hd,Vb,hr]
      have hs:Sa ⟨W,D⟩ s=_:=(ak hv).trans (gZ hd Vb hr);have Jk:Sa ⟨O (dd W) W,D⟩ t=_:=(ak hp).trans (gZ hd Vb hr);rcases w with _|⟨c,_|⟨c2,w2⟩⟩;exact(Zs h hs).elim;rotate_left;exact(Zs h hs).elim;have hs:Sa ⟨W,D⟩ s=qu D s c r:=hs;have Jk:Sa ⟨O (dd W) W,D⟩ t=qu D t c (O (dd W) r):=Jk;have key:=qwv (D:=D) (c:=c) hS hF (lj hT);cases SC:qu D s c r with
      |stop e2 o2=>
       rw[SC] at key hs;simp only at key;rw[key] at Jk;cases h with
       |stop h1 h2=>rw[hs] at h1;injection h1 with h1 h3;subst h1 h3;exact⟨_,_,.stop Jk h2,by omega⟩
       |step h1 _=>rw[hs] at h1;cases h1
      |run s1=>rw[SC] at key hs;obtain⟨t1,k1,k2,k3,k4,k5⟩:=key;rw[k1] at Jk;obtain⟨m,j,rfl,rfl,h1⟩:=oE h hs;obtain⟨n',k',g1,g2⟩:=ih m (by omega) _ t1 e o j h1 k2 k5;refine⟨_,_,.step Jk g1,?_⟩;rw[OH t _ hp,OH s _ hv];rw[k3,k4,NG] at g2;omega
  rw[eO] at hp;generalize hvv:w::r=v at q;rw[hvv] at hv hT;clear hvv eO;cases q with
  |@fold x y op z rest h1=>
   obtain⟨a,b,c,ch,p1,p2,rfl,p4,p5,p6,p7,p8⟩:=qjd h1;obtain⟨hl,m1,j1,rfl,rfl,h2⟩:=yy p1 hv h;obtain⟨Cs,m2,j2,rfl,rfl,h3⟩:=yy p2 rfl h2;obtain⟨m3,j3,rfl,rfl,h4⟩:=NL p4 rfl rfl p5 h3;obtain⟨n',k',g1,g2⟩:=ih m3 (by omega) _ { t with pc:=O (dd W) rest,data:=c::s.data,digit:=true } e o j3 h4 ⟨rfl,rfl,hS.calls,hS.mem,hS.xa,hS.out⟩ (hF.to (lj (lj (lj hT))) (λx hx=>by
     rcases lc.1 hx with rfl|hx;exact p8;exact hF.data x hx) rfl rfl rfl)
   have hp:t.pc=z::O (dd W) rest:=hp;refine⟨_,_,.step (s':={ t with pc:=O (dd W) rest,data:=c::s.data,digit:=true }) ?_ g1,?_⟩;rw[ak hp,bJ p6];unfold Vl;rw[hS.data,zp hl];have hc:ji t=z.length+Go.ea.one t.digit:=by unfold ji;rw[hp];exact aJ p6
   rw[hc];simp only at g2 ⊢;have:=iL true false;have e1:Go.ea.one true=1:=rfl;omega
  |@neutral x nn c rest h1 h2=>have Lc:=qi5 h2;obtain⟨hl,m1,j1,rfl,rfl,h3⟩:=yy h1 hv h;obtain⟨b,a,d,hd⟩:=tY Lc rfl h3;simp only at hd;injection hd with xm hd;subst xm;obtain⟨m2,j2,rfl,rfl,h4⟩:=NL Lc rfl (by simp only;rw[hd]) (qoI (hF.data a (by rw[hd];simp)) h2) h3;obtain⟨n',k',g1,g2⟩:=ih m2 (by omega) _ t e o j2 h4 ⟨hp,by simp only;rw[hS.data,hd],hS.calls,hS.mem,hS.xa,hS.out⟩ (hF.to (lj (lj hT)) (by simp only;rw[<-hd];exact hF.data) rfl rfl rfl);refine⟨n',k',g1,?_⟩;have:=iL t.digit false;simp only at g2;omega
  |@Kg x y z c rest hc h1=>
   obtain⟨a,b,cc,ch,p1,p2,p3,p4,p5,p6,p7,p8⟩:=qjd h1;injection p3 with p3 _;subst p3;obtain⟨hl,m1,j1,rfl,rfl,h3⟩:=yy p1 hv h;obtain⟨b',a',d,hd⟩:=tY p4 rfl h3;simp only at hd;injection hd with xm hd;subst xm;obtain⟨u,z',b1,b2,b3⟩:=qoY hc a' a b;rw[p5] at b2;injection b2 with b2;subst b2;obtain⟨m2,j2,rfl,rfl,h4⟩:=NL p4 rfl (by simp only;rw[hd]) b1 h3;obtain⟨Cs,m3,j3,rfl,rfl,h5⟩:=yy p2 rfl h4;have WE:∃ v,ad c.toNat u b=some v:=by rcases hc with rfl|rfl|rfl <;> exact⟨_,rfl⟩
   obtain⟨v,WE⟩:=WE;obtain⟨m4,j4,rfl,rfl,h6⟩:=NL p4 rfl rfl WE h5;have ha:=hF.data a' (by rw[hd];simp);have J1:=lT ha p8 (by rw[<-b3];exact WE);obtain⟨n',k',g1,g2⟩:=ih m4 (by omega) _ { t with pc:=O (dd W) rest,data:=v::d,digit:=false } e o j4 h6 ⟨rfl,rfl,hS.calls,hS.mem,hS.xa,hS.out⟩ (hF.to (lj (lj (lj (lj hT)))) (λx hx=>by
     rcases lc.1 hx with rfl|hx;exact J1;exact hF.data x (by rw[hd];exact Gc _ hx)) rfl rfl rfl)
   have hp:t.pc=z::[c]::O (dd W) rest:=hp;rw[hd] at hl;simp only[Ba] at hl;refine⟨_,_,.step (s':={ t with pc:=[c]::O (dd W) rest,data:=cc::s.data,digit:=true }) ?_ (.step (s':={ t with pc:=O (dd W) rest,data:=v::d,digit:=false }) ?_ g1),?_⟩;rw[ak hp,bJ p6];unfold Vl;rw[hS.data,hd,zp (by simp only[Ba];omega)];rw[ak rfl,tv (Qw p4),SO p4];unfold yk;simp only[hd];rw[<-b3,WE];simp only;unfold Vl;rw[zp (by omega)];have hc:ji t=z.length+Go.ea.one t.digit:=by unfold ji;rw[hp];exact aJ p6
   rw[hc,vL (Qw p4) rfl];simp only[NG] at g2 ⊢;have e1:Go.ea.one false=0:=rfl;omega
  |@same x nn rest h1=>
   obtain⟨hl,m1,j1,rfl,rfl,h3⟩:=yy h1 hv h;obtain⟨hD,m2,j2,rfl,rfl,h4⟩:=quJ rfl rfl h3;obtain⟨Cs,m3,j3,rfl,rfl,h5⟩:=yy h1 rfl h4;obtain⟨m4,j4,rfl,rfl,h6⟩:=qrl rfl rfl h5;have hm:(λi=>if i=nn then s.mem nn else s.mem i)=s.mem:=by funext i;split;rename_i e;rw[e];rfl
   obtain⟨n',k',g1,g2⟩:=ih m4 (by omega) _ t e o j4 h6 ⟨hp,hS.data,hS.calls,hS.mem.trans hm.symm,hS.xa,hS.out⟩ (hF.to (lj (lj (lj (lj hT)))) hF.data hm rfl rfl);refine⟨n',k',g1,?_⟩;have:=iL t.digit false;simp only at g2;omega
  |@double w l rest h1=>
   have ho:Xb 60:=by unfold Xb;decide
   obtain⟨hl,m1,j1,rfl,rfl,h3⟩:=yy ZD hv h;obtain⟨b',a,d,hd⟩:=tY ho rfl h3;simp only at hd;injection hd with xm hd;subst xm;obtain⟨m2,j2,rfl,rfl,h4⟩:=NL ho rfl (v:=if a<1 then 1 else 0) (by simp only;rw[hd]) (by unfold ad;simp) h3;obtain⟨Cs,m3,j3,rfl,rfl,h5⟩:=yy ZD rfl h4;obtain⟨m4,j4,rfl,rfl,h6⟩:=NL ho rfl (v:=if (if a<1 then 1 else 0)<1 then 1 else 0) rfl (by unfold ad;simp) h5;obtain⟨kk,hk,_,m5,j5,rfl,rfl,h7⟩:=DU h1 rfl rfl h6;have hT5:=lj (lj (lj (lj hT)));have Ah:=tZ (nX hT5 h1) hk;have hz:((if (if a<1 then 1 else 0)<1 then 1 else 0)=0)=(a=0):=by by_cases ha:a=0;subst ha;simp;rw[zn (show ¬ a<1 by omega)];simp[ha]
   simp only[hz] at h7;obtain⟨n',k',g1,g2⟩:=ih m5 (by omega) _ { t with pc:=if a=0 then O (dd W) kk else O (dd W) rest,data:=d,digit:=false } e o j5 h7 ⟨by simp only;split <;> rfl,rfl,hS.calls,hS.mem,hS.xa,hS.out⟩ (hF.to (by
     simp only;split;exact DP hk;exact lj (lj hT5)) (λx hx=>hF.data x (by rw[hd];exact Gc _ hx)) rfl rfl rfl)
   have hp:t.pc=w::[63]::O (dd W) rest:=hp;have rF:ji t=7+Go.ea.one t.digit:=by unfold ji;rw[hp];exact QG h1
   refine⟨_,_,.step (s':={ t with pc:=if a=0 then O (dd W) kk else O (dd W) rest,data:=d,digit:=false }) ?_ g1,?_⟩;rw[ak hp,qE h1];unfold dy cG;have kx:(a::d).length<256:=by rw[<-hd];exact hl
   simp only[Ah,hS.data,hd,if_true];rw[zp kx];rw[rF];simp only[NG] at g2 ⊢;have e1:Go.ea.one false=0:=rfl;have e2:([49]:Wd).length=1:=rfl;omega
  |@never x w l nn rest h1 h2 h3=>obtain⟨hl,m1,j1,rfl,rfl,h4⟩:=yy h1 hv h;obtain⟨kk,hk,_,m2,j2,rfl,rfl,h5⟩:=DU h3 rfl rfl h4;rw[zn h2] at h5;obtain⟨n',k',g1,g2⟩:=ih m2 (by omega) _ t e o j2 h5 ⟨hp,hS.data,hS.calls,hS.mem,hS.xa,hS.out⟩ (hF.to (lj (lj (lj hT))) hF.data rfl rfl rfl);refine⟨n',k',g1,?_⟩;have:=iL t.digit false;simp only at g2;omega
  |@next w l rest h1 h2=>
   obtain⟨hl,m1,j1,rfl,rfl,h4⟩:=yy Yp hv h;obtain⟨kk,hk,_,m2,j2,rfl,rfl,h5⟩:=DU h1 rfl rfl h4;rw[zp rfl] at h5;obtain⟨ds,k2,e1,e2,e3⟩:=qlh h2;have hT3:=lj (lj (lj hT));obtain⟨p0,VC⟩:=hT3;have Yn:=qrI hn VC e2;rw[hk] at Yn;injection Yn with Yn;subst Yn;obtain⟨es,q1,q2⟩:=K8 (dd W) ds kk e3;have hp:t.pc=es++O (dd W) kk:=by rw[<-q1,<-e1];exact hp
   obtain⟨n',k',g1,g2⟩:=ih m2 (by omega) _ { t with pc:=O (dd W) kk } e o j2 h5 ⟨rfl,hS.data,hS.calls,hS.mem,hS.xa,hS.out⟩ (hF.to (DP hk) hF.data rfl rfl rfl);obtain⟨n2,g3⟩:=qvC (NY es t _ hp q2) g1;refine⟨n2,_,g3,?_⟩;have:=iL t.digit false;simp only at g2;omega
  |@To w l dead rest h1 h2 h3=>
   obtain⟨hl,m1,j1,rfl,rfl,h4⟩:=yy Yp hv h;obtain⟨kk,hk,Cs,m2,j2,rfl,rfl,h5⟩:=DU h1 rfl rfl h4;rw[zp rfl] at h5;have Ah:=tZ (nX (lj hT) h1) hk;have hp:t.pc=[48]::w::[63]::O (dd W) rest:=hp;obtain⟨n',k',g1,g2⟩:=ih m2 (by omega) _ { t with pc:=O (dd W) kk,digit:=false } e o j2 h5 ⟨rfl,hS.data,hS.calls,hS.mem,hS.xa,hS.out⟩ (hF.to (DP hk) hF.data rfl rfl rfl);refine⟨_,_,.step (s':={ t with pc:=w::[63]::O (dd W) rest,data:=0::s.data,digit:=true }) ?_ (.step (s':={ t with pc:=O (dd W) kk,digit:=false }) ?_ g1),?_⟩;rw[ak hp,bJ Yp];unfold Vl;rw[hS.data,zp hl];rw[ak rfl,qE h1];unfold dy cG;have gK:(0::s.data).length<256:=Cs;simp only[Ah,if_true];rw[zp gK,<-hS.data];have hc:ji t=([48]:Wd).length+Go.ea.one t.digit:=by unfold ji;rw[hp];exact aJ Yp
   have Oe:ji { t with pc:=w::[63]::O (dd W) rest,data:=0::s.data,digit:=true }=7+Go.ea.one true:=QG h1;rw[hc,Oe];simp only[NG] at g2 ⊢;omega
  |@Um c dead rest h1 h2 h3=>
   have hp:t.pc=[c]::O (dd W) rest:=hp;have aF:c∈Tk:=by rcases h1 with rfl|rfl <;> decide
   have hs:Sa ⟨W,D⟩ s=qu D s c (dead++rest):=by rw[ak hv,tv aF]
   have Jk:Sa ⟨O (dd W) W,D⟩ t=qu D t c (O (dd W) rest):=by rw[ak hp,tv aF]
   have hc:=vL aF hv;have rF:=vL aF hp;rcases h1 with rfl|rfl;have hs:Sa ⟨W,D⟩ s=gG s:=hs;have Jk:Sa ⟨O (dd W) W,D⟩ t=gG t:=Jk;unfold gG at hs Jk;cases oe:s.calls with
   |nil=>rw[oe] at hs;exact(Zs h hs).elim
   |cons kk l=>rw[oe] at hs;rw[hS.calls,oe,jd] at Jk;simp only at hs Jk;obtain⟨m1,j1,rfl,rfl,h4⟩:=oE h hs;obtain⟨n',k',g1,g2⟩:=ih m1 (by omega) _ { t with pc:=O (dd W) kk,calls:=l.map (O (dd W)),digit:=false } e o j1 h4 ⟨rfl,hS.data,rfl,hS.mem,hS.xa,hS.out⟩ ⟨hF.data,hF.mem,hF.xa,hF.calls kk (by rw[oe];simp),λc hc=>hF.calls c (by rw[oe];exact Gc _ hc)⟩;refine⟨_,_,.step Jk g1,?_⟩;rw[rF,hc];simp only[NG] at g2;omega
   have hs:Sa ⟨W,D⟩ s=.stop 0 s.out:=hs;have Jk:Sa ⟨O (dd W) W,D⟩ t=.stop 0 t.out:=Jk;cases h with
   |stop h4 h5=>rw[hs] at h4;injection h4 with h4 h6;subst h4 h6;rw[hS.out] at Jk;exact⟨_,_,.stop Jk h5,by omega⟩
   |step h4 _=>rw[hs] at h4;cases h4
  |@unused w l rest h1 h2=>obtain⟨m1,j1,rfl,rfl,h4⟩:=oE h (tU hv h1);obtain⟨n',k',g1,g2⟩:=ih m1 (by omega) _ t e o j1 h4 ⟨hp,hS.data,hS.calls,hS.mem,hS.xa,hS.out⟩ (hF.to (lj hT) hF.data rfl rfl rfl);refine⟨n',k',g1,?_⟩;rw[fP hv h1];simp only at g2;omega
theorem qsc{D:Nat->Bool}{xa:List Nat}(hn:(yb W).Nodup)(hi:∀ v∈xa,v<4294967296)(h:Ends ⟨W,D⟩ n ⟨λ_=>0,W,[],[],xa,[],false⟩ e o k):∃ n' k',Ends ⟨dp W,D⟩ n' ⟨λ_=>0,dp W,[],[],xa,[],false⟩ e o k'/\k'<=k:=
 qsE hn n _ ⟨λ_=>0,dp W,[],[],xa,[],false⟩ e o k h ⟨rfl,rfl,rfl,rfl,rfl,rfl⟩ ⟨λv hv=>(not_mem_nil hv).elim,λ_=>(by show(0:Nat)<_;decide),hi,⟨[],rfl⟩,λc hc=>(not_mem_nil hc).elim⟩
theorem qlt{D:Nat->Bool}{xa:List Nat}(hi:∀ v∈xa,v<4294967296){e:Nat}{o:Wd}:∀ (f:Nat) {W:List Wd} {n k:Nat},Ts W->Ends ⟨W,D⟩ n ⟨λ_=>0,W,[],[],xa,[],false⟩ e o k->∃ n' k',Ends ⟨Ng f W,D⟩ n' ⟨λ_=>0,Ng f W,[],[],xa,[],false⟩ e o k'/\k'<=k
 |0,W,n,k,_,h=>⟨n,k,h,Nb _⟩
 |f+1,W,n,k,hA,h=>by rw[Ng];split;exact⟨n,k,h,Nb _⟩;obtain⟨n1,k1,h1,h2⟩:=qsc hA.1 hi h;obtain⟨n2,k2,h3,h4⟩:=qlt hi f (qqh hA) h1;exact⟨n2,k2,h3,Se h4 h2⟩
theorem qvc{D:Nat->Bool}{xa:List Nat}(hi:∀ v∈xa,v<4294967296)(hA:Ts W)(h:Ends ⟨W,D⟩ n ⟨λ_=>0,W,[],[],xa,[],false⟩ e o k):∃ n' k',Ends ⟨Uh W,D⟩ n' ⟨λ_=>0,Uh W,[],[],xa,[],false⟩ e o k'/\k'<=k:=qlt hi _ hA h
def ZB(c:UInt8):Option (Nat×Nat):=
 if c=64 then some (1,1) else if c=33 then some (2,0) else if c=44 then some (0,1) else if c=46 then some (1,0)
 else if c=43∨c=45∨c=42∨c=47∨c=37∨c=94∨c=60 then some (2,1) else none
inductive Ty (L:Wd->Nat):Option Nat->List Wd->Prop
 |nil {o:Option Nat}:Ty L o []
 |free {d:Nat} {v:List Wd}:Ty L (some d) v->Ty L none v
 |Sj {w x:Wd} {r:List Wd}:ma w=some x->L x=0->Ty L (some 0) r->Ty L (some 0) (w::r)
 |Ni {w x:Wd} {r:List Wd}:ma w=some x->Ty L (some (L x)) r->Ty L none (w::r)
 |num {d n:Nat} {w:Wd} {r:List Wd}:ib w=some n->Ty L (some (d+1)) r->Ty L (some d) (w::r)
 |jump {w x:Wd} {r:List Wd}:La w=some x->L x=0->Ty L (some 0) r->Ty L (some 1) (w::[63]::r)
 |goto {w x:Wd} {r:List Wd}:La w=some x->L x=0->Ty L none r->Ty L (some 0) ([48]::w::[63]::r)
 |call {d:Nat} {w x:Wd} {r:List Wd}:La w=some x->Ty L (some (d+1)) r->Ty L (some (d+L x)) (w::[58]::r)
 |sign {d a b:Nat} {c:UInt8} {r:List Wd}:ZB c=some (a,b)->Ty L (some (d+b)) r->Ty L (some (d+a)) ([c]::r)
 |stop {d:Nat} {c:UInt8} {r:List Wd}:(c=59∨c=36)->Ty L none r->Ty L (some d) ([c]::r)
theorem tE{p:Nat×Nat}(h:ZB c=some p):c∈Tk/\c≠59/\c≠36:=by
 have key:∀ n:Nat,n<256->(ZB (UInt8.ofNat n)).isSome=true->UInt8.ofNat n∈Tk/\UInt8.ofNat n≠59/\UInt8.ofNat n≠36:=by decide +kernel
 have:=key c.toNat c.toNat_lt;rw[UInt8.ofNat_toNat] at this;exact this (by rw[h];try rfl)
theorem Ys(h:c∈Tk):ma [c]=none/\ib [c]=none/\La [c]=none:=by obtain⟨e1,e2,e3⟩:=Sw h;exact⟨e1,pZ e3,e2⟩
theorem RG(h:c=59∨c=36):c∈Tk:=by rcases h with rfl|rfl <;> decide
section
variable{L:Wd->Nat}{d:Nat}{o:Option Nat}{w x:Wd}{r:List Wd}
theorem gE(hn:ib w=some n)(hr:∀ y q,r=y::q->La y=none)(h:Ty L (some d) (w::r)):Ty L (some (d+1)) r:=by
 obtain⟨k1,k2⟩:=bq hn;generalize hv:w::r=v at h;generalize ho:some d=o at h;cases h with
 |nil=>cases hv
 |free _=>cases ho
 |Sj h1 _ _=>injection hv with e _;rw[<-e,k1] at h1;cases h1
 |Ni _ _=>cases ho
 |num _ h2=>injection hv with _ e;injection ho with ho;subst e ho;exact h2
 |jump h1 _ _=>injection hv with e _;rw[<-e,k2] at h1;cases h1
 |goto h1 _ _=>injection hv with _ e;rw[hr _ _ e] at h1;cases h1
 |call h1 _=>injection hv with e _;rw[<-e,k2] at h1;cases h1
 |sign h1 _=>injection hv with e _;rw[e,(Ys (tE h1).1).2.1] at hn;cases hn
 |stop h1 _=>injection hv with e _;rw[e,(Ys (RG h1)).2.1] at hn;cases hn
theorem CG(hc:ZB c=some (a,b))(h:Ty L (some d) ([c]::r)):∃ e,d=e+a/\Ty L (some (e+b)) r:=by
 obtain⟨k0,k4,k5⟩:=tE hc;obtain⟨k1,k2,k3⟩:=Ys k0;generalize hv:[c]::r=v at h;generalize ho:some d=o at h;cases h with
 |nil=>cases hv
 |free _=>cases ho
 |Sj h1 _ _=>injection hv with e _;rw[<-e,k1] at h1;cases h1
 |Ni _ _=>cases ho
 |num h1 h2=>injection hv with e _;rw[<-e,k2] at h1;cases h1
 |jump h1 _ _=>injection hv with e _;rw[<-e,k3] at h1;cases h1
 |goto h1 _ _=>injection hv with e _;rw[e,Yp] at k2;cases k2
 |call h1 _=>injection hv with e _;rw[<-e,k3] at h1;cases h1
 |sign h1 h2=>injection hv with e e2;injection e with e _;subst e e2;rw[hc] at h1;injection h1 with h1;injection h1 with e1 e2;subst e1 e2;injection ho with ho;exact⟨_,ho,h2⟩
 |stop h1 _=>injection hv with e _;injection e with e _;rw[<-e] at h1;rcases h1 with h1|h1;exact absurd h1 k4;exact absurd h1 k5
theorem qsI(hr:La w=some x)(h:Ty L (some d) (w::[63]::r)):d=1/\L x=0/\Ty L (some 0) r:=by
 have k1:=As hr;have k2:=JU hr;generalize hv:w::[63]::r=v at h;generalize ho:some d=o at h;cases h with
 |nil=>cases hv
 |free _=>cases ho
 |Sj h1 _ _=>injection hv with e _;rw[<-e,k1] at h1;cases h1
 |Ni _ _=>cases ho
 |num h1 h2=>injection hv with e _;rw[<-e,k2] at h1;cases h1
 |jump h1 h2 h3=>injection hv with e e2;injection e2 with _ e2;subst e e2;rw[hr] at h1;injection h1 with h1;subst h1;injection ho with ho;exact⟨ho,h2,h3⟩
 |goto h1 _ _=>injection hv with e _;rw[e,Yp] at k2;cases k2
 |call h1 _=>injection hv with _ e;injection e with e _;exact absurd e da
 |sign h1 _=>injection hv with e _;rw[e,(Ys (tE h1).1).2.2] at hr;cases hr
 |stop h1 _=>injection hv with e _;rw[e,(Ys (RG h1)).2.2] at hr;cases hr
theorem pX{z:Wd}(hz:ib z=some n)(hr:La w=some x)(h:Ty L (some d) (z::w::[63]::r)):d=0/\L x=0/\Ty L none r/\(n≠0->Ty L (some 0) r):=by
 obtain⟨k1,k2⟩:=bq hz;generalize hv:z::w::[63]::r=v at h;generalize ho:some d=o at h;cases h with
 |nil=>cases hv
 |free _=>cases ho
 |Sj h1 _ _=>injection hv with e _;rw[<-e,k1] at h1;cases h1
 |Ni _ _=>cases ho
 |num h1 h2=>injection hv with _ e;injection ho with ho;subst e ho;obtain⟨e1,e2,e3⟩:=qsI hr h2;exact⟨by omega,e2,.free e3,λ_=>e3⟩
 |jump h1 _ _=>injection hv with e _;rw[<-e,k2] at h1;cases h1
 |goto h1 h2 h3=>
  injection hv with e0 e;injection e with e e2;injection e2 with _ e2;subst e e2;rw[hr] at h1;injection h1 with h1;subst h1;injection ho with ho;refine⟨ho,h2,h3,λhn=>?_⟩;rw[e0,Yp] at hz;injection hz with hz
  exact absurd hz.symm hn
 |call h1 _=>injection hv with e _;rw[<-e,k2] at h1;cases h1
 |sign h1 _=>injection hv with e _;rw[e,(Ys (tE h1).1).2.1] at hz;cases hz
 |stop h1 _=>injection hv with e _;rw[e,(Ys (RG h1)).2.1] at hz;cases hz
theorem qyf(hc:c=59∨c=36)(h:Ty L (some d) ([c]::r)):Ty L none r:=by
 obtain⟨k1,k2,k3⟩:=Ys (RG hc);generalize hv:[c]::r=v at h;generalize ho:some d=o at h;cases h with
 |nil=>cases hv
 |free _=>cases ho
 |Sj h1 _ _=>injection hv with e _;rw[<-e,k1] at h1;cases h1
 |Ni _ _=>cases ho
 |num h1 h2=>injection hv with e _;rw[<-e,k2] at h1;cases h1
 |jump h1 _ _=>injection hv with e _;rw[<-e,k3] at h1;cases h1
 |goto h1 _ _=>injection hv with e _;rw[e,Yp] at k2;cases k2
 |call h1 _=>injection hv with e _;rw[<-e,k3] at h1;cases h1
 |sign h1 h2=>injection hv with e e2;injection e with e _;subst e;rcases hc with rfl|rfl;exact absurd rfl (tE h1).2.1;exact absurd rfl (tE h1).2.2
 |stop h1 h2=>injection hv with _ e;subst e;exact h2
theorem fX(hd:ma w=some x)(h:Ty L (some d) (w::r)):d=0/\L x=0/\Ty L (some 0) r:=by
 generalize hv:w::r=v at h;generalize ho:some d=o at h;cases h with
 |nil=>cases hv
 |free _=>cases ho
 |Sj h1 h2 h3=>injection hv with e e2;subst e e2;rw[hd] at h1;injection h1 with h1;subst h1;injection ho with ho;exact⟨ho,h2,h3⟩
 |Ni _ _=>cases ho
 |num h1 h2=>injection hv with e _;rw[e,(bq h1).1] at hd;cases hd
 |jump h1 _ _=>injection hv with e _;rw[e,As h1] at hd;cases hd
 |goto h1 _ _=>injection hv with e _;rw[e,(bq Yp).1] at hd;cases hd
 |call h1 _=>injection hv with e _;rw[e,As h1] at hd;cases hd
 |sign h1 h2=>injection hv with e _;rw[e,(Ys (tE h1).1).1] at hd;cases hd
 |stop h1 h2=>injection hv with e _;rw[e,(Ys (RG h1)).1] at hd;cases hd
theorem MX(h:Ty L none (w::r)):(∃ d,Ty L (some d) (w::r))∨∃ x,ma w=some x/\Ty L (some (L x)) r:=by
 cases h with
 |free h=>exact .inl ⟨_,h⟩
 |Ni h1 h2=>exact .inr ⟨_,h1,h2⟩
end
section
variable{L:Wd->Nat}
theorem Z9(Lo:∀ y r,rest=y::r->(ma y).isSome=true):∀ (n:Nat) (dead:List Wd) (o:Option Nat),dead.length<=n->(∀ y∈dead,ma y=none)->Ty L o (dead++rest)->Ty L none rest:=by
 have Zb:∀ {o:Option Nat} {v:List Wd},Ty L o v->Ty L none v:=λ{o v} h=>by
  cases o with
  |none=>exact h
  |some d=>exact .free h
 have cut:∀ {dead r:List Wd} {z:Wd},dead++rest=z::r->ma z=none->∃ XH,dead=z::XH/\r=XH++rest:=by
  intro dead r z e hz;cases dead with
  |nil=>have:=Lo z r e;rw[hz] at this;cases this
  |cons y dead=>rw[cons_append] at e;injection e with e1 e2;subst e1 e2;exact⟨dead,rfl,rfl⟩
 intro n;induction n with
 |zero=>intro dead o hn hd h;obtain rfl:=List.eq_nil_of_length_eq_zero (Nat.le_zero.1 hn);exact Zb h
 |succ n ih=>
  intro dead o hn hd h;cases dead with
  |nil=>exact Zb h
  |cons y dead=>
   have hy:=hd y Ce;have ur:=λz hz=>hd z (Gc y hz);rw[Ba] at hn
   have main:∀ d,Ty L (some d) (y::(dead++rest))->Ty L none rest:=by
    intro d h;generalize hv:y::(dead++rest)=v at h;generalize ho:some d=o at h;cases h with
    |nil=>cases hv
    |free _=>cases ho
    |Sj h1 _ _=>injection hv with e _;rw[<-e,hy] at h1;cases h1
    |Ni _ _=>cases ho
    |num h1 h2=>injection hv with _ e;subst e;exact ih dead _ (by omega) ur h2
    |jump h1 _ h2=>injection hv with _ e;obtain⟨q,rfl,rfl⟩:=cut e (by decide +kernel);exact ih q _ (by simp only[Ba] at hn;omega) (λz hz=>ur z (Gc _ hz)) h2
    |goto h1 _ h2=>injection hv with _ e;obtain⟨q,rfl,e2⟩:=cut e (As h1);obtain⟨q2,rfl,rfl⟩:=cut e2.symm (by decide +kernel);exact ih q2 _ (by simp only[Ba] at hn;omega) (λz hz=>ur z (Gc _ (Gc _ hz))) h2
    |call h1 h2=>injection hv with _ e;obtain⟨q,rfl,rfl⟩:=cut e (by decide +kernel);exact ih q _ (by simp only[Ba] at hn;omega) (λz hz=>ur z (Gc _ hz)) h2
    |sign h1 h2=>injection hv with _ e;subst e;exact ih dead _ (by omega) ur h2
    |stop h1 h2=>injection hv with _ e;subst e;exact ih dead _ (by omega) ur h2
   cases o with
   |some d=>exact main d h
   |none=>rcases MX h with⟨d,h⟩|⟨x,h1,_⟩;exact main d h;rw[hy] at h1;cases h1
theorem qyS(hl:L l=0):∀ {rest:List Wd},Qs l rest=true->Ty L none rest->Ty L (some 0) rest
 |[],h,_=>by cases h
 |w::r,h,ht=>by
  rcases MX ht with⟨d,ht⟩|⟨x,h1,h2⟩;cases hd:ma w with
  |none=>rw[Qs,hd] at h;cases h
  |some x=>obtain⟨rfl,_,_⟩:=fX hd ht;exact ht
  rw[Qs,h1] at h;simp only[Bool.or_eq_true,Mf] at h;have h0:L x=0:=by
   rcases h with rfl|h;exact hl;cases r with
   |nil=>cases h
   |cons y q=>
    cases hd:ma y with
    |none=>rw[Qs,hd] at h;cases h
    |some z=>exact(fX hd h2).1
  rw[h0] at h2;exact .Sj h1 h0 h2
theorem jL(h:Xb c):ZB c=some (2,1):=by unfold Xb at h;rcases h with rfl|rfl|rfl|rfl|rfl|rfl|rfl <;> decide
theorem qsg{y:Wd}(h:ib y=some n):La y=none:=(bq h).2
theorem qyw{used:Wd->Bool}{v:List Wd}(h:Kind used v p rest){d:Nat}(ht:Ty L (some d) v)(T:List Wd)(hT:∀ o,Ty L o rest->Ty L o T):Ty L (some d) (p++T):=by
 have Bw:∀ {c:UInt8} {q:List Wd},c∈Tk->∀ y s,[c]::q=y::s->La y=none:=λhc y s e=>by injection e with e _;rw[<-e];exact(Ys hc).2.2
 cases h with
 |@fold x y op z rest h1=>
  obtain⟨k1,k2,k3,k4⟩:=wZ h1;unfold Kj at h1;split at h1;rename_i a b ha hb;split at h1;rename_i c hc;split at h1;injection h1 with h1;have za:=UO ((FA _ _).1 ha).1 ((FA _ _).1 hb).1 hc;have Lc:∃ ch,op=[ch]/\Xb ch:=by unfold Bo at hc;unfold Xb;split at hc;rename_i e;exact⟨_,e,by decide⟩;split at hc;rename_i e;exact⟨_,e,by decide⟩;split at hc;rename_i e;exact⟨_,e,by decide⟩;split at hc;rename_i e;exact⟨_,e,by decide⟩;split at hc;rename_i e;exact⟨_,e,by decide⟩;split at hc;rename_i e;exact⟨_,e,by decide⟩;split at hc;rename_i e;exact⟨_,e,by decide⟩;cases hc
  obtain⟨ch,rfl,Lc⟩:=Lc;have t1:=gE ha (λy s e=>by injection e with e _;rw[<-e];exact qsg hb) ht;have t2:=gE hb (Bw (Qw Lc)) t1;obtain⟨e,he,t3⟩:=CG (jL Lc) t2;obtain rfl:e=d:=by omega
  subst h1;exact .num (nE za) (hT _ t3);cases h1;cases h1;cases h1
 |@neutral x n c rest h1 h2=>
  have Lc:=qi5 h2;have t1:=gE h1 (Bw (Qw Lc)) ht;obtain⟨e,he,t3⟩:=CG (jL Lc) t1;obtain rfl:e+1=d:=by omega
  exact hT _ t3
 |@Kg x y z c rest hc h1=>
  have Lc:Xb c:=by unfold Xb;rcases hc with rfl|rfl|rfl <;> decide
  unfold Kj at h1;split at h1;rename_i a b ha hb;split at h1;rename_i k hk;split at h1;injection h1 with h1;have za:=UO ((FA _ _).1 ha).1 ((FA _ _).1 hb).1 hk;have t1:=gE ha (Bw (Qw Lc)) ht;obtain⟨e,he,t2⟩:=CG (jL Lc) t1;have t3:=gE hb (Bw (Qw Lc)) t2;obtain⟨e',Aa,t4⟩:=CG (jL Lc) t3;subst h1;refine .num (nE za) ?_;have e1:d+1=e'+2:=by omega
  rw[e1];exact .sign (jL Lc) (hT _ t4);cases h1;cases h1;cases h1
 |@same x n rest h1=>
  have t1:=gE h1 (Bw da) ht;obtain⟨e,he,t2⟩:=CG (a:=1) (b:=1) da t1;have t3:=gE h1 (Bw da) t2;obtain⟨e',Aa,t4⟩:=CG (a:=2) (b:=0) da t3;obtain rfl:e'=d:=by omega
  exact hT _ t4
 |@double w l rest h1=>
  have t1:=gE ZD (Bw da) ht;obtain⟨e,he,t2⟩:=CG (a:=2) (b:=1) da t1;have t3:=gE ZD (Bw da) t2;obtain⟨e',Aa,t4⟩:=CG (a:=2) (b:=1) da t3;obtain⟨j1,j2,j3⟩:=qsI h1 t4;obtain rfl:d=1:=by omega
  exact .jump h1 j2 (hT _ j3)
 |@never x w l n rest h1 h2 h3=>obtain⟨j1,j2,j3,j4⟩:=pX h1 h3 ht;subst j1;exact hT _ (j4 h2)
 |@next w l rest h1 h2=>obtain⟨j1,j2,j3,j4⟩:=pX Yp h1 ht;subst j1;exact hT _ (qyS j2 h2 j3)
 |@To w l dead rest h1 h2 h3=>obtain⟨j1,j2,j3,j4⟩:=pX Yp h1 ht;subst j1;exact .goto h1 j2 (hT _ (Z9 h3 _ dead _ (Nb _) h2 j3))
 |@Um c dead rest h1 h2 h3=>exact .stop h1 (hT _ (Z9 h3 _ dead _ (Nb _) h2 (qyf h1 ht)))
 |@unused w l rest h1 h2=>obtain⟨j1,j2,j3⟩:=fX h1 ht;subst j1;exact hT _ j3
theorem qxY(used:Wd->Bool):∀ (n:Nat) (v:List Wd) (o:Option Nat),v.length<=n->Ty L o v->Ty L o (O used v):=by
 intro n;induction n with
 |zero=>intro v o hn h;obtain rfl:=List.eq_nil_of_length_eq_zero (Nat.le_zero.1 hn);exact .nil
 |succ n ih=>
  intro v o hn h;cases v with
  |nil=>exact .nil
  |cons w r=>
   rw[Ba] at hn;have main:∀ d,Ty L (some d) (w::r)->Ty L (some d) (O used (w::r)):=by
    intro d h;rcases rL used w r with⟨e,_⟩|⟨p,rest,k,e,hl⟩
    ·rw[e];generalize hv:w::r=v at h;generalize ho:some d=o at h
     cases h with
     |nil=>cases hv
     |free _=>cases ho
     |Sj h1 h2 h3=>injection hv with e1 e2;subst e1 e2;exact .Sj h1 h2 (ih _ _ (by omega) h3)
     |Ni _ _=>cases ho
     |num h1 h2=>injection hv with e1 e2;subst e1 e2;exact .num h1 (ih _ _ (by omega) h2)
     |jump h1 h2 h3=>injection hv with e1 e2;subst e1 e2;rw[MO used (.inl rfl)];simp only[Ba] at hn;exact .jump h1 h2 (ih _ _ (by omega) h3)
     |goto h1 h2 h3=>injection hv with e1 e2;subst e1 e2;rw[qS used h1,MO used (.inl rfl)];simp only[Ba] at hn;exact .goto h1 h2 (ih _ _ (by omega) h3)
     |call h1 h2=>injection hv with e1 e2;subst e1 e2;rw[MO used (.inr rfl)];simp only[Ba] at hn;exact .call h1 (ih _ _ (by omega) h2)
     |sign h1 h2=>injection hv with e1 e2;subst e1 e2;exact .sign h1 (ih _ _ (by omega) h2)
     |stop h1 h2=>injection hv with e1 e2;subst e1 e2;exact .stop h1 (ih _ _ (by omega) h2)
    rw[e];exact qyw k h _ λo ho=>ih _ _ (by omega) ho
   cases o with
   |some d=>exact main d h
   |none=>
    rcases MX h with⟨d,h⟩|⟨x,h1,h2⟩;exact .free (main d h);have h3:=ih r _ (by omega) h2;rcases rL used w r with⟨e,_⟩|⟨p,rest,k,e,hl⟩;rw[e];exact .Ni h1 h3;rw[e];generalize hv:w::r=v at k;have Vb:ib w=none:=by
     cases hq:ib w with
     |none=>rfl
     |some n=>rw[(bq hq).1] at h1;cases h1
    have ub:∀ c:UInt8,ma [c]=none->w≠[c]:=λc hc e=>by rw[e,hc] at h1;cases h1
    have hj:∀ {x op y z:Wd},Kj x op y=some z->ib x≠none:=λhj e=>by unfold Kj at hj;rw[e] at hj;cases hj
    cases k with
    |fold q=>injection hv with e _;exact absurd (by rw[<-e];exact Vb) (hj q)
    |neutral q _=>injection hv with e _;rw[<-e,Vb] at q;cases q
    |Kg _ q=>injection hv with e _;exact absurd (by rw[<-e];exact Vb) (hj q)
    |same q=>injection hv with e _;rw[<-e,Vb] at q;cases q
    |double _=>injection hv with e _;exact absurd e (ub 49 (bq ZD).1)
    |never q _ _=>injection hv with e _;rw[<-e,Vb] at q;cases q
    |next _ _=>injection hv with e _;exact absurd e (ub 48 (bq Yp).1)
    |To _ _ _=>injection hv with e _;exact absurd e (ub 48 (bq Yp).1)
    |@Um c _ _ q _ _=>injection hv with e _;exact absurd e (ub c (Ys (RG q)).1)
    |unused q _=>injection hv with e1 e2;subst e1 e2;exact .free h3
theorem qxT{o:Option Nat}{v:List Wd}(h:Ty L o v):Ty L o (dp v):=qxY _ _ v o (Nb _) h
theorem qsR{o:Option Nat}:∀ (f:Nat) {v:List Wd},Ty L o v->Ty L o (Ng f v)
 |0,v,h=>h
 |f+1,v,h=>by rw[Ng];split;exact h;exact qsR f (qxT h)
theorem qzU{o:Option Nat}{v:List Wd}(h:Ty L o v):Ty L o (Uh v):=qsR _ h
theorem ZN(known:Wd->Nat){o:Option Nat}{v:List Wd}(h:Ty L o v):∀ (t:Wd),(sf t=true->∃ d,o=some (d+1))->∀ (j:Nat) (w x:Wd),v[j]? = some w->ma w=some x->sf ((v.take j).foldl (Yd known) t)=false:=by
 have Bw:∀ {c:UInt8} (t:Wd),c∈Tk->sf (Yd known t [c])=false:=λ{c} t hc=>by obtain⟨e1,e2,e3⟩:=Sw hc;have h1:=(zP known t [c] e1 (by simp)).2.1;rw[h1];unfold Ke;rw[e2];unfold sf;simp[e3]
 have pass:∀ {t w x:Wd},ma w=some x->Yd known t w=t:=λhd=>by unfold Yd;rw[hd]
 have no:∀ {t:Wd},sf t=false->∀ {P:Prop},sf t=true->P:=λh1 _ h2=>by rw[h1] at h2;cases h2
 induction h with
 |nil=>intro t ht j w x hw;simp at hw
 |free _ ih=>intro t ht;exact ih t λh=>by obtain⟨d,hd⟩:=ht h;cases hd
 |@Sj w x r h1 h2 h3 ih=>
  intro t ht j y z hy hz;have h0:sf t=false:=by
   cases hl:sf t with
   |false=>rfl
   |true=>obtain⟨d,hd⟩:=ht hl;injection hd with hd;omega
  cases j with
  |zero=>exact h0
  |succ j=>rw[take_succ_cons,foldl_cons,pass h1];exact ih t (no h0) j y z (by simpa using hy) hz
 |@Ni w x r h1 h2 ih=>
  intro t ht j y z hy hz;have h0:sf t=false:=by
   cases hl:sf t with
   |false=>rfl
   |true=>obtain⟨d,hd⟩:=ht hl;cases hd
  cases j with
  |zero=>exact h0
  |succ j=>rw[take_succ_cons,foldl_cons,pass h1];exact ih t (no h0) j y z (by simpa using hy) hz
 |@num d n w r h1 h2 ih=>
  intro t ht j y z hy hz;cases j with
  |zero=>simp only[Ql,Cm] at hy;rw[<-hy,(bq h1).1] at hz;cases hz
  |succ j=>rw[take_succ_cons,foldl_cons];exact ih _ (λ_=>⟨d,rfl⟩) j y z (by simpa using hy) hz
 |@jump w x r h1 h2 h3 ih=>
  intro t ht j y z hy hz;match j,hy with
  |0,hy=>simp only[Ql,Cm] at hy;rw[<-hy,As h1] at hz;cases hz
  |1,hy=>simp only[Ql,Ls,Cm] at hy;rw[<-hy,(Ys (c:=63) da).1] at hz;cases hz
  |j+2,hy=>rw[take_succ_cons,take_succ_cons,foldl_cons,foldl_cons];exact ih _ (no (Bw _ da)) j y z (by simpa using hy) hz
 |@goto w x r h1 h2 h3 ih=>
  intro t ht j y z hy hz;match j,hy with
  |0,hy=>simp only[Ql,Cm] at hy;rw[<-hy,(bq Yp).1] at hz;cases hz
  |1,hy=>simp only[Ql,Ls,Cm] at hy;rw[<-hy,As h1] at hz;cases hz
  |2,hy=>simp only[Ql,Ls,Cm] at hy;rw[<-hy,(Ys (c:=63) da).1] at hz;cases hz
  |j+3,hy=>rw[take_succ_cons,take_succ_cons,take_succ_cons,foldl_cons,foldl_cons,foldl_cons];exact ih _ (no (Bw _ da)) j y z (by simpa using hy) hz
 |@call d w x r h1 h2 ih=>
  intro t ht j y z hy hz;match j,hy with
  |0,hy=>simp only[Ql,Cm] at hy;rw[<-hy,As h1] at hz;cases hz
  |1,hy=>simp only[Ql,Ls,Cm] at hy;rw[<-hy,(Ys (c:=58) da).1] at hz;cases hz
  |j+2,hy=>rw[take_succ_cons,take_succ_cons,foldl_cons,foldl_cons];exact ih _ (no (Bw _ da)) j y z (by simpa using hy) hz
 |@sign d a b c r h1 h2 ih=>
  intro t ht j y z hy hz;cases j with
  |zero=>simp only[Ql,Cm] at hy;rw[<-hy,(Ys (tE h1).1).1] at hz;cases hz
  |succ j=>rw[take_succ_cons,foldl_cons];exact ih _ (no (Bw _ (tE h1).1)) j y z (by simpa using hy) hz
 |@stop d c r h1 h2 ih=>
  intro t ht j y z hy hz;cases j with
  |zero=>simp only[Ql,Cm] at hy;rw[<-hy,(Ys (RG h1)).1] at hz;cases hz
  |succ j=>rw[take_succ_cons,foldl_cons];exact ih _ (no (Bw _ (RG h1))) j y z (by simpa using hy) hz
end
abbrev PM:=Go.ea.PW
abbrev SM:=Go.ea.MS
structure Lk(C:PM)(D:Nat->Bool):Prop where
 label:∀ (j:Nat) (w x:Wd),C.W[j]? = some w->ma w=some x->C.known x=C.Uc j
 nb:∀ (j:Nat) (w x:Wd),C.W[j]? = some w->ma w=some x->sf (C.pre j)=false
 data:∀ a,D a=true->a<262144/\(a<C.og∨C.og+(Uk C.known C.W).length<=a)
def RF(C:PM)(k:List Wd)(t:Nat)(f:Bool):Prop:=∃ i,k=C.W.drop i/\t=C.Uc i/\sf (C.pre i)=f
inductive vw {A B:Type} (R:A->B->Prop):List A->List B->Prop
 |nil:vw R [] []
 |cons {a:A} {b:B} {l:List A} {m:List B}:R a b->vw R l m->vw R (a::l) (b::m)
theorem vw.len{A B:Type}{R:A->B->Prop}{l:List A}{m:List B}(h:vw R l m):l.length=m.length:=by
 induction h with
 |nil=>rfl
 |cons _ _ ih=>rw[Ba,Ba,ih]
structure q7(C:PM)(D:Nat->Bool)(s:MS)(m:SM):Prop where
 ok:C.Ok m.mem
 here:RF C s.pc m.pc s.digit
 digit:m.digit=s.digit
 data:m.data=s.data
 calls:vw (λk t=>RF C k t false) s.calls m.calls
 mem:∀ a,D a=true->m.mem a=s.mem a
 xa:m.xa=s.xa
 out:m.out=s.out
section
variable{C:PM}{D:Nat->Bool}{s:MS}{m:SM}{i:Nat}{w x:Wd}{r:List Wd}
theorem I'(h:w::r=C.W.drop i):C.W[i]? = some w/\r=C.W.drop (i+1):=by have h1:=congrArg (λl=>l[0]?) h;simp only[Ql,List.getElem?_drop,Nat.add_zero] at h1;refine⟨h1.symm,?_⟩;rw[<-drop_drop,<-h];try rfl
theorem qqH(hw:C.W[i]? = some w)(hd:ma w=some x):C.Uc (i+1)=C.Uc i/\C.pre (i+1)=C.pre i:=by
 have h1:=C.ct hw;have h2:Yd C.known (C.pre i) w=C.pre i:=by unfold Yd;rw[hd]
 rw[h2] at h1;refine⟨?_,h1⟩;unfold Go.ea.PW.Uc;rw[h1]
theorem qq9(hL:Lk C D){k:List Wd}(h:Xj x C.W=some k):RF C k (C.known x) false:=by
 obtain⟨p,w,h1,h2⟩:=fV h;have hw:C.W[p.length]? = some w:=by rw[h1,List.getElem?_append_right (Nb _)];simp
 obtain⟨e1,e2⟩:=qqH hw h2;refine⟨p.length+1,?_,?_,?_⟩
 ·conv=>rhs;rw[h1]
  rw[<-drop_drop,List.drop_left];try rfl
 rw[e1];exact hL.label _ _ _ hw h2;rw[e2];exact hL.nb _ _ _ hw h2
theorem qqk(hk:C.Ok m.mem)(Np:m.pc=C.Uc i)(Ap:sf (C.pre i)=m.digit)(hw:C.W[i]? = some w)(hd:ma w=none)(ub:Ke C.known w≠[])(hg:∀ c∈Ke C.known w,Rd c=true)(hv:Ig 0 (Ke C.known w)<4294967296)(Na:m.data.length<256) :
  Go.ea.wh ((Ke C.known w).length+one m.digit) m { m with pc:=C.Uc (i+1),data:=Ig 0 (Ke C.known w)::m.data,digit:=true }/\sf (C.pre (i+1))=true:=by
 obtain⟨⟨h1,h2⟩,h3⟩:=C.VR hk ⟨Np,λh=>by rw[Ap];exact h⟩ hw hd ub hg hv Na;refine⟨?_,h3⟩
 have hf:Jl (Ke C.known w)=true:=by
  cases hp:Ke C.known w with
  |nil=>exact absurd hp ub
  |cons c r=>exact hg c (by rw[hp];simp)
 have h4:=(C.piece hk hw hd).1;have tm:C.Uc (i+1)=C.Uc i+((Ke C.known w).length+one m.digit):=by unfold Go.ea.PW.Uc;rw[h4,ya,ya,hf,Bool.and_true,Ap];unfold one;cases m.digit <;> simp <;> omega
 rw[tm,Nat.add_sub_cancel_left,<-tm] at h2;exact h2
theorem DG{m':SM}(h:Go.ea.pf 1 m m')(ub:m≠m'):Go.ea.wh 1 m m':=by
 obtain⟨k,h1,h2⟩:=h;rcases Nat.lt_or_ge k 1 with h0|h0;obtain rfl:k=0:=by omega
 cases h2;exact absurd rfl ub;obtain rfl:k=1:=by omega
 exact h2
theorem rU(hk:C.Ok m.mem)(hc:c∈Tk)(hw:C.W[i]? = some [c]):C.Uc (i+1)=C.Uc i+1/\sf (C.pre (i+1))=false:=by
 obtain⟨e1,e2,e3⟩:=Sw hc;refine⟨C.lA hk hw e1 e2 e3,?_⟩;have h1:=(C.piece hk hw e1).1;have hp:Ke C.known [c]=[c]:=by unfold Ke;rw[e2]
 rw[h1,hp,zY (by simp)];unfold sf;simp[e3]
theorem mj(hL:Lk C D){mem:Nat->Nat}(hk:C.Ok mem)(ha:D a=true):C.Ok λi=>if i=a then v else mem i:=by refine⟨λk h=>?_,hk.fits⟩;have h1:=hk.here k h;have h2:=(hL.data a ha).2;rw[zn (by omega)];exact h1
theorem qnO(hL:Lk C D)(h:q7 C D s m):match Sa ⟨C.W,D⟩ s with
  |.run s'=>∃ m',Go.ea.wh (ji s) m m'/\q7 C D s' m'
  |.stop e o=>e≠99->Go.ea.Sa m=.stop e o:=by
 obtain⟨hk,⟨i,h1,h2,h3⟩,Ap,Ih,wk,Hh,Mo,Me⟩:=h;have TH:C.At m i:=⟨h2,λh=>by rw[h3,<-Ap];exact h⟩;have aad:C.Uc i<=262144:=Se (C.vv i) hk.fits
 cases hv:s.pc with
 |nil=>
  have:Sa ⟨C.W,D⟩ s=lost s:=by unfold Sa;rw[hv]
  rw[this];exact λh=>absurd rfl h
 |cons w r=>
  rw[hv] at h1;obtain⟨hw,hr⟩:=I' h1;rw[ak hv];cases hd:ma w with
  |some x=>
   have hs:my ⟨C.W,D⟩ s w r=.run { s with pc:=r }:=by unfold my;rw[hd]
   obtain⟨e1,e2⟩:=qqH hw hd;rw[hs];refine⟨m,?_,⟨hk,⟨i+1,hr,h2.trans e1.symm,by rw[e2];exact h3⟩,Ap,Ih,wk,Hh,Mo,Me⟩⟩;rw[fP hv hd];exact .zero m
  |none=>
   cases hn:ib w with
   |some n=>
    rw[bJ hn];obtain⟨n1,n2⟩:=(FA w n).1 hn;have ZJ:=(bq hn).2;have hp:Ke C.known w=w:=by unfold Ke;rw[ZJ]
    unfold Vl;by_cases hl:s.data.length<256;rw[zp hl];have rm:Ig 0 w=n:=by rw[<-n2,cY]
    obtain⟨k1,k2⟩:=qqk hk h2 (by rw[h3,Ap]) hw hd (by rw[hp];exact(ZY hn).1) (by rw[hp];exact(ZY hn).2) (by rw[hp,rm];exact n1) (by rw[Ih];exact hl);rw[hp,rm] at k1;have hc:ji s=w.length+one s.digit:=by unfold ji;rw[hv];exact aJ hn
    rw[hc,<-Ap];exact⟨_,k1,⟨hk,⟨i+1,hr,rfl,k2⟩,rfl,by simp only;rw[Ih],wk,Hh,Mo,Me⟩⟩;rw[zn hl];exact λh=>absurd rfl h
   |none=>
    cases ZJ:La w with
    |some x=>
     rw[qE ZJ];have hc:ji s=7+one s.digit:=by unfold ji;rw[hv];exact QG ZJ
     unfold dy;cases hka:Xj x C.W with
     |none=>exact λh=>absurd rfl h
     |some k=>
      have Iz:=qq9 hL hka;have HH:C.known x<1000000:=by obtain⟨j,_,j2,_⟩:=Iz;have:=Se (C.vv j) hk.fits;omega
      cases r with
      |nil=>exact λh=>absurd rfl h
      |cons y r=>
       simp only;obtain⟨ax,Ld⟩:=I' hr;by_cases hl:s.data.length<256;rotate_left;rw[zn hl];exact λh=>absurd rfl h;rw[zp hl];obtain⟨b1,b2⟩:=BP (C.known x);have hp:Ke C.known w=ep (C.known x):=by unfold Ke;rw[ZJ]
       obtain⟨k1,k2⟩:=qqk hk h2 (by rw[h3,Ap]) hw hd (by rw[hp];intro h;rw[h] at b1;cases b1) (by rw[hp];exact b2) (by rw[hp,qoo HH];omega) (by rw[Ih];exact hl);rw[hp,qoo HH,b1] at k1;generalize Uy:({ m with pc:=C.Uc (i+1),data:=C.known x::m.data,digit:=true }:SM)=m1 at k1;have q1:m1.mem=m.mem:=by rw[<-Uy]
       have q2:m1.data=C.known x::m.data:=by rw[<-Uy]
       have q3:m1.calls=m.calls:=by rw[<-Uy]
       have q4:m1.xa=m.xa:=by rw[<-Uy]
       have q5:m1.out=m.out:=by rw[<-Uy]
       have HR:C.At m1 (i+1):=by rw[<-Uy];exact⟨rfl,λ_=>k2⟩
       have Ds:C.Ok m1.mem:=by rw[q1];exact hk
       have Nz:6+one m.digit+1=ji s:=by rw[hc,Ap];omega
       by_cases hy:y=[63];subst hy;rw[zp rfl];unfold cG;cases rB:s.data with
       |nil=>exact λh=>absurd rfl h
       |cons a d=>
        simp only;have t1:=C.jump Ds HR ax (t:=C.known x) (v:=a) (r:=d) (by rw[q2,Ih,rB]);have t2:=DG t1 (by
         intro he;have:=congrArg (λz:SM=>z.data.length) he;simp only[Go.ea.PW.put,q2,Ih,rB,Ba] at this;omega)
        have t3:=k1.trans t2;rw[Nz] at t3;refine⟨_,t3,⟨Ds,?_,rfl,rfl,by show vw _ s.calls m1.calls;rw[q3];exact wk,by show ∀ a,D a=true->m1.mem a=s.mem a;rw[q1];exact Hh,by show m1.xa=_;rw[q4];exact Mo,by show m1.out=_;rw[q5];exact Me⟩⟩;by_cases ha:a=0;subst ha;simp only[if_true];exact Iz;simp only[zn ha];exact⟨i+1+1,Ld,rfl,(rU hk da ax).2⟩
       rw[zn hy];by_cases rQ:y=[58];rotate_left;rw[zn rQ];exact λh=>absurd rfl h;subst rQ;rw[zp rfl];have oe:m.calls.length=s.calls.length:=(wk.len).symm
       by_cases Cs:s.calls.length<64;rotate_left;rw[zn Cs];exact λh=>absurd rfl h;rw[zp Cs];have t1:=C.call Ds HR ax (t:=C.known x) (r:=m.data) q2 (by rw[q3,oe];exact Cs)
       have t2:=DG t1 (by
        intro he;have:=congrArg (λz:SM=>z.calls.length) he;simp only[Ba] at this;omega)
       have t3:=k1.trans t2;rw[Nz] at t3;exact⟨_,t3,⟨Ds,Iz,rfl,Ih,.cons ⟨i+1+1,Ld,rfl,(rU hk da ax).2⟩ (by rw[q3];exact wk),by show ∀ a,D a=true->m1.mem a=s.mem a;rw[q1];exact Hh,by show m1.xa=_;rw[q4];exact Mo,by show m1.out=_;rw[q5];exact Me⟩⟩
    |none=>
     rw[gZ hd hn ZJ];have hc:ji s=1:=by unfold ji qA;rw[hv];simp[hd,hn,ZJ]
     rw[hc];rcases w with _|⟨c,_|⟨c2,w2⟩⟩;exact λh=>absurd rfl h;rotate_left;exact λh=>absurd rfl h;have Ry:DJ ⟨C.W,D⟩ s [c] r=qu D s c r:=rfl;rw[Ry];have spot:c∈Tk->RF C r (C.Uc (i+1)) false:=λNz=>⟨i+1,hr,rfl,(rU hk Nz hw).2⟩
     have KA:c∈Tk->∀ {m':SM},m'.pc=C.Uc (i+1)->m≠m':=λNz m' hp he=>by have h4:=(rU hk Nz hw).1;rw[<-he,h2] at hp;omega
     unfold qu;by_cases c1:c=64
     ·subst c1;rw[zp rfl];unfold EI
      cases rB:s.data with
      |nil=>exact λh=>absurd rfl h
      |cons a d=>
       simp only;by_cases hD:D a=true;rotate_left;rw[zn hD];exact λh=>absurd rfl h;rw[zp hD];unfold Vl
       by_cases hl:d.length<256;rotate_left;rw[zn hl];exact λh=>absurd rfl h;rw[zp hl];have t1:=C.load hk TH hw (by rw[Ih,rB]) (hL.data a hD).1 hl;exact⟨_,DG t1 (KA da rfl),⟨hk,spot da,rfl,by simp only[Go.ea.PW.put];rw[Hh a hD],wk,Hh,Mo,Me⟩⟩
     rw[zn c1];by_cases c2:c=33
     ·subst c2;rw[zp rfl];unfold QI
      match rB:s.data with
      |[]=>exact λh=>absurd rfl h
      |[_]=>exact λh=>absurd rfl h
      |a::v::d=>simp only;by_cases hD:D a=true;rotate_left;rw[zn hD];exact λh=>absurd rfl h;rw[zp hD];have t1:=C.store hk TH hw (by rw[Ih,rB]) (hL.data a hD).1;refine⟨_,DG t1 (KA da rfl),⟨mj hL hk hD,spot da,rfl,rfl,wk,λb hb=>?_,Mo,Me⟩⟩;simp only;split;rfl;exact Hh b hb
     rw[zn c2];by_cases c3:c=59;subst c3;rw[zp rfl];unfold gG;cases oe:s.calls with
     |nil=>exact λh=>absurd rfl h
     |cons kk l=>
      rw[oe] at wk;simp only;cases BV:m.calls with
      |nil=>rw[BV] at wk;cases wk
      |cons tt l2=>
       rw[BV] at wk;cases wk with
       |cons g1 g2=>
        have t1:=C.back hk TH hw BV;exact⟨_,DG t1 (by
         intro he;have:=congrArg (λz:SM=>z.calls.length) he;simp only[BV,Ba] at this;omega),⟨hk,g1,rfl,Ih,g2,Hh,Mo,Me⟩⟩
     rw[zn c3];by_cases c4:c=44
     ·subst c4;rw[zp rfl];unfold Vl
      by_cases hl:s.data.length<256;rotate_left;rw[zn hl];exact λh=>absurd rfl h;rw[zp hl];have t1:=C.read hk TH hw (by rw[Ih];exact hl);exact⟨_,DG t1 (KA da rfl),⟨hk,spot da,rfl,by simp only[Go.ea.PW.put];rw[Mo,Ih],wk,Hh,by simp only;rw[Mo],Me⟩⟩
     rw[zn c4];by_cases c5:c=46;subst c5;rw[zp rfl];unfold DO;cases rB:s.data with
     |nil=>exact λh=>absurd rfl h
     |cons v d=>have t1:=C.write hk TH hw (v:=v) (r:=d) (by rw[Ih,rB]);exact⟨_,DG t1 (KA da rfl),⟨hk,spot da,rfl,rfl,wk,Hh,Mo,by simp only;rw[Me]⟩⟩
     rw[zn c5];by_cases c6:c=36;subst c6;rw[zp rfl];intro _;rw[C.halt hk TH hw,Me];rw[zn c6];by_cases c7:c=43∨c=45∨c=42∨c=47∨c=37∨c=94∨c=60;rotate_left;rw[zn c7];exact λh=>absurd rfl h;rw[zp c7]
     have Lc:Xb c:=by unfold Xb;rcases c7 with h|h|h|h|h|h|h <;> simp[h]
     unfold yk;match rB:s.data with
     |[]=>exact λh=>absurd rfl h
     |[_]=>exact λh=>absurd rfl h
     |b::a::d=>
      simp only;cases hb:ad c.toNat a b with
      |none=>intro _;rw[C.Av hk TH Lc hw (by rw[Ih,rB]) hb,Me]
      |some v=>simp only;unfold Vl;by_cases hl:d.length<256;rotate_left;rw[zn hl];exact λh=>absurd rfl h;rw[zp hl];have t1:=C.op hk TH Lc hw (by rw[Ih,rB]) hb hl;exact⟨_,DG t1 (KA (Qw Lc) rfl),⟨hk,spot (Qw Lc),rfl,rfl,wk,Hh,Mo,Me⟩⟩
theorem qvk(hL:Lk C D):∀ {n e k:Nat} {o:Wd} {s:MS} {m:SM},Ends ⟨C.W,D⟩ n s e o k->q7 C D s m->∀ N,k<=N->runM N m=(e,o,k):=by
 intro n e k o s m h;induction h generalizing m with
 |@stop s e o h1 h2=>intro hl N hN;have key:=qnO hL hl;rw[h1] at key;have key:=key h2;obtain⟨n,rfl⟩:∃ n,N=n+1:=⟨N-1,by omega⟩;rw[runM,key]
 |@step n k e o s s' h1 _ ih=>intro hl N hN;have key:=qnO hL hl;rw[h1] at key;obtain⟨m',k1,k2⟩:=key;obtain⟨n,rfl⟩:∃ n,N=ji s+n:=⟨N-ji s,by omega⟩;rw[qyB k1,ih k2 n (by omega)];simp only[add_comm]
end
theorem qlD{W:List Wd}{L:Wd->Nat}{og:Nat}(hA:Ts W)(ub:∀ w∈W,w≠[])(hT:Ty L (some 0) W){known:Wd->Nat}(ZC:known=Un (cp (λ_=>0) og W))(hlen:(Uk known W).length<=40000)(MQ:og+40000<=262144)
  (h:Ends ⟨W,λx=>decide (x<262144/\(x<og∨og+40000<=x))⟩ n ⟨λ_=>0,W,[],[],xa,[],false⟩ e o k) (N:Nat) (hN:k<=N):runM N (Zu (Uk known W) og xa)=(e,o,k):=by
 subst ZC;generalize hk:Un (cp (λ_=>0) og W)=known at *;have hL:Lk ⟨W,og,known⟩ λx=>decide (x<262144/\(x<og∨og+40000<=x)):=by refine⟨λj w x hw hd=>?_,λj w x hw hd=>?_,λa ha=>?_⟩;have:=qom og hA.1 ub hw hd;rw[hk] at this;exact this;exact ZN known hT [] (λh=>by cases h) j w x hw hd;have:=Hg ha;show _/\(a<og∨og+(Uk known W).length<=a);omega
 refine qvk hL h (C:=⟨W,og,known⟩) ⟨⟨qyb _ _,by show og+(Uk known W).length<=262144;omega⟩,⟨0,rfl,rfl,rfl⟩,rfl,rfl,.nil,λa ha=>?_,rfl,rfl⟩ N hN;have:=Hg ha;show Tr (Uk known W) og a=0;unfold Tr;split;rw[List.getElem?_eq_none (by omega)];rfl
def WS(C:PW)(xa:List Nat):MS:=⟨λ_=>0,C.Uc 0,[],[],xa,[],false⟩
section
variable{X:vf}
theorem qsX(hX:Dd X)(xa:List Nat)(ra:Nat):X.Rel (aq X.P xa ra) (WS X.C xa):=by
 refine⟨trivial,λk hk=>rfl,λa ha=>?_,rfl,rfl⟩
 have qK:(aq X.P xa ra).ar a.name=List.replicate a.size 0:=by
  show(match X.P.ba.find? λb=>decide (b.name=a.name) with
   |some b=>List.replicate b.size 0
   |none=>[])=_
  cases hf:X.P.ba.find? λb=>decide (b.name=a.name) with
  |none=>exact absurd (List.find?_eq_none.1 hf a ha) (by simp)
  |some b=>have h1:=List.mem_of_find?_eq_some hf;have h2:b.name=a.name:=Hg (List.find?_some (p:=λb:Ar=>decide (b.name=a.name)) hf);simp only;rw[hX.Mr b h1 a ha h2]
 rw[qK];refine⟨List.length_replicate,λi hi=>?_⟩;rw[List.length_replicate] at hi;rw[List.getElem_replicate]
 try rfl
end
theorem qpN{x w:Wd}:∀ (W:List Wd) (j:Nat),(yb W).Nodup->W[j]? = some w->ma w=some x->Xj x W=some (W.drop (j+1))
 |[],j,_,h,_=>by simp at h
 |v::W,0,hn,h,hd=>by simp only[Ql,Cm] at h;subst h;rw[Xj,zp hd];try rfl
 |v::W,j+1,hn,h,hd=>by
  rw[Ls] at h;have hm:x∈yb W:=List.mem_filterMap.2 ⟨w,List.mem_of_getElem? h,hd⟩;rw[AE] at hn;have cx:=Dm hn;have ub:¬ ma v=some x:=λe=>by rw[e] at cx;exact cx.2.2 x (Cp rfl) x hm rfl
  rw[Xj,zn ub,List.drop_succ_cons];exact qpN W j cx.2.1 h hd
def l8(X:Go.ea.vf)(D:Nat->Bool):vf:=⟨⟨X.C.W,D⟩,X.P,X.cc,X.Va,X.sa,X.aa,X.S,X.fst⟩
theorem qvq{X:Go.ea.vf}{D:Nat->Bool}(h:Go.ea.Dd X)(hD:∀ x,X.Data x->D x=true)(hn:(yb X.C.W).Nodup):Dd (l8 X D):=
 ⟨h.sc,h.ar,h.yw,h.low,hD,h.Mv,h.inj,h.apart,h.iC,h.Dx,h.Mr,h.body,h.fn,h.YZ,h.code,h.Ly,h.cr,h.Ni,h.Zy,λj w x hw hd=>qpN _ _ hn hw hd⟩
def XK(og:Nat):Nat->Bool:=λx=>decide (x<262144/\(x<og∨og+40000<=x))
theorem qwq{o:fk}(hc:qp P=0)(de:Jq P.vars (Ue P) P.funcs o=true):∀ x,(qi P o).Data x->XK o.code.toNat x=true:=λx hx=>by have hv:=IG hc;have hF:=zC de;have um:=(sv _ _ hv.names).1;have SH:(P.ba.map (·.name)).Nodup:=(Dm (Dm um).1).2.1;obtain⟨s0,c0,a0,s1,c1,a1,cs,O6,ac⟩:=hF;refine Vg ?_;rcases hx with⟨k,hk,rfl⟩|hx|⟨a,ha,i,hi,rfl⟩;have h1:(Ad P.vars P.funcs).idxOf k<_:=RI hk;show o.scalars.toNat+3+(Ad P.vars P.funcs).idxOf k<262144/\(o.scalars.toNat+3+(Ad P.vars P.funcs).idxOf k<_∨_<=o.scalars.toNat+3+(Ad P.vars P.funcs).idxOf k);omega;have h1:o.scalars.toNat<=x/\x<=o.scalars.toNat+2:=hx;omega;have h1:=xL _ SH a ha;have h2:=ac (by have:i<a.size:=hi;omega);have h3:i<a.size:=hi;show o.ba.toNat+qg P.ba a.name+i<262144/\(o.ba.toNat+qg P.ba a.name+i<_∨_<=o.ba.toNat+qg P.ba a.name+i);omega
section
variable{L:Wd->Nat}
def Up(L:Wd->Nat)(ws:List Wd):Prop:=∀ d r,Ty L (some (d+1)) r->Ty L (some d) (ws++r)
def Flat(L:Wd->Nat)(ws:List Wd):Prop:=∀ r,Ty L (some 0) r->Ty L (some 0) (ws++r)
def Qn(w:Wd):Prop:=∃ k,ib w=some k
structure sj(c:CC):Prop where
 sc:∀ n,Qn (c.sc n)
 ar:∀ n,Qn (c.ar n)
 t0:Qn c.t0
 t1:Qn c.t1
 t2:Qn c.t2
variable{d:Nat}{w:Wd}{r:List Wd}
theorem ig(h:Qn w)(ht:Ty L (some (d+1)) r):Ty L (some d) (w::r):=by obtain⟨k,hk⟩:=h;exact .num hk ht
theorem JE:Qn [48]:=⟨0,Yp⟩
theorem nV:Qn [49]:=⟨1,ZD⟩
theorem top(h:Xb c)(ht:Ty L (some (d+1)) r):Ty L (some (d+2)) ([c]::r):=.sign (jL h) ht
theorem vI(ht:Ty L (some d) r):Ty L (some (d+2)) ([33]::r):=.sign (a:=2) (b:=0) da ht
theorem GS(ht:Ty L (some (d+1)) r):Ty L (some (d+1)) ([64]::r):=.sign (a:=1) (b:=1) da ht
theorem trd(ht:Ty L (some (d+1)) r):Ty L (some d) ([44]::r):=.sign (d:=d) (a:=0) (b:=1) da ht
theorem twr(ht:Ty L (some d) r):Ty L (some (d+1)) ([46]::r):=.sign (a:=1) (b:=0) da ht
theorem Gm(h:c∈([43,45,42,47,37,94,60]:Wd)):Xb c:=by unfold Xb;simpa using h
theorem qlw{c:CC}(hc:sj c)(ht:Ty L (some (d+1)) r):Ty L (some (d+2)) (Kl c++r):=
 ig hc.t2 (vI (ig hc.t1 (vI (ig hc.t2 (GS (ig hc.t1 (GS (top (Gm da) ht))))))))
theorem qzb{c:CC}(hc:sj c){op:Nm}(Lc:op∈dv)(h1:op≠[33,61])(h2:op≠[38,38])(h3:op≠[124,124])(ht:Ty L (some (d+1)) r) :
  Ty L (some (d+2)) ((if op=[62] then Kl c else if op=[60,61] then Kl c++[[49],[94]] else if op=[62,61] then [[60],[49],[94]] else if op=[61,61] then [[94],[49],[60]] else [op])++r):=by
 simp only[dv,lc,not_mem_nil,or_false] at Lc;rcases Lc with rfl|rfl|rfl|rfl|rfl|rfl|rfl|rfl|rfl|rfl|rfl|rfl|rfl|rfl;exact absurd rfl h3;exact absurd rfl h2;exact top (Gm da) (ig nV (top (Gm da) ht));exact absurd rfl h1;exact top (Gm da) ht;exact qlw hc ht;show Ty L (some (d+2)) ((Kl c++[[49],[94]])++r);rw[Pc];exact qlw hc (ig nV (top (Gm da) ht));exact top (Gm da) (ig nV (top (Gm da) ht));exact top (Gm da) ht;exact top (Gm da) ht;exact top (Gm da) ht;exact top (Gm da) ht;exact top (Gm da) ht;exact top (Gm da) ht
def oz(L:Wd->Nat)(env:gb):Prop:=∀ name g,env.fn name=some g->La ([38,102,95]++name)=some ([102,95]++name)/\L ([102,95]++name)=g.params
mutual
theorem D9{c:CC}(hc:sj c){env:gb}(Kc:oz L env):∀ e,vi e->bf env e=0->Up L (Cb c e)
 |.mk op num name args,hn,h=>λd r ht=>by
  rw[bf] at h;split at h
  case isFalse=>cases h
  rename_i Lc;obtain⟨h1,h2⟩:=Dc.1 h;obtain⟨Vb,hn⟩:=hn;have ha:=qsN hc Kc args hn h1;rw[Cb];by_cases o1:op=We;subst o1;exact ig ⟨num,nE Vb⟩ ht;by_cases o2:op=Bf;subst o2;exact ig (hc.sc name) (GS ht);by_cases o3:op=ij
  ·subst o3
   have hl:args.length=1:=by have e:Qf ij=1:=rfl;rw[e] at Lc;omega
   obtain⟨x,rfl⟩:=Hu hl;have hx:=ha.2 (Cb c x) (by rw[xb];simp);show Ty L (some d) ((c.ar name::((xb c [x]).headD []++[[43],[64]]))++r);have e:(xb c [x]).headD []=Cb c x:=by rw[xb];try rfl
   rw[e,cons_append,Pc];exact ig (hc.ar name) (hx _ _ (top (Gm da) (GS ht)))
  by_cases o4:op=Of;subst o4;have Be:yc env name args.length=0:=h2;show Ty L (some d) (((xb c args).flatten++(if name=[105,110] then [[44]] else if name=[111,117,116] then [[46],[48]] else [[38,102,95]++name,[58]]))++r);rw[Pc];refine ha.1 _ _ ?_;by_cases k1:name=[105,110];rw[zp k1];have hl:args.length=0:=by
   unfold yc at Be;rw[zp k1] at Be;split at Be
   assumption
   cases Be
  rw[hl];exact trd ht;by_cases k2:name=[111,117,116];rw[zn k1,zp k2];have hl:args.length=1:=by
   unfold yc at Be;rw[zn k1,zp k2] at Be;split at Be
   assumption
   cases Be
  rw[hl];exact twr (ig JE ht);rw[zn k1,zn k2];unfold yc at Be;rw[zn k1,zn k2] at Be;cases hq:env.fn name with
  |none=>rw[hq] at Be;simp only at Be;split at Be <;> cases Be
  |some g=>rw[hq] at Be;simp only at Be;obtain⟨q1,q2⟩:=Kc name g hq;split at Be;rename_i hl;rw[hl,<-q2];exact .call q1 ht;cases Be
  have IE:Qf op=args.length:=by
   have:Qf op ≠ -1:=by unfold Qf;rw[zn (by simp[o1,o2])];by_cases q:op=ij∨op=tg∨op=Uf;rw[zp q];decide;rw[zn q,zn o4];split <;> decide
   rcases Lc with h|h;exact absurd h this;exact h
  by_cases o5:op=tg
  ·subst o5
   have hl:args.length=1:=by have e:Qf tg=1:=rfl;rw[e] at IE;omega
   obtain⟨x,rfl⟩:=Hu hl;have hx:=ha.2 (Cb c x) (by rw[xb];simp);show Ty L (some d) (([48]::((xb c [x]).headD []++[[45]]))++r);have e:(xb c [x]).headD []=Cb c x:=by rw[xb];try rfl
   rw[e,cons_append,Pc];exact ig JE (hx _ _ (top (Gm da) ht))
  by_cases o6:op=Uf
  ·subst o6
   have hl:args.length=1:=by have e:Qf Uf=1:=rfl;rw[e] at IE;omega
   obtain⟨x,rfl⟩:=Hu hl;have hx:=ha.2 (Cb c x) (by rw[xb];simp);show Ty L (some d) (((xb c [x]).headD []++[[49],[60]])++r);have e:(xb c [x]).headD []=Cb c x:=by rw[xb];try rfl
   rw[e,Pc];exact hx _ _ (ig nV (top (Gm da) ht))
  have hb:op∈dv/\args.length=2:=by unfold Qf at IE;rw[zn (by simp[o1,o2]),zn (by simp[o3,o5,o6]),zn o4] at IE;split at IE;rename_i hm;exact⟨hm,by omega⟩;omega
  obtain⟨hb,hl⟩:=hb;obtain⟨x,y,rfl⟩:∃ x y,args=[x,y]:=by
   match args,hl with
   |[x,y],_=>exact⟨x,y,rfl⟩
  have hx:=ha.2 (Cb c x) (by rw[xb];simp);have hy:=ha.2 (Cb c y) (by rw[xb,xb];simp);have e1:(xb c [x,y]).headD []=Cb c x:=by rw[xb];try rfl
  have e2:((xb c [x,y]).drop 1).headD []=Cb c y:=by rw[xb,xb];try rfl
  unfold jq;rw[zn o1,zn o2,zn o3,zn o4,zn o5,zn o6,e1,e2];by_cases b1:op=[33,61];rw[zp b1,cons_append,Pc,Pc];exact ig JE (hx _ _ (hy _ _ (top (Gm da) (top (Gm da) ht))));rw[zn b1];by_cases b2:op=[38,38];rw[zp b2];simp only[cons_append,Pc,nil_append];exact ig JE (hx _ _ (top (Gm da) (ig JE (hy _ _ (top (Gm da) (top (Gm da) ht))))));rw[zn b2];by_cases b3:op=[124,124];rw[zp b3];simp only[cons_append,Pc,nil_append];exact ig JE (ig JE (hx _ _ (top (Gm da) (ig JE (hy _ _ (top (Gm da) (top (Gm da) (top (Gm da) ht))))))));rw[zn b3,Pc,Pc];exact hx _ _ (hy _ _ (qzb hc hb b1 b2 b3 ht))
theorem qsN{c:CC}(hc:sj c){env:gb}(Kc:oz L env):∀ l,lk l->Sf env l=0->(∀ d r,Ty L (some (d+l.length)) r->Ty L (some d) ((xb c l).flatten++r))/\∀ ws∈xb c l,Up L ws
 |[],_,_=>by rw[xb];exact⟨λd r h=>h,λws hw=>(not_mem_nil hw).elim⟩
 |x::l,hn,h=>by rw[Sf] at h;obtain⟨h1,h2⟩:=Dc.1 h;have hx:=D9 hc Kc x hn.1 h1;obtain⟨k1,k2⟩:=qsN hc Kc l hn.2 h2;rw[xb,List.flatten_cons];refine⟨λd r ht=>?_,λws hw=>?_⟩;rw[Pc];refine hx _ _ (k1 _ _ ?_);rw[Ba] at ht;rw[show d+1+l.length=d+(l.length+1) by omega];exact ht;rcases lc.1 hw with rfl|hw;exact hx;exact k2 ws hw
end
theorem yP{ds:List Wd}(h:ko ds (na n++[58])):ma (na n++[58])=some (na n):=aX (c:=106) (x:=decDigits n) h da da
mutual
theorem qzL{c:CC}(hc:sj c){env:gb}(Kc:oz L env){ds:List Wd}(hL:∀ n,L (na n)=0):∀ (s:Sm) (n:Nat),Io s->xk env s=0->(∀ w∈(kg c n s).1,ko ds w)->Flat L (kg c n s).1
 |.mk kind name index value Ka fb,n,hn,h,xc=>λr ht=>by
  rw[xk] at h;by_cases hf:yh (.mk kind name index value Ka fb)=false;rw[zp hf] at h;cases h;rw[zn hf] at h;obtain⟨h1,h⟩:=Dc.1 h;obtain⟨h2,h⟩:=Dc.1 h;obtain⟨h3,h⟩:=Dc.1 h;obtain⟨h4,h5⟩:=Dc.1 h;rw[Bool.not_eq_false] at hf;unfold yh at hf;obtain⟨n1,n2,n3,n4⟩:=hn;have one:∀ {l:List Ex},l.length=1->lk l->Sf env l=0->Up L (Cb c (l.headD default)):=λ{l} hl nq Ot=>by obtain⟨x,rfl⟩:=Hu hl;rw[Sf] at Ot;exact D9 hc Kc x nq.1 (Dc.1 Ot).1
  have cr:∀ {k:Nat},ko ds (38::na k)->La (38::na k)=some (na k):=λh=>I8 h;rw[CO] at xc ⊢
  by_cases k1:kind=1;rw[zp k1] at xc ⊢;have hv:value.length=1:=by subst k1;simp at hf;exact hf.2.2.1
  rw[Pc];exact one hv n2 h1 _ _ (ig (hc.sc name) (vI ht));rw[zn k1] at xc ⊢;by_cases k2:kind=2;rw[zp k2] at xc ⊢;have hv:index.length=1/\value.length=1:=by subst k2;simp at hf;exact⟨hf.2.1,hf.2.2.1⟩
  simp only[Pc,cons_append,nil_append];exact one hv.2 n2 h1 _ _ (ig (hc.ar name) (one hv.1 n1 h2 _ _ (top (Gm da) (vI ht))));rw[zn k2] at xc ⊢;by_cases k3:kind=3;rw[zp k3] at xc ⊢;have hv:value.length=1:=by subst k3;simp at hf;exact hf.2.2
  cases fb with
  |nil=>
   simp only at xc ⊢;have ZE:=PL hc Kc hL Ka (n+1) n3 h4 (λw hw=>xc w (by simp[hw]));have d1:=yP (xc (na n++[58]) (by simp));have r1:=cr (xc (38::na n) (by simp));simp only[Pc,cons_append,nil_append]
   exact one hv n2 h1 _ _ (.jump r1 (hL n) (ZE _ (.Sj d1 (hL n) ht)))
  |cons a q=>simp only at xc ⊢;have ZE:=PL hc Kc hL Ka (n+2) n3 h4 (λw hw=>xc w (by simp[hw]));have WJ:=PL hc Kc hL (a::q) (Da c (n+2) Ka).2 n4 h5 (λw hw=>xc w (by simp[hw]));have d1:=yP (xc (na n++[58]) (by simp));have d2:=yP (xc (na (n+1)++[58]) (by simp));have r1:=cr (xc (38::na n) (by simp));have r2:=cr (xc (38::na (n+1)) (by simp));simp only[Pc,cons_append,nil_append];exact one hv n2 h1 _ _ (.jump r1 (hL n) (ZE _ (.goto r2 (hL _) (.free (.Sj d1 (hL n) (WJ _ (.Sj d2 (hL _) ht)))))))
  rw[zn k3] at xc ⊢;by_cases k4:kind=4;rw[zp k4] at xc ⊢;have hv:value.length=1:=by subst k4;simp at hf;exact hf.2.2.1
  have ZE:=PL hc Kc hL Ka (n+2) n3 h4 (λw hw=>xc w (by simp[hw]));have d1:=yP (xc (na n++[58]) (by simp));have d2:=yP (xc (na (n+1)++[58]) (by simp));have r1:=cr (xc (38::na n) (by simp));have r2:=cr (xc (38::na (n+1)) (by simp));simp only[Pc,cons_append,nil_append];exact .Sj d1 (hL n) (one hv n2 h1 _ _ (.jump r2 (hL _) (ZE _ (.goto r1 (hL n) (.free (.Sj d2 (hL _) ht))))));rw[zn k4] at xc ⊢
  by_cases k5:kind=5
  ·rw[zp k5] at xc ⊢;have hv:value.length=1:=by subst k5;simp at hf;exact hf.2.2.1
   simp only[Pc,cons_append,nil_append];exact one hv n2 h1 _ _ (.stop (.inl rfl) (.free ht))
  rw[zn k5] at xc ⊢;by_cases k6:kind=6;rw[zp k6] at xc ⊢;have hv:value.length=1:=by subst k6;simp at hf;exact hf.2.2.1
  simp only[Pc,cons_append,nil_append];exact one hv n2 h1 _ _ (ig hc.t0 (vI ht));rw[zn k6] at xc ⊢;by_cases k7:kind=7
  ·rw[zp k7] at xc ⊢;exact .stop (.inr rfl) (.free ht)
  rw[zn k7] at xc ⊢;exact ht
theorem PL{c:CC}(hc:sj c){env:gb}(Kc:oz L env){ds:List Wd}(hL:∀ n,L (na n)=0):∀ (l:List Sm) (n:Nat),Hi l->Gh env l=0->(∀ w∈(Da c n l).1,ko ds w)->Flat L (Da c n l).1
 |[],n,_,_,_=>λr ht=>by rw[Da];exact ht
 |s::l,n,hn,h,xc=>λr ht=>by rw[Gh] at h;obtain⟨h1,h2⟩:=Dc.1 h;rw[Da] at xc ⊢;simp only at xc ⊢;rw[Pc];exact qzL hc Kc hL s n hn.1 h1 (λw hw=>xc w (ap (.inl hw))) _ (PL hc Kc hL l _ hn.2 h2 (λw hw=>xc w (ap (.inr hw))) _ ht)
end
theorem O'{c:CC}(hc:sj c):∀ (ps:List Nm),Ty L (some 0) r->Ty L (some ps.length) ((ps.flatMap λp=>[c.sc p,[33]])++r)
 |[],h=>h
 |p::ps,h=>by rw[List.flatMap_cons,Ba];simp only[cons_append,nil_append];exact ig (hc.sc p) (vI (O' hc ps h))
theorem qAb{c:CC}(hc:sj c){env:gb}(Kc:oz L env){ds:List Wd}(hL:∀ n,L (na n)=0){f:ob}{n:Nat}(hd:ma ([102,95]++f.name++[58])=some ([102,95]++f.name))(hp:L ([102,95]++f.name)=f.params.length)(hn:Hi f.body)(he:Gh env f.body=0)
  (xc:∀ w∈(Rj c n f).1,ko ds w) (ht:Ty L none r):Ty L none ((Rj c n f).1++r):=by
 unfold Rj at xc ⊢;simp only at xc ⊢;rw[Pc,Pc,Pc];have hb:=PL hc Kc hL f.body n hn he (λw hw=>xc w (by simp[hw]));have h1:Ty L (some 0) ((Da c n f.body).1++([[48],[59]]++r)):=hb _ (ig JE (.stop (.inl rfl) ht));refine .Ni hd ?_;rw[hp,<-List.length_reverse];exact O' hc f.params.reverse h1
theorem qsi{cc:Nm->CC}(hc:∀ n,sj (cc n)){ds:List Wd}(hL:∀ n,L (na n)=0):∀ (fs:List ob) (n:Nat),(∀ f∈fs,∃ env,oz L env/\Gh env f.body=0/\Hi f.body/\ma ([102,95]++f.name++[58])=some ([102,95]++f.name)/\L ([102,95]++f.name)=f.params.length) ->
  (∀ w∈(Cc cc n fs).1,ko ds w)->Ty L none (Cc cc n fs).1
 |[],n,_,_=>by rw[Cc];exact .nil
 |f::fs,n,h,xc=>by rw[Cc] at xc ⊢;simp only at xc ⊢;obtain⟨env,h1,h2,h3,h4,h5⟩:=h f Ce;exact qAb (hc f.name) h1 hL h4 h5 h3 h2 (λw hw=>xc w (ap (.inl hw))) (qsi hc hL fs _ (λg hg=>h g (Gc _ hg)) λw hw=>xc w (ap (.inr hw)))
end
theorem PG{z:Int}(h0:0<=z)(h1:z<4294967296):Qn (itoa z):=by rw[jv h0];exact⟨z.toNat,nE (by omega)⟩
theorem CL:∀ (l:List (Nm×Int)) (a:Int),0<=a->(∀ p∈l,0<=p.2)->∀ n,Ri a l n<=a+(l.map (·.2)).sum
 |[],a,h,_,n=>by simp[Ri];exact h
 |(x,k)::l,a,h,hl,n=>by
  have hk:0<=k:=hl (x,k) Ce;have hs:0<=(l.map (·.2)).sum:=by
   have:∀ (m:List (Nm×Int)),(∀ p∈m,0<=p.2)->0<=(m.map (·.2)).sum:=by
    intro m;induction m with
    |nil=>intro _;simp
    |cons p m ih=>intro hm;have:=ih λq hq=>hm q (Gc _ hq);have:=hm p Ce;rw[jd,List.sum_cons];omega
   exact this l λp hp=>hl p (Gc _ hp)
  rw[Ri,jd,List.sum_cons];split;simp only;omega;have:=CL l (a+k) (by omega) (λp hp=>hl p (Gc _ hp)) n;simp only;omega
theorem M8{o:fk}(hF:sw P o)(own:Nm):sj (Bp P.vars (Ue P) P.funcs o own):=by
 have s0:=hF.s0;have s1:=hF.s1;have a0:=hF.a0;have a1:=hF.a1;have eF:∀ p∈Ue P,0<=p.2:=λp hp=>by obtain⟨a,_,rfl⟩:=Ei hp;exact Int.natCast_nonneg _
 refine⟨λn=>?_,λn=>?_,?_,?_,?_⟩;show Qn (itoa (Nw (Ad P.vars P.funcs) o.scalars (Gt (Ad P.vars P.funcs) own n)));generalize Gt (Ad P.vars P.funcs) own n=k;unfold Nw;split
 rename_i hk;have:=RI hk;exact PG (by omega) (by omega);exact PG da da;show Qn (itoa (Ri o.ba (Ue P) n));have h1:=mP _ _ a0 eF n;have h2:=CL _ _ a0 eF n;have ht:((Ue P).map (·.2)).sum=((Fj P.ba:Nat):Int):=bP P.ba;exact PG h1 (by omega);exact PG s0 (by omega);exact PG (z:=o.scalars+1) (by omega) (by omega);exact PG (z:=o.scalars+2) (by omega) (by omega)
def An(P:Pr)(x:Wd):Nat:=match x with
 |a::b::nm=>if a=102/\b=95 then (aj P nm).params.length else 0
 |_=>0
theorem qv2(P:Pr)(n:Nat):An P (na n)=0:=by
 unfold na An;cases h:decDigits n with
 |nil=>rfl
 |cons c r=>simp
theorem FX(P:Pr)(nm:Nm):An P ([102,95]++nm)=(aj P nm).params.length:=by show An P (102::95::nm)=_;unfold An;simp
theorem qAi{P:Pr}{o:fk}(hc:qp P=0)(de:Jq P.vars (Ue P) P.funcs o=true)(Vb:∀ f∈P.funcs,Hi f.body)(Oj:Ts (Mg P o))(hX:Go.ea.Dd (qi P o)):Ty (An P) (some 0) (Mg P o):=by
 have hv:=IG hc;have hF:=zC de;have Kc:(P.funcs.map (·.name)).Nodup:=(Dm (sv _ _ hv.names).1).2.1;have hm:=hv.main;have Nl:La ([38,102,95]++(Bg P).name)=some ([102,95]++(Bg P).name):=hX.Zy (Bg P) hm.1;have Qy:An P ([102,95]++(Bg P).name)=0:=by rw[FX,zX Kc hm.1,hm.2.2];try rfl
 have pq:(Bg P).name=[109,97,105,110]:=hm.2.1;rw[pq] at Nl Qy;have nR:Ty (An P) none (Cc (Bp P.vars (Ue P) P.funcs o) 0 P.funcs).1:=by refine qsi (ds:=yb (Mg P o)) (λn=>M8 hF n) (qv2 P) P.funcs 0 (λf hf=>⟨(qi P o).Va f,λname g hg=>?_,(hX.body f hf).1,Vb f hf,hX.Ni f hf,?_⟩) λw hw=>Oj.2 w ?_;obtain⟨a1,a2,a3,_,_⟩:=hX.fn f hf name g hg;have h1:=hX.Zy (aj P name) a1;have a2:(aj P name).name=name:=a2;rw[a2] at h1;exact⟨h1,by rw[FX];exact a3.symm⟩;rw[FX,zX Kc hf];show w∈[[38,102,95,109,97,105,110],[58],itoa o.scalars,[33],[36]]++_;exact ap (.inr hw)
 show Ty (An P) (some 0) ([[38,102,95,109,97,105,110],[58],itoa o.scalars,[33],[36]]++_);have h3:Ty (An P) (some (0+An P [102,95,109,97,105,110])) ([38,102,95,109,97,105,110]::[58]::itoa o.scalars::[33]::[36]::(Cc (Bp P.vars (Ue P) P.funcs o) 0 P.funcs).1):=by refine .call Nl ?_;exact ig (PG hF.s0 (by have:=hF.s1;omega)) (vI (.stop (.inr rfl) nR))
 have e:An P [102,95,109,97,105,110]=0:=Qy;rw[e] at h3;exact h3
theorem RT{all:List Wd}:∀ (l:List (Wd×Nat)) (met:List Wd),(met++yb (l.map (·.1))).Nodup->(∀ w∈l.map (·.1),ko all w)->(ze all met l).2=0
 |[],met,_,_=>rfl
 |(w,ln)::r,met,hn,hk=>by
  rw[jd,AE] at hn;have h0:=hk w (by simp);have hr:=λx hx=>hk x (by rw[jd];exact Gc _ hx);unfold ko at h0;rw[ze]
  cases hd:ma w with
  |some x=>
   rw[hd] at hn;simp only at hn ⊢;have hx:x ∉ met:=λhm=>(Dm hn).2.2 x hm x (by simp) rfl;rw[zn hx]
   exact RT r (met++[x]) (by rw[Pc];exact hn) hr
  |none=>
   rw[hd] at hn h0;simp only[nil_append] at hn h0 ⊢;cases hf:La w with
   |some x=>rw[hf] at h0;simp only at h0 ⊢;rw[zp h0];exact RT r met hn hr
   |none=>rw[hf] at h0;simp only at h0 ⊢;rw[zp h0];exact RT r met hn hr
theorem qtm{src:Wd}{og:Int}{Za:List (Wd×Nat)}(h:vh src og=.ok (x,Za)):Ts (xj src)/\x.length<=40000:=by have h2:=(qnb h).1;unfold vh at h;split at h;cases h;split at h;cases h;rename_i h1;exact⟨gT (Classical.not_not.1 h1),h2⟩
theorem S8{W:List Wd}(hA:Ts W)(hc:∀ w∈W,Hj w){og:Int}(h0:0<=og)(h1:og<262144)(hl:Sb false W<=40000) :
  vh (join W [32]) og=.ok (Uk (Un (cp (λ_=>0) og.toNat W)) W,cp (λ_=>0) og.toNat W)/\(Uk (Un (cp (λ_=>0) og.toNat W)) W).length=Sb false W:=by
 have hw:=VU hc;have ht:=AY (Un (cp (λ_=>0) og.toNat W)) W λw hw=>(hc w hw).1;refine⟨?_,ht⟩
 have he:(ze (yb W) [] (nu (join W [32]))).2=0:=by refine RT _ _ ?_ ?_;rw[lJ,hw];exact hA.1;rw[lJ,hw];exact hA.2
 unfold vh;rw[zn (by omega),hw,zn (by rw[he];decide),zn (by rw[ht];omega)]
section
variable{P:Pr}{o:fk}{t:Wd}
end
end Go.ea.Wi
