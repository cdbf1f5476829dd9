import Derived.Lib.Join
import Derived.Lib.Split
import Derived.Lib.Strings
import Derived.Lib.SlTrimSet
import Derived.Test.YtmnjklgnhpnckaaGreatDoorBRowLV3
set_option linter.unusedVariables false
set_option linter.unusedSimpArgs false
set_option maxRecDepth 100000
set_option maxHeartbeats 4000000
open List (cons_append length_drop mem_cons_self nil_append not_mem_nil take_append_drop take_succ_cons take_zero getLast_mem foldl_cons all_reverse)
open Nat (zero_le add_assoc add_zero)
open Option (getD_some)
namespace Go.ia
variable{T:List Tok}{i:Nat}{x:List UInt8}
def Good{A:Type}(T:List Tok)(s:Bool)(i op:Nat)(r:Jj A):Prop:=match r with
 |.ok _ i' Qa=>i<=i'/\(s=true->i<i')/\(i<=T.length->i'<=T.length)/\Qa=op
 |.err _ _=>True
def Tl{A:Type}(T:List Tok)(s:Bool)(i op:Nat)(r:OR A):Prop:=∀ r',r=some r'->Good T s i op r'
theorem Dk{xs:List (List UInt8)}(h:nf T i xs=true):i<T.length:=by rcases Nat.lt_or_ge i T.length with h1|h1;exact h1;rw[nf,List.getElem?_eq_none h1] at h;cases h
theorem BJ{t:Tok}(h:T[i]? = some t):i<T.length:=(List.getElem?_eq_some_iff.1 h).1
theorem mA(T:List Tok)(k:Int)(i op:Nat):Good T true i op (Gr T k i op):=by unfold Gr;split;rename_i t ht;have:=BJ ht;split;exact⟨by omega,λ_=>by omega,λ_=>by omega,rfl⟩;trivial;trivial
theorem yx(T:List Tok)(x:List UInt8)(i op:Nat):Good T true i op (yv T x i op):=by unfold yv;split;rename_i h;have:=Dk h;exact⟨by omega,λ_=>by omega,λ_=>by omega,rfl⟩;trivial
theorem Pv{op i' Qa:Nat}{u:Unit}(h:Mr T x i op=.ok u i' Qa):i'=i+1/\Qa=op+1/\op<100/\i<T.length:=by unfold Mr at h;split at h;rename_i h1;have:=Dk h1;split at h;cases h;cases h;exact⟨rfl,rfl,by omega,this⟩;cases h
theorem JJ{op i' Qa:Nat}{u:Unit}(h:gl T x i op=.ok u i' Qa):i'=i+1/\Qa=op-1/\i<T.length:=by unfold gl yv at h;split at h;rename_i h1;have:=Dk h1;cases h;exact⟨rfl,rfl,this⟩;cases h
theorem X0(T:List Tok)(i op:Nat):Good T true i op (tH T i op):=by
 have:=mA T 1 i op;unfold tH;cases h:Gr T 1 i op with
 |ok v i' Qa=>rw[h] at this;exact this
 |err l e=>trivial
theorem Zo{A B:Type}{r:OR A}{f:A->Nat->Nat->OR B}{q:Jj B}(h:Sd r f=some q) :
  (∃ v i op,r=some (.ok v i op)/\f v i op=some q)∨(∃ l e,r=some (.err l e)/\q=.err l e):=by
 match r,h with
 |some (.ok v i op),h=>exact .inl ⟨v,i,op,rfl,h⟩
 |some (.err l e),h=>exact .inr ⟨l,e,rfl,by simpa [Sd] using h.symm⟩
theorem Yl{A B:Type}{s t:Bool}{op j Nc:Nat}{r:OR A}{f:A->Nat->Nat->OR B}(hr:Tl T s j Nc r)
  (hf:∀ v i' ,r=some (.ok v i' Nc)->j<=i'->(s=true->j<i')->(j<=T.length->i'<=T.length)->Tl T t i op (f v i' Nc)):Tl T t i op (Sd r f):=λq hq=>by
 rcases Zo hq with⟨v,i',Qa,h1,h2⟩|⟨l,e,_,rfl⟩;obtain⟨g1,g2,g3,g4⟩:=hr _ h1;subst g4;exact hf v i' h1 g1 g2 g3 q h2;trivial
theorem Vk{A:Type}{s:Bool}{op:Nat}{r:Jj A}(h:Good T s i op r):Tl T s i op (some r):=λr' hr=>by cases hr;exact h
theorem bz{A:Type}{s:Bool}{op:Nat}:Tl (A:=A) T s i op none:=λr' hr=>by cases hr
theorem Tl.from{A:Type}{s t:Bool}{j op:Nat}{r:OR A}(h:Tl T s j op r)(fW:i<=j)(hs:t=true->i<j∨s=true)(hT:i<=T.length->j<=T.length):Tl T t i op r:=λr' hr=>by
 have:=h r' hr;cases r' with
 |ok v i' Qa=>
  obtain⟨g1,g2,g3,g4⟩:=this;refine⟨by omega,λht=>?_,λhi=>g3 (hT hi),g4⟩;rcases hs ht with h1|h1;omega
  have:=g2 h1;omega
 |err l e=>trivial
theorem qfV(T:List Tok):∀ (f:Nat) (acc:List (List UInt8)) (i op:Nat),Tl T false i op (nA T f acc i op)
 |0,_,_,_=>bz
 |f+1,acc,i,op=>by rw[nA];split;rename_i h;have:=Dk h;refine Yl (Vk (mA T 2 (i+1) op)) λv i' _ h1 h2 h3=>?_;exact(qfV T f _ i' op).from ga (by simp) (λ_=>h3 ga);exact Vk ⟨by omega,by simp,λh=>h,rfl⟩
theorem jK(T:List Tok)(f i op:Nat):Tl T true i op (dH T f i op):=
 Yl (Vk (mA T 2 i op)) λv i' _ h1 h2 h3=>(qfV T f _ i' op).from h1 (λ_=>.inl (h2 rfl)) h3
theorem OU{A:Type}{s:Bool}{y:List UInt8}{op:Nat}{g:Nat->Nat->OR A}(hg:i<T.length->op<100->Tl T s (i+1) (op+1) (g (i+1) (op+1))) :
  Tl T true i op (Sd (some (Mr T x i op)) λ_ i' Qa=>Sd (g i' Qa) λv i' Qa=>Sd (some (gl T y i' Qa)) λ_ i' Qa=>some (.ok v i' Qa)):=λq hq=>by
 rcases Zo hq with⟨v,i1,Nc,h1,h2⟩|⟨l,e,_,rfl⟩;injection h1 with h1;obtain⟨rfl,rfl,ho,hi⟩:=Pv h1;rcases Zo h2 with⟨w,i2,Lg,h3,h4⟩|⟨l,e,_,rfl⟩;obtain⟨g1,_,g3,rfl⟩:=hg hi ho _ h3;rcases Zo h4 with⟨u,i3,yg,h5,h6⟩|⟨l,e,_,rfl⟩;injection h5 with h5;obtain⟨rfl,rfl,xw⟩:=JJ h5;cases h6;exact⟨by omega,λ_=>by omega,λ_=>by omega,by omega⟩;trivial;trivial;trivial
theorem ux(T:List Tok):∀ f:Nat,(∀ k i op,Tl T true i op (Eg T f k i op))/\(∀ k e i op,Tl T false i op (zD T f k e i op))/\(∀ i op,Tl T true i op (Ry T f i op)) /\
  (∀ i op,Tl T true i op (aF T f i op))/\(∀ i op,Tl T true i op (lB T f i op))/\(∀ i op,Tl T true i op (AD T f i op))/\(∀ acc i op,Tl T false i op (yB T f acc i op))
 |0=>⟨λ_ _ _=>by rw[Eg];exact bz,λ_ _ _ _=>by rw[zD];exact bz,λ_ _=>by rw[Ry];exact bz,λ_ _=>by rw[aF];exact bz,λ_ _=>by rw[lB];exact bz,λ_ _=>by rw[AD];exact bz,λ_ _ _=>by rw[yB];exact bz⟩
 |f+1=>by
  obtain⟨hL,hO,hU,hP,hI,hA,hB⟩:=ux T f;have neg:∀ (x:List UInt8) (nm:List UInt8) (i op:Nat),Tl T true i op (Sd (some (Mr T x i op)) λ_ i' Qa=>Sd (Ry T f i' Qa) λe i' Qa=>some (.ok (Ex.mk nm 0 [] [e]) i' (Qa-1))):=λx nm i op q hq=>by rcases Zo hq with⟨v,i1,Nc,h1,h2⟩|⟨l,e,_,rfl⟩;injection h1 with h1;obtain⟨rfl,rfl,ho,hi⟩:=Pv h1;rcases Zo h2 with⟨w,i2,Lg,h3,h4⟩|⟨l,e,_,rfl⟩;obtain⟨g1,_,g3,rfl⟩:=hU _ _ _ h3;cases h4;exact⟨by omega,λ_=>by omega,λ_=>g3 ga,by omega⟩;trivial;trivial
  refine⟨λk i op=>?_,λk e i op=>?_,λi op=>?_,λi op=>?_,λi op=>?_,λi op=>?_,λacc i op=>?_⟩;rw[Eg];split;exact hU i op;exact Yl (hL (k+1) i op) λv i' _ h1 h2 h3=>(hO k v i' op).from h1 (λ_=>.inl (h2 rfl)) h3;rw[zD];split
  rename_i h;have:=Dk h;refine Yl (hL (k+1) (i+1) op) λv i' _ h1 h2 h3=>?_;split;exact Vk ⟨by omega,by simp,λ_=>h3 ga,rfl⟩;exact(hO k _ i' op).from ga (by simp) (λ_=>h3 ga);exact Vk ⟨by omega,by simp,λh=>h,rfl⟩;rw[Ry];split;exact neg _ _ _ _;split;exact neg _ _ _ _;exact hP i op;rw[aF];split;exact OU (g:=λi op=>Eg T f 0 i op) λ_ _=>hL 0 _ _;split;exact Yl (Vk (X0 T i op)) λv i' _ h1 h2 h3=>Vk ⟨h1,λ_=>h2 rfl,h3,rfl⟩;refine Yl (Vk (mA T 2 i op)) λv i' _ h1 h2 h3=>?_;split;exact Yl (hI i' op) λv i2 _ g1 g2 g3=>Vk ⟨by omega,λ_=>by have:=h2 rfl;omega,λh=>g3 (h3 h),rfl⟩;split;exact Yl (hA i' op) λv i2 _ g1 g2 g3=>Vk ⟨by omega,λ_=>by have:=h2 rfl;omega,λh=>g3 (h3 h),rfl⟩;exact Vk ⟨h1,λ_=>h2 rfl,h3,rfl⟩;rw[lB];exact OU (g:=λi op=>Eg T f 0 i op) λ_ _=>hL 0 _ _;rw[AD];exact OU (g:=λi op=>yB T f [] i op) λ_ _=>hB [] _ _;rw[yB];split;exact Vk ⟨by omega,by simp,λh=>h,rfl⟩;refine Yl (s:=false) (j:=i) (Nc:=op) ?_ λv i' _ h1 h2 h3=>?_;split;exact Vk ⟨by omega,by simp,λh=>h,rfl⟩;exact Tl.from (Vk (yx T [44] i op)) ga (by simp) λh=>h;exact Yl (hL 0 i' op) λv i2 _ g1 g2 g3=>(hB _ i2 op).from ga (by simp) λh=>g3 (h3 h)
end Go.ia
namespace Go.ia
variable{T:List Tok}{i:Nat}
theorem KJ(T:List Tok):∀ f:Nat,(∀ i op,Tl T true i op (jB T f i op))/\(∀ acc i op,Tl T false i op (Sy T f acc i op))/\(∀ i op,Tl T true i op (YE T f i op))/\(∀ i op,Tl T true i op (nF T f i op))
 |0=>⟨λ_ _=>by rw[jB];exact bz,λ_ _ _=>by rw[Sy];exact bz,λ_ _=>by rw[YE];exact bz,λ_ _=>by rw[nF];exact bz⟩
 |f+1=>by
  obtain⟨hB,hL,hS,hM⟩:=KJ T f;obtain⟨gL,_,_,_,gI,gA,_⟩:=ux T f;refine⟨λi op=>?_,λacc i op=>?_,λi op=>?_,λi op=>?_⟩;rw[jB];exact OU (g:=λi op=>Sy T f [] i op) λ_ _=>hL [] _ _;rw[Sy];split;exact Vk ⟨by omega,by simp,λh=>h,rfl⟩;exact Yl (hS i op) λv i' _ h1 h2 h3=>(hL _ i' op).from h1 (by simp) h3;rw[YE];split
  rename_i h;have:=Dk h;refine Yl (gL 0 (i+1) op) λv i' _ h1 h2 h3=>Yl (hB i' op) λw i2 _ g1 g2 g3=>?_;split
  rename_i h4;have:=Dk h4;refine Yl (hB (i2+1) op) λx i3 _ k1 k2 k3=>Vk ⟨by omega,λ_=>by omega,λ_=>k3 ga,rfl⟩;exact Vk ⟨by omega,λ_=>by omega,λ_=>g3 (h3 ga),rfl⟩;split
  rename_i h;have:=Dk h;exact Yl (gL 0 (i+1) op) λv i' _ h1 h2 h3=>Yl (hB i' op) λw i2 _ g1 g2 g3=>Vk ⟨by omega,λ_=>by omega,λ_=>g3 (h3 ga),rfl⟩;exact Yl (hM i op) λv i' _ h1 h2 h3=>Yl (Vk (yx T [59] i' op)) λw i2 _ g1 g2 g3=>Vk ⟨by omega,λ_=>by have:=h2 rfl;omega,λhh=>g3 (h3 hh),rfl⟩;rw[nF];split
  rename_i h;have:=Dk h;exact Yl (gL 0 (i+1) op) λv i' _ h1 h2 h3=>Vk ⟨by omega,λ_=>by omega,λ_=>h3 ga,rfl⟩;split
  rename_i h;have:=Dk h;exact Vk ⟨by omega,λ_=>by omega,λ_=>by omega,rfl⟩;refine Yl (Vk (mA T 2 i op)) λv i' _ h1 h2 h3=>?_;split;exact Yl (gA i' op) λw i2 _ g1 g2 g3=>Vk ⟨by omega,λ_=>by have:=h2 rfl;omega,λhh=>g3 (h3 hh),rfl⟩;split
  exact Yl (gI i' op) λw i2 _ g1 g2 g3=>Yl (Vk (yx T [61] i2 op)) λu i3 _ k1 k2 k3=>Yl (gL 0 i3 op) λx i4 _ m1 m2 m3=>
   Vk ⟨by omega,λ_=>by have:=h2 rfl;omega,λhh=>m3 (k3 (g3 (h3 hh))),rfl⟩
  exact Yl (Vk (yx T [61] i' op)) λu i3 _ k1 k2 k3=>Yl (gL 0 i3 op) λx i4 _ m1 m2 m3=>
   Vk ⟨by omega,λ_=>by have:=h2 rfl;omega,λhh=>m3 (k3 (h3 hh)),rfl⟩
theorem MH(T:List Tok):∀ (f:Nat) (acc:List (List UInt8)) (i op:Nat),Tl T (nf T i [cP]) i op (Cv T f acc i op)
 |0,_,_,_=>by rw[Cv];exact bz
 |f+1,acc,i,op=>by
  rw[Cv];split;rename_i h;have:=Dk h;exact Yl (jK T f (i+1) op) λv i' _ h1 h2 h3=>Yl (Vk (yx T [59] i' op)) λu i2 _ g1 g2 g3=>
   (MH T f _ i2 op).from ga (λ_=>.inl ga) (λ_=>g3 (h3 ga))
  rename_i h;exact Vk ⟨by omega,λhh=>absurd hh h,λh=>h,rfl⟩
def Ends{A:Type}(r:OR A):Prop:=∃ q,r=some q
theorem dh{A B:Type}{r:OR A}{f:A->Nat->Nat->OR B}(h:Ends r)(k:∀ v i op,r=some (.ok v i op)->Ends (f v i op)):Ends (Sd r f):=by
 obtain⟨q,rfl⟩:=h;cases q with
 |ok v i op=>exact k v i op rfl
 |err l e=>exact⟨_,rfl⟩
theorem eh{A:Type}{r:Jj A}:Ends (some r):=⟨_,rfl⟩
theorem NH{B:Type}{x:List UInt8}{op:Nat}{g:Unit->Nat->Nat->OR B}(k:i<T.length->op<100->Ends (g () (i+1) (op+1))):Ends (Sd (some (Mr T x i op)) g):=
 dh eh λv i1 Nc h1=>by injection h1 with h1;obtain⟨rfl,rfl,ho,hi⟩:=Pv h1;exact k hi ho
theorem Z9(T:List Tok):∀ f:Nat,(∀ k i op,k<=6->i<=T.length->10 * (T.length-i)+20-k<=f->Ends (Eg T f k i op))/\(∀ k e i op,k<=5->i<=T.length->10 * (T.length-i)+11<=f->Ends (zD T f k e i op)) /\
  (∀ i op,i<=T.length->10 * (T.length-i)+13<=f->Ends (Ry T f i op))/\(∀ i op,i<=T.length->10 * (T.length-i)+12<=f->Ends (aF T f i op))/\(∀ i op,i<=T.length->10 * (T.length-i)+11<=f->Ends (lB T f i op)) /\
  (∀ i op,i<=T.length->10 * (T.length-i)+12<=f->Ends (AD T f i op))/\(∀ acc i op,i<=T.length->10 * (T.length-i)+21<=f->Ends (yB T f acc i op))
 |0=>⟨λ_ _ _ _ _ _=>by omega,λ_ _ _ _ _ _ _=>by omega,λ_ _ _ _=>by omega,λ_ _ _ _=>by omega,λ_ _ _ _=>by omega,λ_ _ _ _=>by omega,λ_ _ _ _ _=>by omega⟩
 |f+1=>by
  obtain⟨hL,hO,hU,hP,hI,hA,hB⟩:=Z9 T f;obtain⟨gL,gO,gU,gP,gI,gA,gB⟩:=ux T f;have neg:∀ (x nm:List UInt8) (i op:Nat),10 * (T.length-i)+13<=f+1->Ends (Sd (some (Mr T x i op)) λ_ i' Qa=>Sd (Ry T f i' Qa) λe i' Qa=>some (.ok (Ex.mk nm 0 [] [e]) i' (Qa-1))):=λx nm i op hf=>
   NH λhi ho=>dh (hU _ _ ga ga) λv i2 Lg _=>eh
  refine⟨λk i op hk hi hf=>?_,λk e i op hk hi hf=>?_,λi op hi hf=>?_,λi op hi hf=>?_,λi op hi hf=>?_,λi op hi hf=>?_,λacc i op hi hf=>?_⟩;rw[Eg];split;exact hU i op hi ga;refine dh (hL (k+1) i op ga hi ga) λv i' Qa h=>?_;obtain⟨g1,g2,g3,rfl⟩:=gL (k+1) i op _ h;have:=g2 rfl;exact hO k v i' Qa ga (g3 hi) (by have:=g3 hi;omega);rw[zD];split
  rename_i h;have:=Dk h;refine dh (hL (k+1) (i+1) op ga ga ga) λv i' Qa h=>?_;obtain⟨g1,g2,g3,rfl⟩:=gL (k+1) (i+1) op _ h;have:=g3 ga;split;exact eh;exact hO k _ i' Qa hk this ga;exact eh;rw[Ry];split;exact neg _ _ _ _ hf;split;exact neg _ _ _ _ hf;exact hP i op hi ga;rw[aF];split;exact NH λJa ho=>dh (hL 0 _ _ ga ga ga) λv i2 Lg _=>dh eh λ_ _ _ _=>eh;split;exact dh eh λ_ _ _ _=>eh;refine dh eh λv i' Qa h=>?_;injection h with h;have hg:=mA T 2 i op;rw[h] at hg;obtain⟨h1,h2,h3,rfl⟩:=hg;have:=h2 rfl;have:=h3 hi;split;exact dh (hI i' _ ga ga) λ_ _ _ _=>eh;split;exact dh (hA i' _ ga ga) λ_ _ _ _=>eh;exact eh;rw[lB];exact NH λJa ho=>dh (hL 0 _ _ ga ga ga) λv i2 Lg _=>dh eh λ_ _ _ _=>eh;rw[AD];exact NH λJa ho=>dh (hB [] _ _ ga ga) λv i2 Lg _=>dh eh λ_ _ _ _=>eh;rw[yB];split;exact eh;refine dh eh λv i' Qa h=>?_
  have hg:i<=i'/\i'<=T.length:=by injection h with h;split at h;cases h;exact⟨Jb _,hi⟩;have hg:=yx T [44] i op;rw[h] at hg;exact⟨hg.1,hg.2.2.1 hi⟩
  refine dh (hL 0 i' Qa ga hg.2 ga) λv2 i2 Lg h2=>?_;obtain⟨g1,g2,g3,rfl⟩:=gL 0 i' Qa _ h2;have:=g2 rfl;have:=g3 hg.2;exact hB _ i2 _ this ga
theorem qsG(T:List Tok):∀ f:Nat,(∀ i op,i<=T.length->10 * (T.length-i)+5<=f->Ends (jB T f i op))/\(∀ acc i op,i<=T.length->10 * (T.length-i)+14<=f->Ends (Sy T f acc i op)) /\
  (∀ i op,i<=T.length->10 * (T.length-i)+13<=f->Ends (YE T f i op))/\(∀ i op,i<=T.length->10 * (T.length-i)+12<=f->Ends (nF T f i op))
 |0=>⟨λ_ _ _ _=>by omega,λ_ _ _ _ _=>by omega,λ_ _ _ _=>by omega,λ_ _ _ _=>by omega⟩
 |f+1=>by
  obtain⟨hB,hL,hS,hM⟩:=qsG T f;obtain⟨eL,_,_,_,eI,eA,_⟩:=Z9 T f;obtain⟨gL,_,_,_,gI,gA,_⟩:=ux T f;obtain⟨kB,kL,kS,kM⟩:=KJ T f;refine⟨λi op hi hf=>?_,λacc i op hi hf=>?_,λi op hi hf=>?_,λi op hi hf=>?_⟩;rw[jB];exact NH λJa ho=>dh (hL [] _ _ ga ga) λv i2 Lg _=>dh eh λ_ _ _ _=>eh;rw[Sy];split;exact eh;refine dh (hS i op hi ga) λv i' Qa h=>?_;obtain⟨g1,g2,g3,rfl⟩:=kS i op _ h;have:=g2 rfl;have:=g3 hi;exact hL _ i' _ ga ga;rw[YE];split
  rename_i h;have:=Dk h;refine dh (eL 0 (i+1) op ga ga ga) λv i' Qa h=>?_;obtain⟨g1,g2,g3,rfl⟩:=gL 0 (i+1) op _ h;have:=g2 rfl;have:=g3 ga;refine dh (hB i' _ ga ga) λv2 i2 Lg h2=>?_;obtain⟨q1,q2,q3,rfl⟩:=kB i' _ _ h2;have:=q3 ga;split
  rename_i h4;have:=Dk h4;exact dh (hB (i2+1) _ ga ga) λ_ _ _ _=>eh;exact eh;split
  rename_i h;have:=Dk h;refine dh (eL 0 (i+1) op ga ga ga) λv i' Qa h=>?_;obtain⟨g1,g2,g3,rfl⟩:=gL 0 (i+1) op _ h;have:=g2 rfl;have:=g3 ga;exact dh (hB i' _ ga ga) λv2 i2 Lg h2=>eh;exact dh (hM i op hi ga) λ_ _ _ _=>dh eh λ_ _ _ _=>eh;rw[nF];split
  rename_i h;have:=Dk h;exact dh (eL 0 (i+1) op ga ga ga) λ_ _ _ _=>eh;split;exact eh;refine dh eh λv i' Qa h=>?_;injection h with h;have hg:=mA T 2 i op;rw[h] at hg;obtain⟨h1,h2,h3,rfl⟩:=hg;have:=h2 rfl;have:=h3 hi;split;exact dh (eA i' _ ga ga) λ_ _ _ _=>eh
  have tail:∀ (i2 Lg:Nat) (g:Ex->Sm),i'<=i2->i2<=T.length->Ends (Sd (some (yv T [61] i2 Lg)) λ_ i' Qa=>Sd (Eg T f 0 i' Qa) λe i' Qa=>some (.ok (g e) i' Qa)):=λi2 Lg g zA xw=>by refine dh eh λv i3 yg h3=>?_;injection h3 with h3;have hg:=yx T [61] i2 Lg;rw[h3] at hg;have:=hg.2.2.1 xw;have:=hg.1;exact dh (eL 0 i3 _ ga ga ga) λ_ _ _ _=>eh
  split;refine dh (eI i' _ ga ga) λv2 i2 Lg h2=>?_;obtain⟨q1,q2,q3,rfl⟩:=gI i' _ _ h2;exact tail i2 _ _ q1 (q3 ga);exact tail i' _ _ (Jb _) ga
theorem qfL(T:List Tok):∀ (f:Nat) (acc:List (List UInt8)) (i op:Nat),i<=T.length->T.length-i+1<=f->Ends (nA T f acc i op)
 |0,_,_,_,_,h=>by omega
 |f+1,acc,i,op,hi,hf=>by rw[nA];split;rename_i h;have:=Dk h;refine dh eh λv i' Qa h=>?_;injection h with h;have hg:=mA T 2 (i+1) op;rw[h] at hg;obtain⟨h1,h2,h3,rfl⟩:=hg;exact qfL T f _ i' _ (h3 ga) (by have:=h3 ga;omega);exact eh
theorem qkx(T:List Tok)(f i op:Nat)(hi:i<=T.length)(hf:T.length-i+1<=f):Ends (dH T f i op):=
 dh eh λv i' Qa h=>by injection h with h;have hg:=mA T 2 i op;rw[h] at hg;obtain⟨h1,h2,h3,rfl⟩:=hg;exact qfL T f _ i' _ (h3 hi) (by have:=h3 hi;omega)
theorem QZ(T:List Tok):∀ (f:Nat) (acc:List (List UInt8)) (i op:Nat),i<=T.length->T.length-i+2<=f->Ends (Cv T f acc i op)
 |0,_,_,_,_,h=>by omega
 |f+1,acc,i,op,hi,hf=>by rw[Cv];split;rename_i h;have:=Dk h;refine dh (qkx T f (i+1) op ga ga) λv i' Qa h=>?_;obtain⟨g1,g2,g3,rfl⟩:=jK T f (i+1) op _ h;have:=g3 ga;refine dh eh λv i2 Lg h2=>?_;injection h2 with h2;have hg:=yx T [59] i' Qa;rw[h2] at hg;obtain⟨h1,h2,h3,rfl⟩:=hg;have:=h3 ga;exact QZ T f _ i2 _ ga ga;exact eh
theorem qlK{B:Type}{k:Int}{op:Nat}{g:List UInt8->Nat->Nat->OR B}(h:∀ s,i<T.length->Ends (g s (i+1) op)):Ends (Sd (some (Gr T k i op)) g):=
 dh eh λv i' Qa hw=>by injection hw with hw;unfold Gr at hw;split at hw;rename_i t ht;have:=BJ ht;split at hw;cases hw;exact h _ this;cases hw;cases hw
theorem quY{B:Type}{x:List UInt8}{op:Nat}{g:Unit->Nat->Nat->OR B}(h:i<T.length->Ends (g () (i+1) (op-1))):Ends (Sd (some (gl T x i op)) g):=
 dh eh λv i' Qa hw=>by injection hw with hw;obtain⟨rfl,rfl,Ja⟩:=JJ hw;exact h Ja
theorem qrI(T:List Tok)(f i op:Nat)(hi:i<=T.length)(hf:10 * (T.length-i)+14<=f):Ends (xJ T f i op):=by
 unfold xJ;refine qlK λs h1=>NH λh2 h3=>dh ?_ λv i2 Lg h4=>quY λh5=>NH λh6 h7=>dh (QZ T f [] _ _ ga ?_) λv2 i3 yg h8=>dh ((qsG T f).2.1 [] _ _ ?_ ?_) λv3 i4 jn h9=>dh eh λ_ _ _ _=>eh;split;exact eh;exact qkx T f _ _ ga ga
 have:i+1+1<=i2:=by split at h4;cases h4;omega;exact(jK T f _ _ _ h4).1
 omega;exact(MH T f _ _ _ _ h8).2.2.1 ga;have:i+1+1<=i2:=by split at h4;cases h4;omega;exact(jK T f _ _ _ h4).1
 have:=(MH T f _ _ _ _ h8).1;omega
theorem qV(T:List Tok)(f i op:Nat):Tl T true i op (xJ T f i op):=by
 intro q jR;unfold xJ at jR;cases q with
 |err l e=>trivial
 |ok v i9 op9=>
  rcases Zo jR with⟨s,i1,Nc,h1,V3⟩|⟨l,e,_,h⟩;injection h1 with h1;have g1:=mA T 2 i op;rw[h1] at g1;obtain⟨a1,a2,a3,rfl⟩:=g1;have:=a2 rfl;rcases Zo V3 with⟨_,i2,Lg,h2,mG⟩|⟨l,e,_,h⟩;injection h2 with h2;obtain⟨rfl,rfl,b1,b2⟩:=Pv h2;rcases Zo mG with⟨ps,i3,yg,h3,U3⟩|⟨l,e,_,h⟩;have c:i1+1<=i3/\(i1+1<=T.length->i3<=T.length)/\yg=Nc+1:=by split at h3;cases h3;exact⟨Jb _,λh=>h,rfl⟩;obtain⟨c1,_,c3,c4⟩:=jK T f _ _ _ h3;exact⟨c1,c3,c4⟩
  obtain⟨c1,c2,rfl⟩:=c;rcases Zo U3 with⟨_,i4,jn,h4,T3⟩|⟨l,e,_,h⟩;injection h4 with h4;obtain⟨rfl,rfl,d1⟩:=JJ h4;rcases Zo T3 with⟨_,i5,qK,h5,S3⟩|⟨l,e,_,h⟩;injection h5 with h5;obtain⟨rfl,rfl,e1,e2⟩:=Pv h5;rcases Zo S3 with⟨ls,i6,P1,h6,R3⟩|⟨l,e,_,h⟩;obtain⟨f1,_,f3,rfl⟩:=MH T f _ _ _ _ h6;have:=f3 ga;rcases Zo R3 with⟨bs,i7,op7,h7,hq7⟩|⟨l,e,_,h⟩;obtain⟨k1,_,k3,rfl⟩:=(KJ T f).2.1 _ _ _ _ h7;have:=k3 ga;rcases Zo hq7 with⟨_,i8,op8,h8,DN⟩|⟨l,e,_,h⟩;injection h8 with h8;obtain⟨rfl,rfl,m1⟩:=JJ h8;cases DN;exact⟨by omega,λ_=>by omega,λ_=>by omega,by omega⟩;cases h;cases h;cases h;cases h;cases h;cases h;cases h;cases h
theorem wV(T:List Tok)(i op:Nat):Tl T true i op (HJ T i op):=by
 intro q jR;unfold HJ at jR;cases q with
 |err l e=>trivial
 |ok v i9 op9=>rcases Zo jR with⟨s,i1,Nc,h1,V3⟩|⟨l,e,_,h⟩;injection h1 with h1;have g1:=mA T 2 i op;rw[h1] at g1;obtain⟨a1,a2,a3,rfl⟩:=g1;have:=a2 rfl;rcases Zo V3 with⟨_,i2,Lg,h2,mG⟩|⟨l,e,_,h⟩;injection h2 with h2;obtain⟨rfl,rfl,b1,b2⟩:=Pv h2;rcases Zo mG with⟨ps,i3,yg,h3,U3⟩|⟨l,e,_,h⟩;injection h3 with h3;have g3:=X0 T (i1+1) (Nc+1);rw[h3] at g3;obtain⟨c1,c2,c3,rfl⟩:=g3;have:=c2 rfl;rcases Zo U3 with⟨_,i4,jn,h4,T3⟩|⟨l,e,_,h⟩;injection h4 with h4;obtain⟨rfl,rfl,d1⟩:=JJ h4;rcases Zo T3 with⟨_,i5,qK,h5,S3⟩|⟨l,e,_,h⟩;injection h5 with h5;have g5:=yx T [59] (i3+1) jn;rw[h5] at g5;obtain⟨e1,e2,e3,rfl⟩:=g5;have:=e2 rfl;have:=e3 ga;cases S3;exact⟨by omega,λ_=>by omega,λ_=>by omega,by omega⟩;cases h;cases h;cases h;cases h;cases h
theorem qpi(T:List Tok)(i op:Nat):Ends (HJ T i op):=by unfold HJ;exact qlK λs _=>NH λ_ _=>dh eh λ_ _ _ _=>dh eh λ_ _ _ _=>dh eh λ_ _ _ _=>eh
theorem jV(T:List Tok):∀ (f:Nat) (p:Pr) (i op:Nat),i<=T.length->10 * (T.length-i)+20<=f->Ends (yD T f p i op)
 |0,_,_,_,_,h=>by omega
 |f+1,p,i,op,hi,hf=>by
  rw[yD];split;exact eh;split;rename_i h;have:=Dk h;refine dh (QZ T f _ i op hi ga) λv i' Qa h2=>?_;obtain⟨g1,g2,g3,rfl⟩:=MH T f _ i op _ h2;have:=g2 h;have:=g3 hi;exact jV T f _ i' _ ga ga;split
  rename_i h;have:=Dk h;refine dh (qpi T _ _) λv i' Qa h2=>?_;obtain⟨g1,g2,g3,rfl⟩:=wV T _ _ _ h2;have:=g3 ga;exact jV T f _ i' _ ga ga;split
  rename_i h;have:=Dk h;refine dh (qrI T f _ _ ga ga) λv i' Qa h2=>?_;obtain⟨g1,g2,g3,rfl⟩:=qV T f _ _ _ h2;have:=g3 ga;exact jV T f _ i' _ ga ga;exact eh
open Go.Lib
variable{a b n t:Nat}{c:UInt8}{cur:List UInt8}{r:List Nat}
theorem qmR(M:Nat):∀ (l r:List UInt8) (acc u:Nat),parseUintM M acc l=.ok u->parseUintM M acc (l++r)=parseUintM M u r
 |[],r,acc,u,h=>by rw[parseUintM] at h;cases h;rfl
 |c::l,r,acc,u,h=>by rw[parseUintM] at h;rw[cons_append,parseUintM];split at h;rename_i hc;rw[zp hc];split at h;cases h;rename_i h1;rw[zn h1];split at h;cases h;rename_i h2;rw[zn h2];exact qmR M l r _ u h;cases h
theorem qkK{d:Nat}(h:d<10):(UInt8.ofNat (48+d)).toNat=48+d:=by rw[UInt8.toNat_ofNat'];omega
theorem qAg(M:Nat)(hM:M<=4294967295)(u:Nat)(hu:u<=M):parseUintM M 0 (decDigits u)=.ok u:=by
 induction u using Nat.strongRecOn with
 |_ u ih=>
  have one:∀ a d,d<10->a * 10+d<=M->parseUintM M a [UInt8.ofNat (48+d)]=.ok (a * 10+d):=λa d hd ha=>by rw[parseUintM,qkK hd,zp (by omega),zn (by omega),zn (by omega),parseUintM];congr 1;omega
  rw[decDigits];split;have:=one 0 u (by assumption) ga;simpa using this;rw[qmR M _ _ 0 (u / 10) (ih (u / 10) (by omega) (by omega)),one _ _ (by omega) (by omega)];congr 1;omega
theorem dK(u:Nat):decDigits u≠[]:=by rw[decDigits];split <;> simp
theorem KY(u:Nat)(hu:u<4294967296):parseUintB 32 (decDigits u)=.ok u:=by rw[parseUintB,zn (dK u)];exact qAg _ fa u ga
theorem rV:∀ (k u:Nat),u<10 ^ (k+1)->nDigits u<=k+1
 |0,u,h=>by rw[nDigits_small (by simpa using h)];omega
 |k+1,u,h=>by by_cases hu:u<10;rw[nDigits_small hu];omega;rw[nDigits_big hu];have:=rV k (u / 10) (by rw[Nat.pow_succ] at h;omega);omega
theorem rM{u:Nat}(hu:u<4294967296):(decDigits u).length<=10:=by rw[decDigits_length];exact rV 9 u ga
theorem YX{l:List UInt8}{u:Nat}(h:parseUintB 32 l=.ok u):u<4294967296:=by
 have key:∀ (l:List UInt8) (acc u:Nat),acc<=4294967295->parseUintM 4294967295 acc l=.ok u->u<=4294967295:=by
  intro l;induction l with
  |nil=>intro acc u ha h;rw[parseUintM] at h;cases h;exact ha
  |cons c l ih=>intro acc u ha h;rw[parseUintM] at h;split at h;split at h;cases h;split at h;cases h;exact ih _ _ ga h;cases h
 rw[parseUintB] at h;split at h;cases h;have:=key _ _ _ ga h;omega
def Q7(t:Tok):Prop:=t.text.length<=100/\(t.kind=1->∃ u,u<4294967296/\parseUintB 32 t.text=.ok u/\t.text=decDigits u)
theorem qpM(s:List UInt8)(h:(uk s).2.2=0):Q7 (uk s).1:=by
 match s with
 |[]=>simp[uk,Sp] at h
 |c::r=>
  simp only[uk] at h ⊢;split at h <;> rename_i hc;rw[zp hc];unfold ZJ at h ⊢;split at h;simp[Sp] at h
  rename_i hw;rw[zn hw];split at h;rename_i u hu;have Ja:=YX hu;exact⟨by have:=rM Ja;simp only;omega,λ_=>⟨u,Ja,KY u Ja,rfl⟩⟩;simp[Sp] at h;rw[zn hc];split at h <;> rename_i hl;rw[zp hl];unfold LJ at h ⊢;split at h;simp[Sp] at h
  rename_i hw;rw[zn hw];refine⟨by simp only;omega,λhk=>?_⟩;simp only at hk;split at hk <;> cases hk;rw[zn hl];split at h <;> rename_i hq;rw[zp hq];unfold YJ at h ⊢;split at h;split at h;simp[Sp] at h
  rename_i hx;rename_i xG;rename_i b _ _;rw[zn hx];have hb:b.toNat<4294967296:=Nat.lt_trans (UInt8.toNat_lt b) fa;exact⟨by have:=rM hb;simp only;omega,λ_=>⟨b.toNat,hb,KY _ hb,rfl⟩⟩;simp[Sp] at h;rw[zn hq];unfold DM at h ⊢;split at h
  rename_i x hx;have h2:=List.mem_of_find?_eq_some hx;have:∀ x∈kl,x.length<=100:=by decide
  exact⟨this x h2,λhk=>by cases hk⟩;simp[Sp] at h
theorem qAh{A B:Type}{f:A->B}{r:Except (Int×Int) A}{b:B}(h:r.map f=.ok b):∃ a,r=.ok a/\f a=b:=by
 cases r with
 |ok a=>exact⟨a,rfl,by injection h⟩
 |error e=>cases h
theorem nY:∀ (f:Nat) (s:List UInt8) (line:Int) (T:List Tok),Ik f s line=.ok T->T.length<=f/\∀ t∈T,Q7 t
 |0,s,line,T,h=>by rw[Ik] at h;cases h;exact⟨Jb _,by simp⟩
 |f+1,s,line,T,h=>by rw[Ik] at h;split at h;cases h;exact⟨zero_le _,by simp⟩;split at h;split at h;cases h;rename_i he;obtain⟨T',h1,rfl⟩:=qAh h;obtain⟨k1,k2⟩:=nY f _ _ _ h1;refine⟨by rw[La];omega,λt ht=>?_⟩;rcases zc.1 ht with rfl|ht;exact qpM s ga;exact k2 t ht;obtain⟨k1,k2⟩:=nY f _ _ _ h;exact⟨by omega,k2⟩
abbrev Wd:=List UInt8
variable{l v:List Wd}{s w x y:Wd}
def Eb(w:Wd):Option Nat:=match Go.Lib.parseUintB 32 w with
 |.ok u=>if Go.Lib.decDigits u=w then some u else none
 |_=>none
def Ju(s:Wd):Bool:=match s with
 |[]=>false
 |c::r=>decide (s.length<=40) && tl c && s.all Ni
def ya(w:Wd):Option Wd:=if w.getLast? = some 58/\Ju w.dropLast=true then some w.dropLast else none
def Va(w:Wd):Option Wd:=match w with
 |[]=>none
 |c::r=>if c=38/\Ju r=true then some r else none
def ka(l:List Wd)(i:Nat):Wd:=(l[i]?).getD []
def Yo(a:Nat)(op:Wd)(b:Nat):Option Nat:=
 if op=[43] then some ((a+b) % 4294967296)
 else if op=[45] then some ((a+4294967296-b) % 4294967296)
 else if op=[42] then some (a * b % 4294967296)
 else if op=[94] then some (a ^^^ b)
 else if op=[60] then some (if a<b then 1 else 0)
 else if op=[47] then (if b=0 then none else some (a / b))
 else if op=[37] then (if b=0 then none else some (a % b))
 else none
def ak(x op y:Wd):Option Wd:=match Eb x,Eb y with
 |some a,some b=>match Yo a op b with
  |some c=>if (Go.Lib.decDigits c).length<=x.length+y.length+1 then some (Go.Lib.decDigits c) else none
  |none=>none
 |_,_=>none
def zm(v:List Wd)(i:Nat):Option Wd:=match Va (ka v i) with
 |some l=>if ka v (i+1)=[63] then some l else none
 |none=>none
abbrev Dr:=Nat×List Wd
def Oy(v:List Wd):Dr:=match ak (ka v 0) (ka v 2) (ka v 1) with
 |some s=>(3,[s])
 |none=>(0,[])
def AB(v:List Wd):Dr:=
 if ka v 0=[48]/\(ka v 1=[43]∨ka v 1=[45]∨ka v 1=[94])∨ka v 0=[49]/\(ka v 1=[42]∨ka v 1=[47]) then (2,[]) else (0,[])
def Xy(v:List Wd):Dr:=
 if (ka v 1=[43]∨ka v 1=[42]∨ka v 1=[94])/\ka v 3=ka v 1 then
  (match ak (ka v 0) (ka v 1) (ka v 2) with
  |some s=>(4,[s,ka v 1])
  |none=>(0,[]))
 else (0,[])
def Wz(v:List Wd):Dr:=if (Eb (ka v 0)).isSome=true/\ka v 1=[64]/\ka v 2=ka v 0/\ka v 3=[33] then (4,[]) else (0,[])
def fA(v:List Wd):Dr:=if (zm v 4).isSome=true/\ka v 0=[49]/\ka v 1=[60]/\ka v 2=[49]/\ka v 3=[60] then (6,[ka v 4,ka v 5]) else (0,[])
def Py(v:List Wd):Dr:=match Eb (ka v 0) with
 |some n=>if n≠0/\(zm v 1).isSome=true then (3,[]) else (0,[])
 |none=>(0,[])
def Gt(l:Wd):List Wd->Bool
 |[]=>false
 |w::r=>match ya w with
  |some d=>decide (d=l) || Gt l r
  |none=>false
def Jy(v:List Wd):Dr:=match zm v 1 with
 |some l=>if ka v 0=[48]/\Gt l (v.drop 3)=true then (3,[]) else (0,[])
 |none=>(0,[])
def Mj(v:List Wd):Nat:=if (zm v 1).isSome=true/\ka v 0=[48] then 3 else if ka v 0=[59]∨ka v 0=[36] then 1 else 0
def Cq(v:List Wd):Nat:=(v.takeWhile λw=>(ya w).isNone).length
def Yz(v:List Wd):Dr:=if 0<Mj v/\0<Cq (v.drop (Mj v)) then (Mj v+Cq (v.drop (Mj v)),v.take (Mj v)) else (0,[])
def Su(ja:Wd->Bool)(v:List Wd):Dr:=match ya (ka v 0) with
 |some l=>if ja l=true then (0,[]) else (1,[])
 |none=>(0,[])
def Ke(ja:Wd->Bool)(v:List Wd):Dr:=
 if (Oy v).1≠0 then Oy v else if (AB v).1≠0 then AB v else if (Xy v).1≠0 then Xy v else if (Wz v).1≠0 then Wz v else if (fA v).1≠0 then fA v else
 if (Py v).1≠0 then Py v else if (Jy v).1≠0 then Jy v else if (Yz v).1≠0 then Yz v else Su ja v
def rk(ja:Wd->Bool):Nat->List Wd->List Wd
 |0,_=>[]
 |_+1,[]=>[]
 |f+1,w::r=>if (Ke ja (w::r)).1=0 then w::rk ja f r else (Ke ja (w::r)).2++rk ja f ((w::r).drop (Ke ja (w::r)).1)
def Ad(l:List Wd)(s:Wd):Bool:=l.any λw=>decide (Va w=some s)
def Np(l:List Wd):List Wd:=rk (Ad l) l.length l
theorem Dq(h:ka v i≠[]):i<v.length:=by rcases Nat.lt_or_ge i v.length with h1|h1;exact h1;exact absurd (by simp[ka,List.getElem?_eq_none h1]) h
theorem f'(h:Eb w=some n):w≠[]:=by
 rintro rfl;have:Eb []=none:=by decide +kernel
 rw[this] at h;cases h
theorem lA{l:Wd}(h:zm v i=some l):i+1<v.length:=by unfold zm at h;split at h;split at h;rename_i h2;exact Dq (by rw[h2];decide);cases h;cases h
theorem qyU{op:Wd}{c:Nat}(h:Yo a op b=some c):op≠[]:=by rintro rfl;have:Yo a [] b=none:=rfl;rw[this] at h;cases h
theorem xF{op:Wd}(h:ak x op y=some s):x≠[]/\op≠[]/\y≠[]:=by unfold ak at h;split at h;rename_i a b ha hb;split at h;rename_i c hc;exact⟨f' ha,qyU hc,f' hb⟩;cases h;cases h
def nB(v:List Wd)(r:Dr):Prop:=r.1≠0->r.1<=v.length/\r.2.length<r.1
theorem az(v:List Wd):nB v (0,[]):=λh=>absurd rfl h
theorem qy1(v:List Wd):nB v (Oy v):=by unfold Oy;split;rename_i s h;obtain⟨_,h2,_⟩:=xF h;have:=Dq h2;exact λ_=>⟨by simp only;omega,by simp⟩;exact az v
theorem qr6(v:List Wd):nB v (AB v):=by
 unfold AB;split;rename_i h;have:ka v 1≠[]:=by intro h0;rw[h0] at h;rcases h with⟨_,h|h|h⟩|⟨_,h|h⟩ <;> cases h
 have:=Dq this;exact λ_=>⟨by simp only;omega,by simp⟩;exact az v
theorem qro(v:List Wd):nB v (Xy v):=by
 unfold Xy;split;rename_i h;split;rename_i s hs;have h3:ka v 3≠[]:=by rw[h.2];exact(xF hs).2.1
 have:=Dq h3;exact λ_=>⟨by simp only;omega,by simp⟩;exact az v;exact az v
theorem qxX(v:List Wd):nB v (Wz v):=by unfold Wz;split;rename_i h;have:=Dq (v:=v) (i:=3) (by rw[h.2.2.2];decide);exact λ_=>⟨by simp only;omega,by simp⟩;exact az v
theorem qtZ(v:List Wd):nB v (fA v):=by unfold fA;split;rename_i h;obtain⟨l,hl⟩:=zR h.1;have:=lA hl;exact λ_=>⟨by simp only;omega,by simp⟩;exact az v
theorem qvo(v:List Wd):nB v (Py v):=by unfold Py;split;split;rename_i h;obtain⟨l,hl⟩:=zR h.2;have:=lA hl;exact λ_=>⟨by simp only;omega,by simp⟩;exact az v;exact az v
theorem qy2(v:List Wd):nB v (Jy v):=by unfold Jy;split;rename_i l hl;split;have:=lA hl;exact λ_=>⟨by simp only;omega,by simp⟩;exact az v;exact az v
theorem qxE(v:List Wd):Mj v<=v.length:=by unfold Mj;split;rename_i h;obtain⟨l,hl⟩:=zR h.1;have:=lA hl;omega;split;rename_i h;have:=Dq (v:=v) (i:=0) (by rcases h with h|h <;> rw[h] <;> decide);omega;omega
theorem qyd(v:List Wd):nB v (Yz v):=by unfold Yz;split;rename_i h;intro _;have h1:=qxE v;have h2:Cq (v.drop (Mj v))<=(v.drop (Mj v)).length:=(List.takeWhile_prefix _).length_le;rw[length_drop] at h2;simp only[List.length_take];omega;exact az v
theorem qtN(ja:Wd->Bool)(v:List Wd):nB v (Su ja v):=by
 unfold Su;split;rename_i l hl;split;exact az v;have:ka v 0≠[]:=by intro h0;rw[h0] at hl;cases hl
 have:=Dq this;exact λ_=>⟨by simp only;omega,by simp⟩;exact az v
theorem kH(ja:Wd->Bool)(v:List Wd):nB v (Ke ja v):=by unfold Ke;split;exact qy1 v;split;exact qr6 v;split;exact qro v;split;exact qxX v;split;exact qtZ v;split;exact qvo v;split;exact qy2 v;split;exact qyd v;exact qtN ja v
theorem hZ(ja:Wd->Bool):∀ (f:Nat) (l:List Wd),(rk ja f l).length<=l.length
 |0,l=>zero_le _
 |f+1,[]=>Jb _
 |f+1,w::r=>by rw[rk];split;have:=hZ ja f r;simp only[La];omega;rename_i h;obtain⟨h1,h2⟩:=kH ja (w::r) h;have:=hZ ja f ((w::r).drop (Ke ja (w::r)).1);rw[length_drop] at this;rw[Ga];omega
theorem qqc{d:Nat}(h:d<10):me (UInt8.ofNat (48+d))=true:=by have h1:(UInt8.ofNat (48+d)).toNat=48+d:=qkK h;unfold me cv;rw[h1];simp;omega
theorem iN(u:Nat):∀ c∈decDigits u,me c=true:=by
 induction u using Nat.strongRecOn with
 |ind u ih=>intro c hc;by_cases h:u<10;rw[decDigits_one h] at hc;rw[Vi hc];exact qqc h;rw[decDigits,dif_neg h] at hc;rcases xj hc with hc|hc;exact ih (u / 10) ga c hc;rw[Vi hc];exact qqc ga
theorem zB(w:Wd)(n:Nat):Eb w=some n ↔ n<4294967296/\decDigits n=w:=by unfold Eb;constructor;intro h;split at h;rename_i u hu;split at h;rename_i he;cases h;exact⟨YX hu,he⟩;cases h;cases h;rintro⟨h1,h2⟩;subst h2;rw[KY n h1];simp
theorem HP(h:Eb w=some n):n<4294967296:=((zB w n).1 h).1
theorem qF(h:n<4294967296):Eb (decDigits n)=some n:=(zB _ n).2 ⟨h,rfl⟩
theorem EP{c:Nat}{op:Wd}(ha:a<4294967296)(hb:b<4294967296)(h:Yo a op b=some c):c<4294967296:=by
 unfold Yo at h;split at h;cases h;omega;split at h;cases h;omega;split at h;cases h;exact Nat.mod_lt _ fa;split at h;cases h;exact Nat.xor_lt_two_pow (n:=32) ha hb;split at h;cases h;split <;> decide;split at h;split at h;cases h;cases h;exact Nat.lt_of_le_of_lt (Nat.div_le_self _ _) ha;split at h;split at h;cases h;cases h
 rename_i Le;have:=Nat.mod_lt a (Nat.pos_of_ne_zero Le);omega;cases h
def Vu(v:List Wd):Prop:=ka v 0=[48]/\(ka v 1=[43]∨ka v 1=[45]∨ka v 1=[94])∨ka v 0=[49]/\(ka v 1=[42]∨ka v 1=[47])
instance(v:List Wd):Decidable (Vu v):=by unfold Vu;infer_instance
def Em(v:List Wd):Prop:=(ka v 1=[43]∨ka v 1=[42]∨ka v 1=[94])/\ka v 3=ka v 1
instance(v:List Wd):Decidable (Em v):=by unfold Em;infer_instance
def fx(v:List Wd):Prop:=(Eb (ka v 0)).isSome=true/\ka v 1=[64]/\ka v 2=ka v 0/\ka v 3=[33]
instance(v:List Wd):Decidable (fx v):=by unfold fx;infer_instance
def Wy(v:List Wd):Prop:=(zm v 4).isSome=true/\ka v 0=[49]/\ka v 1=[60]/\ka v 2=[49]/\ka v 3=[60]
instance(v:List Wd):Decidable (Wy v):=by unfold Wy;infer_instance
def qx(v:List Wd):Bool:=match Eb (ka v 0) with
 |some n=>decide (n≠0/\(zm v 1).isSome=true)
 |none=>false
def My(v:List Wd):Bool:=match zm v 1 with
 |some l=>decide (ka v 0=[48]/\Gt l (v.drop 3)=true)
 |none=>false
def CD(v:List Wd):Prop:=0<Mj v/\0<Cq (v.drop (Mj v))
instance(v:List Wd):Decidable (CD v):=by unfold CD;infer_instance
def Dn(v:List Wd):Option Wd:=ak (ka v 0) (ka v 2) (ka v 1)
def Aq(v:List Wd):Option Wd:=ak (ka v 0) (ka v 1) (ka v 2)
section
variable{v:List Wd}{ja:Wd->Bool}
theorem qxU(h:Dn v=some s):Oy v=(3,[s]):=by unfold Oy;unfold Dn at h;rw[h]
theorem xH(h:Dn v=none):Oy v=(0,[]):=by unfold Oy;unfold Dn at h;rw[h]
theorem qr0(h:Vu v):AB v=(2,[]):=zp h
theorem XJ(h:¬ Vu v):AB v=(0,[]):=zn h
theorem qrz(h:Em v)(h2:Aq v=some s):Xy v=(4,[s,ka v 1]):=by unfold Xy;unfold Aq at h2;unfold Em at h;rw[zp h,h2]
theorem bN(h:¬ Em v∨Aq v=none):Xy v=(0,[]):=by unfold Xy;unfold Aq at h;by_cases hc:Em v;rcases h with h|h;exact absurd hc h;unfold Em at hc;rw[zp hc,h];unfold Em at hc;rw[zn hc]
theorem qxx(h:fx v):Wz v=(4,[]):=zp h
theorem GP(h:¬ fx v):Wz v=(0,[]):=zn h
theorem quP(h:Wy v):fA v=(6,[ka v 4,ka v 5]):=zp h
theorem UU(h:¬ Wy v):fA v=(0,[]):=zn h
theorem qwt(h:qx v=true):Py v=(3,[]):=by
 unfold qx at h;unfold Py;split at h
 ·rename_i n hn
  try rw[hn]
  exact zp (ag h)
 cases h
theorem yY(h:qx v=false):Py v=(0,[]):=by
 unfold qx at h;unfold Py;split at h
 ·rename_i n hn
  try rw[hn]
  exact zn (of_decide_eq_false h)
 rename_i hn;first|rw[hn]|rfl
theorem qyS(h:My v=true):Jy v=(3,[]):=by
 unfold My at h;unfold Jy;split at h
 ·rename_i n hn
  try rw[hn]
  exact zp (ag h)
 cases h
theorem y9(h:My v=false):Jy v=(0,[]):=by
 unfold My at h;unfold Jy;split at h
 ·rename_i n hn
  try rw[hn]
  exact zn (of_decide_eq_false h)
 rename_i hn;first|rw[hn]|rfl
theorem qyk(h:CD v):Yz v=(Mj v+Cq (v.drop (Mj v)),v.take (Mj v)):=zp h
theorem qyC(h:¬ CD v):Yz v=(0,[]):=zn h
theorem JT(h:Dn v=some s):Ke ja v=(3,[s]):=by unfold Ke;rw[qxU h];try rfl
theorem zT(h1:Dn v=none)(h:Vu v):Ke ja v=(2,[]):=by unfold Ke;rw[xH h1,qr0 h];try rfl
theorem DT(h1:Dn v=none)(h2:¬ Vu v)(h:Em v)(h':Aq v=some s):Ke ja v=(4,[s,ka v 1]):=by unfold Ke;rw[xH h1,XJ h2,qrz h h'];try rfl
theorem vT(h1:Dn v=none)(h2:¬ Vu v)(h3:¬ Em v∨Aq v=none)(h:fx v):Ke ja v=(4,[]):=by unfold Ke;rw[xH h1,XJ h2,bN h3,qxx h];try rfl
theorem wT(h1:Dn v=none)(h2:¬ Vu v)(h3:¬ Em v∨Aq v=none)(h4:¬ fx v)(h:Wy v):Ke ja v=(6,[ka v 4,ka v 5]):=by unfold Ke;rw[xH h1,XJ h2,bN h3,GP h4,quP h];try rfl
theorem HT(h1:Dn v=none)(h2:¬ Vu v)(h3:¬ Em v∨Aq v=none)(h4:¬ fx v)(h5:¬ Wy v)(h:qx v=true):Ke ja v=(3,[]):=by unfold Ke;rw[xH h1,XJ h2,bN h3,GP h4,UU h5,qwt h];try rfl
theorem MT(h1:Dn v=none)(h2:¬ Vu v)(h3:¬ Em v∨Aq v=none)(h4:¬ fx v)(h5:¬ Wy v)(h6:qx v=false)(h:My v=true):Ke ja v=(3,[]):=by unfold Ke;rw[xH h1,XJ h2,bN h3,GP h4,UU h5,yY h6,qyS h];try rfl
theorem FT(h1:Dn v=none)(h2:¬ Vu v)(h3:¬ Em v∨Aq v=none)(h4:¬ fx v)(h5:¬ Wy v)(h6:qx v=false)(h7:My v=false)(h:CD v):Ke ja v=(Mj v+Cq (v.drop (Mj v)),v.take (Mj v)):=by
 unfold Ke;have h0:Mj v+Cq (v.drop (Mj v))≠0:=by have:=h.1;omega
 rw[xH h1,XJ h2,bN h3,GP h4,UU h5,yY h6,y9 h7,qyk h];simp only[ne_eq,not_true_eq_false,if_false,h0,not_false_eq_true,if_true]
theorem CT(h1:Dn v=none)(h2:¬ Vu v)(h3:¬ Em v∨Aq v=none)(h4:¬ fx v)(h5:¬ Wy v)(h6:qx v=false)(h7:My v=false)(h8:¬ CD v):Ke ja v=Su ja v:=by unfold Ke;rw[xH h1,XJ h2,bN h3,GP h4,UU h5,yY h6,y9 h7,qyC h8];try rfl
end
def qg(c:UInt8):List UInt8->List (List UInt8)
 |[]=>[[]]
 |d::r=>if d=c then []::qg c r else match qg c r with
  |p::ps=>(d::p)::ps
  |[]=>[[d]]
theorem cV(c:UInt8):∀ s,∃ p ps,qg c s=p::ps
 |[]=>⟨_,_,rfl⟩
 |d::r=>by obtain⟨p,ps,h⟩:=cV c r;rw[qg,h];split;exact⟨_,_,rfl⟩;exact⟨_,_,rfl⟩
theorem xQ(c:UInt8)(r:List UInt8):qg c (c::r)=[]::qg c r:=by rw[qg,zp rfl]
theorem yV{d:UInt8}(h:d≠c)(r:List UInt8):∃ p ps,qg c r=p::ps/\qg c (d::r)=(d::p)::ps:=by obtain⟨p,ps,hp⟩:=cV c r;exact⟨p,ps,hp,by rw[qg,zn h,hp]⟩
theorem gN{c:UInt8}:∀ {s:List UInt8},c ∉ s->qg c s=[s]
 |[],_=>rfl
 |d::r,h=>by have hd:d≠c:=λe=>h (by rw[e];exact mem_cons_self ..);have hr:c ∉ r:=λe=>h (Pc _ e);rw[qg,zn hd,gN hr]
theorem TZ{c:UInt8}:∀ {a b:List UInt8},c ∉ a->qg c (a++c::b)=a::qg c b
 |[],b,_=>xQ c b
 |d::a,b,h=>by have hd:d≠c:=λe=>h (by rw[e];exact mem_cons_self ..);have ha:c ∉ a:=λe=>h (Pc _ e);rw[cons_append,qg,zn hd,TZ ha]
theorem iV{c:UInt8}:∀ {s:List UInt8},c ∉ s->index s [c] = -1
 |[],_=>rfl
 |d::r,h=>by
  have hd:¬ c=d:=λe=>h (by rw[e];exact mem_cons_self ..);have hr:c ∉ r:=λe=>h (Pc _ e);have hp:([c]:List UInt8).isPrefixOf (d::r)=false:=by simp[List.isPrefixOf,hd]
  rw[index,hp,iV hr];try rfl
theorem oV{c:UInt8}:∀ {a b:List UInt8},c ∉ a->index (a++c::b) [c]=(a.length:Int)
 |[],b,_=>by
  have hp:([c]:List UInt8).isPrefixOf (c::b)=true:=by simp[List.isPrefixOf]
  rw[nil_append,index,hp];try rfl
 |d::a,b,h=>by
  have hd:¬ c=d:=λe=>h (by rw[e];exact mem_cons_self ..);have ha:c ∉ a:=λe=>h (Pc _ e);have hp:([c]:List UInt8).isPrefixOf (d::(a++c::b))=false:=by simp[List.isPrefixOf,hd]
  rw[cons_append,index,hp,oV ha,zn fa,zn (by
   intro h;have:=eq_of_beq h;omega)]
  simp
theorem BZ{s:List UInt8}(h:c∈s):∃ a b,s=a++c::b/\c ∉ a:=List.eq_append_cons_of_mem h
theorem qxD(c:UInt8)(s:List UInt8):(cut s [c]).1=s.takeWhile (λd=>decide (d≠c)):=by
 by_cases h:c∈s;obtain⟨a,b,rfl,ha⟩:=BZ h;have h1:∀ x∈a,decide (x≠c)=true:=λx hx=>by simp only[Gg];rintro rfl;exact ha hx
 rw[cut,oV ha,zp (by omega),List.takeWhile_append_of_pos h1,List.takeWhile_cons_of_neg (by simp)];simp;have h1:∀ x∈s,decide (x≠c)=true:=λx hx=>by simp only[Gg];rintro rfl;exact h hx
 rw[cut,iV h,zn fa];have:=List.takeWhile_append_of_pos (l₂:=[]) h1;simpa using this.symm
theorem qhn(c:UInt8):∀ (f:Nat) (s:List UInt8),s.length<f->countFrom [c] f s=s.count c
 |0,s,h=>by omega
 |f+1,s,h=>by
  rw[countFrom];by_cases hc:c∈s
  ·obtain⟨a,b,rfl,ha⟩:=BZ hc
   rw[oV ha,zn (by
    intro h;have:=eq_of_beq h;omega)]
   have hd:(a++c::b).drop ((a.length:Int).toNat+[c].length)=b:=by rw[show(a.length:Int).toNat+[c].length=a.length+1 by simp];rw[<-List.drop_drop,List.drop_left];try rfl
   rw[hd,qhn c f b (by simp only[Ga,La] at h;omega)];rw[List.count_append,List.count_cons_self,List.count_eq_zero.2 ha];omega
  rw[iV hc,zp fa,List.count_eq_zero.2 hc]
theorem qll(c:UInt8):∀ (k:Nat) (s:List UInt8),s.count c<=k->splitK [c] 0 k s=qg c s
 |0,s,h=>by have hc:c ∉ s:=List.count_eq_zero.1 ga;rw[splitK,gN hc]
 |k+1,s,h=>by
  rw[splitK];by_cases hc:c∈s
  ·obtain⟨a,b,rfl,ha⟩:=BZ hc
   rw[oV ha,zn (by
    intro h;have:=eq_of_beq h;omega),TZ ha]
   have hd:(a++c::b).drop ((a.length:Int).toNat+[c].length)=b:=by rw[show(a.length:Int).toNat+[c].length=a.length+1 by simp];rw[<-List.drop_drop,List.drop_left];try rfl
   rw[hd,show(a.length:Int).toNat+0=a.length by simp,List.take_left,qll c k b (by
    rw[List.count_append,List.count_cons_self] at h;omega)]
  rw[iV hc,zp fa,gN hc]
theorem qsf(c:UInt8)(s:List UInt8):split s [c]=qg c s:=by rw[split,count,qll c _ s (by rw[qhn c _ s (by omega)];exact Jb _)]
def full(l:List (List UInt8)):List Wd:=l.filter λw=>decide (w≠[])
def Ft(s:List UInt8):List Wd:=full (qg 32 (s.takeWhile λd=>decide (d≠35)))
def Nj(s:List UInt8):List Wd:=(qg 10 s).flatMap Ft
def sr(cur:List UInt8):List Wd:=if cur=[] then [] else [cur]
def Vz:List UInt8->Bool->List UInt8->List Wd
 |cur,_,[]=>sr cur
 |cur,Cu,c::r=>
  if c=10 then sr cur++Vz [] false r
  else if Cu=true then Vz cur true r
  else if c=35 then sr cur++Vz [] true r
  else if c=32 then sr cur++Vz [] false r
  else Vz (cur++[c]) false r
def jx(cur:List UInt8)(Cu:Bool)(l:List UInt8):List Wd:=if Cu=true then sr cur else Ft (cur++l)
theorem qwf(a b:List (List UInt8)):full (a++b)=full a++full b:=List.filter_append ..
theorem xY(a:List UInt8):full [a]=sr a:=by unfold full sr;by_cases h:a=[] <;> simp[h]
def vq(cur:List UInt8):Prop:=∀ c∈cur,c≠10/\c≠32/\c≠35
theorem qsx(h:vq cur)(l:List UInt8):Ft (cur++35::l)=sr cur:=by
 have h1:∀ x∈cur,decide (x≠35)=true:=λx hx=>by simp only[Gg];exact(h x hx).2.2
 have h2:(32:UInt8) ∉ cur:=λhx=>(h 32 hx).2.1 rfl;unfold Ft;rw[List.takeWhile_append_of_pos h1,List.takeWhile_cons_of_neg (by simp),de,gN h2,xY]
theorem PY(h:vq cur):Ft cur=sr cur:=by
 have h1:∀ x∈cur,decide (x≠35)=true:=λx hx=>by simp only[Gg];exact(h x hx).2.2
 have h2:(32:UInt8) ∉ cur:=λhx=>(h 32 hx).2.1 rfl;have h3:=List.takeWhile_append_of_pos (l₂:=[]) h1;rw[de,List.takeWhile_nil,de] at h3;unfold Ft;rw[h3,gN h2,xY]
theorem qk9(h:vq cur)(l:List UInt8):Ft (cur++32::l)=sr cur++Ft l:=by
 have h1:∀ x∈cur,decide (x≠35)=true:=λx hx=>by simp only[Gg];exact(h x hx).2.2
 have h2:(32:UInt8) ∉ cur:=λhx=>(h 32 hx).2.1 rfl;unfold Ft;rw[List.takeWhile_append_of_pos h1,List.takeWhile_cons_of_pos fa,TZ h2,<-List.singleton_append,qwf,xY]
theorem nM:∀ (s cur:List UInt8) (Cu:Bool) (p:List UInt8) (ps:List (List UInt8)),vq cur->(Cu=true->cur=[])->qg 10 s=p::ps->Vz cur Cu s=jx cur Cu p++ps.flatMap Ft
 |[],cur,Cu,p,ps,hc,WR,hp=>by
  cases hp;rw[Vz,jx];cases Cu with
  |true=>simp
  |false=>simp[PY hc]
 |c::r,cur,Cu,p,ps,hc,WR,hp=>by
  obtain⟨q,qs,hq⟩:=cV 10 r;rw[Vz];by_cases Yx:c=10;subst Yx;rw[xQ,hq] at hp;cases hp;rw[zp rfl,nM r [] false q qs (λx hx=>by cases hx) (by simp) hq];have:jx cur Cu []=sr cur:=by
   unfold jx;cases Cu with
   |true=>rfl
   |false=>rw[zn fa,de,PY hc]
  rw[this];simp[jx];clear hq;obtain⟨q,qs,hq,Xk⟩:=yV Yx r;rw[Xk] at hp;cases hp;rw[zn Yx];cases Cu with
  |true=>obtain rfl:=WR rfl;rw[zp rfl,nM r [] true q ps (λx hx=>by cases hx) (λ_=>rfl) hq];simp[jx]
  |false=>
   rw[zn fa];by_cases V5:c=35;subst V5;rw[zp rfl,nM r [] true q ps (λx hx=>by cases hx) (λ_=>rfl) hq];have:jx cur false (35::q)=sr cur:=by unfold jx;rw[zn fa,qsx hc]
   rw[this];simp[jx,sr];rw[zn V5];by_cases W5:c=32;subst W5;rw[zp rfl,nM r [] false q ps (λx hx=>by cases hx) (by simp) hq];have:jx cur false (32::q)=sr cur++Ft q:=by unfold jx;rw[zn fa,qk9 hc]
   rw[this,Sc];simp[jx];rw[zn W5,nM r (cur++[c]) false q ps (λx hx=>by
    rcases xj hx with h|h;exact hc x h;obtain rfl:=Vi h;exact⟨Yx,W5,V5⟩) (by simp) hq]
   simp[jx]
theorem qrd(s:List UInt8):Vz [] false s=Nj s:=by obtain⟨p,ps,hp⟩:=cV 10 s;rw[nM s [] false p ps (λx hx=>by cases hx) (by simp) hp];unfold Nj;rw[hp];simp[jx]
theorem qqN(ja:Wd->Bool):∀ (f:Nat) (l:List Wd),l.length<=f->rk ja f l=l∨(rk ja f l).length<l.length
 |0,l,h=>by have:l=[]:=List.eq_nil_of_length_eq_zero ga;subst this;exact .inl rfl
 |f+1,[],_=>.inl rfl
 |f+1,w::r,h=>by rw[rk];split;rcases qqN ja f r (by simp only[La] at h;omega) with h1|h1;rw[h1];exact .inl rfl;right;simp only[La];omega;rename_i h0;obtain⟨h1,h2⟩:=kH ja (w::r) h0;have:=hZ ja f ((w::r).drop (Ke ja (w::r)).1);rw[length_drop] at this;right;rw[Ga];omega
theorem TY(l:List Wd):Np l=l∨(Np l).length<l.length:=qqN _ _ l (Jb _)
def Wg:Nat->List Wd->List Wd
 |0,l=>l
 |f+1,l=>if Np l=l then l else Wg f (Np l)
def qi(l:List Wd):List Wd:=Wg l.length l
theorem qnl:∀ (f g:Nat) (l:List Wd),l.length<=f->l.length<=g->Wg f l=Wg g l
 |0,0,_,_,_=>rfl
 |0,g+1,l,h,_=>by have:l=[]:=List.eq_nil_of_length_eq_zero ga;subst this;rw[Wg,Wg,zp (by rfl)]
 |f+1,0,l,_,h=>by have:l=[]:=List.eq_nil_of_length_eq_zero ga;subst this;rw[Wg,Wg,zp (by rfl)]
 |f+1,g+1,l,h1,h2=>by rw[Wg,Wg];split;rfl;rename_i h;rcases TY l with h3|h3;exact absurd h3 h;exact qnl f g (Np l) ga ga
theorem qxB(h:Np l=l):qi l=l:=by
 unfold qi;cases l with
 |nil=>rfl
 |cons w r=>rw[La,Wg,zp h]
theorem qup(h:Np l≠l):qi l=qi (Np l):=by rcases TY l with h3|h3;exact absurd h3 h;have h4:∃ k,l.length=k+1:=⟨l.length-1,by omega⟩;obtain⟨k,hk⟩:=h4;unfold qi;rw[hk,Wg,zn h];exact qnl _ _ _ ga (Jb _)
theorem UY(h:i<v.length):ka v i∈v:=by unfold ka;rw[jh h];exact List.getElem_mem h
theorem NZ{op:Wd}(h:ak x op y=some s):∃ c,c<4294967296/\s=decDigits c:=by unfold ak at h;split at h;rename_i a b ha hb;split at h;rename_i c hc;split at h;cases h;exact⟨c,EP (HP ha) (HP hb) hc,rfl⟩;cases h;cases h;cases h
theorem qwj{P:Wd->Prop}(hd:∀ n,n<4294967296->P (decDigits n))(ja:Wd->Bool)(v:List Wd)(hv:∀ w∈v,P w):∀ w∈(Ke ja v).2,P w:=by
 have none:∀ n:Nat,∀ w∈((n,[]):Dr).2,P w:=λ_ w hw=>by cases hw
 by_cases h1:∃ s,Dn v=some s;obtain⟨s,h1⟩:=h1;rw[JT h1];obtain⟨c,hc,rfl⟩:=NZ h1;intro w hw;rcases Vi hw with rfl;exact hd c hc;have h1:Dn v=Option.none:=by
  cases h:Dn v with
  |none=>rfl
  |some s=>exact absurd ⟨s,h⟩ h1
 by_cases h2:Vu v;rw[zT h1 h2];exact none _;by_cases h3:Em v/\∃ s,Aq v=some s;obtain⟨h3,s,h4⟩:=h3;rw[DT h1 h2 h3 h4];obtain⟨c,hc,rfl⟩:=NZ h4;have h5:=Dq (xF h4).2.1;intro w hw;simp only[zc,not_mem_nil,or_false] at hw;rcases hw with rfl|rfl;exact hd c hc;exact hv _ (UY h5);have h3:¬ Em v∨Aq v=Option.none:=by by_cases hc:Em v;exact tE;exact .inl hc
 by_cases h4:fx v;rw[vT h1 h2 h3 h4];exact none _;by_cases h5:Wy v;rw[wT h1 h2 h3 h4 h5];obtain⟨l,hl⟩:=zR h5.1;have h6:=lA hl;intro w hw;simp only[zc,not_mem_nil,or_false] at hw;rcases hw with rfl|rfl;exact hv _ (UY ga);exact hv _ (UY ga);cases h6:qx v with
 |true=>rw[HT h1 h2 h3 h4 h5 h6];exact none _
 |false=>
  cases h7:My v with
  |true=>rw[MT h1 h2 h3 h4 h5 h6 h7];exact none _
  |false=>by_cases h8:CD v;rw[FT h1 h2 h3 h4 h5 h6 h7 h8];exact λw hw=>hv w (List.mem_of_mem_take hw);rw[CT h1 h2 h3 h4 h5 h6 h7 h8];unfold Su;split;split <;> exact none _;exact none _
theorem pQ{P:Wd->Prop}(hd:∀ n,n<4294967296->P (decDigits n))(ja:Wd->Bool):∀ (f:Nat) (l:List Wd),(∀ w∈l,P w)->∀ w∈rk ja f l,P w
 |0,_,_=>λw hw=>by cases hw
 |f+1,[],_=>λw hw=>by cases hw
 |f+1,a::r,hl=>by rw[rk];split;intro w hw;rcases zc.1 hw with rfl|hw;exact hl _ We;exact pQ hd ja f r (λx hx=>hl x (Pc _ hx)) w hw;intro w hw;rcases xj hw with hw|hw;exact qwj hd ja (a::r) hl w hw;exact pQ hd ja f _ (λx hx=>hl x (List.mem_of_mem_drop hx)) w hw
theorem qql{P:Wd->Prop}(hd:∀ n,n<4294967296->P (decDigits n)):∀ (f:Nat) (l:List Wd),(∀ w∈l,P w)->∀ w∈Wg f l,P w
 |0,l,h=>h
 |f+1,l,h=>by rw[Wg];split;exact h;exact qql hd f _ (pQ hd _ _ l h)
theorem qvs{P:Wd->Prop}(hd:∀ n,n<4294967296->P (decDigits n)){l:List Wd}(h:∀ w∈l,P w):∀ w∈qi l,P w:=qql hd _ l h
def Xj(w:Wd):Prop:=w≠[]/\vq w
theorem jQ(n:Nat):Xj (decDigits n):=⟨dK n,λc hc=>by
 have:=iN n c hc;refine⟨?_,?_,?_⟩ <;> (rintro rfl;exact absurd this fa)⟩
theorem qiY{c:UInt8}{l:List UInt8}:∀ p∈qg c l,c ∉ p/\∀ x∈p,x∈l:=by
 induction l with
 |nil=>intro p hp;obtain rfl:=Vi hp;exact⟨by simp,by simp⟩
 |cons d r ih=>intro p hp;by_cases h:d=c;subst h;rw[xQ] at hp;rcases zc.1 hp with rfl|hp;exact⟨by simp,by simp⟩;exact⟨(ih p hp).1,λx hx=>Pc _ ((ih p hp).2 x hx)⟩;obtain⟨q,qs,h1,h2⟩:=yV h r;rw[h2] at hp;rw[h1] at ih;rcases zc.1 hp with rfl|hp;have:=ih q We;refine⟨λhm=>?_,λx hx=>?_⟩;rcases zc.1 hm with e|hm;exact h e.symm;exact this.1 hm;rcases zc.1 hx with rfl|hx;exact mem_cons_self ..;exact Pc _ (this.2 x hx);have:=ih p (Pc _ hp);exact⟨this.1,λx hx=>Pc _ (this.2 x hx)⟩
theorem qpa{l:List UInt8}(h:(10:UInt8) ∉ l):∀ w∈Ft l,Xj w:=by
 intro w hw;obtain⟨h1,h2⟩:=List.mem_filter.1 hw;obtain⟨h3,h4⟩:=qiY w h1;refine⟨ag h2,λc hc=>⟨?_,?_,?_⟩⟩;rintro rfl;exact h ((List.takeWhile_prefix _).subset (h4 _ hc));rintro rfl;exact h3 hc;rintro rfl
 have:∀ (l:List UInt8),(35:UInt8) ∉ l.takeWhile λd=>decide (d≠35):=by
  intro l;induction l with
  |nil=>simp
  |cons d r ih=>rw[List.takeWhile_cons];split;rename_i hd;intro hm;rcases zc.1 hm with e|hm;rw[<-e] at hd;simp at hd;exact ih hm;simp
 exact this _ (h4 _ hc)
theorem qiR(s:List UInt8):∀ w∈Nj s,Xj w:=by intro w hw;obtain⟨p,hp,hw⟩:=List.mem_flatMap.1 hw;exact qpa (qiY p hp).1 w hw
theorem ZY(x y:Wd)(r:List Wd):join (x::y::r) [32]=x++32::join (y::r) [32]:=by simp[join]
theorem qon:∀ (l:List Wd),(∀ w∈l,Xj w)->(10:UInt8) ∉ join l [32]
 |[],_=>by simp[join]
 |[a],h=>by rw[join_one];exact λhm=>((h a We).2 10 hm).1 rfl
 |a::b::r,h=>by rw[ZY];intro hm;rcases xj hm with hm|hm;exact((h a We).2 10 hm).1 rfl;rcases zc.1 hm with e|hm;exact absurd e fa;exact qon (b::r) (λx hx=>h x (Pc _ hx)) hm
theorem qnH:∀ (l:List Wd),(∀ w∈l,Xj w)->Ft (join l [32])=l
 |[],_=>rfl
 |[a],h=>by obtain⟨h1,h2⟩:=h a We;rw[join_one,PY h2];simp[sr,h1]
 |a::b::r,h=>by obtain⟨h1,h2⟩:=h a We;rw[ZY,qk9 h2,qnH (b::r) λx hx=>h x (Pc _ hx)];simp[sr,h1]
theorem pV{l:List Wd}(h:∀ w∈l,Xj w):Nj (join l [32])=l:=by unfold Nj;rw[gN (qon l h)];simp[qnH l h]
theorem qvq{a b:List Wd}(ha:∀ w∈a,Xj w)(hb:∀ w∈b,Xj w)(h:join a [32]=join b [32]):a=b:=by rw[<-pV ha,<-pV hb,h]
theorem qrG{l:List Wd}(h:∀ w∈l,Xj w):∀ w∈Np l,Xj w:=pQ (λn _=>jQ n) _ _ l h
theorem quG{l:List Wd}(h:∀ w∈l,Xj w):∀ w∈qi l,Xj w:=qvs (λn _=>jQ n) h
def PD(s:List UInt8):List UInt8×Int:=if 400000<s.length then ([],6) else (join (qi (Nj s)) [32],0)
def Ef(l:List Wd):Nat:=(l.map λw=>w.length+1).sum
theorem Zj(w:Wd)(l:List Wd):Ef (w::l)=w.length+1+Ef l:=by simp[Ef]
theorem ml:Ef []=0:=rfl
theorem Vl(a b:List Wd):Ef (a++b)=Ef a+Ef b:=by simp[Ef]
theorem qnM(l:List Wd)(n:Nat):Ef l=Ef (l.take n)+Ef (l.drop n):=by rw[<-Vl,take_append_drop]
theorem IM:∀ l:List Wd,(join l [32]).length<=Ef l
 |[]=>zero_le _
 |[a]=>by rw[join_one,Zj];omega
 |a::b::r=>by have:=IM (b::r);rw[ZY,Zj];simp only[Ga,La];omega
theorem tQ{op:Wd}(h:ak x op y=some s):s.length<=x.length+y.length+1:=by unfold ak at h;split at h;split at h;split at h;rename_i hle;cases h;exact hle;cases h;cases h;cases h
theorem qvf(ja:Wd->Bool)(v:List Wd):Ef (Ke ja v).2<=Ef (v.take (Ke ja v).1):=by
 by_cases h1:∃ s,Dn v=some s;obtain⟨s,h1⟩:=h1;rw[JT h1];have hl:=tQ h1;have Ja:=Dq (xF h1).2.1;match v,Ja,hl with
 |a::b::c::r,_,hl=>simp only[ka,al,dr,getD_some] at hl;simp only[take_succ_cons,take_zero,Zj,ml];omega
 have h1:Dn v=Option.none:=by
  cases h:Dn v with
  |none=>rfl
  |some s=>exact absurd ⟨s,h⟩ h1
 by_cases h2:Vu v;rw[zT h1 h2];exact zero_le _;by_cases h3:Em v/\∃ s,Aq v=some s;obtain⟨h3,s,h4⟩:=h3;rw[DT h1 h2 h3 h4];have hl:=tQ h4;have h5:ka v 3≠[]:=by rw[h3.2];exact(xF h4).2.1
 have Ja:=Dq h5;match v,Ja,hl with
 |a::b::c::d::r,_,hl=>simp only[ka,al,dr,getD_some] at hl ⊢;simp only[take_succ_cons,take_zero,Zj,ml];omega
 have h3:¬ Em v∨Aq v=Option.none:=by by_cases hc:Em v;exact tE;exact .inl hc
 by_cases h4:fx v;rw[vT h1 h2 h3 h4];exact zero_le _;by_cases h5:Wy v;rw[wT h1 h2 h3 h4 h5];obtain⟨l,hl⟩:=zR h5.1;have h6:=lA hl;match v,h6 with
 |a::b::c::d::e::f::r,_=>simp only[ka,al,dr,getD_some];simp only[take_succ_cons,take_zero,Zj,ml];omega
 cases h6:qx v with
 |true=>rw[HT h1 h2 h3 h4 h5 h6];exact zero_le _
 |false=>
  cases h7:My v with
  |true=>rw[MT h1 h2 h3 h4 h5 h6 h7];exact zero_le _
  |false=>by_cases h8:CD v;rw[FT h1 h2 h3 h4 h5 h6 h7 h8];simp only;have:=qnM (v.take (Mj v+Cq (v.drop (Mj v)))) (Mj v);rw[List.take_take,Nat.min_eq_left (by omega)] at this;omega;rw[CT h1 h2 h3 h4 h5 h6 h7 h8];unfold Su;split;split <;> exact zero_le _;exact zero_le _
theorem KU(ja:Wd->Bool):∀ (f:Nat) (l:List Wd),Ef (rk ja f l)<=Ef l
 |0,_=>zero_le _
 |f+1,[]=>Jb _
 |f+1,a::r=>by rw[rk];split;rw[Zj,Zj];have:=KU ja f r;omega;have h1:=qvf ja (a::r);have h2:=KU ja f ((a::r).drop (Ke ja (a::r)).1);have h3:=qnM (a::r) (Ke ja (a::r)).1;rw[Vl];omega
theorem qq2:∀ (f:Nat) (l:List Wd),Ef (Wg f l)<=Ef l
 |0,l=>Jb _
 |f+1,l=>by rw[Wg];split;exact Jb _;exact Qf (qq2 f _) (KU _ _ l)
theorem JM:∀ (s cur:List UInt8) (Cu:Bool),Ef (Vz cur Cu s)<=cur.length+s.length+1
 |[],cur,Cu=>by rw[Vz];unfold sr;split;exact zero_le _;simp[Ef]
 |c::r,cur,Cu=>by
  have hf:Ef (sr cur)<=cur.length+1:=by unfold sr;split;exact zero_le _;simp[Ef]
  rw[Vz];simp only[La];split;have:=JM r [] false;rw[Vl];simp only[oc] at this;omega;split;have:=JM r cur true;omega;split;have:=JM r [] true;rw[Vl];simp only[oc] at this;omega;split;have:=JM r [] false;rw[Vl];simp only[oc] at this;omega;have:=JM r (cur++[c]) false;rw[Ga,List.length_singleton] at this;omega
theorem fV(s:List UInt8):Ef (Nj s)<=s.length+1:=by rw[<-qrd];have:=JM s [] false;simpa using this
theorem qwL(s:List UInt8):(join (qi (Nj s)) [32]).length<=s.length+1:=
 Qf (IM _) (Qf (qq2 _ _) (fV s))
theorem qpW(c:UInt8)(r:List UInt8):Ju (c::r)=(decide ((c::r).length<=40) && tl c && (c::r).all Ni):=rfl
theorem qwy(h:Ju s=true):s≠[]:=by rintro rfl;cases h
def BD:Nat->List (List UInt8)->List (Wd×Nat)
 |_,[]=>[]
 |n,l::r=>(Ft l).map (λw=>(w,n+1))++BD (n+1) r
def Ku(s:List UInt8):List (Wd×Nat):=BD 0 (qg 10 s)
theorem qnc:∀ (l:List (List UInt8)) (n:Nat),(BD n l).map (·.1)=l.flatMap Ft
 |[],_=>rfl
 |a::r,n=>by rw[BD,Je,List.map_map,qnc r];simp[Function.comp_def]
theorem aK(s:List UInt8):(Ku s).map (·.1)=Nj s:=qnc _ 0
theorem qq8{l:List (List UInt8)}(h:i<l.length)(n:Nat):BD n (l.drop i)=(Ft l[i]).map (λw=>(w,n+1))++BD (n+1) (l.drop (i+1)):=by rw[List.drop_eq_getElem_cons h,BD]
theorem qsz{l:List (List UInt8)}(h:i<l.length):full (l.drop i)=if l[i]=[] then full (l.drop (i+1)) else l[i]::full (l.drop (i+1)):=by rw[List.drop_eq_getElem_cons h];unfold full;rw[List.filter_cons];by_cases hc:l[i]=[];simp[hc];simp[hc]
theorem VZ(c:UInt8):∀ s,(qg c s).length<=s.length+1
 |[]=>by simp[qg]
 |d::r=>by have:=VZ c r;by_cases h:d=c;subst h;rw[xQ];simp only[La];omega;obtain⟨p,ps,h1,h2⟩:=yV h r;rw[h2];rw[h1] at this;simp only[La] at this ⊢;omega
theorem AV{c:UInt8}:∀ {s p:List UInt8},p∈qg c s->p.length<=s.length
 |[],p,h=>by obtain rfl:=Vi h;exact Jb _
 |d::r,p,h=>by by_cases hd:d=c;subst hd;rw[xQ] at h;rcases zc.1 h with rfl|h;exact zero_le _;have:=AV h;simp only[La];omega;obtain⟨q,qs,h1,h2⟩:=yV hd r;rw[h2] at h;rcases zc.1 h with rfl|h;have:=AV (c:=c) (s:=r) (p:=q) (by rw[h1];exact mem_cons_self ..);simp only[La];omega;have:=AV (c:=c) (s:=r) (p:=p) (by rw[h1];exact Pc _ h);simp only[La];omega
theorem OZ(s:List UInt8):(Nj s).length<=s.length+1:=by
 have h1:=fV s;have h2:(Nj s).length<=Ef (Nj s):=by
  unfold Ef;generalize Nj s=l;induction l with
  |nil=>exact Jb _
  |cons a l ih=>simp only[La,jd,List.sum_cons];omega
 omega
theorem M'(h:w∈l):w.length+1<=Ef l:=by
 induction l with
 |nil=>cases h
 |cons a l ih=>rw[Zj];rcases zc.1 h with rfl|h;omega;have:=ih h;omega
theorem cU(l:List Wd):l.length<=Ef l:=by
 induction l with
 |nil=>exact zero_le _
 |cons a l ih=>rw[Zj,La];omega
theorem quH(l:List Wd):Ef (Np l)<=Ef l:=KU _ _ _
def cA:List UInt8:=[43,45,42,47,37,94,60,64,33,63,58,59,44,46,36,48,49,50,51,52,53,54,55,56,57]
def dx(w:Wd):Bool:=w.all λc=>cA.contains c
def Ib(l:List Wd):List Wd:=l.filterMap ya
def Ko(ds:List Wd)(w:Wd):Prop:=match ya w with
 |some _=>True
 |none=>match Va w with
  |some d=>d∈ds
  |none=>dx w=true
def Et(l:List Wd):Prop:=(Ib l).Nodup/\∀ w∈l,Ko (Ib l) w
def Wl(w:Wd):Bool:=match w with
 |[]=>false
 |c::_=>me c
def Jf(w:Wd):Bool:=match w.getLast? with
 |some c=>me c
 |none=>false
def one(d:Bool):Nat:=if d=true then 1 else 0
def bc:Bool->List Wd->Nat
 |_,[]=>0
 |d,w::r=>match ya w with
  |some _=>bc d r
  |none=>match Va w with
   |some _=>one d+6+bc true r
   |none=>one (d && Wl w)+w.length+bc (Jf w) r
structure Sign(w:Wd):Prop where
 d:ya w=none
 r:Va w=none
 f:Wl w=false
 l:Jf w=false
 n:w.length=1
structure FA(w:Wd):Prop where
 d:ya w=none
 r:Va w=none
 f:Wl w=true
 l:Jf w=true
 n:1<=w.length
 c:dx w=true
theorem qlg(h:me c=true):cA.contains c=true:=by
 have:∀ n:Nat,n<256->me (UInt8.ofNat n)=true->cA.contains (UInt8.ofNat n)=true:=by decide +kernel
 have h1:=this c.toNat c.toNat_lt;rw[UInt8.ofNat_toNat] at h1;exact h1 h
theorem JP(n:Nat):FA (decDigits n):=by
 have hd:=iN n;have Fb:=dK n;generalize decDigits n=w at hd Fb;cases w with
 |nil=>exact absurd rfl Fb
 |cons c r=>have hc:=hd c We;have hl:(c::r).getLast? = some ((c::r).getLast (by simp)):=List.getLast?_eq_some_getLast (by simp);have I4:=hd _ (getLast_mem (l:=c::r) (by simp));refine⟨?_,?_,hc,?_,by simp,?_⟩;unfold ya;rw[hl,zn];intro h;rw[Option.some.inj h.1] at I4;exact absurd I4 fa;unfold Va;simp only;rw[zn];intro h;rw[h.1] at hc;exact absurd hc fa;unfold Jf;rw[hl];exact I4;unfold dx;rw[List.all_eq_true];exact λx hx=>qlg (hd x hx)
theorem FP(h:Eb w=some n):FA w:=by rw[<-((zB w n).1 h).2];exact JP n
theorem Vy(h:w∈([[43],[45],[42],[94],[60],[47],[37],[64],[33],[63],[59],[36]]:List Wd)):Sign w:=by
 have:∀ w∈([[43],[45],[42],[94],[60],[47],[37],[64],[33],[63],[59],[36]]:List Wd),ya w=none/\Va w=none/\Wl w=false/\Jf w=false/\w.length=1:=by decide +kernel
 obtain⟨h1,h2,h3,h4,h5⟩:=this w h;exact⟨h1,h2,h3,h4,h5⟩
theorem qsO{c:Nat}{op:Wd}(h:Yo a op b=some c):Sign op:=by apply Vy;unfold Yo at h;simp only[zc,not_mem_nil,or_false];split at h;exact .inl ‹_›;split at h;exact .inr (.inl ‹_›);split at h;exact .inr (.inr (.inl ‹_›));split at h;exact .inr (.inr (.inr (.inl ‹_›)));split at h;exact .inr (.inr (.inr (.inr (.inl ‹_›))));split at h;exact .inr (.inr (.inr (.inr (.inr (.inl ‹_›)))));split at h;exact .inr (.inr (.inr (.inr (.inr (.inr (.inl ‹_›))))));cases h
theorem C1{op:Wd}(h:ak x op y=some s):FA x/\Sign op/\FA y/\FA s:=by obtain⟨c,_,rfl⟩:=NZ h;unfold ak at h;split at h;rename_i a b ha hb;split at h;rename_i c' hc;exact⟨FP ha,qsO hc,FP hb,JP c⟩;cases h;cases h
theorem dt{d:Wd}(h:Va w=some d):ya w=none:=by
 unfold Va at h;split at h;cases h;rename_i c r;split at h;rename_i hc;obtain⟨rfl,hn⟩:=hc;unfold ya;rw[zn];rintro⟨_,h2⟩;cases r with
 |nil=>cases hn
 |cons e r=>
  rw[List.dropLast_cons_of_ne_nil (by simp),qpW] at h2;have:tl 38=false:=by decide
  rw[this] at h2;simp at h2
 cases h
theorem HZ{l:Wd}(h:zm v i=some l):Va (ka v i)=some l/\ka v (i+1)=[63]:=by unfold zm at h;split at h;rename_i d hd;split at h;cases h;exact⟨hd,‹_›⟩;cases h;cases h
theorem qvJ{l:Wd}(h:ya w=some l)(d:Bool)(r:List Wd):bc d (w::r)=bc d r:=by rw[bc,h]
theorem qqf{l:Wd}(h:Va w=some l)(d:Bool)(r:List Wd):bc d (w::r)=one d+6+bc true r:=by rw[bc,dt h,h]
theorem Sign.len(h:Sign w)(d:Bool)(r:List Wd):bc d (w::r)=1+bc false r:=by rw[bc,h.d,h.r,h.f,h.l,h.n,Bool.and_false];simp[one]
theorem FA.len(h:FA w)(d:Bool)(r:List Wd):bc d (w::r)=one d+w.length+bc true r:=by rw[bc,h.d,h.r,h.f,h.l,Bool.and_true]
theorem one_le(d:Bool):one d<=1:=by cases d <;> simp[one]
theorem MX:∀ r:List Wd,bc true r<=bc false r+1/\bc false r<=bc true r
 |[]=>⟨by simp[bc],by simp[bc]⟩
 |w::r=>by
  have ih:=MX r;have e1:one true=1:=rfl;have e0:one false=0:=rfl;have h1:=one_le (Wl w);rw[bc,bc];cases ya w with
  |some l=>exact ih
  |none=>
   cases Va w with
   |some l=>simp only;omega
   |none=>simp only[Bool.true_and,Ui,e0];omega
theorem DY(d:Bool)(r:List Wd):bc d r<=bc false r+1/\bc false r<=bc d r:=by
 cases d with
 |true=>exact MX r
 |false=>exact⟨by omega,Jb _⟩
theorem WM(r:List Wd):∀ (m:List Wd) (d:Bool),bc false r<=bc d (m++r)
 |[],d=>(DY d r).2
 |w::m,d=>by
  rw[cons_append,bc];cases ya w with
  |some l=>exact WM r m d
  |none=>
   cases Va w with
   |some l=>have:=WM r m true;simp only;omega
   |none=>have:=WM r m (Jf w);simp only;omega
theorem wZ(h:FA w∨Sign w)(m r:List Wd)(d:Bool):bc d r<=bc d (w::(m++r)):=by have h1:=(DY d r).1;rcases h with h|h;have h2:=WM r m true;have h3:=h.n;rw[h.len];omega;have h2:=WM r m false;rw[h.len];omega
theorem nQ{x y:List Wd}(h:∀ d,bc d x<=bc d y):∀ (m:List Wd) (d:Bool),bc d (m++x)<=bc d (m++y)
 |[],d=>h d
 |w::m,d=>by
  rw[cons_append,cons_append,bc,bc];cases ya w with
  |some l=>exact nQ h m d
  |none=>
   cases Va w with
   |some l=>have:=nQ h m true;simp only;omega
   |none=>have:=nQ h m (Jf w);simp only;omega
theorem AF(w:Wd)(l:List Wd):Ib (w::l)=(match ya w with|some d=>[d]|none=>[])++Ib l:=by unfold Ib;rw[List.filterMap_cons];try cases ya w <;> rfl
theorem tk(h:ya w=none)(l:List Wd):Ib (w::l)=Ib l:=by rw[AF,h];try rfl
theorem jA(a b:List Wd):Ib (a++b)=Ib a++Ib b:=List.filterMap_append
theorem O9{p:Wd->Bool}:∀ {l:List Wd} {x:Wd},x∈l.takeWhile p->p x=true
 |[],x,h=>by cases h
 |a::l,x,h=>by
  rw[List.takeWhile_cons] at h;split at h;rcases zc.1 h with rfl|h
  assumption
  exact O9 h;cases h
structure Fu(ja:Wd->Bool)(v:List Wd)(r:Dr):Prop where
 len:∀ d da,bc d (r.2++da)<=bc d (v.take r.1++da)
 put:Ib r.2=[]
 PO:∀ d∈Ib (v.take r.1),ja d=false
theorem Sv:FA [48]:=JP 0 |> λh=>by rwa [decDigits_one fa] at h
theorem ez:FA [49]:=JP 1 |> λh=>by rwa [decDigits_one fa] at h
theorem PU(ja:Wd->Bool)(v:List Wd)(h:(Ke ja v).1≠0):Fu ja v (Ke ja v):=by
 by_cases h1:∃ s,Dn v=some s
 ·obtain⟨s,h1⟩:=h1;rw[JT h1];have hl:=tQ h1;have Ja:=Dq (xF h1).2.1;obtain⟨k1,k2,k3,k4⟩:=C1 h1
  match v,Ja,hl,k1,k2,k3 with
  |a::b::c::r,_,hl,k1,k2,k3=>simp only[ka,al,dr,getD_some] at hl k1 k2 k3;refine⟨λd da=>?_,by rw[tk k4.d];try rfl,λd hd=>?_⟩;simp only[take_succ_cons,take_zero,cons_append,nil_append];rw[k4.len,k1.len,k3.len,k2.len];have:=(MX da).1;have e1:one true=1:=rfl;omega;simp only[take_succ_cons,take_zero] at hd;rw[tk k1.d,tk k3.d,tk k2.d] at hd;cases hd
 have h1:Dn v=Option.none:=by
  cases h:Dn v with
  |none=>rfl
  |some s=>exact absurd ⟨s,h⟩ h1
 by_cases h2:Vu v;rw[zT h1 h2];have Xc:FA (ka v 0)/\Sign (ka v 1):=by rcases h2 with⟨e,h|h|h⟩|⟨e,h|h⟩;exact⟨by rw[e];exact Sv,by rw[h];exact Vy fa⟩;exact⟨by rw[e];exact Sv,by rw[h];exact Vy fa⟩;exact⟨by rw[e];exact Sv,by rw[h];exact Vy fa⟩;exact⟨by rw[e];exact ez,by rw[h];exact Vy fa⟩;exact⟨by rw[e];exact ez,by rw[h];exact Vy fa⟩
 have Ja:1<v.length:=Dq (by intro h0;have:=Xc.2.n;rw[h0] at this;cases this);match v,Ja,Xc with
 |a::b::r,_,Xc=>simp only[ka,al,dr,getD_some] at Xc;refine⟨λd da=>wZ (.inl Xc.1) [b] da d,rfl,λd hd=>?_⟩;simp only[take_succ_cons,take_zero] at hd;rw[tk Xc.1.d,tk Xc.2.d] at hd;cases hd
 by_cases h3:Em v/\∃ s,Aq v=some s
 ·obtain⟨h3,s,h4⟩:=h3;rw[DT h1 h2 h3 h4];have hl:=tQ h4;have h5:ka v 3≠[]:=by rw[h3.2];exact(xF h4).2.1
  have Ja:=Dq h5;have xG:=h3.2;obtain⟨k1,k2,k3,k4⟩:=C1 h4;match v,Ja,hl,k1,k2,k3,xG with
  |a::b::c::e::r,_,hl,k1,k2,k3,xG=>simp only[ka,al,dr,getD_some] at hl k1 k2 k3 xG ⊢;subst xG;refine⟨λd da=>?_,by rw[tk k4.d,tk k2.d];try rfl,λd hd=>?_⟩;simp only[take_succ_cons,take_zero,cons_append,nil_append];rw[k4.len,k1.len,k2.len,k2.len,k3.len,k2.len];omega;simp only[take_succ_cons,take_zero] at hd;rw[tk k1.d,tk k2.d,tk k3.d,tk k2.d] at hd;cases hd
 have h3:¬ Em v∨Aq v=Option.none:=by by_cases hc:Em v;exact tE;exact .inl hc
 by_cases h4:fx v;rw[vT h1 h2 h3 h4];obtain⟨g1,g2,g3,g4⟩:=h4;obtain⟨n,hn⟩:=zR g1;have kn:=FP hn;have Ja:=Dq (v:=v) (i:=3) (by rw[g4];decide);match v,Ja,g2,g3,g4,kn with
 |a::b::c::e::r,_,g2,g3,g4,kn=>simp only[ka,al,dr,getD_some] at g2 g3 g4 kn;subst g2 g3 g4;refine⟨λd da=>wZ (.inl kn) [[64],c,[33]] da d,rfl,λd hd=>?_⟩;simp only[take_succ_cons,take_zero] at hd;rw[tk kn.d,tk (Vy fa).d,tk kn.d,tk (Vy fa).d] at hd;cases hd
 by_cases h5:Wy v
 ·rw[wT h1 h2 h3 h4 h5];obtain⟨g0,g1,g2,g3,g4⟩:=h5;obtain⟨l,hl⟩:=zR g0;have h6:=lA hl;obtain⟨j1,j2⟩:=HZ hl
  match v,h6,g1,g2,g3,g4,j1,j2 with
  |a::b::c::e::p::q::r,_,g1,g2,g3,g4,j1,j2=>simp only[ka,al,dr,getD_some] at g1 g2 g3 g4 j1 j2 ⊢;subst g1 g2 g3 g4 j2;have qT:Sign [60]:=Vy fa;have QL:Sign [63]:=Vy fa;refine⟨λd da=>?_,by rw[tk (dt j1),tk QL.d];try rfl,λd hd=>?_⟩;simp only[take_succ_cons,take_zero,cons_append,nil_append];rw[ez.len,qT.len,ez.len,qT.len];have:=(DY d (p::[63]::da)).1;have e1:([49]:Wd).length=1:=rfl;omega;simp only[take_succ_cons,take_zero] at hd;rw[tk ez.d,tk qT.d,tk ez.d,tk qT.d,tk (dt j1),tk QL.d] at hd;cases hd
 have three:∀ (x:Wd),FA x->ka v 0=x->(zm v 1).isSome=true->Fu ja v (3,[]):=λx hx h0 hj=>by
  obtain⟨l,hl⟩:=zR hj;have h6:=lA hl;obtain⟨j1,j2⟩:=HZ hl;clear h hj;match v,h6,h0,j1,j2 with
  |a::p::q::r,_,h0,j1,j2=>simp only[ka,al,dr,getD_some] at h0 j1 j2;subst h0 j2;refine⟨λd da=>wZ (.inl hx) [p,[63]] da d,rfl,λd hd=>?_⟩;simp only[take_succ_cons,take_zero] at hd;rw[tk hx.d,tk (dt j1),tk (Vy fa).d] at hd;cases hd
 cases h6:qx v with
 |true=>rw[HT h1 h2 h3 h4 h5 h6];unfold qx at h6;split at h6;rename_i n hn;exact three _ (FP hn) rfl (ag h6).2;cases h6
 |false=>
  cases h7:My v with
  |true=>
   rw[MT h1 h2 h3 h4 h5 h6 h7];unfold My at h7;split at h7
   ·rename_i l hl
    exact three _ Sv (ag h7).1 (by rw[hl];try rfl)
   cases h7
  |false=>
   by_cases h8:CD v
   ·rw[FT h1 h2 h3 h4 h5 h6 h7 h8]
    have Kk:Ib (v.take (Mj v))=[]/\∀ (d:Bool) (x y:List Wd),bc false x<=bc false y->bc d (v.take (Mj v)++x)<=bc d (v.take (Mj v)++y):=by
     have hp:=h8.1;revert hp;unfold Mj;split
     ·rename_i hj
      intro _;obtain⟨l,hl⟩:=zR hj.1;have h6:=lA hl;obtain⟨j1,j2⟩:=HZ hl;have h0:=hj.2;clear hj h8 hl h h1 h2 h3 h4 h5 h7 three;match v,h6,h0,j1,j2 with
      |a::p::q::r,_,h0,j1,j2=>
       simp only[ka,al,dr,getD_some] at h0 j1 j2;subst h0 j2;have QL:Sign [63]:=Vy fa;refine⟨?_,λd x y J2=>?_⟩
       ·simp only[take_succ_cons,take_zero];rw[tk Sv.d,tk (dt j1),tk QL.d]
        try rfl
       simp only[take_succ_cons,take_zero,cons_append,nil_append];rw[Sv.len,Sv.len,qqf j1,qqf j1,QL.len,QL.len];omega
     split
     ·rename_i hs
      intro _;have UD:Sign (ka v 0):=by rcases hs with h|h <;> rw[h] <;> exact Vy fa
      have Ja:0<v.length:=Dq (by intro h0;have:=UD.n;rw[h0] at this;cases this);clear hs h8 h h1 h2 h3 h4 h5 h6 h7 three;match v,Ja,UD with
      |a::r,_,UD=>
       simp only[ka,al,getD_some] at UD;refine⟨?_,λd x y J2=>?_⟩
       ·simp only[take_succ_cons,take_zero];rw[tk UD.d]
        try rfl
       simp only[take_succ_cons,take_zero,cons_append,nil_append];rw[UD.len,UD.len];omega
     intro hp;omega
    have fG:v.take (Mj v+Cq (v.drop (Mj v)))=v.take (Mj v)++(v.drop (Mj v)).takeWhile λw=>(ya w).isNone:=by rw[List.take_add];congr 1;unfold Cq;exact(List.prefix_iff_eq_take.1 (List.takeWhile_prefix _)).symm
    refine⟨λd da=>?_,Kk.1,λd hd=>?_⟩;simp only;rw[fG,Sc];exact Kk.2 d _ _ (WM da _ false);simp only at hd;rw[fG,jA,Kk.1,nil_append] at hd;exfalso;obtain⟨w,hw,hwd⟩:=List.mem_filterMap.1 hd;have:=O9 hw;rw[hwd] at this;cases this
   rw[CT h1 h2 h3 h4 h5 h6 h7 h8] at h ⊢;have hU:Su ja v=match ya (ka v 0) with
    |some l=>if ja l=true then (0,[]) else (1,[])
    |none=>(0,[]):=rfl
   cases hd:ya (ka v 0) with
   |none=>rw[hd] at hU;rw[hU] at h;exact absurd rfl h
   |some l=>
    rw[hd] at hU;simp only at hU;by_cases hu:ja l=true;rw[zp hu] at hU;rw[hU] at h;exact absurd rfl h;rw[zn hu] at hU;rw[hU];have Ja:0<v.length:=Dq (by intro h0;rw[h0] at hd;cases hd);clear hU h h1 h2 h3 h4 h5 h6 h7 h8 three;match v,Ja,hd with
    |a::r,_,hd=>
     simp only[ka,al,getD_some] at hd;refine⟨λd da=>?_,rfl,λd MC=>?_⟩;simp only[take_succ_cons,take_zero,cons_append,nil_append];rw[qvJ hd];exact Jb _;simp only[take_succ_cons,take_zero] at MC;rw[AF,hd] at MC;have:d=l:=by simpa [Ib] using MC
     rw[this];exact Bool.eq_false_iff.2 hu
theorem WZ(ja:Wd->Bool):∀ (f:Nat) (l:List Wd) (d:Bool),l.length<=f->bc d (rk ja f l)<=bc d l
 |0,l,d,h=>by have:l=[]:=List.eq_nil_of_length_eq_zero ga;subst this;exact Jb _
 |f+1,[],d,_=>Jb _
 |f+1,w::r,d,h=>by
  rw[rk];split;exact nQ (x:=rk ja f r) (y:=r) (λd=>WZ ja f r d (by simp only[La] at h;omega)) [w] d
  rename_i h0;have hR:=PU ja (w::r) h0;have hk:=kH ja (w::r) h0;have ih:=λd=>WZ ja f ((w::r).drop (Ke ja (w::r)).1) d (by rw[length_drop];omega);have h1:=nQ ih (Ke ja (w::r)).2 d;have h2:=hR.len d ((w::r).drop (Ke ja (w::r)).1);rw[take_append_drop] at h2;exact Qf h1 h2
theorem IZ(ja:Wd->Bool):∀ (f:Nat) (l:List Wd),l.length<=f->(Ib (rk ja f l)).Sublist (Ib l)/\∀ d∈Ib l,ja d=true->d∈Ib (rk ja f l)
 |0,l,h=>by have:l=[]:=List.eq_nil_of_length_eq_zero ga;subst this;exact⟨List.Sublist.refl _,λd hd=>by cases hd⟩
 |f+1,[],_=>⟨List.Sublist.refl _,λd hd=>by cases hd⟩
 |f+1,w::r,h=>by
  rw[rk];split;obtain⟨i1,i2⟩:=IZ ja f r (by simp only[La] at h;omega);rw[AF w r,AF w (rk ja f r)];refine⟨List.Sublist.append (List.Sublist.refl _) i1,λd hd hu=>?_⟩;rcases xj hd with hd|hd;exact List.mem_append_left _ hd;exact List.mem_append_right _ (i2 d hd hu)
  rename_i h0;have hR:=PU ja (w::r) h0;obtain⟨i1,i2⟩:=IZ ja f ((w::r).drop (Ke ja (w::r)).1) (by have:=kH ja (w::r) h0;rw[length_drop];omega);have hs:Ib (w::r)=Ib ((w::r).take (Ke ja (w::r)).1)++Ib ((w::r).drop (Ke ja (w::r)).1):=by rw[<-jA,take_append_drop]
  rw[jA,hR.put,nil_append];refine⟨i1.trans (by rw[hs];exact List.sublist_append_right _ _),λd hd hu=>?_⟩;rw[hs] at hd;rcases xj hd with hd|hd;rw[hR.PO d hd] at hu;cases hu;exact i2 d hd hu
theorem qqk(h:Et l):Et (Np l):=by
 obtain⟨h1,h2⟩:=h;obtain⟨i1,i2⟩:=IZ (Ad l) l.length l (Jb _);refine⟨h1.sublist i1,λw hw=>?_⟩;have hm:=pQ (P:=λw=>w∈l∨∃ n,w=decDigits n) (λn _=>.inr ⟨n,rfl⟩) (Ad l) l.length l (λw hw=>.inl hw) w hw;rcases hm with hm|⟨n,rfl⟩;have hk:=h2 w hm;unfold Ko at hk ⊢
 cases hd:ya w with
 |some d=>trivial
 |none=>
  rw[hd] at hk;simp only at hk ⊢;cases hr:Va w with
  |none=>rw[hr] at hk;exact hk
  |some d=>rw[hr] at hk;simp only at hk ⊢;refine i2 d hk ?_;unfold Ad;rw[List.any_eq_true];exact⟨w,hm,Nf hr⟩
 have hk:=JP n;unfold Ko;rw[hk.d,hk.r];exact hk.c
theorem qpO:∀ (f:Nat) (l:List Wd),Et l->Et (Wg f l)/\bc false (Wg f l)<=bc false l
 |0,l,h=>⟨h,Jb _⟩
 |f+1,l,h=>by rw[Wg];split;exact⟨h,Jb _⟩;obtain⟨i1,i2⟩:=qpO f _ (qqk h);exact⟨i1,Qf i2 (WZ _ _ l false (Jb _))⟩
theorem qx3(h:Et l):Et (qi l)/\bc false (qi l)<=bc false l:=qpO _ _ h
def Qp(n:Nat):Wd:=([48,48,48,48,48]++decDigits n).drop (([48,48,48,48,48]++decDigits n).length-6)
def af(known:Wd->Nat)(w:Wd):Wd:=match Va w with
 |some x=>Qp (known x)
 |none=>w
def ze(known:Wd->Nat)(t w:Wd):Wd:=match ya w with
 |some _=>t
 |none=>t++(if Jf t && Wl (af known w) then [32] else [])++af known w
def ll(known:Wd->Nat)(l:List Wd):Wd:=l.foldl (ze known) []
def Tg(known:Wd->Nat)(og:Nat)(s:Wd×List (Wd×Nat))(w:Wd):Wd×List (Wd×Nat):=match ya w with
 |some x=>(s.1,s.2++[(x,og+s.1.length)])
 |none=>(ze known s.1 w,s.2)
def Lp(known:Wd->Nat)(og:Nat)(l:List Wd):List (Wd×Nat):=(l.foldl (Tg known og) ([],[])).2
def wo(ub:List (Wd×Nat))(x:Wd):Nat:=match ub.find? λp=>decide (p.1=x) with
 |some p=>p.2
 |none=>0
def Qe(all:List Wd):List Wd->List (Wd×Nat)->Nat×Nat
 |_,[]=>(0,0)
 |met,(w,ln)::r=>match ya w with
  |some x=>if x∈met then (ln,8) else Qe all (met++[x]) r
  |none=>match Va w with
   |some x=>if x∈all then Qe all met r else (ln,7)
   |none=>if dx w=true then Qe all met r else (ln,3)
def Gh(src:Wd)(og:Int):Except (Nat×Nat) (Wd×List (Wd×Nat)):=
 if og<0∨262144<=og then .error (0,2)
 else if (Qe (Ib (Nj src)) [] (Ku src)).2≠0 then .error (Qe (Ib (Nj src)) [] (Ku src))
 else if 40000<(ll (wo (Lp (λ_=>0) og.toNat (Nj src))) (Nj src)).length then .error (0,6)
 else .ok (ll (wo (Lp (λ_=>0) og.toNat (Nj src))) (Nj src),Lp (λ_=>0) og.toNat (Nj src))
theorem oQ(n:Nat):(Qp n).length=6/\∀ c∈Qp n,me c=true:=by have h1:1<=(decDigits n).length:=List.length_pos_iff.2 (dK n);constructor;unfold Qp;rw[length_drop,Ga];simp only[La,oc];omega;intro c hc;have h2:=List.mem_of_mem_drop hc;rcases xj h2 with h|h;simp only[zc,not_mem_nil,or_false,or_self] at h;rw[h];decide;exact iN n c h
theorem qpg{known:Wd->Nat}(Fe:Wd->Nat):Wl (af known w)=Wl (af Fe w)/\Jf (af known w)=Jf (af Fe w)/\(af known w).length=(af Fe w).length:=by
 unfold af;cases Va w with
 |none=>exact⟨rfl,rfl,rfl⟩
 |some x=>
  have key:∀ n,Wl (Qp n)=true/\Jf (Qp n)=true/\(Qp n).length=6:=λn=>by
   obtain⟨h1,h2⟩:=oQ n;have Fb:Qp n≠[]:=λh=>by rw[h] at h1;cases h1
   refine⟨?_,?_,h1⟩;cases h:Qp n with
   |nil=>exact absurd h Fb
   |cons c r=>exact h2 c (by rw[h];simp)
   unfold Jf;rw[List.getLast?_eq_some_getLast Fb];exact h2 _ (getLast_mem Fb)
  obtain⟨a1,a2,a3⟩:=key (known x);obtain⟨b1,b2,b3⟩:=key (Fe x);exact⟨a1.trans b1.symm,a2.trans b2.symm,a3.trans b3.symm⟩
theorem dZ{a b:Wd}(h:b≠[]):Jf (a++b)=Jf b:=by unfold Jf;rw[List.getLast?_append,List.getLast?_eq_some_getLast h];try rfl
theorem UP(known:Wd->Nat)(t w:Wd)(hd:ya w=none)(hw:w≠[]):af known w≠[]/\Jf (ze known t w)=Jf (af known w)/\(ze known t w).length=t.length+one (Jf t && Wl (af known w))+(af known w).length:=by
 have hp:af known w≠[]:=by
  unfold af;cases Va w with
  |none=>exact hw
  |some x=>intro h;have:=(oQ (known x)).1;rw[show Qp (known x)=[] from h] at this;cases this
 refine⟨hp,?_,?_⟩;unfold ze;rw[hd];exact dZ hp;unfold ze;rw[hd];simp only[Ga,one];split <;> rfl
theorem aZ(known:Wd->Nat):∀ (l:List Wd) (t:Wd),(∀ w∈l,w≠[])->(l.foldl (ze known) t).length=t.length+bc (Jf t) l
 |[],t,_=>rfl
 |w::r,t,h=>by
  have hr:=λx hx=>h x (Pc w hx);rw[foldl_cons,aZ known r _ hr,bc]
  cases hd:ya w with
  |some x=>
   have:ze known t w=t:=by unfold ze;rw[hd]
   rw[this]
  |none=>
   obtain⟨h1,h2,h3⟩:=UP known t w hd (h w (by simp));rw[h2,h3];cases hr:Va w with
   |some x=>
    have hp:af known w=Qp (known x):=by unfold af;rw[hr]
    obtain⟨a1,a2⟩:=oQ (known x);have hf:Wl (Qp (known x))=true:=by
     cases h:Qp (known x) with
     |nil=>rw[h] at a1;cases a1
     |cons c q=>exact a2 c (by rw[h];simp)
    have hl:Jf (Qp (known x))=true:=by
     have Fb:Qp (known x)≠[]:=λh=>by rw[h] at a1;cases a1
     unfold Jf;rw[List.getLast?_eq_some_getLast Fb];exact a2 _ (getLast_mem Fb)
    rw[hp,hf,hl,a1,Bool.and_true];simp only;omega
   |none=>
    have hp:af known w=w:=by unfold af;rw[hr]
    rw[hp];simp only;omega
theorem eZ(known:Wd->Nat)(l:List Wd)(h:∀ w∈l,w≠[]):(ll known l).length=bc false l:=by have:=aZ known l [] h;rw[ll,this];simp[Jf]
theorem ZU(known:Wd->Nat)(og:Nat):∀ (l:List Wd) (s:Wd×List (Wd×Nat)),(l.foldl (Tg known og) s).1=l.foldl (ze known) s.1
 |[],s=>rfl
 |w::r,s=>by
  rw[foldl_cons,foldl_cons,ZU known og r];congr 1;unfold Tg;cases hd:ya w with
  |some x=>simp only;unfold ze;rw[hd]
  |none=>rfl
theorem wY(known Fe:Wd->Nat)(og:Nat):∀ (l:List Wd) (s s':Wd×List (Wd×Nat)),(∀ w∈l,w≠[])->s.1.length=s'.1.length->Jf s.1=Jf s'.1->s.2=s'.2->(l.foldl (Tg known og) s).2=(l.foldl (Tg Fe og) s').2
 |[],s,s',_,_,_,h=>h
 |w::r,s,s',hw,h1,h2,h3=>by
  rw[foldl_cons,foldl_cons];have hr:=λx hx=>hw x (Pc w hx)
  cases hd:ya w with
  |some x=>
   have e1:Tg known og s w=(s.1,s.2++[(x,og+s.1.length)]):=by unfold Tg;rw[hd]
   have e2:Tg Fe og s' w=(s'.1,s'.2++[(x,og+s'.1.length)]):=by unfold Tg;rw[hd]
   rw[e1,e2];exact wY known Fe og r _ _ hr h1 h2 (by simp only[h3,h1])
  |none=>
   have e1:Tg known og s w=(ze known s.1 w,s.2):=by unfold Tg;rw[hd]
   have e2:Tg Fe og s' w=(ze Fe s'.1 w,s'.2):=by unfold Tg;rw[hd]
   rw[e1,e2];obtain⟨a1,a2,a3⟩:=UP known s.1 w hd (hw w (by simp));obtain⟨b1,b2,b3⟩:=UP Fe s'.1 w hd (hw w (by simp));obtain⟨c1,c2,c3⟩:=qpg (known:=known) (w:=w) Fe;exact wY known Fe og r _ _ hr (by rw[a3,b3,c1,c3,h1,h2]) (by rw[a2,b2,c2]) h3
theorem qnZ(known Fe:Wd->Nat)(og:Nat)(l:List Wd)(h:∀ w∈l,w≠[]):Lp known og l=Lp Fe og l:=wY known Fe og l _ _ h rfl rfl rfl
theorem N0(known:Wd->Nat)(og:Nat):∀ (l:List Wd) (s:Wd×List (Wd×Nat)),((l.foldl (Tg known og) s).2).map (·.1)=s.2.map (·.1)++Ib l
 |[],s=>by simp[Ib]
 |w::r,s=>by
  rw[foldl_cons,N0 known og r];unfold Tg Ib;cases hd:ya w with
  |some x=>simp[hd]
  |none=>simp[hd]
def rH:List UInt8:=[97,98,99,100,101,102,103,104,105,106,107,108,109,110,111,112,113,114,115,116,117,118,119,120,121,122,48,49,50,51,52,53,54,55,56,57,95]
theorem qms:∀ n:Nat,n<256->rH.contains (UInt8.ofNat n)=Ni (UInt8.ofNat n):=by decide +kernel
theorem qte(c:UInt8):rH.contains c=Ni c:=by have h:=qms c.toNat c.toNat_lt;rwa [UInt8.ofNat_toNat] at h
theorem fK{p:UInt8->Bool}:∀ {l:List UInt8},l.dropWhile p=[] ↔ l.all p=true
 |[]=>by simp
 |c::l=>by
  rw[List.dropWhile_cons,List.all_cons];cases h:p c with
  |true=>simpa using fK
  |false=>simp
theorem qv1(s:List UInt8):(trimS s rH=[]) ↔ s.all Ni=true:=by
 have he:(λc=>rH.contains c)=Ni:=funext qte;unfold trimS trimLeftS trimRightS;rw[he,fK];constructor;intro h;by_cases h2:s.reverse.dropWhile Ni=[];rw[fK] at h2;rw[all_reverse] at h2;exact h2;exfalso;obtain⟨c,r,CI⟩:=List.exists_cons_of_ne_nil h2;have h3:Ni c=false:=by have:=List.head?_dropWhile_not Ni s.reverse;rw[CI] at this;simpa using this
 rw[CI,all_reverse,List.all_cons,h3] at h;cases h;intro h;have h2:s.reverse.dropWhile Ni=[]:=by rw[fK,all_reverse];exact h
 rw[h2];try rfl
theorem Q9(r:List UInt8):hasPrefix (38::r) [38]=true/\trimPrefix (38::r) [38]=r:=by simp[trimPrefix,hasPrefix,List.isPrefixOf]
theorem qvX(h:c≠38)(r:List UInt8):hasPrefix (c::r) [38]=false:=by have:¬ (38:UInt8)=c:=λe=>h e.symm;simp[hasPrefix,List.isPrefixOf,this]
theorem X7(w:Wd):Va w=if hasPrefix w [38]=true/\Ju (trimPrefix w [38])=true then some (trimPrefix w [38]) else none:=by
 cases w with
 |nil=>rfl
 |cons c r=>by_cases h:c=38;subst h;rw[(Q9 r).1,(Q9 r).2];simp[Va];rw[qvX h];simp[Va,h]
theorem qlL(w:Wd):hasSuffix w [58]=decide (w.getLast? = some 58):=by unfold hasSuffix;rw[Bool.eq_iff_iff,List.isSuffixOf_iff_suffix,decide_eq_true_iff];constructor;rintro⟨t,rfl⟩;simp;intro h;rw[List.getLast?_eq_some_iff] at h;obtain⟨t,rfl⟩:=h;exact⟨t,rfl⟩
theorem F8(w:Wd):ya w=if hasSuffix w [58]=true/\Ju (trimSuffix w [58])=true then some (trimSuffix w [58]) else none:=by
 rw[qlL];unfold ya;by_cases h:w.getLast? = some 58
 ·have h2:trimSuffix w [58]=w.dropLast:=by
   unfold trimSuffix;rw[qlL,Nf h,zp rfl,List.dropLast_eq_take];try rfl
  rw[h2];simp[h]
 simp[h]
structure MS where
 mem:Nat->Nat
 pc:Nat
 data:List Nat
 calls:List Nat
 Ia:List Nat
 out:Wd
 digit:Bool
variable{s':MS}
inductive MR where
 |run (s:MS)
 |stop (e:Nat) (out:Wd)
def MR.re(s:MS):MR:=.stop 12 s.out
def xo(v:Nat)(s:MS):MR:=if s.data.length<256 then .run { s with data:=v::s.data } else .re s
def ud(c a b:Nat):Option Nat:=
 if c=43 then some ((a+b) % 4294967296)
 else if c=45 then some ((a+4294967296-b) % 4294967296)
 else if c=42 then some (a * b % 4294967296)
 else if c=47 then (if b=0 then none else some (a / b))
 else if c=37 then (if b=0 then none else some (a % b))
 else if c=94 then some (a ^^^ b)
 else some (if a<b then 1 else 0)
def Hn(c:Nat):Bool:=decide (48<=c) && decide (c<=57)
def XE(c:Nat)(s:MS):MR:=if s.digit=true then (match s.data with
 |d::r=>.run { s with data:=(d * 10+c-48) % 4294967296::r }
 |[]=>.re s) else xo (c-48) s
def UH(s:MS):MR:=match s.data with
 |a::r=>if a<262144 then xo (s.mem a) { s with data:=r } else .re s
 |[]=>.re s
def gq(s:MS):MR:=match s.data with
 |a::v::r=>if a<262144 then .run { s with data:=r,mem:=λi=>if i=a then v else s.mem i } else .re s
 |_=>.re s
def ku(s:MS):MR:=match s.data with
 |t::v::r=>.run { s with data:=r,pc:=if v=0 then t else s.pc }
 |_=>.re s
def ZG(s:MS):MR:=match s.data with
 |t::r=>if s.calls.length<64 then .run { s with data:=r,calls:=s.pc::s.calls,pc:=t } else .re s
 |[]=>.re s
def Hw(s:MS):MR:=match s.calls with
 |t::r=>.run { s with calls:=r,pc:=t }
 |[]=>.re s
def RL(s:MS):MR:=match s.Ia with
 |v::r=>xo v { s with Ia:=r }
 |[]=>xo 4294967295 s
def PE(s:MS):MR:=match s.data with
 |v::r=>.run { s with data:=r,out:=s.out++[UInt8.ofNat v] }
 |[]=>.re s
def SD(c:Nat)(s:MS):MR:=match s.data with
 |b::a::r=>(match ud c a b with
  |some v=>xo v { s with data:=r }
  |none=>.re s)
 |_=>.re s
def Ud(c:Nat)(s:MS):MR:=
 if Hn c=true then XE c s
 else if c=32∨c=10 then .run s
 else if c=64 then UH s
 else if c=33 then gq s
 else if c=63 then ku s
 else if c=58 then ZG s
 else if c=59 then Hw s
 else if c=44 then RL s
 else if c=46 then PE s
 else if c=36 then .stop 0 s.out
 else if c=43∨c=45∨c=42∨c=47∨c=37∨c=94∨c=60 then SD c s
 else .re s
def gb(s:MS):MR:=
 if s.pc<262144 then (match Ud (s.mem s.pc) { s with pc:=s.pc+1 } with
  |.run s'=>.run { s' with digit:=Hn (s.mem s.pc) }
  |.stop e o=>.stop e o)
 else .re s
def runM:Nat->MS->Nat×Wd×Nat
 |0,s=>(13,s.out,0)
 |n+1,s=>match gb s with
  |.run s'=>((runM n s').1,(runM n s').2.1,(runM n s').2.2+1)
  |.stop e o=>(e,o,1)
def Xs(code:Wd)(og:Nat):Nat->Nat:=λi=>if og<=i then (match code[i-og]? with
 |some c=>c.toNat
 |none=>0) else 0
def Dv(code:Wd)(og:Nat)(Ia:List Nat):MS:=⟨Xs code og,og,[],[],Ia,[],false⟩
inductive Hh:Nat->MS->MS->Prop
 |zero (s:MS):Hh 0 s s
 |step {k:Nat} {s s' s2:MS}:gb s=.run s'->Hh k s' s2->Hh (k+1) s s2
theorem Hh.one{s:MS}(h:gb s=.run s'):Hh 1 s s':=.step h (.zero _)
theorem Hh.trans{s s2:MS}(h:Hh a s s')(k:Hh b s' s2):Hh (a+b) s s2:=by
 induction h with
 |zero s=>rw[Nat.zero_add];exact k
 |step h1 _ ih=>rw[Nat.add_right_comm];exact .step h1 (ih k)
theorem qyA{k:Nat}{s:MS}(h:Hh k s s'):∀ n,runM (k+n) s=((runM n s').1,(runM n s').2.1,(runM n s').2.2+k):=by
 induction h with
 |zero s=>intro n;rw[Nat.zero_add];try rfl
 |step h1 _ ih=>intro n;rw[Nat.add_right_comm,runM,h1];simp only;rw[ih n];simp only[add_assoc]
def Gf(m:Nat)(s s':MS):Prop:=∃ k,k<=m/\Hh k s s'
theorem Gf.one{s s':MS}(h:gb s=.run s'):Gf 1 s s':=⟨1,Jb _,.one h⟩
def bx(mem:Nat->Nat)(p:Nat)(t:Wd):Prop:=∀ i (h:i<t.length),mem (p+i)=(t[i]).toNat
theorem bx.app{mem:Nat->Nat}{p:Nat}{a b:Wd}(h:bx mem p (a++b)):bx mem p a/\bx mem (p+a.length) b:=by constructor;intro i hi;have:=h i (by rw[Ga];omega);rw[List.getElem_append_left hi] at this;exact this;intro i hi;have:=h (a.length+i) (by rw[Ga];omega);rw[List.getElem_append_right (by omega)] at this;rw[add_assoc];simpa using this
theorem bx.pre{mem:Nat->Nat}{p:Nat}{a t:Wd}(h:bx mem p t)(hp:a <+: t):bx mem p a:=by obtain⟨b,rfl⟩:=hp;exact h.app.1
theorem qx6(code:Wd)(og:Nat):bx (Xs code og) og code:=λi hi=>by unfold Xs;rw[zp (Nat.le_add_right _ _),Nat.add_sub_cancel_left,jh hi]
def Qg(a:Nat)(l:Wd):Nat:=l.foldl (λa c=>10 * a+(c.toNat-48)) a
theorem qqU(a:Nat)(l m:Wd):Qg a (l++m)=Qg (Qg a l) m:=List.foldl_append ..
theorem qM:me c=true ↔ 48<=c.toNat/\c.toNat<=57:=by
 have h:∀ n:Nat,n<256->(me (UInt8.ofNat n)=true ↔ 48<=n/\n<=57):=by decide +kernel
 have:=h c.toNat c.toNat_lt;rwa [UInt8.ofNat_toNat] at this
theorem JY(u:Nat):Qg 0 (decDigits u)=u:=by
 rw[decDigits];split;rename_i h;unfold Qg;simp only[foldl_cons,List.foldl_nil];have:(UInt8.ofNat (48+u)).toNat=48+u:=by rw[UInt8.toNat_ofNat'];omega
 rw[this];omega;rename_i h;have ih:=JY (u / 10);rw[qqU,ih];unfold Qg;simp only[foldl_cons,List.foldl_nil];have:(UInt8.ofNat (48+u % 10)).toNat=48+u % 10:=by rw[UInt8.toNat_ofNat'];omega
 rw[this];omega
termination_by u
theorem qlA:∀ k:Nat,Qg 0 (List.replicate k 48)=0
 |0=>rfl
 |k+1=>by have:=qlA k;rw[List.replicate_succ];exact this
theorem MD:∀ (k n:Nat),n<10 ^ (k+1)->(decDigits n).length<=k+1
 |0,n,h=>by rw[decDigits,dif_pos (by simpa using h)];simp
 |k+1,n,h=>by rw[decDigits];split;simp;have:=MD k (n / 10) (by rw[Nat.pow_succ] at h;omega);rw[Ga,List.length_singleton];omega
theorem qog(h:n<1000000):Qg 0 (Qp n)=n:=by
 have h1:=MD 5 n h;have h2:1<=(decDigits n).length:=List.length_pos_iff.2 (dK n);have h3:Qp n=List.replicate (6-(decDigits n).length) 48++decDigits n:=by
  unfold Qp;rw[Ga,List.drop_append_of_le_length (by simp only[La,oc];omega)];congr 1;have:∀ k:Nat,k<=6->1<=k->([48,48,48,48,48]:Wd).drop (([48,48,48,48,48]:Wd).length+k-6)=List.replicate (6-k) 48:=by
   intro k hk h1;have:k=1∨k=2∨k=3∨k=4∨k=5∨k=6:=by omega
   rcases this with rfl|rfl|rfl|rfl|rfl|rfl <;> rfl
  exact this _ h1 h2
 rw[h3,qqU,qlA,JY]
theorem qvz(l:Wd):∀ a:Nat,(∀ c∈l,me c=true)->l.foldl (λa c=>(a * 10+c.toNat-48) % 4294967296) (a % 4294967296)=Qg a l % 4294967296:=by
 induction l with
 |nil=>intro a _;rfl
 |cons c l ih=>
  intro a h;have hc:=qM.1 (h c (by simp));have h1:=ih (a * 10+c.toNat-48) λx hx=>h x (Pc _ hx)
  have h2:Qg a (c::l)=Qg (a * 10+c.toNat-48) l:=by unfold Qg;rw[foldl_cons];congr 1;omega
  rw[h2,<-h1,foldl_cons];congr 1;omega
theorem qng:∀ (l:Wd) (s:MS) (d:Nat) (r:List Nat),(∀ c∈l,me c=true)->s.digit=true->s.data=d::r->bx s.mem s.pc l->s.pc+l.length<=262144 ->
  Hh l.length s { s with pc:=s.pc+l.length,data:=l.foldl (λa c=>(a * 10+c.toNat-48) % 4294967296) d::r }
 |[],s,d,r,_,_,hd,_,_=>by
  have:({ s with pc:=s.pc+([]:Wd).length,data:=([]:Wd).foldl (λa c=>(a * 10+c.toNat-48) % 4294967296) d::r }:MS)=s:=by cases s;simp only at hd;subst hd;rfl
  rw[this];exact .zero s
 |c::l,s,d,r,h,hg,hd,hm,hp=>by
  have hc:=h c (by simp);have EI:=qM.1 hc;have vC:=hm 0 (by simp);simp only[add_zero,List.getElem_cons_zero] at vC;have SR:Hn c.toNat=true:=by unfold Hn;simp[EI.1,EI.2]
  rw[La] at hp;have Kk:gb s=.run { s with pc:=s.pc+1,data:=(d * 10+c.toNat-48) % 4294967296::r }:=by unfold gb;rw[zp (by omega),vC];unfold Ud XE;rw[zp SR];simp only[hg,if_true,hd,SR]
  have tz:bx s.mem (s.pc+1) l:=λi hi=>by have:=hm (i+1) (by rw[La];omega);rw[show s.pc+1+i=s.pc+(i+1) by omega];simpa using this
  have ih:=qng l { s with pc:=s.pc+1,data:=(d * 10+c.toNat-48) % 4294967296::r } _ r (λx hx=>h x (Pc _ hx)) hg rfl tz (by simp only;omega)
  have e:({ s with pc:=s.pc+(c::l).length,data:=(c::l).foldl (λa c=>(a * 10+c.toNat-48) % 4294967296) d::r }:MS)={ s with pc:=s.pc+1+l.length,data:=l.foldl (λa c=>(a * 10+c.toNat-48) % 4294967296) ((d * 10+c.toNat-48) % 4294967296)::r }:=by rw[La,foldl_cons,add_assoc,Nat.add_comm 1]
  rw[e];exact .step Kk ih
theorem qqQ{l:Wd}{s:MS}(Fb:l≠[])(h:∀ c∈l,me c=true)(hg:s.digit=false)(Xa:s.data.length<256)(hm:bx s.mem s.pc l)(hp:s.pc+l.length<=262144)(hv:Qg 0 l<4294967296) :
  Hh l.length s { s with pc:=s.pc+l.length,data:=Qg 0 l::s.data,digit:=true }:=by
 cases l with
 |nil=>exact absurd rfl Fb
 |cons c l=>
  have hc:=h c (by simp);have EI:=qM.1 hc;have vC:=hm 0 (by simp);simp only[add_zero,List.getElem_cons_zero] at vC;have SR:Hn c.toNat=true:=by unfold Hn;simp[EI.1,EI.2]
  rw[La] at hp;have Kk:gb s=.run { s with pc:=s.pc+1,data:=(c.toNat-48)::s.data,digit:=true }:=by unfold gb;rw[zp (by omega),vC];unfold Ud XE xo;rw[zp SR];simp[hg,Xa,SR]
  have tz:bx s.mem (s.pc+1) l:=λi hi=>by have:=hm (i+1) (by rw[La];omega);rw[show s.pc+1+i=s.pc+(i+1) by omega];simpa using this
  have hl:=λx hx=>h x (Pc c hx);have ih:=qng l { s with pc:=s.pc+1,data:=(c.toNat-48)::s.data,digit:=true } _ s.data hl rfl rfl tz (by simp only;omega);have h3:=qvz l (c.toNat-48) hl;have h4:Qg 0 (c::l)=Qg (c.toNat-48) l:=by unfold Qg;rw[foldl_cons];congr 1;omega
  rw[Nat.mod_eq_of_lt (show c.toNat-48<4294967296 by omega),<-h4,Nat.mod_eq_of_lt hv] at h3;rw[h3] at ih;have e:({ s with pc:=s.pc+(c::l).length,data:=Qg 0 (c::l)::s.data,digit:=true }:MS)={ s with pc:=s.pc+1+l.length,data:=Qg 0 (c::l)::s.data,digit:=true }:=by rw[La,add_assoc,Nat.add_comm 1]
  rw[e];exact .step Kk ih
structure PW where
 W:List Wd
 og:Nat
 known:Wd->Nat
def PW.pre(C:PW)(i:Nat):Wd:=ll C.known (C.W.take i)
def PW.od(C:PW)(i:Nat):Nat:=C.og+(C.pre i).length
def PW.At(C:PW)(s:MS)(i:Nat):Prop:=s.pc=C.od i/\(s.digit=true->Jf (C.pre i)=true)
structure PW.Ok(C:PW)(mem:Nat->Nat):Prop where
 here:bx mem C.og (ll C.known C.W)
 fits:C.og+(ll C.known C.W).length<=262144
theorem qwK(known:Wd->Nat)(t w:Wd):t <+: ze known t w:=by unfold ze;split;exact Z6 _;rw[Sc];exact List.prefix_append _ _
theorem qoj(known:Wd->Nat):∀ (l:List Wd) (t:Wd),t <+: l.foldl (ze known) t
 |[],t=>Z6 _
 |w::l,t=>List.IsPrefix.trans (qwK known t w) (qoj known l _)
theorem PW.Ax(C:PW)(i:Nat):C.pre i <+: ll C.known C.W:=by
 have h:ll C.known C.W=(C.W.drop i).foldl (ze C.known) (C.pre i):=by unfold PW.pre ll;rw[<-List.foldl_append,take_append_drop]
 rw[h];exact qoj _ _ _
theorem PW.Pt(C:PW)(h:C.W[i]? = some w):C.pre (i+1)=ze C.known (C.pre i) w:=by obtain⟨hi,rfl⟩:=List.getElem?_eq_some_iff.1 h;unfold PW.pre ll;rw[List.take_succ_eq_append_getElem hi,List.foldl_append];try rfl
theorem PW.Qv(C:PW)(i:Nat):C.od i<=C.og+(ll C.known C.W).length:=by have:=(C.Ax i).length_le;unfold PW.od;omega
theorem PW.piece{C:PW}{mem:Nat->Nat}(hk:C.Ok mem)(hw:C.W[i]? = some w)(hd:ya w=none) :
  C.pre (i+1)=C.pre i++(if Jf (C.pre i) && Wl (af C.known w) then [32] else [])++af C.known w /\
  bx mem (C.od i) ((if Jf (C.pre i) && Wl (af C.known w) then [32] else [])++af C.known w)/\C.od (i+1)<=262144:=by
 have h1:=C.Pt hw;have h2:ze C.known (C.pre i) w=C.pre i++(if Jf (C.pre i) && Wl (af C.known w) then [32] else [])++af C.known w:=by unfold ze;rw[hd]
 rw[h2] at h1;refine⟨h1,?_,Qf (C.Qv _) hk.fits⟩;have h3:=hk.here.pre (C.Ax (i+1));rw[h1,Sc] at h3;exact h3.app.2
theorem PW.sign{C:PW}{s:MS}(hk:C.Ok s.mem)(h:C.At s i)(hw:C.W[i]? = some [c])(hd:ya [c]=none)(hr:Va [c]=none)(hc:me c=false) :
  gb s=(match Ud c.toNat { s with pc:=C.od (i+1) } with
   |.run s'=>.run { s' with digit:=false }
   |.stop e o=>.stop e o)/\Jf (C.pre (i+1))=false:=by
 obtain⟨h1,h2,h3⟩:=C.piece hk hw hd;have hp:af C.known [c]=[c]:=by unfold af;rw[hr]
 have hf:Wl [c]=false:=hc;rw[hp,hf,Bool.and_false,zn fa] at h1 h2;rw[de] at h1;rw[nil_append] at h2;have m0:=h2 0 (by simp);simp only[add_zero,List.getElem_cons_zero] at m0;have Jm:C.od (i+1)=C.od i+1:=by unfold PW.od;rw[h1,Ga];try rfl
 have hn:Hn c.toNat=false:=by
  cases hx:Hn c.toNat with
  |false=>rfl
  |true=>unfold Hn at hx;simp only[sd,Gg] at hx;rw[qM.2 hx] at hc;cases hc
 constructor
 ·unfold gb;rw[zp (by rw[h.1];omega),h.1,m0,<-Jm,hn]
  try cases Ud c.toNat { s with pc:=C.od (i+1) } <;> rfl
 rw[h1];unfold Jf;simp[hc]
def PW.Code(C:PW)(i:Nat)(ws:List Wd):Prop:=∀ k (h:k<ws.length),C.W[i+k]? = some ws[k]
theorem PW.Code.app{C:PW}{a b:List Wd}(h:C.Code i (a++b)):C.Code i a/\C.Code (i+a.length) b:=by constructor;intro k hk;have:=h k (by rw[Ga];omega);rwa [List.getElem_append_left hk] at this;intro k hk;have:=h (a.length+k) (by rw[Ga];omega);rw[List.getElem_append_right (by omega)] at this;rw[add_assoc];simpa using this
theorem PW.Code.cons{C:PW}{b:List Wd}(h:C.Code i (w::b)):C.W[i]? = some w/\C.Code (i+1) b:=by have h1:=PW.Code.app (a:=[w]) (b:=b) h;have h2:=h1.1 0 (by simp);exact⟨by simpa using h2,h1.2⟩
def PW.put(C:PW)(s:MS)(i:Nat)(d:List Nat):MS:={ s with pc:=C.od i,data:=d,digit:=false }
theorem xx(h:c∈([43,45,42,47,37,94,60,64,33,63,58,59,44,46,36]:Wd)):ya [c]=none/\Va [c]=none/\me c=false:=by
 have:∀ c∈([43,45,42,47,37,94,60,64,33,63,58,59,44,46,36]:Wd),ya [c]=none/\Va [c]=none/\me c=false:=by decide +kernel
 exact this c h
section
variable{C:PW}{s:MS}{i:Nat}
theorem PW.load(hk:C.Ok s.mem)(h:C.At s i)(hw:C.W[i]? = some [64])(hd:s.data=a::r)(ha:a<262144)(Xa:r.length<256):Gf 1 s (C.put s (i+1) (s.mem a::r)):=by
 obtain⟨e1,e2,e3⟩:=xx (c:=64) fa;obtain⟨h1,_⟩:=C.sign hk h hw e1 e2 e3;refine Gf.one (h1.trans ?_);have:Ud (64:UInt8).toNat { s with pc:=C.od (i+1) }=.run { s with pc:=C.od (i+1),data:=s.mem a::r }:=by unfold Ud;rw[zn fa,zn fa,zp fa];unfold UH xo;simp[hd,ha,Xa]
 rw[this];try rfl
theorem PW.store(hk:C.Ok s.mem)(h:C.At s i)(hw:C.W[i]? = some [33]){v:Nat}(hd:s.data=a::v::r)(ha:a<262144):Gf 1 s { C.put s (i+1) r with mem:=λi=>if i=a then v else s.mem i }:=by
 obtain⟨e1,e2,e3⟩:=xx (c:=33) fa;obtain⟨h1,_⟩:=C.sign hk h hw e1 e2 e3;refine Gf.one (h1.trans ?_);have:Ud (33:UInt8).toNat { s with pc:=C.od (i+1) }=.run { s with pc:=C.od (i+1),data:=r,mem:=λi=>if i=a then v else s.mem i }:=by unfold Ud;rw[zn fa,zn fa,zn fa,zp fa];unfold gq;simp[hd,ha]
 rw[this];try rfl
theorem PW.jump(hk:C.Ok s.mem)(h:C.At s i)(hw:C.W[i]? = some [63]){v:Nat}(hd:s.data=t::v::r):Gf 1 s { C.put s (i+1) r with pc:=if v=0 then t else C.od (i+1) }:=by
 obtain⟨e1,e2,e3⟩:=xx (c:=63) fa;obtain⟨h1,_⟩:=C.sign hk h hw e1 e2 e3;refine Gf.one (h1.trans ?_);have:Ud (63:UInt8).toNat { s with pc:=C.od (i+1) }=.run { s with pc:=if v=0 then t else C.od (i+1),data:=r }:=by unfold Ud;rw[zn fa,zn fa,zn fa,zn fa,zp fa];unfold ku;simp[hd]
 rw[this];try rfl
theorem PW.call(hk:C.Ok s.mem)(h:C.At s i)(hw:C.W[i]? = some [58])(hd:s.data=t::r)(hc:s.calls.length<64):Gf 1 s { C.put s (i+1) r with pc:=t,calls:=C.od (i+1)::s.calls }:=by
 obtain⟨e1,e2,e3⟩:=xx (c:=58) fa;obtain⟨h1,_⟩:=C.sign hk h hw e1 e2 e3;refine Gf.one (h1.trans ?_);have:Ud (58:UInt8).toNat { s with pc:=C.od (i+1) }=.run { s with pc:=t,data:=r,calls:=C.od (i+1)::s.calls }:=by unfold Ud;rw[zn fa,zn fa,zn fa,zn fa,zn fa,zp fa];unfold ZG;simp[hd,hc]
 rw[this];try rfl
theorem PW.back(hk:C.Ok s.mem)(h:C.At s i)(hw:C.W[i]? = some [59])(hd:s.calls=t::r):Gf 1 s { s with pc:=t,calls:=r,digit:=false }:=by
 obtain⟨e1,e2,e3⟩:=xx (c:=59) fa;obtain⟨h1,_⟩:=C.sign hk h hw e1 e2 e3;refine Gf.one (h1.trans ?_);have:Ud (59:UInt8).toNat { s with pc:=C.od (i+1) }=.run { s with pc:=t,calls:=r }:=by unfold Ud;rw[zn fa,zn fa,zn fa,zn fa,zn fa,zn fa,zp fa];unfold Hw;simp[hd]
 rw[this]
theorem PW.read(hk:C.Ok s.mem)(h:C.At s i)(hw:C.W[i]? = some [44])(Xa:s.data.length<256):Gf 1 s { C.put s (i+1) ((s.Ia.headD 4294967295)::s.data) with Ia:=s.Ia.tail }:=by
 obtain⟨e1,e2,e3⟩:=xx (c:=44) fa;obtain⟨h1,_⟩:=C.sign hk h hw e1 e2 e3;refine Gf.one (h1.trans ?_);have:Ud (44:UInt8).toNat { s with pc:=C.od (i+1) }=.run { s with pc:=C.od (i+1),data:=(s.Ia.headD 4294967295)::s.data,Ia:=s.Ia.tail }:=by
  unfold Ud;rw[zn fa,zn fa,zn fa,zn fa,zn fa,zn fa,zn fa,zp fa];unfold RL xo;cases hi:s.Ia with
  |nil=>simp[hi,Xa]
  |cons v r=>simp[hi,Xa]
 rw[this];try rfl
theorem PW.write(hk:C.Ok s.mem)(h:C.At s i)(hw:C.W[i]? = some [46]){v:Nat}(hd:s.data=v::r):Gf 1 s { C.put s (i+1) r with out:=s.out++[UInt8.ofNat v] }:=by
 obtain⟨e1,e2,e3⟩:=xx (c:=46) fa;obtain⟨h1,_⟩:=C.sign hk h hw e1 e2 e3;refine Gf.one (h1.trans ?_);have:Ud (46:UInt8).toNat { s with pc:=C.od (i+1) }=.run { s with pc:=C.od (i+1),data:=r,out:=s.out++[UInt8.ofNat v] }:=by unfold Ud;rw[zn fa,zn fa,zn fa,zn fa,zn fa,zn fa,zn fa,zn fa,zp fa];unfold PE;simp[hd]
 rw[this];try rfl
theorem PW.halt(hk:C.Ok s.mem)(h:C.At s i)(hw:C.W[i]? = some [36]):gb s=.stop 0 s.out:=by
 obtain⟨e1,e2,e3⟩:=xx (c:=36) fa;obtain⟨h1,_⟩:=C.sign hk h hw e1 e2 e3;rw[h1];have:Ud (36:UInt8).toNat { s with pc:=C.od (i+1) }=.stop 0 s.out:=by unfold Ud;rw[zn fa,zn fa,zn fa,zn fa,zn fa,zn fa,zn fa,zn fa,zn fa,zp fa]
 rw[this]
def jc(c:UInt8):Prop:=c=43∨c=45∨c=42∨c=47∨c=37∨c=94∨c=60
theorem L8(hc:jc c)(s:MS):Ud c.toNat s=SD c.toNat s:=by
 have h:Hn c.toNat=false/\¬ (c.toNat=32∨c.toNat=10)/\c.toNat≠64/\c.toNat≠33/\c.toNat≠63/\c.toNat≠58/\c.toNat≠59/\c.toNat≠44/\c.toNat≠46/\c.toNat≠36/\(c.toNat=43∨c.toNat=45∨c.toNat=42∨c.toNat=47∨c.toNat=37∨c.toNat=94∨c.toNat=60):=by rcases hc with rfl|rfl|rfl|rfl|rfl|rfl|rfl <;> decide
 obtain⟨a1,a2,a3,a4,a5,a6,a7,a8,a9,YS,XS⟩:=h;unfold Ud;rw[zn (by rw[a1];decide),zn a2,zn a3,zn a4,zn a5,zn a6,zn a7,zn a8,zn a9,zn YS,zp XS]
theorem qqT(hc:jc c):ya [c]=none/\Va [c]=none/\me c=false:=
 xx (by unfold jc at hc;rcases hc with rfl|rfl|rfl|rfl|rfl|rfl|rfl <;> decide)
theorem PW.op(hk:C.Ok s.mem)(h:C.At s i)(hc:jc c)(hw:C.W[i]? = some [c]){v:Nat}(hd:s.data=b::a::r)(hv:ud c.toNat a b=some v)(Xa:r.length<256):Gf 1 s (C.put s (i+1) (v::r)):=by
 obtain⟨e1,e2,e3⟩:=qqT hc;obtain⟨h1,_⟩:=C.sign hk h hw e1 e2 e3;refine Gf.one (h1.trans ?_);have:Ud c.toNat { s with pc:=C.od (i+1) }=.run { s with pc:=C.od (i+1),data:=v::r }:=by rw[L8 hc];unfold SD xo;simp[hd,hv,Xa]
 rw[this];try rfl
theorem PW.Rv(hk:C.Ok s.mem)(h:C.At s i)(hc:jc c)(hw:C.W[i]? = some [c])(hd:s.data=b::a::r)(hv:ud c.toNat a b=none):gb s=.stop 12 s.out:=by
 obtain⟨e1,e2,e3⟩:=qqT hc;obtain⟨h1,_⟩:=C.sign hk h hw e1 e2 e3;rw[h1];have:Ud c.toNat { s with pc:=C.od (i+1) }=.stop 12 s.out:=by rw[L8 hc];unfold SD MR.re;simp[hd,hv]
 rw[this]
end
end Go.ia
