import Derived.Lib.Replace
import Derived.Test.YtkihibnffkpnkaaGreatDoorBRowLR4
set_option linter.unusedVariables false
set_option linter.unusedSimpArgs false
set_option maxRecDepth 100000
set_option maxHeartbeats 4000000
open List (nodup_nil not_mem_nil nodup_cons mem_append mem_of_find?_eq_some map_map nil_append foldl_cons cons_append all_cons sum_cons)
open Nat (zero_le zero_add mod_lt)
namespace Go.Stele
def LeO{A:Type}(r r':OR A):Prop:=∀ q,r=some q->r'=some q
theorem LeO.rfl'{A:Type}{r:OR A}:LeO r r:=λ_ h=>h
theorem LeO.none{A:Type}{r:OR A}:LeO none r:=λ_ h=>by cases h
theorem LeO.bind{A B:Type}{r r':OR A}{f f':A->Nat->Nat->OR B}(h:LeO r r')(hf:∀ v i op,LeO (f v i op) (f' v i op)):LeO (qaD r f) (qaD r' f'):=λq hq=>by
 rcases qay hq with⟨v,i,op,h1,h2⟩|⟨l,e,h1,rfl⟩;rw[h _ h1];exact hf _ _ _ _ h2;rw[h _ h1]
 try rfl
theorem LeO.ite{A:Type}{c:Prop} [Decidable c]{a b a' b':OR A}(h1:LeO a a')(h2:LeO b b'):LeO (if c then a else b) (if c then a' else b'):=by
 split;exact h1;exact h2
theorem qim(T:List Tok):∀ (f g:Nat) (acc:List (List UInt8)) (i op:Nat),f<=g->LeO (qaR T f acc i op) (qaR T g acc i op)
 |0,_,_,_,_,_=>LeO.none
 |f+1,0,_,_,_,h=>by omega
 |f+1,g+1,acc,i,op,h=>by
  rw[qaR,qaR];exact LeO.ite (LeO.bind LeO.rfl' λv i op=>qim T f g _ i op (by omega)) LeO.rfl'
theorem qoC(T:List Tok)(f g i op:Nat)(h:f<=g):LeO (qeo T f i op) (qeo T g i op):=LeO.bind LeO.rfl' λv i op=>qim T f g _ i op h
theorem qx1(T:List Tok):∀ f g:Nat,f<=g->(∀ k i op,LeO (eLev T f k i op) (eLev T g k i op))/\(∀ k e i op,LeO (qdG T f k e i op) (qdG T g k e i op))/\(∀ i op,LeO (qb6 T f i op) (qb6 T g i op)) /\
  (∀ i op,LeO (qel T f i op) (qel T g i op))/\(∀ i op,LeO (qci T f i op) (qci T g i op))/\(∀ i op,LeO (qee T f i op) (qee T g i op))/\(∀ acc i op,LeO (qaP T f acc i op) (qaP T g acc i op))
 |0,g,_=>⟨λ_ _ _=>by rw[eLev];exact LeO.none,λ_ _ _ _=>by rw[qdG];exact LeO.none,λ_ _=>by rw[qb6];exact LeO.none,λ_ _=>by rw[qel];exact LeO.none,λ_ _=>by rw[qci];exact LeO.none,λ_ _=>by rw[qee];exact LeO.none,λ_ _ _=>by rw[qaP];exact LeO.none⟩
 |f+1,0,h=>by omega
 |f+1,g+1,h=>by
  obtain⟨hL,hO,hU,hP,hI,hA,hB⟩:=qx1 T f g (by omega);refine⟨λk i op=>?_,λk e i op=>?_,λi op=>?_,λi op=>?_,λi op=>?_,λi op=>?_,λacc i op=>?_⟩;rw[eLev,eLev];exact LeO.ite (hU _ _) (LeO.bind (hL _ _ _) λ_ _ _=>hO _ _ _ _);rw[qdG,qdG];exact LeO.ite (LeO.bind (hL _ _ _) λ_ _ _=>LeO.ite LeO.rfl' (hO _ _ _ _)) LeO.rfl';rw[qb6,qb6];exact LeO.ite (LeO.bind LeO.rfl' λ_ _ _=>LeO.bind (hU _ _) λ_ _ _=>LeO.rfl') (LeO.ite (LeO.bind LeO.rfl' λ_ _ _=>LeO.bind (hU _ _) λ_ _ _=>LeO.rfl') (hP _ _));rw[qel,qel];exact LeO.ite (LeO.bind LeO.rfl' λ_ _ _=>LeO.bind (hL _ _ _) λ_ _ _=>LeO.rfl') (LeO.ite LeO.rfl' (LeO.bind LeO.rfl' λ_ _ _=>LeO.ite (LeO.bind (hI _ _) λ_ _ _=>LeO.rfl') (LeO.ite (LeO.bind (hA _ _) λ_ _ _=>LeO.rfl') LeO.rfl')));rw[qci,qci];exact LeO.bind LeO.rfl' λ_ _ _=>LeO.bind (hL _ _ _) λ_ _ _=>LeO.rfl';rw[qee,qee];exact LeO.bind LeO.rfl' λ_ _ _=>LeO.bind (hB _ _ _) λ_ _ _=>LeO.rfl';rw[qaP,qaP];exact LeO.ite LeO.rfl' (LeO.bind LeO.rfl' λ_ _ _=>LeO.bind (hL _ _ _) λ_ _ _=>hB _ _ _)
theorem qxa(T:List Tok):∀ f g:Nat,f<=g->(∀ i op,LeO (qck T f i op) (qck T g i op))/\(∀ acc i op,LeO (qbQ T f acc i op) (qbQ T g acc i op))/\(∀ i op,LeO (qej T f i op) (qej T g i op))/\(∀ i op,LeO (qbI T f i op) (qbI T g i op))
 |0,g,_=>⟨λ_ _=>by rw[qck];exact LeO.none,λ_ _ _=>by rw[qbQ];exact LeO.none,λ_ _=>by rw[qej];exact LeO.none,λ_ _=>by rw[qbI];exact LeO.none⟩
 |f+1,0,h=>by omega
 |f+1,g+1,h=>by
  obtain⟨hB,hS,hT,hM⟩:=qxa T f g (by omega);obtain⟨hL,_,_,_,hI,hA,_⟩:=qx1 T f g (by omega);refine⟨λi op=>?_,λacc i op=>?_,λi op=>?_,λi op=>?_⟩;rw[qck,qck];exact LeO.bind LeO.rfl' λ_ _ _=>LeO.bind (hS _ _ _) λ_ _ _=>LeO.rfl';rw[qbQ,qbQ];exact LeO.ite LeO.rfl' (LeO.bind (hT _ _) λ_ _ _=>hS _ _ _);rw[qej,qej];exact LeO.ite (LeO.bind (hL _ _ _) λ_ _ _=>LeO.bind (hB _ _) λ_ _ _=>LeO.ite (LeO.bind (hB _ _) λ_ _ _=>LeO.rfl') LeO.rfl') (LeO.ite (LeO.bind (hL _ _ _) λ_ _ _=>LeO.bind (hB _ _) λ_ _ _=>LeO.rfl') (LeO.bind (hM _ _) λ_ _ _=>LeO.rfl'));rw[qbI,qbI];exact LeO.ite (LeO.bind (hL _ _ _) λ_ _ _=>LeO.rfl') (LeO.ite LeO.rfl' (LeO.bind LeO.rfl' λ_ _ _=>LeO.ite (LeO.bind (hA _ _) λ_ _ _=>LeO.rfl') (LeO.ite (LeO.bind (hI _ _) λ_ _ _=>LeO.bind LeO.rfl' λ_ _ _=>LeO.bind (hL _ _ _) λ_ _ _=>LeO.rfl') (LeO.bind LeO.rfl' λ_ _ _=>LeO.bind (hL _ _ _) λ_ _ _=>LeO.rfl'))))
theorem qnF(T:List Tok):∀ (f g:Nat) (acc:List (List UInt8)) (i op:Nat),f<=g->LeO (qcA T f acc i op) (qcA T g acc i op)
 |0,_,_,_,_,_=>LeO.none
 |f+1,0,_,_,_,h=>by omega
 |f+1,g+1,acc,i,op,h=>by
  rw[qcA,qcA];exact LeO.ite (LeO.bind (qoC T f g _ _ (by omega)) λ_ _ _=>LeO.bind LeO.rfl' λ_ _ _=>qnF T f g _ _ _ (by omega)) LeO.rfl'
theorem qwL(T:List Tok)(f g i op:Nat)(h:f<=g):LeO (qgm T f i op) (qgm T g i op):=by
 unfold qgm
 exact LeO.bind LeO.rfl' λ_ _ _=>LeO.bind LeO.rfl' λ_ _ _=>LeO.bind (LeO.ite LeO.rfl' (qoC T f g _ _ h)) λ_ _ _=>LeO.bind LeO.rfl' λ_ _ _=>LeO.bind LeO.rfl' λ_ _ _=>
  LeO.bind (qnF T f g _ _ _ h) λ_ _ _=>LeO.bind ((qxa T f g h).2.1 _ _ _) λ_ _ _=>LeO.rfl'
theorem ql5(T:List Tok):∀ (f g:Nat) (p:Pr) (i op:Nat),f<=g->LeO (qcN T f p i op) (qcN T g p i op)
 |0,_,_,_,_,_=>LeO.none
 |f+1,0,_,_,_,h=>by omega
 |f+1,g+1,p,i,op,h=>by
  rw[qcN,qcN]
  exact LeO.ite LeO.rfl' (LeO.ite (LeO.bind (qnF T f g _ _ _ (by omega)) λ_ _ _=>ql5 T f g _ _ _ (by omega)) (LeO.ite (LeO.bind LeO.rfl' λ_ _ _=>ql5 T f g _ _ _ (by omega))
   (LeO.ite (LeO.bind (qwL T f g _ _ (by omega)) λ_ _ _=>ql5 T f g _ _ _ (by omega)) LeO.rfl')))
def Ag(T T':List Tok)(d m:Nat):Prop:=∀ j,j<m->∃ t t',T[j]? = some t/\T'[j+d]? = some t'/\t'.kind=t.kind/\t'.text=t.text
section
variable{T T':List Tok}{d m:Nat}
theorem Ag.isTok(h:Ag T T' d m){i:Nat}(hi:i<m)(xs:List (List UInt8)):isTok T' (i+d) xs=isTok T i xs:=by
 obtain⟨t,t',h1,h2,h3,h4⟩:=h i hi;unfold Go.Stele.isTok;rw[h1,h2];simp only[h3,h4]
theorem Ag.text(h:Ag T T' d m){i:Nat}(hi:i<m):qeL T' (i+d)=qeL T i:=by
 obtain⟨t,t',h1,h2,h3,h4⟩:=h i hi;unfold qeL;rw[h1,h2];exact h4
theorem Ag.kind(h:Ag T T' d m){i:Nat}(hi:i<m):qj3 T' (i+d)=qj3 T i:=by
 obtain⟨t,t',h1,h2,h3,h4⟩:=h i hi;unfold qj3;rw[h1,h2];exact h3
def Ext{A:Type}(d m:Nat)(b:Bool)(i:Nat)(r r':OR A):Prop:=∀ v i' op',r=some (.ok v i' op')->i<=i'/\(b=true->i<i')/\(i'<m∨(b=true/\i'<=m)->r'=some (.ok v (i'+d) op'))
theorem Ext.none{A:Type}{b:Bool}{i:Nat}{r':OR A}:Ext d m b i none r':=λ_ _ _ h=>by cases h
theorem Ext.ok{A:Type}{i op:Nat}{v:A}:Ext d m false i (some (.ok v i op)) (some (.ok v (i+d) op)):=λ_ _ _ h=>by
 cases h;exact⟨zNr _,by simp,λ_=>rfl⟩
theorem Ext.bind{A B:Type}{b1 b:Bool}{i:Nat}{r r':OR A}{f f':A->Nat->Nat->OR B}(hr:Ext d m b1 i r r')(hf:∀ v i1 op1,i<=i1->(b1=true->i<i1)->Ext d m b i1 (f v i1 op1) (f' v (i1+d) op1)) :
  Ext d m b i (qaD r f) (qaD r' f'):=λv i' op' h=>by
 rcases qay h with⟨w,i1,op1,h1,h2⟩|⟨l,e,_,h1⟩;obtain⟨g1,g2,g3⟩:=hr _ _ _ h1;obtain⟨k1,k2,k3⟩:=hf _ _ op1 g1 g2 _ _ _ h2;refine⟨by omega,λhb=>by have:=k2 hb;omega,λhm=>?_⟩
 rw[g3 (.inl (by
  rcases hm with hm|⟨hb,hm⟩;omega
  have:=k2 hb;omega))]
 exact k3 hm;cases h1
theorem Ext.weak{A:Type}{b:Bool}{i j:Nat}{r r':OR A}(h:Ext d m b j r r')(hij:i<=j):Ext d m b i r r':=λv i' op' hv=>by
 obtain⟨g1,g2,g3⟩:=h _ _ _ hv;exact⟨by omega,λhb=>by have:=g2 hb;omega,g3⟩
theorem Ext.soft{A:Type}{b:Bool}{i:Nat}{r r':OR A}(h:Ext d m true i r r'):Ext d m b i r r':=λv i' op' hv=>by
 obtain⟨g1,g2,g3⟩:=h _ _ _ hv;exact⟨g1,λ_=>g2 rfl,λhm=>g3 (.inr ⟨rfl,by rcases hm with hm|hm <;> omega⟩)⟩
theorem Ext.eq{A:Type}{b:Bool}{i:Nat}{r r' r2:OR A}(h:Ext d m b i r r')(he:i<m->r2=r'):Ext d m b i r r2:=λv i' op' hv=>by
 obtain⟨g1,g2,g3⟩:=h _ _ _ hv;refine⟨g1,g2,λhm=>?_⟩
 rw[he (by
  rcases hm with hm|⟨hb,hm⟩;omega
  have:=g2 hb;omega)]
 exact g3 hm
theorem Ext.ite{A:Type}{b:Bool}{i:Nat}{c c':Prop} [Decidable c] [Decidable c']{x y x' y':OR A}(hc:i<m->(c' ↔ c))(hx:c->Ext d m b i x x')(hy:¬c->Ext d m b i y y') :
  Ext d m b i (if c then x else y) (if c' then x' else y'):=by
 by_cases h:c
 refine Ext.eq (r':=x') ?_ λhi=>by rw[zp ((hc hi).2 h)]
 rw[zp h];exact hx h;refine Ext.eq (r':=y') ?_ λhi=>by rw[zn (λhh=>h ((hc hi).1 hh))]
 rw[zn h];exact hy h
theorem Ext.tok{A:Type}{b:Bool}(hA:Ag T T' d m){i:Nat}{xs:List (List UInt8)}{x y x' y':OR A}(hx:Ext d m b i x x')(hy:Ext d m b i y y') :
  Ext d m b i (if isTok T i xs then x else y) (if isTok T' (i+d) xs then x' else y'):=Ext.ite (λhi=>by rw[hA.isTok hi]) (λ_=>hx) (λ_=>hy)
theorem qfm(hA:Ag T T' d m)(k:Int)(i op:Nat):Ext d m true i (some (qc9 T k i op)) (some (qc9 T' k (i+d) op)):=λv i' op' h=>by
 unfold qc9 at h;split at h
 rename_i t ht
 split at h
 rename_i hk
 cases h;refine⟨by omega,λ_=>by omega,λhm=>?_⟩;obtain⟨t1,t',h1,h2,h3,h4⟩:=hA i (by omega);rw[ht] at h1;cases h1;unfold qc9;rw[h2];simp only[h3,h4,zp hk];rw[show i+d+1=i+1+d by omega];cases h;cases h
theorem qeX(hA:Ag T T' d m)(x:List UInt8)(i op:Nat):Ext d m true i (some (qdu T x i op)) (some (qdu T' x (i+d) op)):=λv i' op' h=>by
 unfold qdu at h;split at h
 rename_i ht
 cases h;refine⟨by omega,λ_=>by omega,λhm=>?_⟩;unfold qdu;rw[hA.isTok (by omega),zp ht,show i+d+1=i+1+d by omega];cases h
theorem qeS(hA:Ag T T' d m)(x:List UInt8)(i op:Nat):Ext d m true i (some (qbW T x i op)) (some (qbW T' x (i+d) op)):=λv i' op' h=>by
 unfold qbW at h;split at h
 rename_i ht
 split at h;cases h
 rename_i ho
 cases h;refine⟨by omega,λ_=>by omega,λhm=>?_⟩;unfold qbW;rw[hA.isTok (by omega),zp ht,zn ho,show i+d+1=i+1+d by omega];cases h
theorem qlX(hA:Ag T T' d m)(x:List UInt8)(i op:Nat):Ext d m true i (some (sEnd T x i op)) (some (sEnd T' x (i+d) op)):=λv i' op' h=>by
 unfold sEnd qdu at h;split at h
 ·rename_i ht
  cases h;refine⟨by omega,λ_=>by omega,λhm=>?_⟩;unfold sEnd qdu;rw[hA.isTok (by omega),zp ht,show i+d+1=i+1+d by omega]
  try rfl
 cases h
theorem qkP(hA:Ag T T' d m)(i op:Nat):Ext d m true i (some (qcQ T i op)) (some (qcQ T' (i+d) op)):=λv i' op' h=>by
 have h0:=qfm hA 1 i op;unfold qcQ at h
 cases hw:qc9 T 1 i op with
 |err l e=>rw[hw] at h;cases h
 |ok s i1 op1=>
  rw[hw] at h;cases h;obtain⟨g1,g2,g3⟩:=h0 _ _ _ (congrArg some hw);refine⟨g1,g2,λhm=>?_⟩;have:=g3 hm;injection this with this;unfold qcQ;rw[this]
  try rfl
theorem qhq(hA:Ag T T' d m):∀ (f g:Nat) (acc:List (List UInt8)) (i op:Nat),f<=g->Ext d m false i (qaR T f acc i op) (qaR T' g acc (i+d) op)
 |0,_,_,_,_,_=>Ext.none
 |f+1,0,_,_,_,h=>by omega
 |f+1,g+1,acc,i,op,h=>by
  rw[qaR,qaR];refine Ext.tok hA (Ext.bind (b1:=true) ?_ λv i1 op1 _ _=>qhq hA f g _ _ _ (by omega)) Ext.ok;rw[show i+d+1=i+1+d by omega];exact(qfm hA 2 (i+1) op).weak (by omega)
theorem qjt(hA:Ag T T' d m)(f g i op:Nat)(h:f<=g):Ext d m false i (qeo T f i op) (qeo T' g (i+d) op):=
 Ext.bind (qfm hA 2 i op) λv i1 op1 _ _=>qhq hA f g _ _ _ h
theorem qiU(hA:Ag T T' d m){A B:Type}{x y:List UInt8}{i op:Nat}{g g':Nat->Nat->OR A}{k:A->B}{b:Bool}(hg:∀ i1 op1,i<=i1->Ext d m b i1 (g i1 op1) (g' (i1+d) op1)) :
  Ext d m true i (qaD (some (qbW T x i op)) λ_ i' op'=>qaD (g i' op') λv i' op'=>qaD (some (sEnd T y i' op')) λ_ i' op'=>some (.ok (k v) i' op'))
   (qaD (some (qbW T' x (i+d) op)) λ_ i' op'=>qaD (g' i' op') λv i' op'=>qaD (some (sEnd T' y i' op')) λ_ i' op'=>some (.ok (k v) i' op')):=by
 refine Ext.bind (qeS hA x i op) λ_ i1 op1 h1 _=>Ext.bind (hg i1 op1 h1) λv i2 op2 h2 _=>?_;intro w i' op' h;rcases qay h with⟨u,i3,op3,h3,h4⟩|⟨l,e,_,h4⟩
 ·cases h4;obtain⟨g1,g2,g3⟩:=qlX hA y i2 op2 _ _ _ h3;refine⟨g1,g2,λhm=>?_⟩;rw[g3 hm]
  try rfl
 cases h4
theorem qvo(hA:Ag T T' d m):∀ f g:Nat,f<=g->(∀ k i op,Ext d m false i (eLev T f k i op) (eLev T' g k (i+d) op))/\(∀ k e i op,Ext d m false i (qdG T f k e i op) (qdG T' g k e (i+d) op)) /\
  (∀ i op,Ext d m false i (qb6 T f i op) (qb6 T' g (i+d) op))/\(∀ i op,Ext d m false i (qel T f i op) (qel T' g (i+d) op))/\(∀ i op,Ext d m true i (qci T f i op) (qci T' g (i+d) op)) /\
  (∀ i op,Ext d m true i (qee T f i op) (qee T' g (i+d) op))/\(∀ acc i op,Ext d m false i (qaP T f acc i op) (qaP T' g acc (i+d) op))
 |0,g,_=>⟨λ_ _ _=>by rw[eLev];exact Ext.none,λ_ _ _ _=>by rw[qdG];exact Ext.none,λ_ _=>by rw[qb6];exact Ext.none,λ_ _=>by rw[qel];exact Ext.none,λ_ _=>by rw[qci];exact Ext.none,λ_ _=>by rw[qee];exact Ext.none,λ_ _ _=>by rw[qaP];exact Ext.none⟩
 |f+1,0,h=>by omega
 |f+1,g+1,h=>by
  obtain⟨hL,hO,hU,hP,hI,hR,hB⟩:=qvo hA f g (by omega);refine⟨λk i op=>?_,λk e i op=>?_,λi op=>?_,λi op=>?_,λi op=>?_,λi op=>?_,λacc i op=>?_⟩;rw[eLev,eLev];exact Ext.ite (λ_=>Iff.rfl) (λ_=>hU _ _) (λ_=>Ext.bind (hL _ _ _) λ_ _ _ _ _=>hO _ _ _ _);rw[qdG,qdG];refine Ext.tok hA ?_ Ext.ok;refine Ext.eq (r':=qaD (eLev T' g (k+1) (i+d+1) op) λe2 i' op'=>if k=2 then some (.ok (.mk (qeL T i) 0 [] [e,e2]) i' op') else qdG T' g k (.mk (qeL T i) 0 [] [e,e2]) i' op') ?_ λhi=>by rw[hA.text hi]
  rw[show i+d+1=i+1+d by omega];exact Ext.bind ((hL _ _ _).weak (by omega)) λ_ _ _ _ _=>Ext.ite (λ_=>Iff.rfl) (λ_=>Ext.ok) (λ_=>hO _ _ _ _);rw[qb6,qb6];exact Ext.tok hA (Ext.bind (qeS hA _ _ _) λ_ _ _ _ _=>Ext.bind (hU _ _) λ_ _ _ _ _=>Ext.ok) (Ext.tok hA (Ext.bind (qeS hA _ _ _) λ_ _ _ _ _=>Ext.bind (hU _ _) λ_ _ _ _ _=>Ext.ok) (hP _ _));rw[qel,qel];refine Ext.tok hA (qiU (k:=λe=>e) (g:=eLev T f 0) (g':=eLev T' g 0) hA λ_ _ _=>hL 0 _ _).soft ?_;refine Ext.ite (λhi=>by rw[hA.kind hi]) (λ_=>Ext.bind (qkP hA _ _) λ_ _ _ _ _=>Ext.ok) (λ_=>?_);exact Ext.bind (qfm hA 2 _ _) λ_ _ _ _ _=>Ext.tok hA (Ext.bind (hI _ _) λ_ _ _ _ _=>Ext.ok) (Ext.tok hA (Ext.bind (hR _ _) λ_ _ _ _ _=>Ext.ok) Ext.ok);rw[qci,qci];exact qiU (k:=λe=>e) (g:=eLev T f 0) (g':=eLev T' g 0) hA λ_ _ _=>hL 0 _ _;rw[qee,qee];exact qiU (k:=λe=>e) (g:=qaP T f []) (g':=qaP T' g []) hA λ_ _ _=>hB [] _ _;rw[qaP,qaP];refine Ext.tok hA Ext.ok (Ext.bind (b1:=false) ?_ λ_ _ _ _ _=>Ext.bind (hL _ _ _) λ_ _ _ _ _=>hB _ _ _);split;exact Ext.ok;exact(qeX hA _ _ _).soft
theorem qvj(hA:Ag T T' d m):∀ f g:Nat,f<=g->(∀ i op,Ext d m true i (qck T f i op) (qck T' g (i+d) op))/\(∀ acc i op,Ext d m false i (qbQ T f acc i op) (qbQ T' g acc (i+d) op)) /\
  (∀ i op,Ext d m false i (qej T f i op) (qej T' g (i+d) op))/\(∀ i op,Ext d m false i (qbI T f i op) (qbI T' g (i+d) op))
 |0,g,_=>⟨λ_ _=>by rw[qck];exact Ext.none,λ_ _ _=>by rw[qbQ];exact Ext.none,λ_ _=>by rw[qej];exact Ext.none,λ_ _=>by rw[qbI];exact Ext.none⟩
 |f+1,0,h=>by omega
 |f+1,g+1,h=>by
  obtain⟨hB,hS,hT,hM⟩:=qvj hA f g (by omega);obtain⟨hL,_,_,_,hI,hR,_⟩:=qvo hA f g (by omega);refine⟨λi op=>?_,λacc i op=>?_,λi op=>?_,λi op=>?_⟩;rw[qck,qck];exact qiU (k:=λe=>e) (g:=qbQ T f []) (g':=qbQ T' g []) hA λ_ _ _=>hS [] _ _;rw[qbQ,qbQ];exact Ext.tok hA Ext.ok (Ext.bind (hT _ _) λ_ _ _ _ _=>hS _ _ _);rw[qej,qej];rw[show i+d+1=i+1+d by omega];refine Ext.tok hA (Ext.bind ((hL _ _ _).weak (by omega)) λ_ i1 _ _ _=>Ext.bind (hB _ _) λ_ i2 _ _ _=>?_) (Ext.tok hA (Ext.bind ((hL _ _ _).weak (by omega)) λ_ _ _ _ _=>Ext.bind (hB _ _) λ_ _ _ _ _=>Ext.ok) (Ext.bind (hM _ _) λ_ _ _ _ _=>Ext.bind (qeX hA _ _ _) λ_ _ _ _ _=>Ext.ok));rw[show i2+d+1=i2+1+d by omega];exact Ext.tok hA (Ext.bind ((hB _ _).weak (by omega)) λ_ _ _ _ _=>Ext.ok) Ext.ok;rw[qbI,qbI];rw[show i+d+1=i+1+d by omega]
  exact Ext.tok hA (Ext.bind ((hL _ _ _).weak (by omega)) λ_ _ _ _ _=>Ext.ok) (Ext.tok hA (Ext.weak (Ext.ok (i:=i+1)) (by omega)) (Ext.bind (qfm hA 2 _ _) λ_ _ _ _ _=>Ext.tok hA (Ext.bind (hR _ _) λ_ _ _ _ _=>Ext.ok)
   (Ext.tok hA (Ext.bind (hI _ _) λ_ _ _ _ _=>Ext.bind (qeX hA _ _ _) λ_ _ _ _ _=>Ext.bind (hL _ _ _) λ_ _ _ _ _=>Ext.ok) (Ext.bind (qeX hA _ _ _) λ_ _ _ _ _=>Ext.bind (hL _ _ _) λ_ _ _ _ _=>Ext.ok))))
theorem qpM(hA:Ag T T' d m):∀ (f g:Nat) (acc:List (List UInt8)) (i op:Nat),f<=g->Ext d m false i (qcA T f acc i op) (qcA T' g acc (i+d) op)
 |0,_,_,_,_,_=>Ext.none
 |f+1,0,_,_,_,h=>by omega
 |f+1,g+1,acc,i,op,h=>by
  rw[qcA,qcA,show i+d+1=i+1+d by omega];exact Ext.tok hA (Ext.bind ((qjt hA f g _ _ (by omega)).weak (by omega)) λ_ _ _ _ _=>Ext.bind (qeX hA _ _ _) λ_ _ _ _ _=>qpM hA f g _ _ _ (by omega)) Ext.ok
theorem qpE{A B:Type}{i:Nat}{r r':OR A}{k:A->B}{o:Nat->Nat}(h:Ext d m true i r r'):Ext d m true i (qaD r λv i op=>some (.ok (k v) i (o op))) (qaD r' λv i op=>some (.ok (k v) i (o op))):=λw i' op' hw=>by
 rcases qay hw with⟨u,i3,op3,h3,h4⟩|⟨l,e,_,h4⟩
 ·cases h4;obtain⟨g1,g2,g3⟩:=h _ _ _ h3;refine⟨g1,g2,λhm=>?_⟩;rw[g3 hm]
  try rfl
 cases h4
theorem qun(hA:Ag T T' d m)(f g i op:Nat)(h:f<=g):Ext d m true i (qgm T f i op) (qgm T' g (i+d) op):=by
 unfold qgm
 refine Ext.bind (qfm hA 2 _ _) λ_ _ _ _ _=>Ext.bind (qeS hA _ _ _) λ_ _ _ _ _=>Ext.bind (b1:=false) (Ext.tok hA Ext.ok (qjt hA f g _ _ h)) λ_ _ _ _ _=>Ext.bind (qlX hA _ _ _) λ_ _ _ _ _=>
  Ext.bind (qeS hA _ _ _) λ_ _ _ _ _=>Ext.bind (qpM hA f g _ _ _ h) λ_ _ _ _ _=>Ext.bind ((qvj hA f g h).2.1 _ _ _) λ_ _ _ _ _=>qpE (o:=λx=>x) (qlX hA _ _ _)
theorem qq1(hA:Ag T T' d m)(i op:Nat):Ext d m true i (qeC T i op) (qeC T' (i+d) op):=by
 unfold qeC;refine Ext.bind (qfm hA 2 _ _) λ_ _ _ _ _=>Ext.bind (qeS hA _ _ _) λ_ _ _ _ _=>Ext.bind (qkP hA _ _) λ_ _ _ _ _=>Ext.bind (qlX hA _ _ _) λ_ _ _ _ _=>qpE (o:=λx=>x) (qeX hA _ _ _)
end
def EN{A:Type}(r:OR A):Prop:=∀ l e,r=some (.err l e)->¬ e=0
theorem EN.none{A:Type}:EN (none:OR A):=λ_ _ h=>by cases h
theorem EN.ok{A:Type}{v:A}{i op:Nat}:EN (some (.ok v i op)):=λ_ _ h=>by cases h
theorem EN.bind{A B:Type}{r:OR A}{f:A->Nat->Nat->OR B}(h:EN r)(hf:∀ v i op,EN (f v i op)):EN (qaD r f):=λl e hq=>by
 rcases qay hq with⟨v,i,op,_,h2⟩|⟨l',e',h1,h2⟩;exact hf _ _ _ _ _ h2;cases h2;exact h _ _ h1
theorem EN.ite{A:Type}{c:Prop} [Decidable c]{a b:OR A}(h1:EN a)(h2:EN b):EN (if c then a else b):=by
 split;exact h1;exact h2
theorem EN.syn{A:Type}{T:List Tok}{i:Nat}:EN (A:=A) (some (qiu T i)):=λl e h=>by
 cases h;decide
theorem EN.word{T:List Tok}{k:Int}{i op:Nat}:EN (some (qc9 T k i op)):=by
 unfold qc9;split;split;exact EN.ok;exact EN.syn;exact EN.syn
theorem EN.need{T:List Tok}{x:List UInt8}{i op:Nat}:EN (some (qdu T x i op)):=by
 unfold qdu;split;exact EN.ok;exact EN.syn
theorem EN.begin{T:List Tok}{x:List UInt8}{i op:Nat}:EN (some (qbW T x i op)):=by
 unfold qbW;split;split;intro l e h;cases h;decide;exact EN.ok;exact EN.syn
theorem EN.end'{T:List Tok}{x:List UInt8}{i op:Nat}:EN (some (sEnd T x i op)):=by
 unfold sEnd qdu;split;exact EN.ok;exact EN.syn
theorem EN.number{T:List Tok}{i op:Nat}:EN (some (qcQ T i op)):=by
 unfold qcQ qc9;split;split;exact EN.ok;exact EN.syn;exact EN.syn
theorem qij(T:List Tok):∀ (f:Nat) (acc:List (List UInt8)) (i op:Nat),EN (qaR T f acc i op)
 |0,_,_,_=>EN.none
 |f+1,acc,i,op=>by
  rw[qaR];exact EN.ite (EN.bind EN.word λ_ _ _=>qij T f _ _ _) EN.ok
theorem qoP(T:List Tok)(f i op:Nat):EN (qeo T f i op):=EN.bind EN.word λ_ _ _=>qij T f _ _ _
theorem qyb(T:List Tok):∀ f:Nat,(∀ k i op,EN (eLev T f k i op))/\(∀ k e i op,EN (qdG T f k e i op))/\(∀ i op,EN (qb6 T f i op))/\(∀ i op,EN (qel T f i op))/\(∀ i op,EN (qci T f i op))/\(∀ i op,EN (qee T f i op))/\(∀ acc i op,EN (qaP T f acc i op))
 |0=>⟨λ_ _ _=>by rw[eLev];exact EN.none,λ_ _ _ _=>by rw[qdG];exact EN.none,λ_ _=>by rw[qb6];exact EN.none,λ_ _=>by rw[qel];exact EN.none,λ_ _=>by rw[qci];exact EN.none,λ_ _=>by rw[qee];exact EN.none,λ_ _ _=>by rw[qaP];exact EN.none⟩
 |f+1=>by
  obtain⟨hL,hO,hU,hP,hI,hA,hB⟩:=qyb T f;refine⟨λk i op=>?_,λk e i op=>?_,λi op=>?_,λi op=>?_,λi op=>?_,λi op=>?_,λacc i op=>?_⟩;rw[eLev];exact EN.ite (hU _ _) (EN.bind (hL _ _ _) λ_ _ _=>hO _ _ _ _);rw[qdG];exact EN.ite (EN.bind (hL _ _ _) λ_ _ _=>EN.ite EN.ok (hO _ _ _ _)) EN.ok;rw[qb6];exact EN.ite (EN.bind EN.begin λ_ _ _=>EN.bind (hU _ _) λ_ _ _=>EN.ok) (EN.ite (EN.bind EN.begin λ_ _ _=>EN.bind (hU _ _) λ_ _ _=>EN.ok) (hP _ _));rw[qel];exact EN.ite (EN.bind EN.begin λ_ _ _=>EN.bind (hL _ _ _) λ_ _ _=>EN.bind EN.end' λ_ _ _=>EN.ok) (EN.ite (EN.bind EN.number λ_ _ _=>EN.ok) (EN.bind EN.word λ_ _ _=>EN.ite (EN.bind (hI _ _) λ_ _ _=>EN.ok) (EN.ite (EN.bind (hA _ _) λ_ _ _=>EN.ok) EN.ok)));rw[qci];exact EN.bind EN.begin λ_ _ _=>EN.bind (hL _ _ _) λ_ _ _=>EN.bind EN.end' λ_ _ _=>EN.ok;rw[qee];exact EN.bind EN.begin λ_ _ _=>EN.bind (hB _ _ _) λ_ _ _=>EN.bind EN.end' λ_ _ _=>EN.ok;rw[qaP];refine EN.ite EN.ok (EN.bind ?_ λ_ _ _=>EN.bind (hL _ _ _) λ_ _ _=>hB _ _ _);split;exact EN.ok;exact EN.need
theorem qxK(T:List Tok):∀ f:Nat,(∀ i op,EN (qck T f i op))/\(∀ acc i op,EN (qbQ T f acc i op))/\(∀ i op,EN (qej T f i op))/\(∀ i op,EN (qbI T f i op))
 |0=>⟨λ_ _=>by rw[qck];exact EN.none,λ_ _ _=>by rw[qbQ];exact EN.none,λ_ _=>by rw[qej];exact EN.none,λ_ _=>by rw[qbI];exact EN.none⟩
 |f+1=>by
  obtain⟨hB,hS,hT,hM⟩:=qxK T f;obtain⟨hL,_,_,_,hI,hA,_⟩:=qyb T f;refine⟨λi op=>?_,λacc i op=>?_,λi op=>?_,λi op=>?_⟩;rw[qck];exact EN.bind EN.begin λ_ _ _=>EN.bind (hS _ _ _) λ_ _ _=>EN.bind EN.end' λ_ _ _=>EN.ok;rw[qbQ];exact EN.ite EN.ok (EN.bind (hT _ _) λ_ _ _=>hS _ _ _);rw[qej];exact EN.ite (EN.bind (hL _ _ _) λ_ _ _=>EN.bind (hB _ _) λ_ _ _=>EN.ite (EN.bind (hB _ _) λ_ _ _=>EN.ok) EN.ok) (EN.ite (EN.bind (hL _ _ _) λ_ _ _=>EN.bind (hB _ _) λ_ _ _=>EN.ok) (EN.bind (hM _ _) λ_ _ _=>EN.bind EN.need λ_ _ _=>EN.ok));rw[qbI];exact EN.ite (EN.bind (hL _ _ _) λ_ _ _=>EN.ok) (EN.ite EN.ok (EN.bind EN.word λ_ _ _=>EN.ite (EN.bind (hA _ _) λ_ _ _=>EN.ok) (EN.ite (EN.bind (hI _ _) λ_ _ _=>EN.bind EN.need λ_ _ _=>EN.bind (hL _ _ _) λ_ _ _=>EN.ok) (EN.bind EN.need λ_ _ _=>EN.bind (hL _ _ _) λ_ _ _=>EN.ok))))
theorem qnX(T:List Tok):∀ (f:Nat) (acc:List (List UInt8)) (i op:Nat),EN (qcA T f acc i op)
 |0,_,_,_=>EN.none
 |f+1,acc,i,op=>by
  rw[qcA];exact EN.ite (EN.bind (qoP T f _ _) λ_ _ _=>EN.bind EN.need λ_ _ _=>qnX T f _ _ _) EN.ok
theorem qwO(T:List Tok)(f i op:Nat):EN (qgm T f i op):=by
 unfold qgm;exact EN.bind EN.word λ_ _ _=>EN.bind EN.begin λ_ _ _=>EN.bind (EN.ite EN.ok (qoP T f _ _)) λ_ _ _=>EN.bind EN.end' λ_ _ _=>EN.bind EN.begin λ_ _ _=>EN.bind (qnX T f _ _ _) λ_ _ _=>EN.bind ((qxK T f).2.1 _ _ _) λ_ _ _=>EN.bind EN.end' λ_ _ _=>EN.ok
theorem quy(T:List Tok)(i op:Nat):EN (qeC T i op):=by
 unfold qeC;exact EN.bind EN.word λ_ _ _=>EN.bind EN.begin λ_ _ _=>EN.bind EN.number λ_ _ _=>EN.bind EN.end' λ_ _ _=>EN.bind EN.need λ_ _ _=>EN.ok
theorem qlI(T:List Tok):∀ (f:Nat) (p:Pr) (i op:Nat),EN (qcN T f p i op)
 |0,_,_,_=>EN.none
 |f+1,p,i,op=>by
  rw[qcN];exact EN.ite EN.ok (EN.ite (EN.bind (qnX T f _ _ _) λ_ _ _=>qlI T f _ _ _) (EN.ite (EN.bind (quy T _ _) λ_ _ _=>qlI T f _ _ _) (EN.ite (EN.bind (qwO T f _ _) λ_ _ _=>qlI T f _ _ _) EN.syn)))
def Pr.app(p q:Pr):Pr:=⟨p.vars++q.vars,p.arrays++q.arrays,p.funcs++q.funcs⟩
def qcY:Pr:=⟨[],[],[]⟩
theorem Pr.app_assoc(p q r:Pr):(p.app q).app r=p.app (q.app r):=by simp[Pr.app]
theorem Pr.app_no(p:Pr):p.app qcY=p:=by simp[Pr.app,qcY]
theorem Pr.no_app(p:Pr):qcY.app p=p:=by simp[Pr.app,qcY]
inductive Decl (T:List Tok):Nat->Pr->Nat->Prop where
 |var {i j:Nat} {l:List (List UInt8)} (h:isTok T i [qkt]=true) (f0 i1:Nat) (h1:∀ f,f0<=f->qeo T f (i+1) 0=some (.ok l i1 0)) (h2:qdu T [59] i1 0=.ok () j 0):Decl T i ⟨l,[],[]⟩ j
 |array {i j:Nat} {a:Ar} (h0:isTok T i [qkt]=false) (h:isTok T i [qi1]=true) (h1:qeC T (i+1) 0=some (.ok a j 0)):Decl T i ⟨[],[a],[]⟩ j
 |func {i j:Nat} {a:FnD} (h0:isTok T i [qkt]=false) (h0':isTok T i [qi1]=false) (h:isTok T i [qq0]=true) (f0:Nat) (h1:∀ f,f0<=f->qgm T f (i+1) 0=some (.ok a j 0)):Decl T i ⟨[],[],[a]⟩ j
inductive Decls (T:List Tok):Nat->Nat->Pr->Nat->Prop where
 |nil {i:Nat}:Decls T 0 i qcY i
 |cons {n i j k:Nat} {p q:Pr} (h:Decl T i p j) (ht:Decls T n j q k):Decls T (n+1) i (p.app q) k
theorem Decls.trans{T:List Tok}{n m:Nat}:∀ {i j k:Nat} {p q:Pr},Decls T n i p j->Decls T m j q k->∃ o,Decls T o i (p.app q) k:=by
 intro i j k p q h1 h2
 induction h1 with
 |nil=>rw[Pr.no_app];exact⟨m,h2⟩
 |cons h ht ih=>
  obtain⟨o,ho⟩:=ih h2;rw[Pr.app_assoc];exact⟨o+1,.cons h ho⟩
section
variable{T T':List Tok}{d:Nat}
theorem qkO(hA:Ag T T' d T.length):∀ (f:Nat) (acc l:List (List UInt8)) (i i' op':Nat),qcA T f acc i 0=some (.ok l i' op')->op'=0/\∃ l2 n,l=acc++l2/\Decls T' n (i+d) ⟨l2,[],[]⟩ (i'+d)
 |0,_,_,_,_,_,h=>by cases h
 |f+1,acc,l,i,i',op',h=>by
  rw[qcA] at h;split at h
  rename_i ht
  have hi:=qaH ht;rcases qay h with⟨l1,i1,op1,h1,h2⟩|⟨_,_,_,h2⟩;obtain⟨_,_,g3,rfl⟩:=qco T f (i+1) 0 _ h1;rcases qay h2 with⟨u,i2,op2,h3,h4⟩|⟨_,_,_,h4⟩;have hg:=qbg T [59] i1 0;injection h3 with h3;rw[h3] at hg;obtain⟨k1,k2,k3,rfl⟩:=hg;have hl:=k3 (g3 (by omega));obtain⟨rfl,l2,n,rfl,hD⟩:=qkO hA f _ _ _ _ _ h4;refine⟨rfl,l1++l2,n+1,by simp,?_⟩;have e:(⟨l1++l2,[],[]⟩:Pr)=(⟨l1,[],[]⟩:Pr).app ⟨l2,[],[]⟩:=by simp[Pr.app]
  rw[e];refine .cons (j:=i2+d) (.var (by rw[hA.isTok hi];exact ht) f (i1+d) (λg hg=>?_) ?_) hD;have:=(qjt hA f g (i+1) 0 hg _ _ _ h1).2.2 (.inl (by have:=k2 rfl;omega));rw[show i+d+1=i+1+d by omega];exact this;have:=(qeX hA [59] i1 0 _ _ _ (congrArg some h3)).2.2 (.inr ⟨rfl,hl⟩);injection this;cases h4;cases h2;cases h;exact⟨rfl,[],0,by simp,.nil⟩
theorem qeH(hA:Ag T T' d T.length):∀ (f:Nat) (p q:Pr) (i j op':Nat),i<=T.length->qcN T f p i 0=some (.ok q j op')->∃ dl n,q=p.app dl/\Decls T' n (i+d) dl (T.length+d)
 |0,_,_,_,_,_,_,h=>by cases h
 |f+1,p,q,i,j,op',hi,h=>by
  rw[qcN] at h;split at h;cases h;have:i=T.length:=by omega
  subst this;exact⟨qcY,0,(Pr.app_no p).symm,.nil⟩
  rename_i hlt
  have hlt':i<T.length:=by omega
  split at h;rcases qay h with⟨l1,i1,op1,h1,h2⟩|⟨_,_,_,h2⟩;obtain⟨rfl,l2,n,rfl,hD⟩:=qkO hA f _ _ _ _ _ h1;have hg:=qcs T f [] i 0 _ h1;obtain⟨dl,m,rfl,hD2⟩:=qeH hA f _ _ _ _ _ (hg.2.2.1 hi) h2;obtain⟨o,ho⟩:=hD.trans hD2;refine⟨_,o,?_,ho⟩;simp[Pr.app];cases h2
  rename_i hv
  have hv':isTok T i [qkt]=false:=by simpa using hv
  split at h
  rename_i ha
  rcases qay h with⟨a,i1,op1,h1,h2⟩|⟨_,_,_,h2⟩;obtain⟨g1,g2,g3,rfl⟩:=qd3 T (i+1) 0 _ h1;obtain⟨dl,m,rfl,hD2⟩:=qeH hA f _ _ _ _ _ (g3 (by omega)) h2;refine⟨_,m+1,?_,.cons (j:=i1+d) (.array (a:=a) (by rw[hA.isTok hlt'];exact hv') (by rw[hA.isTok hlt'];exact ha) ?_) hD2⟩;simp[Pr.app];have:=(qq1 hA (i+1) 0 _ _ _ h1).2.2 (.inr ⟨rfl,g3 (by omega)⟩);rw[show i+d+1=i+1+d by omega];exact this;cases h2
  rename_i ha
  have ha':isTok T i [qi1]=false:=by simpa using ha
  split at h
  rename_i hf
  rcases qay h with⟨a,i1,op1,h1,h2⟩|⟨_,_,_,h2⟩;obtain⟨g1,g2,g3,rfl⟩:=qeD T f (i+1) 0 _ h1;obtain⟨dl,m,rfl,hD2⟩:=qeH hA f _ _ _ _ _ (g3 (by omega)) h2;refine⟨_,m+1,?_,.cons (j:=i1+d) (.func (a:=a) (by rw[hA.isTok hlt'];exact hv') (by rw[hA.isTok hlt'];exact ha') (by rw[hA.isTok hlt'];exact hf) f λg hg=>?_) hD2⟩;simp[Pr.app];have:=(qun hA f g (i+1) 0 hg _ _ _ h1).2.2 (.inr ⟨rfl,g3 (by omega)⟩);rw[show i+d+1=i+1+d by omega];exact this;cases h2;unfold qiu at h;cases h
end
theorem qtm{T:List Tok}(xs:List (List UInt8)):isTok T T.length xs=false:=by
 unfold isTok;rw[List.getElem?_eq_none (zNr _)]
theorem qpS{T:List Tok}{n i j:Nat}{dl:Pr}(h:Decls T n i dl j):j=T.length->∃ f0 l i' m dl',(∀ f,f0<=f->∀ acc,qcA T f acc i 0=some (.ok (acc++l) i' 0))/\Decls T m i' dl' j/\dl=(⟨l,[],[]⟩:Pr).app dl'/\m<=n/\(isTok T i [qkt]=true->m<n):=by
 induction h with
 |nil=>
  intro hj;subst hj;refine⟨1,[],T.length,0,qcY,λf hf acc=>?_,.nil,by simp[Pr.app,qcY],zNr _,λh=>by rw[qtm] at h;cases h⟩;obtain⟨g,rfl⟩:∃ g,f=g+1:=⟨f-1,by omega⟩;rw[qcA,zn (by rw[qtm];decide)]
  simp
 |@cons n i j k p q hd ht ih=>
  intro hk;obtain⟨f0,l,i',m,dl',h1,h2,h3,h4,h5⟩:=ih hk
  cases hd with
  |@var _ l1 hv f1 i1 hn hs=>
   refine⟨max f0 f1+1,l1++l,i',m,dl',λf hf acc=>?_,h2,by rw[h3];simp[Pr.app],by omega,λ_=>by omega⟩;obtain⟨g,rfl⟩:∃ g,f=g+1:=⟨f-1,by omega⟩;rw[qcA,zp hv,hn g (by omega)];show qaD (some (qdu T [59] i1 0)) _=_;rw[hs];show qcA T g (acc++l1) j 0=_;rw[h1 g (by omega)]
   simp
  |@array _ a hv ha h=>
   refine⟨1,[],i,n+1,_,λf hf acc=>?_,.cons (.array hv ha h) ht,by rw[show(⟨[],[],[]⟩:Pr)=qcY from rfl,Pr.no_app],by omega,λh'=>by rw[hv] at h';cases h'⟩;obtain⟨g,rfl⟩:∃ g,f=g+1:=⟨f-1,by omega⟩;rw[qcA,zn (by rw[hv];decide)]
   simp
  |@func _ a hv ha' ha f1 h=>
   refine⟨1,[],i,n+1,_,λf hf acc=>?_,.cons (.func hv ha' ha f1 h) ht,by rw[show(⟨[],[],[]⟩:Pr)=qcY from rfl,Pr.no_app],by omega,λh'=>by rw[hv] at h';cases h'⟩;obtain⟨g,rfl⟩:∃ g,f=g+1:=⟨f-1,by omega⟩;rw[qcA,zn (by rw[hv];decide)]
   simp
theorem qgg{T:List Tok}:∀ (N n i:Nat) (dl:Pr),n<=N->Decls T n i dl T.length->∃ f0,∀ f,f0<=f->∀ p,qcN T f p i 0=some (.ok (p.app dl) T.length 0)
 |N,n,i,dl,hn,h=>by
  have hv:=qpS h rfl
  cases h with
  |nil=>
   refine⟨1,λf hf p=>?_⟩;obtain⟨g,rfl⟩:∃ g,f=g+1:=⟨f-1,by omega⟩
   rw[qcN,zp (zNr _),Pr.app_no]
  |@cons n _ j _ p q hd ht=>
   cases N with
   |zero=>omega
   |succ N=>
   cases hd with
   |@var _ l1 hv1 f1 i1 hn1 hs=>
    obtain⟨f0,l,i',m,dl',h1,h2,h3,h4,h5⟩:=hv;obtain⟨f2,h6⟩:=qgg N m i' dl' (by have:=h5 hv1;omega) h2;have hlt:=qaH hv1;refine⟨max f0 f2+1,λf hf p=>?_⟩;obtain⟨g,rfl⟩:∃ g,f=g+1:=⟨f-1,by omega⟩;rw[qcN,zn (by omega),zp hv1,h1 g (by omega)];show qcN T g _ i' 0=_;rw[h6 g (by omega),h3]
    simp[Pr.app]
   |@array _ a hv0 ha h=>
    obtain⟨f2,h6⟩:=qgg N n j q (by omega) ht;have hlt:=qaH ha;refine⟨f2+1,λf hf p=>?_⟩;obtain⟨g,rfl⟩:∃ g,f=g+1:=⟨f-1,by omega⟩;rw[qcN,zn (by omega),zn (by rw[hv0];decide),zp ha,h];show qcN T g _ j 0=_;rw[h6 g (by omega)]
    simp[Pr.app]
   |@func _ a hv0 ha hf1 f1 h=>
    obtain⟨f2,h6⟩:=qgg N n j q (by omega) ht;have hlt:=qaH hf1;refine⟨max f1 f2+1,λf hf p=>?_⟩;obtain⟨g,rfl⟩:∃ g,f=g+1:=⟨f-1,by omega⟩;rw[qcN,zn (by omega),zn (by rw[hv0];decide),zn (by rw[ha];decide),zp hf1,h g (by omega)];show qcN T g _ j 0=_;rw[h6 g (by omega)];simp[Pr.app]
theorem qut{A B:List Tok}{p q:Pr}{fa fb i1 i2 o1 o2:Nat}(ha:qcN A fa qcY 0 0=some (.ok p i1 o1))(hb:qcN B fb qcY 0 0=some (.ok q i2 o2)){B':List Tok}(hB:B'.map (λt=>(t.kind,t.text))=B.map (λt=>(t.kind,t.text))) :
  ∃ i op,qcN (A++B') (10 * (A++B').length+20) qcY 0 0=some (.ok (p.app q) i op):=by
 have hlen:B'.length=B.length:=by simpa using congrArg List.length hB
 have hA1:Ag A (A++B') 0 A.length:=λj hj=>⟨A[j],A[j],by simp[hj],by simp[List.getElem?_append_left hj,hj],rfl,rfl⟩
 have hA2:Ag B (A++B') A.length B.length:=λj hj=>by
  have h1:(B'.map (λt=>(t.kind,t.text)))[j]? = (B.map (λt=>(t.kind,t.text)))[j]? := by rw[hB]
  have hj':j<B'.length:=by omega
  refine⟨B[j],B'[j],by simp[hj],?_,?_⟩;rw[List.getElem?_append_right (by omega),Nat.add_sub_cancel];simp[hj'];simp only[List.getElem?_map,List.getElem?_eq_getElem hj,List.getElem?_eq_getElem hj',Option.map_some,Option.some.injEq,Prod.mk.injEq] at h1;exact h1
 obtain⟨d1,n1,rfl,hD1⟩:=qeH hA1 fa _ _ 0 _ _ (zero_le _) ha;obtain⟨d2,n2,rfl,hD2⟩:=qeH hA2 fb _ _ 0 _ _ (zero_le _) hb;rw[zero_add,Nat.add_zero] at hD1;rw[zero_add] at hD2;obtain⟨o,ho⟩:=hD1.trans hD2;rw[show B.length+A.length=(A++B').length by rw[zLa];omega] at ho;obtain⟨f0,h⟩:=qgg o o 0 _ (zNr _) ho;obtain⟨r,hr⟩:=qdU (A++B') (10 * (A++B').length+20) qcY 0 0 (zero_le _) (by omega);have h1:=ql5 (A++B') (10 * (A++B').length+20) (max f0 (10 * (A++B').length+20)) qcY 0 0 (by omega) _ hr;rw[h _ (by omega)] at h1;cases h1;rw[Pr.no_app,Pr.no_app];rw[Pr.no_app] at hr;exact⟨_,_,hr⟩
theorem qbA:∀ (l k:List Nm),qcj k l=0->l.Nodup/\∀ s∈l,s ∉ k/\isNm s=true
 |[],k,_=>⟨nodup_nil,λs hs=>(not_mem_nil hs).elim⟩
 |s::l,k,h=>by
  rw[qcj] at h;split at h;cases h
  rename_i h1
  split at h;cases h
  rename_i h2
  obtain⟨g1,g2⟩:=qbA l (s::k) h;refine⟨List.nodup_cons.2 ⟨λhm=>(g2 s hm).1 zMs,g1⟩,λx hx=>?_⟩;rcases zMi.1 hx with rfl|hx;exact⟨h2,by simpa using h1⟩;exact⟨λhm=>(g2 x hx).1 (zMo _ hm),(g2 x hx).2⟩
theorem quC{s:Nm}(h:isNm s=true):(46:UInt8) ∉ s:=by
 unfold isNm at h;rw[zBa] at h;have h2:=h.2
 cases s with
 |nil=>exact not_mem_nil
 |cons c r=>
  simp only[zBa] at h2;intro hm;rcases zMi.1 hm with rfl|hm;exact absurd h2.1 zDd;exact absurd (List.all_eq_true.1 h2.2 46 hm) zDd
theorem qje:∀ (a b x y:Nm),(46:UInt8) ∉ a->(46:UInt8) ∉ b->a++46::x=b++46::y->a=b/\x=y
 |[],[],x,y,_,_,h=>by
  injection h with _ h
  exact⟨rfl,h⟩
 |[],d::b,x,y,_,hb,h=>by
  injection h with h1 _
  exact absurd (h1▸List.mem_cons_self ..) hb
 |c::a,[],x,y,ha,_,h=>by
  injection h with h1 _
  exact absurd (h1▸List.mem_cons_self ..) ha
 |c::a,d::b,x,y,ha,hb,h=>by
  injection h with h1 h2;obtain⟨e1,e2⟩:=qje a b x y (λg=>ha (zMo _ g)) (λg=>hb (zMo _ g)) h2;exact⟨by rw[h1,e1],e2⟩
theorem qml{fs:List FnD}(h:(fs.map (·.name)).Nodup){f g:FnD}(hf:f∈fs)(hg:g∈fs)(he:f.name=g.name):f=g:=by
 induction fs with
 |nil=>cases hf
 |cons a l ih=>
  rw[zMc,nodup_cons] at h;rcases zMi.1 hf with rfl|hf';rcases zMi.1 hg with rfl|hg';rfl;exact absurd (List.mem_map.2 ⟨g,hg',he.symm⟩) h.1;rcases zMi.1 hg with rfl|hg';exact absurd (List.mem_map.2 ⟨f,hf',he⟩) h.1;exact ih h.2 hf' hg'
theorem qro{vars arrays:List Nm}{fs:List FnD}(h:qcj [] (vars++arrays++fs.map (·.name))=0){f:FnD}(hf:f∈fs)(name:Nm):f.name++[46]++name∈qai vars fs ↔ name∈f.params++f.locals:=by
 obtain⟨h1,h2⟩:=qbA _ _ h;have hd:∀ g∈fs,(46:UInt8) ∉ g.name:=λg hg=>quC (h2 _ (List.mem_append.2 (.inr (List.mem_map.2 ⟨g,hg,rfl⟩)))).2;unfold qai;rw[mem_append];constructor;rintro(g|g);have:=quC (h2 _ (List.mem_append.2 (.inl (List.mem_append.2 (.inl g))))).2;exact absurd (by simp) this;obtain⟨l,g1,g2⟩:=List.mem_flatten.1 g;obtain⟨k,g3,rfl⟩:=List.mem_map.1 g1;obtain⟨x,g4,g5⟩:=List.mem_map.1 g2;have g6:k.name++46::x=f.name++46::name:=by simpa using g5
 obtain⟨e1,rfl⟩:=qje _ _ _ _ (hd k g3) (hd f hf) g6;rw[<-qml (List.nodup_append.1 h1).2.1 g3 hf e1];exact g4;intro g;exact .inr (List.mem_flatten.2 ⟨_,List.mem_map.2 ⟨f,hf,rfl⟩,List.mem_map.2 ⟨name,g,rfl⟩⟩)
theorem qyh{vars arrays:List Nm}{fs:List FnD}(h:qcj [] (vars++arrays++fs.map (·.name))=0){f:FnD}(hf:f∈fs)(name:Nm):(if f.name++[46]++name∈qai vars fs then f.name++[46]++name else name)=keyI f name:=by
 unfold keyI;simp only[qro h hf,mem_append]
theorem qqJ{vars arrays:List Nm}{fs:List FnD}{known:List FSum}{f:FnD}(hf:f∈fs){name:Nm}(h:qcg (envF vars arrays (fs.map (·.name)) known f) name=0):keyI f name∈qai vars fs:=by
 unfold qcg at h;unfold keyI qai;rw[mem_append];split at h
 rename_i h1
 split
 rename_i h2
 exact .inr (List.mem_flatten.2 ⟨_,List.mem_map.2 ⟨f,hf,rfl⟩,List.mem_map.2 ⟨name,List.mem_append.2 h2,rfl⟩⟩)
 rename_i h2
 rcases h1 with h1|h1;exact .inl h1;exact absurd (List.mem_append.1 h1) h2;split at h <;> cases h
theorem qnN{P:Pr}{f:FnD}(h:(P.funcs.map (·.name)).Nodup)(hf:f∈P.funcs):fnI P f.name=f:=by
 unfold fnI
 cases hg:P.funcs.find? λg=>decide (g.name=f.name) with
 |none=>exact absurd (List.find?_eq_none.1 hg f hf) (by simp)
 |some g=>exact qml h (mem_of_find?_eq_some hg) hf (of_decide_eq_true (List.find?_some (p:=λg:FnD=>decide (g.name=f.name)) hg))
open Go.Lib
structure CC where
 sc:Nm->Wd
 ar:Nm->Wd
 t0:Wd
 t1:Wd
 t2:Wd
def qa0(c:CC):List Wd:=[c.t2,[33],c.t1,[33],c.t2,[64],c.t1,[64],[60]]
def opW(c:CC)(op:Nm)(num:Nat)(name:Nm)(l:List (List Wd)):List Wd:=
 if op=nNum then [decDigits num]
 else if op=nVar then [c.sc name,[64]]
 else if op=qeh then c.ar name::(l.headD []++[[43],[64]])
 else if op=qbB then l.flatten++(if name=[105,110] then [[44]] else if name=[111,117,116] then [[46],[48]] else [[38,102,95]++name,[58]])
 else if op=nNeg then [48]::(l.headD []++[[45]])
 else if op=nNot then l.headD []++[[49],[60]]
 else if op=[33,61] then [48]::(l.headD []++(l.drop 1).headD []++[[94],[60]])
 else if op=[38,38] then [48]::(l.headD []++[[60],[48]]++(l.drop 1).headD []++[[60],[42]])
 else if op=[124,124] then [48]::[48]::(l.headD []++[[60],[48]]++(l.drop 1).headD []++[[60],[43],[60]])
 else l.headD []++(l.drop 1).headD []++(if op=[62] then qa0 c else if op=[60,61] then qa0 c++[[49],[94]] else if op=[62,61] then [[60],[49],[94]] else if op=[61,61] then [[94],[49],[60]] else [op])
mutual
def exW(c:CC):Ex->List Wd
 |.mk op num name args=>opW c op num name (exWl c args)
def exWl(c:CC):List Ex->List (List Wd)
 |[]=>[]
 |x::l=>exW c x::exWl c l
end
def labW(n:Nat):Wd:=106::decDigits n
mutual
def stW(c:CC):Nat->Sm->List Wd×Nat
 |n,.mk kind name index value thn els=>
  if kind=1 then (exW c (value.headD default)++[c.sc name,[33]],n)
  else if kind=2 then (exW c (value.headD default)++c.ar name::(exW c (index.headD default)++[[43],[33]]),n)
  else if kind=3 then
   (match els with
   |[]=>(exW c (value.headD default)++[38::labW n,[63]]++(stWs c (n+1) thn).1++[labW n++[58]],(stWs c (n+1) thn).2)
   |_::_=>(exW c (value.headD default)++[38::labW n,[63]]++(stWs c (n+2) thn).1++[[48],38::labW (n+1),[63],labW n++[58]]++(stWs c (stWs c (n+2) thn).2 els).1++[labW (n+1)++[58]],(stWs c (stWs c (n+2) thn).2 els).2))
  else if kind=4 then ([labW n++[58]]++exW c (value.headD default)++[38::labW (n+1),[63]]++(stWs c (n+2) thn).1++[[48],38::labW n,[63],labW (n+1)++[58]],(stWs c (n+2) thn).2)
  else if kind=5 then (exW c (value.headD default)++[[59]],n)
  else if kind=6 then (exW c (value.headD default)++[c.t0,[33]],n)
  else if kind=7 then ([[36]],n)
  else ([],n)
def stWs(c:CC):Nat->List Sm->List Wd×Nat
 |n,[]=>([],n)
 |n,s::l=>((stW c n s).1++(stWs c (stW c n s).2 l).1,(stWs c (stW c n s).2 l).2)
end
def qeu(l:List Nm)(S:Int)(k:Nm):Int:=if k∈l then S+3+(l.idxOf k:Nat) else 0
def keyC(l:List Nm)(own name:Nm):Nm:=if own++[46]++name∈l then own++[46]++name else name
def arrA:Int->List (Nm×Int)->Nm->Int
 |_,[],_=>0
 |at',(x,n)::r,name=>if x=name then at' else arrA (at'+n) r name
structure Org where
 code:Int
 scalars:Int
 arrays:Int
def ccF(vars:List Nm)(arrays:List (Nm×Int))(fs:List FnD)(o:Org)(own:Nm):CC:=
 ⟨λs=>itoa (qeu (qai vars fs) o.scalars (keyC (qai vars fs) own s)),λs=>itoa (arrA o.arrays arrays s),itoa o.scalars,itoa (o.scalars+1),itoa (o.scalars+2)⟩
def fnW(c:CC)(n:Nat)(f:FnD):List Wd×Nat:=
 ([[102,95]++f.name++[58]]++f.params.reverse.flatMap (λp=>[c.sc p,[33]])++(stWs c n f.body).1++[[48],[59]],(stWs c n f.body).2)
def fnWs(cc:Nm->CC):Nat->List FnD->List Wd×Nat
 |n,[]=>([],n)
 |n,f::l=>((fnW (cc f.name) n f).1++(fnWs cc (fnW (cc f.name) n f).2 l).1,(fnWs cc (fnW (cc f.name) n f).2 l).2)
def prW(vars:List Nm)(arrays:List (Nm×Int))(fs:List FnD)(o:Org):List Wd:=
 [[38,102,95,109,97,105,110],[58],itoa o.scalars,[33],[36]]++(fnWs (ccF vars arrays fs o) 0 fs).1
def qfR(a n:Int):Bool:=decide (0<=a/\a<=262144-n)
def qit(a n b m:Int):Bool:=decide (0<n/\0<m/\a<b+m/\b<a+n)
def qfr(vars:List Nm)(arrays:List (Nm×Int))(fs:List FnD)(o:Org):Bool:=
 let total:=(arrays.map (·.2)).sum
 let n:Int:=3+(qai vars fs).length
 qfR o.scalars n && qfR o.code 40000 && qfR o.arrays total && !qit o.code 40000 o.scalars n && !qit o.arrays total o.scalars n && !qit o.arrays total o.code 40000
def cmpP(vars:List Nm)(arrays:List (Nm×Int))(fs:List FnD)(o:Org):Except Int Wd:=
 if qc3 vars arrays fs≠0 then .error (qc3 vars arrays fs)
 else if qfr vars arrays fs o=false then .error 2
 else match asmP (join (prW vars arrays fs o) [32]) o.code with
  |.error e=>.error e.2
  |.ok _=>.ok (join (prW vars arrays fs o) [32])
def Lt(v:Nat):Prop:=v<4294967296
mutual
def numE:Ex->Prop
 |.mk op num name args=>Lt num/\qcX args
def qcX:List Ex->Prop
 |[]=>True
 |x::l=>numE x/\qcX l
end
mutual
def numS:Sm->Prop
 |.mk kind name index value thn els=>qcX index/\qcX value/\qcu thn/\qcu els
def qcu:List Sm->Prop
 |[]=>True
 |x::l=>numS x/\qcu l
end
theorem qjG{vars arrays later:List Nm}:∀ (fs:List FnD) (known:List FSum),qfO vars arrays later known fs=0->∀ f∈fs,(f.params++f.locals).Nodup/\∀ x∈f.params++f.locals,x ∉ vars++arrays++later
 |[],known,_,f,hf=>(not_mem_nil hf).elim
 |g::l,known,h,f,hf=>by
  rw[qfO] at h;obtain⟨h1,h2⟩:=qah.1 h;rcases zMi.1 hf with rfl|hf;obtain⟨g1,g2⟩:=qbA _ _ (qah.1 h1).1;exact⟨g1,λx hx=>(g2 x hx).1⟩;exact qjG l _ h2 f hf
theorem qmC{A B:Type}{g:A->B}(hg:∀ x y,g x=g y->x=y):∀ {l:List A},l.Nodup->(l.map g).Nodup
 |[],_=>nodup_nil
 |a::l,h=>by
  rw[nodup_cons] at h;rw[zMc,nodup_cons];refine⟨λhm=>?_,qmC hg h.2⟩;obtain⟨b,hb,he⟩:=List.mem_map.1 hm;exact h.1 (hg _ _ he▸hb)
theorem qsH{fs:List FnD}:(fs.map (·.name)).Nodup->(∀ f∈fs,(46:UInt8) ∉ f.name)->(∀ f∈fs,(f.params++f.locals).Nodup)->((fs.map λf=>(f.params++f.locals).map λx=>f.name++[46]++x).flatten).Nodup:=by
 induction fs with
 |nil=>intro _ _ _;exact nodup_nil
 |cons f l ih=>
  intro h1 h2 h3;rw[zMc,nodup_cons] at h1;rw[zMc,List.flatten_cons,List.nodup_append];refine⟨?_,ih h1.2 (λg hg=>h2 g (zMo _ hg)) (λg hg=>h3 g (zMo _ hg)),?_⟩;exact qmC (λx y hxy=>List.append_cancel_left hxy) (h3 f zMs);intro a ha b hb he;subst he;obtain⟨x,_,rfl⟩:=List.mem_map.1 ha;obtain⟨L,g1,g2⟩:=List.mem_flatten.1 hb;obtain⟨g,g3,rfl⟩:=List.mem_map.1 g1;obtain⟨y,_,g5⟩:=List.mem_map.1 g2;have g6:g.name++46::y=f.name++46::x:=by simpa using g5
  obtain⟨e1,_⟩:=qje _ _ _ _ (h2 g (zMo _ g3)) (h2 f zMs) g6;exact h1.1 (List.mem_map.2 ⟨g,g3,e1⟩)
theorem qqY{vars arrays:List Nm}{fs:List FnD}(h:qcj [] (vars++arrays++fs.map (·.name))=0)(hf:qfO vars arrays (fs.map (·.name)) [] fs=0):(qai vars fs).Nodup:=by
 obtain⟨h1,h2⟩:=qbA _ _ h;have ho:=qjG fs [] hf;unfold qai;rw[List.nodup_append];refine⟨(List.nodup_append.1 (List.nodup_append.1 h1).1).1,qsH (List.nodup_append.1 h1).2.1 (λf hf=>quC (h2 _ (List.mem_append.2 (.inr (List.mem_map.2 ⟨f,hf,rfl⟩)))).2) λf hf=>(ho f hf).1,?_⟩;intro a ha b hb he;subst he;obtain⟨L,g1,g2⟩:=List.mem_flatten.1 hb;obtain⟨g,g3,rfl⟩:=List.mem_map.1 g1;obtain⟨y,_,g5⟩:=List.mem_map.1 g2;have:=quC (h2 _ (List.mem_append.2 (.inl (List.mem_append.2 (.inl ha))))).2;rw[<-g5] at this;exact absurd (by simp) this
def qn4(fs:List FnD)(known:List FSum):Prop:=∀ k∈known,∃ g∈fs,g.name=k.name/\g.params.length=k.params
theorem qkJ{vars arrays later:List Nm}{all:List FnD}:∀ (fs:List FnD) (known:List FSum),qfO vars arrays later known fs=0->qn4 all known->(∀ f∈fs,f∈all)->∀ f∈fs,∃ kn,qb1 (envF vars arrays later kn f) f.body=0/\qn4 all kn
 |[],known,_,_,_,f,hf=>(not_mem_nil hf).elim
 |g::l,known,h,hk,ha,f,hf=>by
  rw[qfO] at h;obtain⟨h1,h2⟩:=qah.1 h;rcases zMi.1 hf with rfl|hf;exact⟨known,(qah.1 h1).2,hk⟩;refine qkJ l _ h2 (λk hk'=>?_) (λx hx=>ha x (zMo _ hx)) f hf;rcases List.mem_append.1 hk' with g1|g1;exact hk k g1;rw[List.mem_singleton.1 g1];exact⟨g,ha g zMs,rfl,rfl⟩
theorem qj5:∀ (l:List Int) (t:Int),0<=t->qg3 t l=0->∀ n∈l,0<n/\t+n<=150000
 |[],t,_,_,n,hn=>(not_mem_nil hn).elim
 |a::l,t,ht,h,n,hn=>by
  rw[qg3] at h;split at h;cases h;split at h;cases h;rcases zMi.1 hn with rfl|hn;constructor <;> omega;have:=qj5 l (t+a) (by omega) h n hn;constructor <;> omega
structure Valid(p:Pr):Prop where
 names:qcj [] (p.vars++p.arrays.map (·.name)++p.funcs.map (·.name))=0
 sizes:∀ a∈p.arrays,0<a.size/\a.size<=150000
 own:∀ f∈p.funcs,(f.params++f.locals).Nodup/\∀ x∈f.params++f.locals,x ∉ p.vars++p.arrays.map (·.name)++p.funcs.map (·.name)
 bodies:∀ f∈p.funcs,∃ kn,qb1 (envF p.vars (p.arrays.map (·.name)) (p.funcs.map (·.name)) kn f) f.body=0/\qn4 p.funcs kn
 keys:(qai p.vars p.funcs).Nodup
 main:qbS p∈p.funcs/\(qbS p).name=[109,97,105,110]/\(qbS p).params=[]
 few:(qai p.vars p.funcs).length<=8000
theorem qfi{p:Pr}(h:qb9 p=0):Valid p:=by
 unfold qb9 qc3 at h;have e1:(p.arrays.map λa=>(a.name,(a.size:Int))).map (·.1)=p.arrays.map (·.name):=by rw[map_map];try rfl
 rw[e1] at h;obtain⟨h1,h⟩:=qah.1 h;obtain⟨h2,h⟩:=qah.1 h;obtain⟨h3,h4⟩:=qah.1 h
 have hm:qbS p∈p.funcs/\(qbS p).name=[109,97,105,110]/\(qbS p).params=[]/\(qai p.vars p.funcs).length<=8000:=by
  unfold qtr at h4;split at h4
  ·rename_i f m hf hms
   split at h4
   ·rename_i h5
    split at h4
    ·rename_i h6
     have e:qbS p=f:=by unfold qbS;rw[hf];try rfl
     rw[e];exact⟨List.mem_of_getLast? hf,h5.1,h5.2,h6.1⟩
    cases h4
   cases h4
  cases h4
 refine⟨h1,λa ha=>?_,qjG _ _ h3,qkJ _ _ h3 (λk hk=>(not_mem_nil hk).elim) (λf hf=>hf),qqY h1 h3,⟨hm.1,hm.2.1,hm.2.2.1⟩,hm.2.2.2⟩
 have:=qj5 _ 0 zDd h2 (a.size:Int) (by
  rw[map_map]
  exact List.mem_map.2 ⟨a,ha,rfl⟩)
 constructor <;> omega
section
variable{A B:Type}{Q:A->IS->MS->Prop}{R:B->IS->MS->Prop}{c d c1 d1 c2 d2:Int}{m m1:MS}{s:IS}
end
structure Trn where
 C:PW
 P:Pr
 cc:FnD->CC
 cenv:FnD->CEnv
 sa:Nm->Nat
 aa:Nm->Nat
 S:Nat
 fst:FnD->Nat
def Trn.keys(X:Trn):List Nm:=qai X.P.vars X.P.funcs
def Trn.Data(X:Trn)(x:Nat):Prop:=(∃ k∈X.keys,x=X.sa k)∨(X.S<=x/\x<=X.S+2)∨∃ a∈X.P.arrays,∃ i,i<a.size/\x=X.aa a.name+i
structure TrnOk(X:Trn):Prop where
 sc:∀ f∈X.P.funcs,∀ name,qcg (X.cenv f) name=0->(X.cc f).sc name=decDigits (X.sa (keyI f name))/\keyI f name∈X.keys
 ar:∀ f∈X.P.funcs,∀ name,qeU (X.cenv f) name=0->(X.cc f).ar name=decDigits (X.aa name)/\∃ a∈X.P.arrays,a.name=name
 temps:∀ f∈X.P.funcs,(X.cc f).t0=decDigits X.S/\(X.cc f).t1=decDigits (X.S+1)/\(X.cc f).t2=decDigits (X.S+2)
 low:∀ x,X.Data x->x<262144
 free:∀ x,X.Data x->x<X.C.og∨X.C.og+(qcZ X.C.known X.C.W).length<=x
 keyLow:∀ k∈X.keys,X.S+3<=X.sa k
 inj:∀ k∈X.keys,∀ k'∈X.keys,X.sa k=X.sa k'->k=k'
 apart:∀ a∈X.P.arrays,∀ i,i<a.size->(∀ k∈X.keys,X.sa k≠X.aa a.name+i)/\¬ (X.S<=X.aa a.name+i/\X.aa a.name+i<=X.S+2)
 arInj:∀ a∈X.P.arrays,∀ b∈X.P.arrays,∀ i j,i<a.size->j<b.size->X.aa a.name+i=X.aa b.name+j->a.name=b.name/\i=j
 arLow:∀ a∈X.P.arrays,X.aa a.name<1000000
 arName:∀ a∈X.P.arrays,∀ b∈X.P.arrays,a.name=b.name->a.size=b.size
 body:∀ f∈X.P.funcs,qb1 (X.cenv f) f.body=0/\qcu f.body
 fn:∀ f∈X.P.funcs,∀ name g,(X.cenv f).fn name=some g->fnI X.P name∈X.P.funcs/\(fnI X.P name).name=name/\g.params=(fnI X.P name).params.length/\qbN (X.cenv (fnI X.P name)) (fnI X.P name).body<=g.need/\qcm (X.cenv (fnI X.P name)) (fnI X.P name).body<=g.depth
 par:∀ f∈X.P.funcs,(∀ p∈f.params,keyI f p∈X.keys/\(X.cc f).sc p=decDigits (X.sa (keyI f p)))/\(f.params.map (keyI f)).Nodup
 code:∀ f∈X.P.funcs,∃ nl,X.C.Code (X.fst f) (fnW (X.cc f) nl f).1
 ldef:∀ (j n:Nat),X.C.W[j]? = some (labW n++[58])->defW (labW n++[58])=some (labW n)
 lref:∀ (j n:Nat),X.C.W[j]? = some (38::labW n)->refW (38::labW n)=some (labW n)
 fdef:∀ f∈X.P.funcs,defW ([102,95]++f.name++[58])=some ([102,95]++f.name)
 fref:∀ f∈X.P.funcs,refW ([38,102,95]++f.name)=some ([102,95]++f.name)
 label:∀ (j:Nat) (w x:Wd),X.C.W[j]? = some w->defW w=some x->X.C.known x=X.C.plc j
section
variable{X:Trn}{n:Nat}
theorem qto(c:CC)(n:Nat)(kind:Int)(name:Nm)(index value:List Ex)(thn els:List Sm):stW c n (.mk kind name index value thn els) =
  if kind=1 then (exW c (value.headD default)++[c.sc name,[33]],n)
  else if kind=2 then (exW c (value.headD default)++c.ar name::(exW c (index.headD default)++[[43],[33]]),n)
  else if kind=3 then
   (match els with
   |[]=>(exW c (value.headD default)++[38::labW n,[63]]++(stWs c (n+1) thn).1++[labW n++[58]],(stWs c (n+1) thn).2)
   |_::_=>(exW c (value.headD default)++[38::labW n,[63]]++(stWs c (n+2) thn).1++[[48],38::labW (n+1),[63],labW n++[58]]++(stWs c (stWs c (n+2) thn).2 els).1++[labW (n+1)++[58]],(stWs c (stWs c (n+2) thn).2 els).2))
  else if kind=4 then ([labW n++[58]]++exW c (value.headD default)++[38::labW (n+1),[63]]++(stWs c (n+2) thn).1++[[48],38::labW n,[63],labW (n+1)++[58]],(stWs c (n+2) thn).2)
  else if kind=5 then (exW c (value.headD default)++[[59]],n)
  else if kind=6 then (exW c (value.headD default)++[c.t0,[33]],n)
  else if kind=7 then ([[36]],n)
  else ([],n):=by
 rw[stW.eq_def];try rfl
end
theorem qi4(all:List Wd):∀ (l:List (Wd×Nat)) (met:List Wd),(errT all met l).2=0->met.Nodup->(met++defs (l.map (·.1))).Nodup/\∀ w∈l.map (·.1),OkW all w
 |[],met,_,hm=>by
  simp only[List.map_nil,defs,List.filterMap_nil,zLz]
  exact⟨hm,λw hw=>(not_mem_nil hw).elim⟩
 |(w,ln)::r,met,h,hm=>by
  rw[errT] at h;rw[zMc,qcT]
  cases hd:defW w with
  |some x=>
   rw[hd] at h;simp only at h ⊢;split at h;simp at h
   rename_i hx
   have hn:(met++[x]).Nodup:=List.nodup_append.2 ⟨hm,by simp,λa ha b hb=>by
    rw[List.mem_singleton.1 hb]
    exact λe=>hx (e▸ha)⟩
   obtain⟨h1,h2⟩:=qi4 all r (met++[x]) h hn;refine⟨by rw[zAs] at h1;exact h1,λy hy=>?_⟩;rcases zMi.1 hy with rfl|hy;unfold OkW;rw[hd];trivial
   exact h2 y hy
  |none=>
   rw[hd] at h;simp only at h ⊢
   have key:OkW all w/\(errT all met r).2=0:=by
    unfold OkW;rw[hd]
    cases hr:refW w with
    |some x=>
     rw[hr] at h;simp only at h ⊢;split at h
     rename_i hx;exact⟨hx,h⟩
     simp at h
    |none=>
     rw[hr] at h;simp only at h ⊢;split at h
     rename_i hx;exact⟨hx,h⟩
     simp at h
   obtain⟨h1,h2⟩:=qi4 all r met key.2 hm;refine⟨by simpa using h1,λy hy=>?_⟩;rcases zMi.1 hy with rfl|hy;exact key.1;exact h2 y hy
theorem qpa{src:Wd}(h:(errT (defs (qbi src)) [] (qgo src)).2=0):qgn (qbi src):=by
 have:=qi4 _ _ _ h nodup_nil;rw[qd6,nil_append] at this;exact this
theorem qk9(known:Wd->Nat)(og:Nat){p:Wd×Nat}:∀ (l:List Wd) (s:Wd×List (Wd×Nat)),p∈s.2->p∈(l.foldl (qbv known og) s).2
 |[],s,h=>h
 |w::l,s,h=>by
  rw[foldl_cons];refine qk9 known og l _ ?_;unfold qbv;split;exact List.mem_append.2 (.inl h);exact h
theorem qpC(known:Wd->Nat)(og:Nat){w x:Wd}(hd:defW w=some x):∀ (l:List Wd) (s:Wd×List (Wd×Nat)) (j:Nat),l[j]? = some w->(x,og+((l.take j).foldl (addT known) s.1).length)∈(l.foldl (qbv known og) s).2
 |[],s,j,h=>by simp at h
 |v::l,s,0,h=>by
  simp only[List.getElem?_cons_zero,Option.some.injEq] at h;subst h;rw[foldl_cons];refine qk9 known og l _ ?_;unfold qbv;rw[hd]
  simp
 |v::l,s,j+1,h=>by
  rw[List.getElem?_cons_succ] at h;have ih:=qpC known og hd l (qbv known og s v) j h
  have e:(qbv known og s v).1=addT known s.1 v:=by
   unfold qbv
   cases hv:defW v with
   |some y=>simp only;unfold addT;rw[hv]
   |none=>rfl
  rw[e] at ih;rw[foldl_cons,List.take_succ_cons,foldl_cons];exact ih
theorem qmE:∀ (labs:List (Wd×Nat)) (x:Wd) (n:Nat),(labs.map (·.1)).Nodup->(x,n)∈labs->qdL labs x=n
 |[],x,n,_,h=>(not_mem_nil h).elim
 |(y,k)::l,x,n,hn,h=>by
  rw[zMc,nodup_cons] at hn;unfold qdL;rw[List.find?_cons];rcases zMi.1 h with h|h;injection h with h1 h2;subst h1 h2
  simp
  have hne:y≠x:=λe=>hn.1 (List.mem_map.2 ⟨(x,n),h,by simp[e]⟩);simp only[hne,decide_false];exact qmE l x n hn.2 h
theorem qnj{W:List Wd}(og:Nat)(hn:(defs W).Nodup)(he:∀ w∈W,w≠[]){j:Nat}{w x:Wd}(hw:W[j]? = some w)(hd:defW w=some x) :
  qdL (qek (λ_=>0) og W) x=PW.plc ⟨W,og,qdL (qek (λ_=>0) og W)⟩ j:=by
 generalize hk:qdL (qek (λ_=>0) og W)=known;have h1:=qpC known og hd W ([],[]) j hw;have h2:qek (λ_=>0) og W=qek known og W:=qm8 _ _ og W he;rw[<-hk,h2];refine qmE _ _ _ ?_ ?_;have:=qgw known og W ([],[]);unfold qek;rw[this];simpa using hn;rw[<-h2,hk];rw[h2];exact h1
theorem qrJ{x:Wd}(h:qkd x=true):x≠[]/\∀ c r,x=c::r->qaV c=true:=by
 unfold qkd at h
 cases x with
 |nil=>cases h
 |cons c r=>
  simp only[zBa] at h;exact⟨by simp,λc' r' e=>by injection e with e1 _;rw[<-e1];exact h.1.2⟩
theorem qrm{ds:List Wd}{c:UInt8}{x:Wd}(h:OkW ds (c::x++[58]))(h1:c≠38)(h2:qch.contains c=false):defW (c::x++[58])=some (c::x):=by
 cases hd:defW (c::x++[58]) with
 |some y=>
  unfold defW at hd;split at hd;injection hd with hd;rw[<-hd,List.dropLast_concat]
  cases hd
 |none=>
  exfalso;unfold OkW at h;rw[hd] at h
  have hr:refW (c::x++[58])=none:=by
   unfold refW;simp only[cons_append,h1,false_and,if_false]
  rw[hr] at h;simp only at h;unfold qiJ at h;rw[cons_append,all_cons,h2] at h;cases h
theorem qvv{ds:List Wd}{x:Wd}(h:OkW ds (38::x)):refW (38::x)=some x:=by
 have hd:defW (38::x)=none:=by
  unfold defW;split
  rename_i h1
  exfalso
  cases x with
  |nil=>exact absurd h1.1 zDd
  |cons c r=>
   have:=(qrJ h1.2).2 38 _ (List.dropLast_cons_cons ..);exact absurd this zDd
  rfl
 cases hr:refW (38::x) with
 |some y=>
  unfold refW at hr;simp only[true_and] at hr;split at hr;injection hr with hr;rw[<-hr]
  cases hr
 |none=>
  exfalso;unfold OkW at h;rw[hd,hr] at h;simp only at h;unfold qiJ at h;rw[all_cons,show qch.contains 38=false by decide,Bool.false_and] at h;cases h
theorem qvX{x:Wd}(h:defW (x++[58])=some x):refW (38::x)=some x:=by
 unfold defW at h;split at h
 rename_i h1
 rw[List.dropLast_concat] at h1;unfold refW;simp only[true_and,h1.2,if_true];cases h
def Few6(n:Nat):Prop:=n<=2000000
mutual
def smE:Ex->Prop
 |.mk op num name args=>Few6 args.length/\smEs args
def smEs:List Ex->Prop
 |[]=>True
 |x::l=>smE x/\smEs l
end
mutual
def smS:Sm->Prop
 |.mk kind name index value thn els=>Few6 index.length/\Few6 value.length/\Few6 thn.length/\Few6 els.length/\smEs index/\smEs value/\smSs thn/\smSs els
def smSs:List Sm->Prop
 |[]=>True
 |x::l=>smS x/\smSs l
end
structure SmF(f:FnD):Prop where
 params:Few6 f.params.length
 locals:Few6 f.locals.length
 body:Few6 f.body.length
 stmts:smSs f.body
mutual
def ndE:Ex->Nat
 |.mk op num name args=>1+ndEs args
def ndEs:List Ex->Nat
 |[]=>0
 |x::l=>ndE x+ndEs l
end
mutual
def ndS:Sm->Nat
 |.mk kind name index value thn els=>1+(ndEs index+ndEs value+ndSs thn+ndSs els)
def ndSs:List Sm->Nat
 |[]=>0
 |x::l=>ndS x+ndSs l
end
def ndF(f:FnD):Nat:=1+f.params.length+f.locals.length+ndSs f.body
def ndFs:List FnD->Nat
 |[]=>0
 |f::l=>ndF f+ndFs l
theorem qlw(x:Ex):1<=ndE x:=by
 obtain⟨op,num,name,args⟩:=x;rw[ndE];omega
theorem qnR(x:Sm):1<=ndS x:=by
 obtain⟨k,n,i,v,t,e⟩:=x;rw[ndS];omega
theorem qf9:∀ l:List Ex,l.length<=ndEs l
 |[]=>zNr _
 |x::l=>by
  have h1:=qlw x;have h2:=qf9 l;rw[ndEs,zLc];omega
theorem qfa:∀ l:List Sm,l.length<=ndSs l
 |[]=>zNr _
 |x::l=>by
  have h1:=qnR x;have h2:=qfa l;rw[ndSs,zLc];omega
theorem qiX:∀ l:List FnD,l.length<=ndFs l
 |[]=>zNr _
 |x::l=>by
  have h2:=qiX l;rw[ndFs,zLc];unfold ndF;omega
theorem qiK:∀ {l:List FnD} {f:FnD},f∈l->ndF f<=ndFs l
 |g::l,f,h=>by
  rw[ndFs];rcases zMi.1 h with rfl|h;omega;have:=qiK h;omega
theorem qlm:∀ {l:List Ex} {f:Ex},f∈l->ndE f<=ndEs l
 |g::l,f,h=>by
  rw[ndEs];rcases zMi.1 h with rfl|h;omega;have:=qlm h;omega
mutual
theorem qxG:∀ x:Ex,ndE x<=2000000->smE x
 |.mk op num name args,h=>by
  rw[ndE] at h;have:=qf9 args;exact⟨show args.length<=2000000 by omega,qlL args (by omega)⟩
theorem qlL:∀ l:List Ex,ndEs l<=2000000->smEs l
 |[],_=>trivial
 |x::l,h=>by
  rw[ndEs] at h;exact⟨qxG x (by omega),qlL l (by omega)⟩
end
mutual
theorem qxM:∀ x:Sm,ndS x<=2000000->smS x
 |.mk k n i v t e,h=>by
  rw[ndS] at h;have h1:=qf9 i;have h2:=qf9 v;have h3:=qfa t;have h4:=qfa e;exact⟨show i.length<=2000000 by omega,show v.length<=2000000 by omega,show t.length<=2000000 by omega,show e.length<=2000000 by omega,qlL i (by omega),qlL v (by omega),qlg t (by omega),qlg e (by omega)⟩
theorem qlg:∀ l:List Sm,ndSs l<=2000000->smSs l
 |[],_=>trivial
 |x::l,h=>by
  rw[ndSs] at h;exact⟨qxM x (by omega),qlg l (by omega)⟩
end
theorem qsu{f:FnD}(h:ndF f<=2000000):SmF f:=by
 unfold ndF at h;have:=qfa f.body;exact⟨show f.params.length<=2000000 by omega,show f.locals.length<=2000000 by omega,show f.body.length<=2000000 by omega,qlg _ (by omega)⟩
def KnB(B D:Nat)(known:List FSum):Prop:=∀ k∈known,k.need<=B/\k.params+1<=B/\k.depth<=D
theorem qoG(B:Nat)(c:CEnv):∀ (l:List Ex) (i m:Nat),(∀ x∈l,qba c x<=4 * ndE x+B)->qhK i (qaZ c l) m<=max m (4 * ndEs l+i+B)
 |[],i,m,_=>by rw[qaZ,qhK];exact Nat.le_max_left _ _
 |x::l,i,m,h=>by
  rw[qaZ,qhK,ndEs];have h1:=h x zMs;have h2:=qoG B c l (i+1) (max m (i+qba c x)) (λy hy=>h y (zMo _ hy));have h3:=qlw x;omega
mutual
theorem qf8(B D:Nat)(c:CEnv)(hB:KnB B D c.funcs):∀ x:Ex,qba c x<=4 * ndE x+B
 |.mk op num name args=>by
  rw[qba,ndE];have ha:=qm6 B D c hB args
  have h0:(qaZ c args).headD 0<=4 * ndEs args+B:=by
   cases args with
   |nil=>rw[qaZ];exact zero_le _
   |cons x l=>
    have:=ha x zMs;rw[qaZ,ndEs];show qba c x<=_;omega
  have h1:(qaZ c args).tail.headD 0<=4 * ndEs args+B:=by
   cases args with
   |nil=>rw[qaZ];exact zero_le _
   |cons x l=>
    cases l with
    |nil=>rw[qaZ,qaZ];exact zero_le _
    |cons y l=>
     have:=ha y (zMo _ zMs);rw[qaZ,qaZ,ndEs,ndEs];show qba c y<=_;omega
  have hc:qiI c name (qaZ c args)<=4 * (1+ndEs args)+B:=by
   unfold qiI;split;omega;split;omega;unfold CEnv.fn;split
   rename_i k hk
   have hkb:=hB k (mem_of_find?_eq_some hk);have:=qoG B c args 0 (max (k.params+1) k.need) ha;omega;omega
  unfold opN;split;omega;split;omega;split;exact hc;split;omega;split;omega;split;omega;split;omega;split;omega;omega
theorem qm6(B D:Nat)(c:CEnv)(hB:KnB B D c.funcs):∀ (l:List Ex),∀ x∈l,qba c x<=4 * ndE x+B
 |[],x,h=>(not_mem_nil h).elim
 |a::l,x,h=>by
  rcases zMi.1 h with h1|h1;rw[h1];exact qf8 B D c hB a;exact qm6 B D c hB l x h1
end
theorem quU{B D:Nat}{c:CEnv}(hB:KnB B D c.funcs)(op name:Nm):qgl c op name<=D+1:=by
 unfold qgl;split;unfold CEnv.fn;split
 rename_i k hk
 have:=hB k (mem_of_find?_eq_some hk);omega;omega;omega
mutual
theorem qnZ(B D:Nat)(c:CEnv)(hB:KnB B D c.funcs):∀ x:Ex,depE c x<=D+1
 |.mk op num name args=>by
  rw[depE];have h1:=qgO B D c hB args;have h2:=quU hB op name;omega
theorem qgO(B D:Nat)(c:CEnv)(hB:KnB B D c.funcs):∀ l:List Ex,qb0 c l<=D+1
 |[]=>zero_le _
 |x::l=>by
  rw[qb0];have h1:=qnZ B D c hB x;have h2:=qgO B D c hB l;omega
end
theorem qjO{B D:Nat}{c:CEnv}(hB:KnB B D c.funcs)(l:List Ex):qba c (l.headD default)<=4 * (ndEs l+1)+B:=by
 cases l with
 |nil=>
  have:=qf8 B D c hB (default:Ex)
  have h1:ndE (default:Ex)=1:=by
   show ndE (.mk [] 0 [] [])=1;rw[ndE,ndEs]
  show qba c default<=_;rw[ndEs]
  omega
 |cons x l=>
  have:=qf8 B D c hB x;show qba c x<=_;rw[ndEs];omega
mutual
theorem qty(B D:Nat)(c:CEnv)(hB:KnB B D c.funcs):∀ x:Sm,qks c x<=8 * ndS x+B
 |.mk k n i v t e=>by
  rw[qks,ndS];have h1:=qjO hB v;have h2:=qjO hB i;have h3:=qfy B D c hB t;have h4:=qfy B D c hB e;split;omega;split;omega;split;omega;omega
theorem qfy(B D:Nat)(c:CEnv)(hB:KnB B D c.funcs):∀ l:List Sm,qbN c l<=8 * ndSs l+B
 |[]=>by rw[qbN];exact zero_le _
 |x::l=>by
  rw[qbN,ndSs];have h1:=qty B D c hB x;have h2:=qfy B D c hB l;omega
end
mutual
theorem qrg(B D:Nat)(c:CEnv)(hB:KnB B D c.funcs):∀ x:Sm,depS c x<=D+1
 |.mk k n i v t e=>by
  rw[depS];have h1:=qgO B D c hB v;have h2:=qgO B D c hB i;have h3:=qfb B D c hB t;have h4:=qfb B D c hB e;omega
theorem qfb(B D:Nat)(c:CEnv)(hB:KnB B D c.funcs):∀ l:List Sm,qcm c l<=D+1
 |[]=>by rw[qcm];exact zero_le _
 |x::l=>by
  rw[qcm];have h1:=qrg B D c hB x;have h2:=qfb B D c hB l;omega
end
theorem qvS{B D:Nat}{vars arrays later:List Nm}{known:List FSum}{f:FnD}(hB:KnB B D known):(sumF vars arrays later known f).need<=8 * ndF f+B/\(sumF vars arrays later known f).params+1<=8 * ndF f+B/\(sumF vars arrays later known f).depth<=D+1:=by
 have h1:=qfy B D (envF vars arrays later known f) hB f.body;have h2:=qfb B D (envF vars arrays later known f) hB f.body;unfold sumF ndF;simp only;omega
structure SzP(p:Pr)(n:Nat):Prop where
 vars:p.vars.length<=n
 arrays:p.arrays.length<=n
 size:∀ a∈p.arrays,a.size<4294967296
 funcs:ndFs p.funcs<=n
 nums:∀ f∈p.funcs,qcu f.body
structure MsOk(s:MS):Prop where
 mem:∀ i,s.mem i<4294967296
 pc:s.pc<4294967296
 data:∀ v∈s.data,v<4294967296
 calls:∀ v∈s.calls,v<4294967296
 inp:∀ v∈s.inp,v<4294967296
 few:s.data.length<=256
 deep:s.calls.length<=64
theorem MsOk.push{s s':MS}{v:Nat}(h:MsOk s)(hv:v<4294967296)(hs:qdI v s=.run s'):MsOk s':=by
 unfold qdI at hs;split at hs
 rename_i hl
 injection hs with hs;subst hs;exact⟨h.mem,h.pc,λx hx=>(zMi.1 hx).elim (λe=>e▸hv) (h.data x),h.calls,h.inp,by simp only[zLc];omega,h.deep⟩;cases hs
theorem MsOk.pop{s:MS}{a:Nat}{r:List Nat}(h:MsOk s)(hd:s.data=a::r):a<4294967296/\MsOk { s with data:=r }:=by
 have h1:=h.data;have h2:=h.few;rw[hd] at h1 h2;exact⟨h1 a zMs,h.mem,h.pc,λx hx=>h1 x (zMo _ hx),h.calls,h.inp,by simp only[zLc] at h2;show r.length<=256;omega,h.deep⟩
theorem qxk{a b:Nat}(ha:a<4294967296)(hb:b<4294967296):a ^^^ b<4294967296:=Nat.xor_lt_two_pow (n:=32) ha hb
theorem qo0{c a b v:Nat}(ha:a<4294967296)(hb:b<4294967296)(h:binM c a b=some v):v<4294967296:=by
 unfold binM at h;split at h;injection h with h;rw[<-h];exact mod_lt _ zDd;split at h;injection h with h;rw[<-h];exact mod_lt _ zDd;split at h;injection h with h;rw[<-h];exact mod_lt _ zDd;split at h;split at h;cases h;injection h with h;rw[<-h];exact Nat.lt_of_le_of_lt (Nat.div_le_self _ _) ha;split at h;split at h;cases h
 rename_i hb0
 injection h with h;rw[<-h];exact Nat.lt_trans (mod_lt _ (by omega)) hb;split at h;injection h with h;rw[<-h];exact qxk ha hb;injection h with h;rw[<-h];split <;> decide
theorem qxm{c:Nat}{s s':MS}(h:MsOk s)(hc:c<4294967296)(hs:exeM c s=.run s'):MsOk s':=by
 unfold exeM at hs;split at hs
 rename_i hd
 unfold qcd at hd;rw[zBa,zDe,zDe] at hd;unfold qlK at hs;split at hs;split at hs
 rename_i d r hdr
 injection hs with hs;subst hs;obtain⟨_,h2⟩:=h.pop hdr;exact⟨h2.mem,h2.pc,λx hx=>(zMi.1 hx).elim (λe=>by rw[e];exact mod_lt _ zDd) (h2.data x),h2.calls,h2.inp,by have:=h.few;rw[hdr] at this;exact this,h2.deep⟩;cases hs;exact h.push (by omega) hs;split at hs;injection hs with hs;subst hs;exact h;split at hs;unfold ldM at hs;split at hs
 rename_i a r hd
 split at hs;exact(h.pop hd).2.push (h.mem a) hs;cases hs;cases hs;split at hs;unfold stoM at hs;split at hs
 rename_i a v r hd
 split at hs;injection hs with hs;subst hs;obtain⟨h1,h2⟩:=h.pop hd;obtain⟨h3,h4⟩:=h2.pop (a:=v) (r:=r) rfl;refine⟨λi=>?_,h4.pc,h4.data,h4.calls,h4.inp,h4.few,h4.deep⟩;simp only;split;exact h3;exact h.mem i;cases hs;cases hs;split at hs;unfold jmpM at hs;split at hs
 rename_i t v r hd
 injection hs with hs;subst hs;obtain⟨h1,h2⟩:=h.pop hd;obtain⟨h3,h4⟩:=h2.pop (a:=v) (r:=r) rfl;refine⟨h4.mem,?_,h4.data,h4.calls,h4.inp,h4.few,h4.deep⟩;simp only;split;exact h1;exact h.pc;cases hs;split at hs;unfold qmR at hs;split at hs
 rename_i t r hd
 split at hs
 rename_i hl
 injection hs with hs;subst hs;obtain⟨h1,h2⟩:=h.pop hd;exact⟨h2.mem,h1,h2.data,λx hx=>(zMi.1 hx).elim (λe=>e▸h.pc) (h.calls x),h2.inp,h2.few,by simp only[zLc];omega⟩;cases hs;cases hs;split at hs;unfold bakM at hs;split at hs
 rename_i t r hd
 injection hs with hs;subst hs;have h1:=h.calls;have h2:=h.deep;rw[hd] at h1 h2;exact⟨h.mem,h1 t zMs,h.data,λx hx=>h1 x (zMo _ hx),h.inp,h.few,by simp only[zLc] at h2;show r.length<=64;omega⟩;cases hs;split at hs;unfold rdM at hs;split at hs
 rename_i v r hi
 have h1:=h.inp;rw[hi] at h1;have h2:MsOk { s with inp:=r }:=⟨h.mem,h.pc,h.data,h.calls,λx hx=>h1 x (zMo _ hx),h.few,h.deep⟩;exact h2.push (h1 v zMs) hs;exact h.push zDd hs;split at hs;unfold wrM at hs;split at hs
 rename_i v r hd
 injection hs with hs;subst hs;obtain⟨h1,h2⟩:=h.pop hd;exact⟨h2.mem,h2.pc,h2.data,h2.calls,h2.inp,h2.few,h2.deep⟩;cases hs;split at hs;cases hs;split at hs;unfold opM at hs;split at hs
 rename_i b a r hd
 obtain⟨h1,h2⟩:=h.pop hd;obtain⟨h3,h4⟩:=h2.pop (a:=a) (r:=r) rfl;split at hs
 rename_i v hv
 exact h4.push (qo0 h3 h1 hv) hs;cases hs;cases hs;cases hs
theorem qwQ(code:Wd)(og i:Nat):qfq code og i<4294967296:=by
 unfold qfq;split;split
 rename_i c _
 have:=c.toNat_lt;omega;decide;decide
section
variable(vars arrays later:List Nm)
def knF:List FSum->List FnD->FnD->List FSum
 |known,[],f=>known
 |known,g::l,f=>if g.name=f.name then known else knF (known++[sumF vars arrays later known g]) l f
end
section
variable{vars arrays later:List Nm}
theorem qvc:∀ (fs:List FnD) (known:List FSum),qfO vars arrays later known fs=0->(fs.map (·.name)).Nodup->∀ f∈fs,qb1 (envF vars arrays later (knF vars arrays later known fs f) f) f.body=0
 |[],known,_,_,f,hf=>(not_mem_nil hf).elim
 |g::l,known,h,hn,f,hf=>by
  rw[qfO] at h;obtain⟨h1,h2⟩:=qah.1 h;rw[zMc,nodup_cons] at hn;rw[knF];rcases zMi.1 hf with rfl|hf;rw[zp rfl];exact(qah.1 h1).2;rw[zn (λe=>hn.1 (List.mem_map.2 ⟨f,hf,e.symm⟩))];exact qvc l _ h2 hn.2 f hf
theorem qvr:∀ (fs:List FnD) (known:List FSum),(fs.map (·.name)).Nodup->∀ f∈fs,∀ k∈knF vars arrays later known fs f,k∈known∨∃ g∈fs,k=sumF vars arrays later (knF vars arrays later known fs g) g
 |[],known,_,f,hf,k,hk=>(not_mem_nil hf).elim
 |g::l,known,hn,f,hf,k,hk=>by
  rw[zMc,nodup_cons] at hn;rw[knF] at hk;rcases zMi.1 hf with rfl|hf;rw[zp rfl] at hk;exact .inl hk;rw[zn (λe=>hn.1 (List.mem_map.2 ⟨f,hf,e.symm⟩))] at hk;rcases qvr l _ hn.2 f hf k hk with h|⟨x,h1,h2⟩;rcases List.mem_append.1 h with h|h;exact .inl h;refine .inr ⟨g,List.mem_cons_self ..,?_⟩;rw[knF,zp rfl];exact List.mem_singleton.1 h;refine .inr ⟨x,zMo _ h1,?_⟩;rw[knF,zn (λe=>hn.1 (List.mem_map.2 ⟨x,h1,e.symm⟩))];exact h2
theorem qnq:∀ (fs:List FnD) (known:List FSum),(fs.map (·.name)).Nodup->qjL vars arrays later known fs=known++fs.map λg=>sumF vars arrays later (knF vars arrays later known fs g) g
 |[],known,_=>by simp[qjL]
 |g::l,known,hn=>by
  rw[zMc,nodup_cons] at hn;rw[qjL,qnq l _ hn.2,zMc,zAs];congr 1;rw[List.singleton_append];congr 1;rw[knF,zp rfl];refine List.map_congr_left λx hx=>?_;rw[knF,zn (λe=>hn.1 (List.mem_map.2 ⟨x,hx,e.symm⟩))]
theorem qlo(known:List FSum)(f:FnD):qbN (envF vars arrays later known f) f.body<=(sumF vars arrays later known f).need/\qcm (envF vars arrays later known f) f.body<=(sumF vars arrays later known f).depth:=⟨Nat.le_max_right _ _,Nat.le_max_right _ _⟩
end
def fstF(cc:Nm->CC):Nat->Nat->List FnD->FnD->Nat
 |_,i,[],_=>i
 |n,i,g::l,f=>if g.name=f.name then i else fstF cc (fnW (cc g.name) n g).2 (i+(fnW (cc g.name) n g).1.length) l f
theorem qs0{C:PW}{cc:Nm->CC}:∀ (fs:List FnD) (n i:Nat),C.Code i (fnWs cc n fs).1->(fs.map (·.name)).Nodup->∀ f∈fs,∃ nl,C.Code (fstF cc n i fs f) (fnW (cc f.name) nl f).1
 |[],n,i,_,_,f,hf=>(not_mem_nil hf).elim
 |g::l,n,i,h,hn,f,hf=>by
  rw[zMc,nodup_cons] at hn;rw[fnWs] at h;obtain⟨h1,h2⟩:=h.app;rw[fstF];rcases zMi.1 hf with rfl|hf;rw[zp rfl];exact⟨n,h1⟩;rw[zn (λe=>hn.1 (List.mem_map.2 ⟨f,hf,e.symm⟩))];exact qs0 l _ _ h2 hn.2 f hf
theorem qoE(W:List Wd)(og:Nat)(known:Wd->Nat):PW.Code ⟨W,og,known⟩ 0 W:=λk hk=>by
 rw[zero_add];exact List.getElem?_eq_getElem hk
def offA:List Ar->Nm->Nat
 |[],_=>0
 |a::l,x=>if a.name=x then 0 else a.size+offA l x
def totA(l:List Ar):Nat:=(l.map (·.size)).sum
theorem qg8(l:List Ar):((l.map λa=>(a.name,(a.size:Int))).map (·.2)).sum=((totA l:Nat):Int):=by
 unfold totA
 induction l with
 |nil=>rfl
 |cons a l ih=>
  simp only[zMc,sum_cons] at ih ⊢;rw[ih];omega
theorem qpL:∀ (l:List Ar) (at':Int) (a:Ar),a∈l->arrA at' (l.map λa=>(a.name,(a.size:Int))) a.name=at'+(offA l a.name:Nat)
 |[],at',a,h=>(not_mem_nil h).elim
 |b::l,at',a,h=>by
  rw[zMc,arrA,offA]
  by_cases he:b.name=a.name
  rw[zp he,zp he];simp;rw[zn he,zn he];rcases zMi.1 h with rfl|h;exact absurd rfl he;rw[qpL l _ a h];omega
theorem qkT:∀ (l:List Ar),(l.map (·.name)).Nodup->∀ a∈l,offA l a.name+a.size<=totA l
 |[],_,a,h=>(not_mem_nil h).elim
 |b::l,hn,a,h=>by
  rw[zMc,nodup_cons] at hn;have ht:totA (b::l)=b.size+totA l:=by simp[totA]
  rw[offA,ht];rcases zMi.1 h with rfl|h;rw[zp rfl];omega;rw[zn (λe=>hn.1 (List.mem_map.2 ⟨a,h,e.symm⟩))];have:=qkT l hn.2 a h;omega
theorem qni:∀ (l:List Ar),(l.map (·.name)).Nodup->∀ a∈l,∀ b∈l,a.name≠b.name->offA l a.name+a.size<=offA l b.name∨offA l b.name+b.size<=offA l a.name
 |[],_,a,h,_,_,_=>(not_mem_nil h).elim
 |x::l,hn,a,ha,b,hb,hne=>by
  rw[zMc,nodup_cons] at hn;rw[offA,offA];rcases zMi.1 ha with rfl|ha;rw[zp rfl,zn hne];left;omega;rw[zn (λe=>hn.1 (List.mem_map.2 ⟨a,ha,e.symm⟩))];rcases zMi.1 hb with rfl|hb;rw[zp rfl];right;omega;rw[zn (λe=>hn.1 (List.mem_map.2 ⟨b,hb,e.symm⟩))];rcases qni l hn.2 a ha b hb hne with h|h;left;omega;right;omega
theorem quD{l:List Ar}(h:(l.map (·.name)).Nodup){a b:Ar}(ha:a∈l)(hb:b∈l)(he:a.name=b.name):a=b:=by
 induction l with
 |nil=>cases ha
 |cons x l ih=>
  rw[zMc,nodup_cons] at h;rcases zMi.1 ha with rfl|ha';rcases zMi.1 hb with rfl|hb';rfl;exact absurd (List.mem_map.2 ⟨b,hb',he.symm⟩) h.1;rcases zMi.1 hb with rfl|hb';exact absurd (List.mem_map.2 ⟨a,ha',he⟩) h.1;exact ih h.2 ha' hb'
def qbd(P:Pr):List (Nm×Int):=P.arrays.map λa=>(a.name,(a.size:Int))
def qaT(P:Pr)(o:Org):List Wd:=prW P.vars (qbd P) P.funcs o
def qis(P:Pr)(o:Org):Wd->Nat:=qdL (qek (λ_=>0) o.code.toNat (qaT P o))
def trnP(P:Pr)(o:Org):Trn where
 C:=⟨qaT P o,o.code.toNat,qis P o⟩
 P:=P
 cc:=λf=>ccF P.vars (qbd P) P.funcs o f.name
 cenv:=λf=>envF P.vars (P.arrays.map (·.name)) (P.funcs.map (·.name)) (knF P.vars (P.arrays.map (·.name)) (P.funcs.map (·.name)) [] P.funcs f) f
 sa:=λk=>o.scalars.toNat+3+(qai P.vars P.funcs).idxOf k
 aa:=λn=>o.arrays.toNat+offA P.arrays n
 S:=o.scalars.toNat
 fst:=fstF (ccF P.vars (qbd P) P.funcs o) 0 5 P.funcs
theorem qca{z:Int}(h:0<=z):itoa z=decDigits z.toNat:=by
 unfold itoa;rw[zn (by omega)]
structure FitN(P:Pr)(o:Org):Prop where
 s0:0<=o.scalars
 c0:0<=o.code
 a0:0<=o.arrays
 s1:o.scalars.toNat+3+(qai P.vars P.funcs).length<=262144
 c1:o.code.toNat+40000<=262144
 a1:o.arrays.toNat+totA P.arrays<=262144
 cs:o.scalars.toNat+3+(qai P.vars P.funcs).length<=o.code.toNat∨o.code.toNat+40000<=o.scalars.toNat
 asA:0<totA P.arrays->o.scalars.toNat+3+(qai P.vars P.funcs).length<=o.arrays.toNat∨o.arrays.toNat+totA P.arrays<=o.scalars.toNat
 ac:0<totA P.arrays->o.code.toNat+40000<=o.arrays.toNat∨o.arrays.toNat+totA P.arrays<=o.code.toNat
theorem qhd{P:Pr}{o:Org}(h:qfr P.vars (qbd P) P.funcs o=true):FitN P o:=by
 unfold qfr qfR qit at h;simp only[zBa,Bool.not_eq_true',zDe,decide_eq_false_iff_not] at h;have ht:((qbd P).map (·.2)).sum=((totA P.arrays:Nat):Int):=qg8 P.arrays;rw[ht] at h;obtain⟨⟨⟨⟨⟨h1,h2⟩,h3⟩,h4⟩,h5⟩,h6⟩:=h;constructor <;> omega
section
variable{P:Pr}{o:Org}
theorem qxb(hv:Valid P)(hf:FitN P o){f:FnD}(hm:f∈P.funcs)(name:Nm)(hk:keyI f name∈qai P.vars P.funcs):((trnP P o).cc f).sc name=decDigits ((trnP P o).sa (keyI f name)):=by
 show itoa (qeu (qai P.vars P.funcs) o.scalars (keyC (qai P.vars P.funcs) f.name name))=_;have h1:keyC (qai P.vars P.funcs) f.name name=keyI f name:=qyh hv.names hm name;have h2:=hf.s0;rw[h1];unfold qeu;rw[zp hk,qca (by omega)];show _=decDigits (o.scalars.toNat+3+_);congr 1;omega
theorem qi5{l:List Nm}{k:Nm}(h:k∈l):l.idxOf k<l.length:=List.idxOf_lt_length_of_mem h
theorem qwx{l:List Nm}{k k':Nm}(h:k∈l)(h':k'∈l)(he:l.idxOf k=l.idxOf k'):k=k':=by
 have h1:l[l.idxOf k]? = some k:=by rw[List.getElem?_eq_getElem (qi5 h),List.getElem_idxOf]
 have h2:l[l.idxOf k']? = some k':=by rw[List.getElem?_eq_getElem (qi5 h'),List.getElem_idxOf]
 rw[he,h2] at h1;injection h1 with h1;exact h1.symm
theorem qxc(hc:qb9 P=0)(hnum:∀ f∈P.funcs,qcu f.body)(hfit:qfr P.vars (qbd P) P.funcs o=true)(hasm:qgn (qaT P o))(hne:∀ w∈qaT P o,w≠[])(hlen:(qcZ (qis P o) (qaT P o)).length<=40000):TrnOk (trnP P o):=by
 have hv:=qfi hc;have hF:=qhd hfit;have hnames:=(qbA _ _ hv.names).1;have hfn:(P.funcs.map (·.name)).Nodup:=(List.nodup_append.1 hnames).2.1;have han:(P.arrays.map (·.name)).Nodup:=(List.nodup_append.1 (List.nodup_append.1 hnames).1).2.1
 have herr:qfO P.vars (P.arrays.map (·.name)) (P.funcs.map (·.name)) [] P.funcs=0:=by
  unfold qb9 qc3 at hc;have e1:(P.arrays.map λa=>(a.name,(a.size:Int))).map (·.1)=P.arrays.map (·.name):=by rw[map_map];try rfl
  rw[e1] at hc;exact(qah.1 (qah.1 (qah.1 hc).2).2).1
 obtain⟨s0,c0,a0,s1,c1,a1,cs,as',ac⟩:=hF;have hF:FitN P o:=⟨s0,c0,a0,s1,c1,a1,cs,as',ac⟩
 have hcode:∀ f∈P.funcs,∃ nl,(trnP P o).C.Code ((trnP P o).fst f) (fnW ((trnP P o).cc f) nl f).1:=λf hf=>by
  have h1:PW.Code (trnP P o).C 0 ([[38,102,95,109,97,105,110],[58],itoa o.scalars,[33],[36]]++(fnWs (ccF P.vars (qbd P) P.funcs o) 0 P.funcs).1):=qoE _ _ _;exact qs0 P.funcs 0 5 h1.app.2 hfn f hf
 have hmem:∀ {j:Nat} {w:Wd},(qaT P o)[j]? = some w->OkW (defs (qaT P o)) w:=λh=>hasm.2 _ (List.mem_of_getElem? h)
 have hfd:∀ f∈P.funcs,defW ([102,95]++f.name++[58])=some ([102,95]++f.name):=λf hf=>by
  obtain⟨nl,h⟩:=hcode f hf;unfold fnW at h;simp only[List.singleton_append,cons_append,zAs] at h
  have h1:(qaT P o)[(trnP P o).fst f]? = some (102::(95::f.name)++[58]):=by
   have h0:=h.cons.1;simp only[zAs,cons_append,nil_append] at h0 ⊢;exact h0
  have h2:=qrm (hmem h1) zDd zDd;simpa using h2
 refine⟨λf hf name h=>?_,λf hf name h=>?_,λf hf=>?_,λx hx=>?_,λx hx=>?_,λk hk=>?_,λk hk k' hk' h=>?_,λa ha i hi=>?_,λa ha b hb i j hi hj h=>?_,λa ha=>?_,λa ha b hb h=>?_,λf hf=>⟨qvc _ _ herr hfn f hf,hnum f hf⟩,λf hf name g h=>?_,λf hf=>?_,hcode,λj n h=>?_,λj n h=>?_,hfd,λf hf=>qvX (hfd f hf),λj w x hw hd=>?_⟩;have hk:keyI f name∈qai P.vars P.funcs:=qqJ hf h;exact⟨qxb hv hF hf name hk,hk⟩;unfold qeU at h;split at h
 rename_i hm
 obtain⟨a,h1,h2⟩:=List.mem_map.1 (show name∈P.arrays.map (·.name) from hm);refine⟨?_,a,h1,h2⟩;show itoa (arrA o.arrays (qbd P) name)=decDigits (o.arrays.toNat+offA P.arrays name);rw[<-h2];unfold qbd;rw[qpL _ _ _ h1,qca (by omega)];congr 1;omega;split at h <;> cases h;show itoa o.scalars=decDigits o.scalars.toNat/\itoa (o.scalars+1)=decDigits (o.scalars.toNat+1)/\itoa (o.scalars+2)=decDigits (o.scalars.toNat+2);rw[qca s0,qca (by omega),qca (by omega)];exact⟨rfl,by congr 1;omega,by congr 1;omega⟩;rcases hx with⟨k,hk,rfl⟩|hx|⟨a,ha,i,hi,rfl⟩;have h1:(qai P.vars P.funcs).idxOf k<_:=qi5 hk;show o.scalars.toNat+3+(qai P.vars P.funcs).idxOf k<262144;omega;have h1:o.scalars.toNat<=x/\x<=o.scalars.toNat+2:=hx;omega;have h1:=qkT _ han a ha;show o.arrays.toNat+offA P.arrays a.name+i<262144;omega;show x<o.code.toNat∨o.code.toNat+(qcZ (qis P o) (qaT P o)).length<=x;rcases hx with⟨k,hk,rfl⟩|hx|⟨a,ha,i,hi,rfl⟩;have h1:(qai P.vars P.funcs).idxOf k<_:=qi5 hk;show o.scalars.toNat+3+(qai P.vars P.funcs).idxOf k<_∨_<=o.scalars.toNat+3+(qai P.vars P.funcs).idxOf k;omega;have h1:o.scalars.toNat<=x/\x<=o.scalars.toNat+2:=hx;omega;have h1:=qkT _ han a ha;have h2:=ac (by have:i<a.size:=hi;omega);have h3:i<a.size:=hi;show o.arrays.toNat+offA P.arrays a.name+i<_∨_<=o.arrays.toNat+offA P.arrays a.name+i;omega;exact Nat.le_add_right _ _;have h1:o.scalars.toNat+3+(qai P.vars P.funcs).idxOf k=o.scalars.toNat+3+(qai P.vars P.funcs).idxOf k':=h;have h2:(qai P.vars P.funcs).idxOf k=(qai P.vars P.funcs).idxOf k':=by omega
 exact qwx hk hk' h2;have h1:=qkT _ han a ha;have h2:=as' (by omega);refine⟨λk hk=>?_,?_⟩;have h3:(qai P.vars P.funcs).idxOf k<_:=qi5 hk;show o.scalars.toNat+3+(qai P.vars P.funcs).idxOf k≠o.arrays.toNat+offA P.arrays a.name+i;omega;show ¬ (o.scalars.toNat<=o.arrays.toNat+offA P.arrays a.name+i/\o.arrays.toNat+offA P.arrays a.name+i<=o.scalars.toNat+2);omega;have h:o.arrays.toNat+offA P.arrays a.name+i=o.arrays.toNat+offA P.arrays b.name+j:=h
 by_cases he:a.name=b.name
 rw[he] at h;exact⟨he,by omega⟩;rcases qni _ han a ha b hb he with h1|h1;omega;omega;have h1:=qkT _ han a ha;show o.arrays.toNat+offA P.arrays a.name<1000000;omega;rw[quD han ha hb h]
 ·have h1:g∈knF P.vars (P.arrays.map (·.name)) (P.funcs.map (·.name)) [] P.funcs f:=mem_of_find?_eq_some h;have h2:g.name=name:=of_decide_eq_true (List.find?_some (p:=λg:FSum=>decide (g.name=name)) h);rcases qvr P.funcs [] hfn f hf g h1 with h3|⟨x,h3,h4⟩;exact(not_mem_nil h3).elim;have h5:x.name=name:=by rw[<-h2,h4];try rfl
  have h6:=qnN (P:=P) hfn h3;rw[h5] at h6;show fnI P name∈P.funcs/\_;rw[show(trnP P o).P=P from rfl,h6,h4];exact⟨h3,h5,rfl,(qlo _ x).1,(qlo _ x).2⟩
 have ho:=hv.own f hf;have hkey:∀ p∈f.params,keyI f p=f.name++[46]++p:=λp hp=>by unfold keyI;rw[zp (.inl hp)]
 refine⟨λp hp=>?_,?_⟩
 have hk:keyI f p∈qai P.vars P.funcs:=by
  rw[hkey p hp];exact(qro hv.names hf p).2 (List.mem_append.2 (.inl hp))
 exact⟨hk,qxb hv hF hf p hk⟩;have hn:f.params.Nodup:=(List.nodup_append.1 ho.1).1;refine List.pairwise_map.2 (hn.imp_of_mem λ{a b} ha hb hab he=>hab ?_);rw[hkey a ha,hkey b hb] at he;exact List.append_cancel_left he;exact qrm (c:=106) (x:=decDigits n) (hmem h) zDd zDd;exact qvv (hmem h);exact qnj o.code.toNat hasm.1 hne hw hd
end
def AllC(l:List Wd):Prop:=∀ w∈l,qbr w
theorem qa8:AllC []:=λw hw=>(not_mem_nil hw).elim
theorem qaA{w:Wd}{l:List Wd}:AllC (w::l) ↔ qbr w/\AllC l:=List.forall_mem_cons
theorem qaK{a b:List Wd}:AllC (a++b) ↔ AllC a/\AllC b:=List.forall_mem_append
def qrw(w:Wd):Bool:=decide (w≠[]) && w.all λc=>decide (c≠10/\c≠32/\c≠35)
theorem qoj{w:Wd}(h:qrw w=true):qbr w:=by
 unfold qrw at h;rw[zBa,zDe,List.all_eq_true] at h;refine⟨h.1,λc hc=>?_⟩;have:=of_decide_eq_true (h.2 c hc);exact this
theorem qdF{l:List Wd}(h:l.all qrw=true):AllC l:=λw hw=>qoj (List.all_eq_true.1 h w hw)
theorem qdT{z:Int}(h:0<=z):qbr (itoa z):=by rw[qca h];exact qfs _
theorem qkb{a b:Wd}(h:qeN a)(h2:qeN b)(hne:a≠[]):qbr (a++b):=⟨λh=>hne (List.append_eq_nil_iff.1 h).1,λc hc=>(List.mem_append.1 hc).elim (h c) (h2 c)⟩
theorem qgz{p:Prop} [Decidable p]{a b:List Wd}(h1:p->AllC a)(h2:¬ p->AllC b):AllC (if p then a else b):=by
 by_cases h:p
 rw[zp h];exact h1 h;rw[zn h];exact h2 h
structure ClC(c:CC):Prop where
 sc:∀ n,qbr (c.sc n)
 ar:∀ n,qbr (c.ar n)
 t0:qbr c.t0
 t1:qbr c.t1
 t2:qbr c.t2
theorem quR{s:Nm}(h:isNm s=true):qeN s:=by
 unfold isNm at h;rw[zBa] at h;have h2:=h.2
 have hi:∀ c:UInt8,qaV c=true∨qaW c=true->c≠10/\c≠32/\c≠35:=λc hc=>by
  refine⟨?_,?_,?_⟩ <;> (rintro rfl;exact absurd hc zDd)
 cases s with
 |nil=>exact λc hc=>(not_mem_nil hc).elim
 |cons c r=>
  simp only[zBa] at h2;intro d hd;rcases zMi.1 hd with rfl|hd;exact hi _ (.inl h2.1);exact hi _ (.inr (List.all_eq_true.1 h2.2 d hd))
theorem ql0{c:CC}(hc:ClC c):AllC (qa0 c):=by
 have hs:∀ {k:UInt8},(k≠10/\k≠32/\k≠35)->qbr [k]:=λh=>⟨by simp,λx hx=>by rw[List.mem_singleton.1 hx];exact h⟩;unfold qa0
 repeat' first|exact hc.t1|exact hc.t2|exact hs zDd|exact qa8|refine qaA.2 ⟨?_,?_⟩
theorem qrK{c:CC}(hc:ClC c){op name:Nm}{num:Nat}{l:List (List Wd)}(hl:∀ ws∈l,AllC ws)(hop:qbw op ≠ -2)(hcall:op=qbB->qeN name):AllC (opW c op num name l):=by
 have hh:AllC (l.headD []):=by
  cases l with
  |nil=>exact qa8
  |cons a r=>exact hl a zMs
 have h2:AllC ((l.drop 1).headD []):=by
  cases l with
  |nil=>exact qa8
  |cons a r=>
   cases r with
   |nil=>exact qa8
   |cons b r=>exact hl b (zMo _ zMs)
 have hf:AllC l.flatten:=λw hw=>by
  obtain⟨ws,h1,h3⟩:=List.mem_flatten.1 hw;exact hl ws h1 w h3
 have hg:=ql0 hc;have hs:∀ {k:UInt8},(k≠10/\k≠32/\k≠35)->qbr [k]:=λh=>⟨by simp,λx hx=>by rw[List.mem_singleton.1 hx];exact h⟩
 have hbin:¬ (op=nNum)->¬ (op=nVar)->¬ (op=qeh)->¬ (op=qbB)->¬ (op=nNeg)->¬ (op=nNot)->qbr op:=by
  intro a1 a2 a3 a4 a5 a6;unfold qbw at hop;rw[zn (by simp[a1,a2]),zn (by simp[a3,a5,a6]),zn a4] at hop;split at hop
  rename_i h
  exact qdF (l:=qeQ) zDd op h;exact absurd rfl hop
 unfold opW;refine qgz (λn1=>?_) λn1=>qgz (λn2=>?_) λn2=>qgz (λn3=>?_) λn3=>qgz (λn4=>?_) λn4=>qgz (λn5=>?_) λn5=>qgz (λn6=>?_) λn6=>qgz (λn7=>?_) λn7=>qgz (λn8=>?_) λn8=>qgz (λn9=>?_) λn9=>?_;exact qaA.2 ⟨qfs _,qa8⟩
 ·repeat' first|exact hh|exact h2|exact qa8|exact hc.sc _|exact hc.ar _|exact hs zDd|refine qaA.2 ⟨?_,?_⟩|refine qaK.2 ⟨?_,?_⟩
 ·repeat' first|exact hh|exact h2|exact qa8|exact hc.sc _|exact hc.ar _|exact hs zDd|refine qaA.2 ⟨?_,?_⟩|refine qaK.2 ⟨?_,?_⟩
 refine qaK.2 ⟨hf,qgz (λ_=>qdF zDd) λ_=>qgz (λ_=>qdF zDd) λ_=>?_⟩;refine qaA.2 ⟨qkb (λx hx=>?_) (hcall n4) (by simp),qdF zDd⟩;have:=List.all_eq_true.1 (show([38,102,95]:Wd).all (λc=>decide (c≠10/\c≠32/\c≠35))=true by decide) x hx;exact of_decide_eq_true this
 ·repeat' first|exact hh|exact h2|exact qa8|exact hc.sc _|exact hc.ar _|exact hs zDd|refine qaA.2 ⟨?_,?_⟩|refine qaK.2 ⟨?_,?_⟩
 ·repeat' first|exact hh|exact h2|exact qa8|exact hc.sc _|exact hc.ar _|exact hs zDd|refine qaA.2 ⟨?_,?_⟩|refine qaK.2 ⟨?_,?_⟩
 ·repeat' first|exact hh|exact h2|exact qa8|exact hc.sc _|exact hc.ar _|exact hs zDd|refine qaA.2 ⟨?_,?_⟩|refine qaK.2 ⟨?_,?_⟩
 ·repeat' first|exact hh|exact h2|exact qa8|exact hc.sc _|exact hc.ar _|exact hs zDd|refine qaA.2 ⟨?_,?_⟩|refine qaK.2 ⟨?_,?_⟩
 ·repeat' first|exact hh|exact h2|exact qa8|exact hc.sc _|exact hc.ar _|exact hs zDd|refine qaA.2 ⟨?_,?_⟩|refine qaK.2 ⟨?_,?_⟩
 refine qaK.2 ⟨qaK.2 ⟨hh,h2⟩,?_⟩;refine qgz (λ_=>hg) λ_=>qgz (λ_=>qaK.2 ⟨hg,qdF zDd⟩) λ_=>qgz (λ_=>qdF zDd) λ_=>qgz (λ_=>qdF zDd) λ_=>?_;exact qaA.2 ⟨hbin n1 n2 n3 n4 n5 n6,qa8⟩
mutual
theorem qmS{c:CC}(hc:ClC c){env:CEnv}(hfn:∀ k∈env.funcs,qeN k.name):∀ e,errE env e=0->AllC (exW c e)
 |.mk op num name args,h=>by
  rw[errE] at h;split at h
  rename_i ho
  obtain⟨h1,h3⟩:=qah.1 h;rw[exW];refine qrK hc (qkX hc hfn args h1) (by omega) (λhcl=>?_);subst hcl;unfold useE at h3;rw[zn zDd,zn zDd,zp rfl] at h3;unfold callE at h3;split at h3
  rename_i e;rw[e]
  exact λx hx=>of_decide_eq_true (List.all_eq_true.1 (show([105,110]:Wd).all (λc=>decide (c≠10/\c≠32/\c≠35))=true by decide) x hx);split at h3
  rename_i e;rw[e]
  exact λx hx=>of_decide_eq_true (List.all_eq_true.1 (show([111,117,116]:Wd).all (λc=>decide (c≠10/\c≠32/\c≠35))=true by decide) x hx);unfold CEnv.fn at h3
  cases hf:env.funcs.find? λf=>decide (f.name=name) with
  |none=>
   rw[hf] at h3;simp only at h3
   split at h3 <;> cases h3
  |some k=>
   have e:k.name=name:=of_decide_eq_true (List.find?_some (p:=λg:FSum=>decide (g.name=name)) hf);rw[<-e];exact hfn k (mem_of_find?_eq_some hf)
  cases h
theorem qkX{c:CC}(hc:ClC c){env:CEnv}(hfn:∀ k∈env.funcs,qeN k.name):∀ l,qbs env l=0->∀ ws∈exWl c l,AllC ws
 |[],h,ws,hw=>by rw[exWl] at hw;exact(not_mem_nil hw).elim
 |x::l,h,ws,hw=>by
  rw[qbs] at h;obtain⟨h1,h2⟩:=qah.1 h;rw[exWl] at hw;rcases zMi.1 hw with rfl|hw;exact qmS hc hfn x h1;exact qkX hc hfn l h2 ws hw
end
theorem qcE(n:Nat):qbr (labW n)/\qbr (38::labW n)/\qbr (labW n++[58]):=by
 have h:=(qfs n).2
 have h1:∀ {c:UInt8} {w:Wd},(c≠10/\c≠32/\c≠35)->qeN w->qeN (c::w):=λhc hw x hx=>by
  rcases zMi.1 hx with rfl|hx;exact hc;exact hw x hx
 have h2:qeN (labW n):=h1 zDd h;exact⟨⟨by simp[labW],h2⟩,⟨by simp,h1 zDd h2⟩,qkb h2 (h1 zDd λx hx=>(not_mem_nil hx).elim) (by simp[labW])⟩
section
variable{c:CC}{env:CEnv}
theorem qe4{k:UInt8}(h:k≠10/\k≠32/\k≠35):qbr [k]:=⟨by simp,λx hx=>by rw[List.mem_singleton.1 hx];exact h⟩
theorem qkM(hc:ClC c)(hfn:∀ k∈env.funcs,qeN k.name){l:List Ex}(h1:l.length=1)(h:qbs env l=0):AllC (exW c (l.headD default)):=by
 obtain⟨x,rfl⟩:=List.length_eq_one_iff.1 h1;rw[qbs] at h;exact qmS hc hfn x (qah.1 h).1
mutual
theorem qsc(hc:ClC c)(hfn:∀ k∈env.funcs,qeN k.name):∀ (s:Sm) (n:Nat),errS env s=0->AllC (stW c n s).1
 |.mk kind name index value thn els,n,h=>by
  rw[errS] at h
  by_cases hf:qbR (.mk kind name index value thn els)=false
  rw[zp hf] at h;cases h;rw[zn hf] at h;obtain⟨h1,h⟩:=qah.1 h;obtain⟨h2,h⟩:=qah.1 h;obtain⟨h3,h⟩:=qah.1 h;obtain⟨h4,h5⟩:=qah.1 h;rw[Bool.not_eq_false] at hf;unfold qbR at hf
  have hv:kind=1∨kind=2∨kind=3∨kind=4∨kind=5∨kind=6->AllC (exW c (value.headD default)):=λhk=>qkM hc hfn (by
   rcases hk with rfl|rfl|rfl|rfl|rfl|rfl <;> simp at hf <;> simp[hf]) h1
  have ht:=λn=>qf7 hc hfn thn n h4;have he:=λn=>qf7 hc hfn els n h5;unfold stW
  by_cases k1:kind=1
  rw[zp k1];exact qaK.2 ⟨hv (by simp[k1]),qaA.2 ⟨hc.sc _,qdF zDd⟩⟩;rw[zn k1]
  by_cases k2:kind=2
  rw[zp k2];refine qaK.2 ⟨hv (by simp[k2]),qaA.2 ⟨hc.ar _,qaK.2 ⟨qkM hc hfn ?_ h2,qdF zDd⟩⟩⟩;subst k2;simp at hf;simp[hf];rw[zn k2]
  by_cases k3:kind=3
  rw[zp k3];have h8:=hv (by simp[k3])
  cases els with
  |nil=>
   simp only
   exact qaK.2 ⟨qaK.2 ⟨qaK.2 ⟨h8,qaA.2 ⟨(qcE n).2.1,qdF zDd⟩⟩,ht _⟩,qaA.2 ⟨(qcE n).2.2,qa8⟩⟩
  |cons a r=>
   simp only;exact qaK.2 ⟨qaK.2 ⟨qaK.2 ⟨qaK.2 ⟨qaK.2 ⟨h8,qaA.2 ⟨(qcE n).2.1,qdF zDd⟩⟩,ht _⟩,qaA.2 ⟨qe4 zDd,qaA.2 ⟨(qcE (n+1)).2.1,qaA.2 ⟨qe4 zDd,qaA.2 ⟨(qcE n).2.2,qa8⟩⟩⟩⟩⟩,he _⟩,qaA.2 ⟨(qcE (n+1)).2.2,qa8⟩⟩
  rw[zn k3]
  by_cases k4:kind=4
  rw[zp k4];have h8:=hv (by simp[k4]);exact qaK.2 ⟨qaK.2 ⟨qaK.2 ⟨qaK.2 ⟨qaA.2 ⟨(qcE n).2.2,qa8⟩,h8⟩,qaA.2 ⟨(qcE (n+1)).2.1,qdF zDd⟩⟩,ht _⟩,qaA.2 ⟨qe4 zDd,qaA.2 ⟨(qcE n).2.1,qaA.2 ⟨qe4 zDd,qaA.2 ⟨(qcE (n+1)).2.2,qa8⟩⟩⟩⟩⟩;rw[zn k4]
  by_cases k5:kind=5
  rw[zp k5];exact qaK.2 ⟨hv (by simp[k5]),qdF zDd⟩;rw[zn k5]
  by_cases k6:kind=6
  rw[zp k6];exact qaK.2 ⟨hv (by simp[k6]),qaA.2 ⟨hc.t0,qdF zDd⟩⟩;rw[zn k6]
  by_cases k7:kind=7
  rw[zp k7];exact qaA.2 ⟨qe4 zDd,qa8⟩;rw[zn k7];exact qa8
theorem qf7(hc:ClC c)(hfn:∀ k∈env.funcs,qeN k.name):∀ (l:List Sm) (n:Nat),qb1 env l=0->AllC (stWs c n l).1
 |[],n,h=>by rw[stWs];exact qa8
 |s::l,n,h=>by
  rw[qb1] at h;obtain⟨h1,h2⟩:=qah.1 h;rw[stWs];exact qaK.2 ⟨qsc hc hfn s n h1,qf7 hc hfn l _ h2⟩
end
theorem qsx(hc:ClC c)(hfn:∀ k∈env.funcs,qeN k.name)(f:FnD)(n:Nat)(hname:qeN f.name)(h:qb1 env f.body=0):AllC (fnW c n f).1:=by
 unfold fnW;simp only;refine qaK.2 ⟨qaK.2 ⟨qaK.2 ⟨qaA.2 ⟨?_,qa8⟩,λw hw=>?_⟩,qf7 hc hfn _ _ h⟩,qdF zDd⟩;rw[zAs];refine qkb (λx hx=>?_) (λx hx=>?_) (by simp);exact of_decide_eq_true (List.all_eq_true.1 (show([102,95]:Wd).all (λc=>decide (c≠10/\c≠32/\c≠35))=true by decide) x hx);rcases List.mem_append.1 hx with h|h;exact hname x h;exact(qe4 (k:=58) zDd).2 x h;obtain⟨p,h1,h2⟩:=List.mem_flatMap.1 hw;rcases zMi.1 h2 with rfl|h2;exact hc.sc _;rw[List.mem_singleton.1 h2];exact qe4 zDd
end
theorem qkw{cc:Nm->CC}(hc:∀ n,ClC (cc n)):∀ (fs:List FnD) (n:Nat),(∀ f∈fs,∀ m,AllC (fnW (cc f.name) m f).1)->AllC (fnWs cc n fs).1
 |[],n,_=>by rw[fnWs];exact qa8
 |f::l,n,h=>by
  rw[fnWs];exact qaK.2 ⟨h f zMs n,qkw hc l _ λg hg=>h g (zMo _ hg)⟩
section
variable{P:Pr}{o:Org}
theorem qgQ:∀ (l:List (Nm×Int)) (a:Int),0<=a->(∀ p∈l,0<=p.2)->∀ n,0<=arrA a l n
 |[],a,_,_,n=>by simp[arrA]
 |(x,k)::l,a,h,hl,n=>by
  rw[arrA];split;exact h;have:0<=k:=hl (x,k) zMs;exact qgQ l _ (by omega) (λp hp=>hl p (zMo _ hp)) n
theorem qoJ(hF:FitN P o)(own:Nm):ClC (ccF P.vars (qbd P) P.funcs o own):=by
 have s0:=hF.s0;refine⟨λn=>?_,λn=>?_,?_,?_,?_⟩;refine qdT ?_;unfold qeu;split <;> omega;refine qdT (qgQ _ _ hF.a0 (λp hp=>?_) n);obtain⟨a,_,rfl⟩:=List.mem_map.1 hp;exact Int.natCast_nonneg _;exact qdT s0;exact qdT (z:=o.scalars+1) (by omega);exact qdT (z:=o.scalars+2) (by omega)
theorem qjX(hc:qb9 P=0)(hfit:qfr P.vars (qbd P) P.funcs o=true):AllC (qaT P o):=by
 have hv:=qfi hc;have hF:=qhd hfit;have hfr:=qbA _ _ hv.names;have hpl:∀ f∈P.funcs,qeN f.name:=λf hf=>quR (hfr.2 _ (List.mem_append.2 (.inr (List.mem_map.2 ⟨f,hf,rfl⟩)))).2;have h1:AllC ([[38,102,95,109,97,105,110],[58],itoa o.scalars,[33],[36]]:List Wd):=qaA.2 ⟨qoj zDd,qaA.2 ⟨qoj zDd,qaA.2 ⟨qdT hF.s0,qdF zDd⟩⟩⟩;refine qaK.2 ⟨h1,qkw (λn=>qoJ hF n) P.funcs 0 λf hf m=>?_⟩;obtain⟨kn,k1,k2⟩:=hv.bodies f hf;refine qsx (qoJ hF f.name) (λk hk=>?_) f m (hpl f hf) k1;obtain⟨g,g1,g2,_⟩:=k2 k hk;rw[<-g2];exact hpl g g1
theorem qmi{t:Wd}(hnum:∀ f∈P.funcs,qcu f.body)(h:cmpP P.vars (qbd P) P.funcs o=.ok t) :
  qb9 P=0/\qfr P.vars (qbd P) P.funcs o=true/\t=join (qaT P o) [32]/\qbi t=qaT P o/\asmP t o.code=.ok (qcZ (qis P o) (qaT P o),qek (λ_=>0) o.code.toNat (qaT P o))/\TrnOk (trnP P o)/\o.code.toNat+(qcZ (qis P o) (qaT P o)).length<=262144:=by
 unfold cmpP at h;split at h;cases h
 rename_i h1
 split at h;cases h
 rename_i h2
 have hc:qb9 P=0:=by
  have:=Classical.not_not.1 h1;exact this
 have hfit:qfr P.vars (qbd P) P.funcs o=true:=by simpa using h2
 have hcl:=qjX hc hfit;have hw:qbi (join (qaT P o) [32])=qaT P o:=qf2 hcl;split at h;cases h
 rename_i x hx
 injection h with h;have hx:asmP (join (qaT P o) [32]) o.code=.ok x:=hx;have ht:t=join (qaT P o) [32]:=h.symm;rw[ht];have hx0:=hx;unfold asmP at hx;rw[hw] at hx;split at hx;cases hx;split at hx;cases hx
 rename_i h4
 split at hx;cases hx
 rename_i h5
 injection hx with hx
 have hA:qgn (qaT P o):=by
  have:=qpa (src:=join (qaT P o) [32]) (by rw[hw];exact Classical.not_not.1 h4)
  rwa [hw] at this
 have hlen:(qcZ (qis P o) (qaT P o)).length<=40000:=Nat.le_of_not_lt h5;have hF:=qhd hfit;refine⟨hc,hfit,rfl,hw,by rw[hx0,<-hx];try rfl,qxc hc hnum hfit hA (λw hw=>(hcl w hw).1) hlen,?_⟩;have:=hF.c1;omega
end
structure ShC(c:CC):Prop where
 sc:∀ n,(c.sc n).length<=10
 ar:∀ n,(c.ar n).length<=10
 t0:c.t0.length<=10
 t1:c.t1.length<=10
 t2:c.t2.length<=10
def sumW(l:List (List Wd)):Nat:=(l.map tot).sum
theorem qg0(a:List Wd)(l:List (List Wd)):sumW (a::l)=tot a+sumW l:=by simp[sumW]
theorem qux(l:List (List Wd)):tot (l.headD [])+tot ((l.drop 1).headD [])<=sumW l:=by
 cases l with
 |nil=>simp[tot,sumW]
 |cons a r=>
  rw[qg0]
  cases r with
  |nil=>simp[tot,sumW]
  |cons b r=>rw[qg0];simp only[List.headD_cons,List.drop_one,List.tail_cons];omega
theorem qpe:∀ l:List (List Wd),tot l.flatten=sumW l
 |[]=>rfl
 |a::l=>by rw[List.flatten_cons,qbc,qpe l,qg0]
theorem qd9{p:Prop} [Decidable p]{a b:List Wd}{n:Nat}(h1:p->tot a<=n)(h2:¬ p->tot b<=n):tot (if p then a else b)<=n:=by
 by_cases h:p
 rw[zp h];exact h1 h;rw[zn h];exact h2 h
theorem qxl{op:Nm}(h:op∈qeQ):op.length<=2:=by
 have:∀ o∈qeQ,o.length<=2:=by decide
 exact this op h
theorem qw6{c:CC}(hc:ShC c){op name:Nm}{num:Nat}{l:List (List Wd)}(hn:num<4294967296)(hop:qbw op ≠ -2)(hcall:op=qbB->name.length<=24):tot (opW c op num name l)<=60+sumW l:=by
 have hh:=qux l;have hf:=qpe l;have hd:=qhX hn;have h0:=hc.t0;have h1:=hc.t1;have h2:=hc.t2;have hs:=hc.sc name;have ha:=hc.ar name
 have hbin:¬ (op=nNum)->¬ (op=nVar)->¬ (op=qeh)->¬ (op=qbB)->¬ (op=nNeg)->¬ (op=nNot)->op.length<=2:=by
  intro a1 a2 a3 a4 a5 a6;unfold qbw at hop;rw[zn (by simp[a1,a2]),zn (by simp[a3,a5,a6]),zn a4] at hop;split at hop
  rename_i h
  exact qxl h;exact absurd rfl hop
 have hg:tot (qa0 c)<=54:=by
  unfold qa0;simp only[qaM,qa9,zLc,zLn];omega
 unfold opW;refine qd9 (λn1=>?_) λn1=>qd9 (λn2=>?_) λn2=>qd9 (λn3=>?_) λn3=>qd9 (λn4=>?_) λn4=>qd9 (λn5=>?_) λn5=>qd9 (λn6=>?_) λn6=>qd9 (λn7=>?_) λn7=>qd9 (λn8=>?_) λn8=>qd9 (λn9=>?_) λn9=>?_;simp only[qaM,qa9];omega;simp only[qaM,qa9,zLc,zLn];omega;simp only[qaM,qbc,qa9,zLc,zLn];omega;have hnl:=hcall n4;rw[qbc,hf]
 have:tot (if name=[105,110] then ([[44]]:List Wd) else if name=[111,117,116] then [[46],[48]] else [[38,102,95]++name,[58]])<=60:=qd9 (λ_=>by decide) λ_=>qd9 (λ_=>by decide) λ_=>by
  simp only[qaM,qa9,zLa,zLc,zLn];omega
 omega;simp only[qaM,qbc,qa9,zLc,zLn];omega;simp only[qaM,qbc,qa9,zLc,zLn];omega;simp only[qaM,qbc,qa9,zLc,zLn];omega;simp only[qaM,qbc,qa9,zLc,zLn];omega;simp only[qaM,qbc,qa9,zLc,zLn];omega;have hb:=hbin n1 n2 n3 n4 n5 n6;rw[qbc,qbc]
 have:tot (if op=[62] then qa0 c else if op=[60,61] then qa0 c++[[49],[94]] else if op=[62,61] then ([[60],[49],[94]]:List Wd) else if op=[61,61] then [[94],[49],[60]] else [op])<=60:=qd9 (λ_=>by omega) λ_=>qd9 (λ_=>by
  simp only[qaM,qbc,qa9,zLc,zLn];omega) λ_=>qd9 (λ_=>by decide) λ_=>qd9 (λ_=>by decide) λ_=>by
  simp only[qaM,qa9];omega
 omega
mutual
theorem qrW{c:CC}(hc:ShC c){env:CEnv}(hfn:∀ k∈env.funcs,k.name.length<=24):∀ e,numE e->errE env e=0->tot (exW c e)<=60 * ndE e
 |.mk op num name args,hn,h=>by
  rw[errE] at h;rw[numE] at hn;rw[ndE];split at h
  rename_i ho
  obtain⟨h1,h3⟩:=qah.1 h;rw[exW];have:=qpA hc hfn args hn.2 h1;have h5:=qw6 hc (op:=op) (name:=name) (num:=num) (l:=exWl c args) hn.1 (by omega) (λhcl=>?_);omega;subst hcl;unfold useE at h3;rw[zn zDd,zn zDd,zp rfl] at h3;unfold callE at h3;split at h3
  rename_i e;rw[e];decide
  split at h3
  rename_i e;rw[e];decide
  unfold CEnv.fn at h3
  cases hf:env.funcs.find? λf=>decide (f.name=name) with
  |none=>
   rw[hf] at h3;simp only at h3
   split at h3 <;> cases h3
  |some k=>
   have e:k.name=name:=of_decide_eq_true (List.find?_some (p:=λg:FSum=>decide (g.name=name)) hf);rw[<-e];exact hfn k (mem_of_find?_eq_some hf)
  cases h
theorem qpA{c:CC}(hc:ShC c){env:CEnv}(hfn:∀ k∈env.funcs,k.name.length<=24):∀ l,qcX l->qbs env l=0->sumW (exWl c l)<=60 * ndEs l
 |[],_,h=>by rw[exWl];exact zero_le _
 |x::l,hn,h=>by
  rw[qbs] at h;rw[qcX] at hn;obtain⟨h1,h2⟩:=qah.1 h;have a1:=qrW hc hfn x hn.1 h1;have a2:=qpA hc hfn l hn.2 h2;rw[exWl,qg0,ndEs];omega
end
theorem qpl{c:CC}(hc:ShC c){env:CEnv}(hfn:∀ k∈env.funcs,k.name.length<=24){l:List Ex}(h1:l.length=1)(hn:qcX l)(h:qbs env l=0):tot (exW c (l.headD default))<=60 * ndEs l:=by
 obtain⟨x,rfl⟩:=List.length_eq_one_iff.1 h1;rw[qbs] at h;rw[qcX] at hn;have:=qrW hc hfn x hn.1 (qah.1 h).1;rw[ndEs];simp only[List.headD_cons];omega
theorem qjj{n:Nat}(h:n<=4000000000):(labW n).length<=11:=by
 have:=qhX (u:=n) (by omega);simp only[labW,zLc];omega
mutual
theorem qv7{c:CC}(hc:ShC c){env:CEnv}(hfn:∀ k∈env.funcs,k.name.length<=24):∀ (s:Sm) (n:Nat),numS s->errS env s=0->n+2 * ndS s<=4000000000->tot (stW c n s).1<=60 * ndS s/\(stW c n s).2<=n+2 * ndS s
 |.mk kind name index value thn els,n,hnm,h,hN=>by
  rw[errS] at h;rw[numS] at hnm;rw[ndS] at hN ⊢;obtain⟨m1,m2,m3,m4⟩:=hnm
  by_cases hf:qbR (.mk kind name index value thn els)=false
  rw[zp hf] at h;cases h;rw[zn hf] at h;obtain⟨h1,h⟩:=qah.1 h;obtain⟨h2,h⟩:=qah.1 h;obtain⟨h3,h⟩:=qah.1 h;obtain⟨h4,h5⟩:=qah.1 h;rw[Bool.not_eq_false] at hf;unfold qbR at hf
  have hv:kind=1∨kind=2∨kind=3∨kind=4∨kind=5∨kind=6->tot (exW c (value.headD default))<=60 * ndEs value:=λhk=>qpl hc hfn (by
   rcases hk with rfl|rfl|rfl|rfl|rfl|rfl <;> simp at hf <;> simp[hf]) m2 h1
  have ht:=λn hn=>qiO hc hfn thn n m3 h4 hn;have he:=λn hn=>qiO hc hfn els n m4 h5 hn;have l0:=qjj (n:=n) (by omega);have l1:=qjj (n:=n+1) (by omega);have t0:=hc.t0;have ts:=hc.sc name;have ta:=hc.ar name;unfold stW
  by_cases k1:kind=1
  have:=hv (by simp[k1]);rw[zp k1];simp only[qaM,qbc,qa9,zLc,zLn];omega;rw[zn k1]
  by_cases k2:kind=2
  have:=hv (by simp[k2])
  have hi:tot (exW c (index.headD default))<=60 * ndEs index:=by
   refine qpl hc hfn ?_ m1 h2;subst k2;simp at hf;simp[hf]
  rw[zp k2];simp only[qaM,qbc,qa9,zLc,zLn];omega;rw[zn k2]
  by_cases k3:kind=3
  rw[zp k3];have h8:=hv (by simp[k3])
  cases els with
  |nil=>
   have h9:=ht (n+1) (by omega);simp only[qaM,qbc,qa9,zLc,zLn,zLa]
   omega
  |cons a r=>
   have h9:=ht (n+2) (by omega);have h10:=he (stWs c (n+2) thn).2 (by omega);simp only[qaM,qbc,qa9,zLc,zLn,zLa];omega
  rw[zn k3]
  by_cases k4:kind=4
  rw[zp k4];have h8:=hv (by simp[k4]);have h9:=ht (n+2) (by omega);simp only[qaM,qbc,qa9,zLc,zLn,zLa];omega;rw[zn k4]
  by_cases k5:kind=5
  have:=hv (by simp[k5]);rw[zp k5];simp only[qaM,qbc,qa9,zLc,zLn];omega;rw[zn k5]
  by_cases k6:kind=6
  have:=hv (by simp[k6]);rw[zp k6];simp only[qaM,qbc,qa9,zLc,zLn];omega;rw[zn k6]
  by_cases k7:kind=7
  rw[zp k7];simp only[qaM,qa9,zLc,zLn];omega;rw[zn k7];simp only[qa9];omega
theorem qiO{c:CC}(hc:ShC c){env:CEnv}(hfn:∀ k∈env.funcs,k.name.length<=24):∀ (l:List Sm) (n:Nat),qcu l->qb1 env l=0->n+2 * ndSs l<=4000000000->tot (stWs c n l).1<=60 * ndSs l/\(stWs c n l).2<=n+2 * ndSs l
 |[],n,_,h,_=>by rw[stWs];simp[qa9]
 |s::l,n,hnm,h,hN=>by
  rw[qb1] at h;rw[qcu] at hnm;rw[ndSs] at hN ⊢;obtain⟨h1,h2⟩:=qah.1 h;have a1:=qv7 hc hfn s n hnm.1 h1 (by omega);have a2:=qiO hc hfn l (stW c n s).2 hnm.2 h2 (by omega);rw[stWs];simp only[qbc];omega
end
theorem qmU{c:CC}(hc:ShC c):∀ l:List Nm,tot (l.flatMap λp=>[c.sc p,[33]])<=20 * l.length
 |[]=>zNr _
 |p::l=>by
  have:=qmU hc l;have:=hc.sc p;rw[List.flatMap_cons,qbc];simp only[qaM,qa9,zLc,zLn];omega
theorem qvO{c:CC}(hc:ShC c){env:CEnv}(hfn:∀ k∈env.funcs,k.name.length<=24)(f:FnD)(n:Nat)(hname:f.name.length<=24)(hnm:qcu f.body)(h:qb1 env f.body=0)(hN:n+2 * ndF f<=4000000000):tot (fnW c n f).1<=60 * ndF f/\(fnW c n f).2<=n+2 * ndF f:=by
 unfold ndF at hN ⊢;have h1:=qiO hc hfn f.body n hnm h (by omega);have h2:=qmU hc f.params.reverse;rw[List.length_reverse] at h2;unfold fnW;simp only[qaM,qbc,qa9,zLc,zLn,zLa];omega
theorem qoK{cc:Nm->CC}:∀ (fs:List FnD) (n:Nat),(∀ f∈fs,∀ m,m+2 * ndF f<=4000000000->tot (fnW (cc f.name) m f).1<=60 * ndF f/\(fnW (cc f.name) m f).2<=m+2 * ndF f)->n+2 * ndFs fs<=4000000000->tot (fnWs cc n fs).1<=60 * ndFs fs/\(fnWs cc n fs).2<=n+2 * ndFs fs
 |[],n,_,_=>by rw[fnWs];simp[qa9]
 |f::l,n,h,hN=>by
  rw[ndFs] at hN ⊢;have a1:=h f zMs n (by omega);have a2:=qoK l (fnW (cc f.name) n f).2 (λg hg=>h g (zMo _ hg)) (by omega);rw[fnWs];simp only[qbc];omega
section
variable{P:Pr}{o:Org}
theorem qf5{z:Int}(h:0<=z)(h2:z<4294967296):(itoa z).length<=10:=by
 rw[qca h];exact qhX (by omega)
theorem qhS:∀ (l:List (Nm×Int)) (a:Int),0<=a->(∀ p∈l,0<=p.2)->∀ n,arrA a l n<=a+(l.map (·.2)).sum
 |[],a,h,_,n=>by simp[arrA];exact h
 |(x,k)::l,a,h,hl,n=>by
  have hk:0<=k:=hl (x,k) zMs;have hl':=λp hp=>hl p (zMo (x,k) hp)
  have hs:∀ m:List (Nm×Int),(∀ p∈m,0<=p.2)->0<=(m.map (·.2)).sum:=by
   intro m
   induction m with
   |nil=>intro _;simp
   |cons q m ih=>
    intro hm;have h1:=hm q zMs;have h2:=ih λp hp=>hm p (zMo _ hp);rw[zMc,sum_cons];omega
  have hsl:=hs l hl';rw[arrA,zMc,sum_cons];split;show a<=a+(k+_);omega;have:=qhS l (a+k) (by omega) hl' n;show _<=a+(k+_);omega
theorem quO(hF:FitN P o)(own:Nm):ShC (ccF P.vars (qbd P) P.funcs o own):=by
 have s0:=hF.s0;have s1:=hF.s1;have a0:=hF.a0;have a1:=hF.a1
 have hp:∀ p∈qbd P,0<=p.2:=λp hp=>by
  obtain⟨a,_,rfl⟩:=List.mem_map.1 hp;exact Int.natCast_nonneg _
 refine⟨λn=>?_,λn=>?_,?_,?_,?_⟩;refine qf5 ?_ ?_;unfold qeu;split <;> omega;unfold qeu;split
 rename_i h
 have:=List.idxOf_lt_length_of_mem h;omega;omega;refine qf5 (qgQ _ _ a0 hp n) ?_;have h1:=qhS (qbd P) o.arrays a0 hp n;have h2:((qbd P).map (·.2)).sum=((totA P.arrays:Nat):Int):=qg8 P.arrays;rw[h2] at h1;omega;exact qf5 s0 (by omega);exact qf5 (z:=o.scalars+1) (by omega) (by omega);exact qf5 (z:=o.scalars+2) (by omega) (by omega)
theorem qrM(hc:qb9 P=0)(hnum:∀ f∈P.funcs,qcu f.body)(hfit:qfr P.vars (qbd P) P.funcs o=true)(hnd:ndFs P.funcs<=2000000):tot (qaT P o)<=60+60 * ndFs P.funcs/\(fnWs (ccF P.vars (qbd P) P.funcs o) 0 P.funcs).2<=2 * ndFs P.funcs:=by
 have hv:=qfi hc;have hF:=qhd hfit;have hfr:=qbA _ _ hv.names
 have hpl:∀ f∈P.funcs,f.name.length<=24:=λf hf=>by
  have h:=(hfr.2 _ (List.mem_append.2 (.inr (List.mem_map.2 ⟨f,hf,rfl⟩)))).2;unfold isNm at h;rw[zBa,zBa,zDe] at h;exact h.1.1
 have hb:=qoK (cc:=ccF P.vars (qbd P) P.funcs o) P.funcs 0 (λf hf m hm=>by
  obtain⟨kn,k1,k2⟩:=hv.bodies f hf;refine qvO (quO hF f.name) (λk hk=>?_) f m (hpl f hf) (hnum f hf) k1 hm;obtain⟨g,g1,g2,_⟩:=k2 k hk;rw[<-g2]
  exact hpl g g1) (by omega)
 have ht:=qf5 (z:=o.scalars) hF.s0 (by have:=hF.s1;omega);refine⟨?_,by omega⟩;unfold qaT prW;rw[qbc];simp only[qaM,qa9,zLc,zLn];omega
end
def prOf(vars:List Nm)(arrays:List (Nm×Int))(fs:List FnD):Pr:=⟨vars,arrays.map λa=>⟨a.1,a.2.toNat⟩,fs⟩
theorem qsT{vars:List Nm}{arrays:List (Nm×Int)}{fs:List FnD}(h:∀ a∈arrays,0<=a.2):qbd (prOf vars arrays fs)=arrays:=by
 unfold qbd prOf;simp only[map_map]
 conv=>rhs;rw[<-List.map_id arrays]
 refine List.map_congr_left λa ha=>?_;have:=h a ha;simp only[Function.comp,id];rw[Int.toNat_of_nonneg this]
theorem qnf:∀ (l:List Int) (t:Int),0<=t->t<=150000->qg3 t l=0->t+l.sum<=150000/\∀ n∈l,0<n
 |[],t,h0,h1,_=>by
  rw[List.sum_nil]
  exact⟨by omega,λn hn=>(not_mem_nil hn).elim⟩
 |a::l,t,h0,h1,h=>by
  rw[qg3] at h;split at h;cases h;split at h;cases h;obtain⟨g1,g2⟩:=qnf l (t+a) (by omega) (by omega) h;rw[sum_cons];refine⟨by omega,λn hn=>?_⟩;rcases zMi.1 hn with rfl|hn;omega;exact g2 n hn
theorem qnO{vars:List Nm}{arrays:List (Nm×Int)}{fs:List FnD}(h:qc3 vars arrays fs=0):(arrays.map (·.2)).sum<=150000/\(∀ a∈arrays,0<a.2)/\qbd (prOf vars arrays fs)=arrays/\qb9 (prOf vars arrays fs)=0/\Valid (prOf vars arrays fs):=by
 have h0:=h;unfold qc3 at h;obtain⟨h1,h⟩:=qah.1 h;obtain⟨h2,h⟩:=qah.1 h;obtain⟨s1,s2⟩:=qnf _ 0 zDd zDd h2;have hp:∀ a∈arrays,0<a.2:=λa ha=>s2 a.2 (List.mem_map_of_mem ha);have ha:=qsT (vars:=vars) (fs:=fs) λa ha=>Int.le_of_lt (hp a ha)
 have hc:qb9 (prOf vars arrays fs)=0:=by
  have:(prOf vars arrays fs).arrays.map (λa=>(a.name,(a.size:Int)))=arrays:=ha;unfold qb9;rw[this];exact h0
 exact⟨by omega,hp,ha,hc,qfi hc⟩
def symA:Int->List (Nm×Int)->List (Nm×Int)
 |_,[]=>[]
 |a,(x,n)::r=>(x,a)::symA (a+n) r
theorem qk4:∀ (l:List (Nm×Int)) (a:Int),(symA a l).map (·.1)=l.map (·.1)
 |[],_=>rfl
 |(x,n)::r,a=>by rw[symA,zMc,zMc,qk4 r]
theorem qly:∀ (l:List (Nm×Int)) (a:Int),(symA a l).length=l.length
 |[],_=>rfl
 |(x,n)::r,a=>by rw[symA,zLc,zLc,qly r]
theorem qpd:∀ (l m:List (Nm×Int)) (a:Int),symA a (l++m)=symA a l++symA (a+(l.map (·.2)).sum) m
 |[],m,a=>by simp[symA]
 |(x,n)::r,m,a=>by
  rw[cons_append,symA,qpd r m,symA,cons_append,zMc,sum_cons,Int.add_assoc]
def qfx(r:Int×Int):Bool:=qfR r.1 r.2
def qjg(r s:Int×Int):Bool:=qit r.1 r.2 s.1 s.2
def goR:List (Int×Int)->List (Int×Int)->Bool
 |_,[]=>true
 |prev,r::rest=>qfx r && (prev.all λs=>!qjg r s) && goR (prev++[r]) rest
theorem qwo(vars:List Nm)(arrays:List (Nm×Int))(fs:List FnD)(o:Org):qfr vars arrays fs o=goR [] [(o.scalars,3+((qai vars fs).length:Nat)),(o.code,40000),(o.arrays,(arrays.map (·.2)).sum)]:=by
 unfold qfr goR goR goR goR qfx qjg;simp only[List.all_nil,nil_append,all_cons,List.singleton_append,cons_append,Bool.and_true];generalize qfR o.scalars _=a;generalize qfR o.code 40000=b;generalize qfR o.arrays _=c;generalize qit o.code 40000 o.scalars _=d;generalize qit o.arrays _ o.scalars _=e;generalize qit o.arrays _ o.code 40000=f;revert a b c d e f;decide
section
variable{P:Pr}{o o':Org}{t t' x x':Wd}{labs labs':List (Wd×Nat)}
end
theorem qnx{ds:List Wd}{known:Wd->Nat}{w:Wd}(h:OkW ds w)(hd:defW w=none):∀ c∈qaG known w,qch.contains c=true:=by
 unfold OkW at h;rw[hd] at h;unfold qaG
 cases hr:refW w with
 |some x=>
  intro c hc
  exact qkE ((qfY (known x)).2 c hc)
 |none=>
  rw[hr] at h;simp only at h;exact λc hc=>List.all_eq_true.1 h c hc
theorem qjW{ds:List Wd}{known:Wd->Nat}:∀ (l:List Wd) (t:Wd),(∀ w∈l,OkW ds w)->(∀ c∈t,qch.contains c=true∨c=32)->∀ c∈l.foldl (addT known) t,qch.contains c=true∨c=32
 |[],t,_,h=>h
 |w::l,t,hw,h=>by
  rw[foldl_cons];refine qjW l _ (λx hx=>hw x (zMo _ hx)) λc hc=>?_;unfold addT at hc
  cases hd:defW w with
  |some y=>
   rw[hd] at hc
   exact h c hc
  |none=>
   rw[hd] at hc;simp only at hc;rcases List.mem_append.1 hc with hc|hc;rcases List.mem_append.1 hc with hc|hc;exact h c hc;split at hc;exact .inr (List.mem_singleton.1 hc);exact(not_mem_nil hc).elim;exact .inl (qnx (hw w zMs) hd c hc)
theorem qi9{src x:Wd}{og:Int}{labs:List (Wd×Nat)}(h:asmP src og=.ok (x,labs)):x.length<=40000/\(defs (qbi src)).Nodup/\∀ c∈x,qch.contains c=true∨c=32:=by
 unfold asmP at h;split at h;cases h;split at h;cases h
 rename_i h1
 split at h;cases h
 rename_i h2
 injection h with h;injection h with h _;have hA:=qpa (Classical.not_not.1 h1);refine⟨by rw[<-h];exact Nat.le_of_not_lt h2,hA.1,?_⟩;rw[<-h];exact qjW _ _ hA.2 λc hc=>(not_mem_nil hc).elim
end Go.Stele
