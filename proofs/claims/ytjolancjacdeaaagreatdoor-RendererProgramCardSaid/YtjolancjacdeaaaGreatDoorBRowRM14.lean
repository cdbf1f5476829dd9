import Derived.Test.YtjolancjacdeaaaGreatDoorBRowRM13
set_option linter.unusedVariables false
set_option linter.unusedSimpArgs false
set_option maxRecDepth 100000
set_option maxHeartbeats 4000000
open Go.GL (zk)
open List (sum_cons cons_append take_length)
open Nat (zero_le)
namespace Go.Ba
open Go.Lib
def Zp(b:Xb):Prop:=∀ c∈b.runs,c.toNat<128
theorem Z9{s:Wd}{b:Xb}(h:nj s=.ok b):Zp b:=by
 unfold nj at h;split at h;cases h;rename_i hs;have hs:s.all vj=true:=by simpa using hs
 split at h;cases h;intro c hc;cases hc;split at h;split at h;cases h;intro c hc;cases hc;cases h;split at h;split at h;cases h;cases h;intro c hc;cases hc;split at h;split at h;rename_i n r hp;cases h;obtain⟨_,_,_,h4⟩:=VP hp;intro c hc;have:c∈s:=List.mem_of_mem_drop (i:=2) (by rw[h4];exact List.mem_append_right _ (Sc _ hc));have h5:=List.all_eq_true.1 hs c this;unfold vj at h5;simp only[Le,sf] at h5;omega;cases h;cases h;intro c hc;cases hc
theorem z8{out:List Xb}{op:Nat}{b:Xb}(ho:∀ x∈out,Zp x)(hb:Zp b):∀ x∈Fk out op b,Zp x:=by unfold Fk;split;exact ho;split;refine fI (P:=Zp) ?_ ho;exact λa ha=>ha;split;refine fI (P:=Zp) ?_ ho;exact λa ha=>ha;intro x hx;rcases Kj hx with h|h;exact ho x h;rw[wh h];exact hb
theorem nX:∀ (l:List Wd) (n:Nat) (out:List Xb) (op:Nat) (o:List Xb) (k:Nat),(∀ x∈out,Zp x)->Nf n out op l=.ok (o,k)->∀ x∈o,Zp x
 |[],n,out,op,o,k,ho,h=>by cases h;exact ho
 |s::r,n,out,op,o,k,ho,h=>by
  rw[Nf] at h;cases hs:nj s with
  |error e=>rw[hs] at h;cases h
  |ok b=>rw[hs] at h;exact nX r _ _ _ _ _ (z8 ho (Z9 hs)) h
theorem qpu{t:Wd}{l:List Xb}(h:Ij t=.ok l):∀ b∈l,Bl b:=λb hb=>by
 have h1:=tP h;have h2:=(KH.1 h).1;have h3:bw b<=bws l:=zC bw hb;have h4:bw b<=90000:=by omega
 refine⟨qqp h b hb,by omega,λr hr=>?_,?_⟩;have h5:=zC (λr:List Wd=>(r.map λc=>c.length+3).sum+2) hr
 have h6:∀ q:List Wd,3 * q.length<=(q.map λc=>c.length+3).sum:=by
  intro q;induction q with
  |nil=>simp
  |cons a q ih=>simp only[Tb,sum_cons,Oa];omega
 have:=h6 r;unfold bw at h4;omega;obtain⟨_,h⟩:=KH.1 h;obtain⟨k,h⟩:=JO.1 h;exact nX _ _ _ _ _ _ (by simp) h b hb
theorem HX(p:Wd):∀ l:List Wd,join (l++[p]) [10]=if l=[] then p else join l [10]++[10]++p
 |[]=>by rw[List.nil_append,join_one,zp rfl]
 |[a]=>by rw[List.singleton_append,QL,join_one,join_one,zn (by simp)]
 |a::b::r=>by have ih:=HX p (b::r);rw[zn (by simp)] at ih;rw[zn (by simp),cons_append,cons_append,QL,<-cons_append,ih,QL];simp
theorem qqk(l:List Wd)(s:Wd):xh (l++[s])=xh l++(s++[10]):=by unfold xh;rw[List.flatMap_append];simp
theorem qpU(l:List Wd)(x:Nat):(xh (l.take x)).length<=(xh l).length:=by
 have h:xh l=xh (l.take x)++xh (l.drop x):=by unfold xh;rw[<-List.flatMap_append,List.take_append_drop]
 rw[h,ua];omega
theorem WY:∀ l:List Wd,l.length<=(xh l).length
 |[]=>zero_le _
 |a::l=>by
  have:=WY l;have h:xh (a::l)=(a++[10])++xh l:=by unfold xh;rw[List.flatMap_cons]
  rw[h];simp only[Oa,ua,Eb];omega
def Kv(l:List Wd):Wd:=if l=[] then [] else join l [10]++[10]
theorem uX(l:List Wd)(p:Wd):join (l++[p]) [10]=Kv l++p:=by rw[HX];unfold Kv;split;rfl;rfl
theorem HP(w:Nat):∀ (a b:List Xb),bl w (a++b)=match bl w a with
  |.error e=>.error e
  |.ok p=>match bl w b with
   |.error e=>.error e
   |.ok q=>.ok (p++q)
 |[],b=>by rw[List.nil_append,bl];try cases bl w b <;> rfl
 |x::a,b=>by
  rw[cons_append,bl,bl,HP w a b];cases Dl w x with
  |error e=>rfl
  |ok rows=>
   simp only;cases bl w a with
   |error e=>rfl
   |ok p=>simp only;cases bl w b <;> rfl
end Go.Ba
namespace Go.Proofs.YtjolancjacdeaaaGreatDoor.Rr
open Go.GL Go.RowKit Go.Ba
attribute [local irreducible] ea Ga Ja aa Go.GL.Pure Bc Tc oc LQ Pa Td Lf
theorem zU(a b c:Nat×da)(H:Heap):(b::c::(a::H)).Perm ((b::c::H)++[a]):=by rw[cons_append,cons_append];exact dm _ (dm _ (dd (l₁:=[a]) (l₂:=H)))
def UU:Except (Nat×Nat) Wd->LV
 |.ok s=>.tuple [str s,int .i64 0,int .i64 0]
 |.error (n,e)=>.tuple [str [],int .i64 n,int .i64 e]
theorem qq0{w:Nat}{b:Xb}{e:Nat}(h:Dl w b=.error e):0<e:=by unfold Dl at h;split at h;split at h;cases h;cases h;decide;split at h;split at h;cases h;cases h;decide;split at h;cases h;unfold zA at h;split at h;cases h;decide;split at h;cases h;decide;split at h;cases h;decide;split at h;cases h;decide;cases h
variable{B0:Nat}{w0:World}
theorem w9{t:Wd}{n e:Nat}(h:Ij t=.error (n,e)):0<e:=by
 have hl:∀ (s:Wd) (x:Nat),nj s=.error x->0<x:=by intro s x h;unfold nj at h;split at h;cases h;decide;split at h;cases h;split at h;split at h;cases h;rename_i y hc;cases h;exact AX hc;split at h;split at h;cases h;decide;cases h;split at h;split at h;cases h;cases h;decide;cases h
 have hf:∀ (l:List Wd) (k:Nat) (out:List Xb) (op:Nat),Qn k out op l=.error (n,e)->0<e:=by
  intro l;induction l with
  |nil=>intro k out op h;cases h
  |cons s l ih=>
   intro k out op h;rw[Qn] at h;cases hs:nj s with
   |error x=>rw[hs] at h;cases h;exact hl s _ hs
   |ok b=>rw[hs] at h;exact ih _ _ _ h
 unfold Ij at h;split at h;cases h;decide;exact hf _ _ _ _ h
theorem qm4(hG:GW B0 w0)(text:List UInt8)(w:Int)(hs:text.length<=100000000)(fa:1<=w/\w<=200->∀ l i parts,Ij text=.ok l->bl w.toNat (l.take i)=.ok parts->(Go.Lib.join parts [10]).length<=4000000000):aa (KC B0 w0) 9 [str text,int .i64 w] [] (gb (UU (sO text w))):=by
 have hP:sO text w=if w<1∨200<w then .error (0,2) else match Ij text with
  |.error e=>.error e
  |.ok l=>match bl w.toNat l with
   |.error e=>.error (0,e)
   |.ok parts=>if 65536<(Go.Lib.join parts [10]).length then .error (0,6) else .ok (Go.Lib.join parts [10]):=rfl
 have hD:=qqf (B0:=B0) (w0:=w0) hG text hs;refine cJ Tryz.func9 (n:=72) ?_;refine ia ?_;refine oB 20 rfl (λh1=>?_) λh1=>?_;rw[zp (.inl (zt h1))] at hP;refine oa ?_;refine oC rfl (λ_=>?_) (λh=>by cases h);refine Oe ?_;exact Na rfl (rC (ib rfl) (rC (ib rfl) (va rfl))) (by rw[hP];rfl);have g1:=zf h1;refine za ?_;refine sa (λh=>?_) λh=>?_;rw[zp (.inr (zt h))] at hP;refine Oe ?_;exact Na rfl (rC (ib rfl) (rC (ib rfl) (va rfl))) (by rw[hP];rfl);have g2:=zf h;obtain⟨n,rfl⟩:∃ n:Nat,w=n:=⟨w.toNat,by omega⟩;rw[zn zo] at hP;have fa:=fa ⟨by omega,by omega⟩;rw[Int.toNat_natCast] at hP fa;refine ia ?_;refine oS (sF [_] rfl hD ?_)
 cases sr:Ij text with
 |error q=>
  obtain⟨x,y⟩:=q;rw[sr] at hP;have hy:=w9 sr;unfold VN;refine ja ?_;refine oC rfl (λh=>?_) λh=>absurd (zt (qt h)) zo;refine ia ?_
  exact Na rfl (rC (ib rfl) (rC (ib rfl) (va rfl))) (by rw[hP];rfl)
 |ok l=>
  rw[sr] at hP;simp only at hP;have qo:=qpu sr;have tw:l.length<=100000:=by have h1:=tP sr;have h2:=(KH.1 sr).1;have h3:=HH l;omega
  have fa:=λi parts=>fa l i parts sr;have Kn:(l.map wg).length=l.length:=Ua _;unfold VN;refine ja ?_;refine oC rfl (λh=>by cases h) λ_=>?_;refine ia ?_;refine oS (S.Ef [_] rfl (qq5 n) (λv H' hh=>?_) (by rintro ch H' ⟨b,m,h,_⟩;cases h));obtain⟨b1,m,hv,rfl⟩:=hh;cases hv;refine Xj ?_;refine oS (yc λVs=>?_);refine ia ?_
  refine oL (λk sl H=>∃ (i:Nat) (parts:List Wd) (HB:Heap),i<=l.length/\k=l.length-i/\bl n (l.take i)=.ok parts/\parts.length=i/\BH Vs (Go.Lib.join parts [10]) HB/\sl=[(10,.atom (.map (some m))),(11,ptr Vs 0),(36,.list (l.map wg)),(37,int .i64 l.length),(38,int .i64 i)]/\H=(m,.obj (.map (fq b1) 4))::(b1,.cells 3 [int .i64 n])::HB)
   ⟨_,_,_,⟨0,[],_,zero_le _,rfl,rfl,rfl,⟨_,_,[],.inl rfl,Ee.nil,rfl⟩,rfl,rfl⟩,Qa,⟨[],by
    rw[Qb];exact(dd (l₁:=[_]) (l₂:=[_,_]))⟩⟩ ?_
  rintro k sl H ⟨i,parts,HB,hi,rfl,PJ,Ul,hB,rfl,rfl⟩ j1 Pb;refine Nd ?_;refine sa (λhc=>?_) λhc=>?_;have wa:i<l.length:=by have:=zt hc;omega
  have dE:l[i]∈l:=List.getElem_mem wa;have Rd:=qo _ dE;have hg:(l.map wg)[((i:Nat):Int).toNat]? = some (wg l[i]):=Hh _ _ _ wa;have uw:bl n (l.take (i+1))=match Dl n l[i] with
    |.error e=>.error e
    |.ok rows=>.ok (parts++[xh rows]):=by
   rw[List.take_succ_eq_append_getElem wa,HP,PJ];simp only[bl];cases Dl n l[i] <;> rfl
  have kT:bl n l=match bl n (l.take (i+1)) with
    |.error e=>.error e
    |.ok p=>match bl n (l.drop (i+1)) with
     |.error e=>.error e
     |.ok q=>.ok (p++q):=by
   rw[<-HP,List.take_append_drop]
  have rJ:=fa (i+1);have K1:=fa i parts PJ;generalize l[i]=b at *;obtain⟨kind,words,Oh,runs,width⟩:=b;have hkd:kind=1∨kind=2∨kind=3∨kind=4:=by rcases Rd.ZJ with h|h|h|h;exact .inl h.1;exact .inr (.inl h.1);exact .inr (.inr (.inl h.1));exact .inr (.inr (.inr h.1))
  refine ia ?_;refine ca (xR (ad:=wg ⟨kind,words,Oh,runs,width⟩) (cs:=[int .i64 kind,.list (words.map str),.list (Oh.map λr=>.list (r.map str)),str runs,int .i64 width]) rfl rfl zo hg rfl rfl)<|za ?_;refine oS (yc λiN=>?_);refine ja ?_
  cases hr:Dl n ⟨kind,words,Oh,runs,width⟩ with
  |error er=>
   rw[hr] at uw;have hep:=qq0 hr;refine ea.Qp [(10,.atom (.map (some m))),(11,ptr Vs 0),(12,int .i64 i),(14,.list []),(15,int .i64 er),(36,.list (l.map wg)),(37,int .i64 l.length),(38,int .i64 i)] ((m,.obj (.map (fq b1) 4))::(b1,.cells 3 [int .i64 n])::HB) ?_ λj2 Ub=>?_;exact lU;refine ja ?_;refine oC rfl (λh=>?_) λh=>absurd (zt (qt h)) zo;rw[kT,uw] at hP;refine ia ?_
   exact Na (Ub.trans Pb) (rC (ib rfl) (rC (ib rfl) (va rfl))) (by rw[hP];rfl)
  |ok rows=>
   rw[hr] at uw;refine ea.Qp [(10,.atom (.map (some m))),(11,ptr Vs 0),(12,int .i64 i),(14,.list (rows.map str)),(15,int .i64 0),(36,.list (l.map wg)),(37,int .i64 l.length),(38,int .i64 i)] ((m,.obj (.map (fq b1) 4))::(b1,.cells 3 [int .i64 n])::HB) ?_ λj2 Ub=>?_;exact lU;refine ja ?_;refine oC rfl (λh=>by cases h) λ_=>?_;refine ja ?_;have xB:=rJ _ uw;rw[uX,ua] at xB;have Rh:=WY rows;have bJ:(rows.map str).length=rows.length:=Ua _;refine Ga.perm (H':=HB++[(m,.obj (.map (fq b1) 4)),(b1,.cells 3 [int .i64 n])]) (dd (l₁:=[_,_])) ?_;refine Ga.mid (A:=Heap) (λ_=>[(10,.atom (.map (some m))),(11,ptr Vs 0),(12,int .i64 i),(14,.list (rows.map str)),(36,.list (l.map wg)),(37,int .i64 l.length),(38,int .i64 i)]) (λuK=>uK++[(m,.obj (.map (fq b1) 4)),(b1,.cells 3 [int .i64 n])]) (λuK=>BH Vs (Kv parts) uK) ?_ λuK hB1 j3 qi=>?_;refine sa (λh=>?_) λh=>?_;have QM:0<i:=by have:=zt h;omega
   have hpj:Kv parts=Go.Lib.join parts [10]++[10]:=zn (by rintro rfl;simp at Ul;omega);refine Pc ?_;refine oS (S.Bb (H1:=HB) (F:=[(m,.obj (.map (fq b1) 4)),(b1,.cells 3 [int .i64 n])]) [_,_] rfl qb (ZC Vs _ [10] HB hB (by simp only[Oa,Eb];omega)) (λy H3 h=>?_) (by rintro ch H3 ⟨⟨x,h⟩,_⟩;cases h));obtain⟨⟨y',nz⟩,pE⟩:=h;cases nz;refine ig ?_;exact⟨H3,by rw[hpj];exact pE,Qa,rfl,rfl⟩;have QM:i=0:=by have:=zf h;omega
   have sx:parts=[]:=List.eq_nil_of_length_eq_zero zo;refine oa ?_;exact⟨HB,by rw[sx] at hB ⊢;exact hB,Qa,rfl,rfl⟩;refine ia ?_;refine oL (λk sl H2=>∃ (x:Nat) (iG:Heap),x<=rows.length/\k=rows.length-x/\BH Vs (Kv parts++xh (rows.take x)) iG/\sl=[(10,.atom (.map (some m))),(11,ptr Vs 0),(12,int .i64 i),(36,.list (l.map wg)),(37,int .i64 l.length),(38,int .i64 i),(58,.list (rows.map str)),(59,int .i64 rows.length),(60,int .i64 x)]/\H2=iG++[(m,.obj (.map (fq b1) 4)),(b1,.cells 3 [int .i64 n])])
    ⟨_,_,_,⟨0,uK,zero_le _,rfl,by rw[List.take_zero];unfold xh;rw[List.flatMap_nil,Qb];exact hB1,rfl,rfl⟩,Qa,kb _⟩ ?_
   rintro k sl H2 ⟨x,iG,hx,rfl,Iz,rfl,rfl⟩ j4 Js;refine Nd ?_;refine sa (λhc=>?_) λhc=>?_;have Tl:x<rows.length:=by have:=zt hc;omega
   have QR:xh (rows.take (x+1))=xh (rows.take x)++(rows[x]++[10]):=by rw[List.take_succ_eq_append_getElem Tl,qqk]
   have Cm:=qpU rows (x+1);rw[QR,ua,ua] at Cm;refine Af ?_;refine ca (xR (ad:=str rows[x]) (cs:=[str rows[x]]) rfl rfl zo (Hh _ _ _ Tl) rfl rfl) ?_;generalize rows[x]=rx at *;refine ja ?_;refine oS (S.Bb (H1:=iG) (F:=[(m,.obj (.map (fq b1) 4)),(b1,.cells 3 [int .i64 n])]) [_,_] rfl qb (ZC Vs _ (rx++[10]) iG Iz (by simp only[ua,Oa,Eb] at *;omega)) (λy H3 h=>?_) (by rintro ch H3 ⟨⟨x,h⟩,_⟩;cases h));obtain⟨⟨y',nz⟩,pE⟩:=h;cases nz;refine Mh ?_;exact⟨_,_,_,by omega,⟨x+1,H3,by omega,rfl,by rw[QR,<-Xc];exact pE,rfl,rfl⟩,Qa,kb _,Js⟩;have Tl:x=rows.length:=by have:=zf hc;omega
   subst Tl;rw[take_length] at Iz;refine ia ?_;exact⟨_,_,_,by omega,⟨i+1,parts++[xh rows],iG,by omega,rfl,uw,by rw[ua];simp only[Oa,Eb];omega,by rw[uX];exact Iz,rfl,rfl⟩,Qa,⟨[],by
    rw[Qb];exact dd⟩,Js.trans (qi.trans (Ub.trans Pb))⟩
  have ae:i=l.length:=by have:=zf hc;omega
  subst ae;rw[take_length] at PJ;rw[PJ] at hP;simp only at hP;have xB:=fa l.length parts (by rw[take_length];exact PJ);refine ia ?_;refine oS (S.Bb (H1:=HB) (F:=[(m,.obj (.map (fq b1) 4)),(b1,.cells 3 [int .i64 n])]) [_] rfl (dd (l₁:=[_,_])) (qqH Vs _ HB hB) (λy H3 h=>?_) (by rintro ch H3 ⟨h,_⟩;cases h));obtain⟨hy,rfl⟩:=h;cases hy;refine za ?_;refine sa (λh=>?_) λh=>?_;rw[zp (by have:=zt h;omega)] at hP;refine Oe ?_;exact Na Pb (rC (ib rfl) (rC (ib rfl) (va rfl))) (by rw[hP];rfl);rw[zn (by have:=zf h;omega)] at hP;refine Af ?_;refine oS (S.Bb (H1:=H3) (F:=[(m,.obj (.map (fq b1) 4)),(b1,.cells 3 [int .i64 n])]) [_] rfl qb (FF Vs _ H3 hB zo) (λy H4 h=>?_) (by rintro ch H4 ⟨h,_⟩;cases h));obtain⟨hy,rfl⟩:=h;cases hy;refine qh ?_;exact Na Pb (rC (ib rfl) (rC (ib rfl) (va rfl))) (by rw[hP];rfl)
end Go.Proofs.YtjolancjacdeaaaGreatDoor.Rr
namespace Go.Ba
open Go.Lib
variable{w:Nat}
def Xk(ws:List Nat):Nat:=(ws.map (·+3)).sum
def lens(r:List Wd):Nat:=(r.map List.length).sum
theorem TP:∀ (ws:List Nat) (r:List Wd),Xk (Ph ws r)<=Xk ws+(r.map λc=>c.length+4).sum
 |ws,[]=>by cases ws <;> simp[Ph]
 |[],c::r=>by have ih:=TP [] r;simp only[Ph,Xk,Tb,sum_cons,List.map_nil,List.sum_nil] at ih ⊢;omega
 |w::ws,c::r=>by have ih:=TP ws r;simp only[Ph,Xk,Tb,sum_cons] at ih ⊢;omega
theorem AY:∀ (rows:List (List Wd)) (ws:List Nat),Xk (rows.foldl Ph ws)<=Xk ws+(rows.map λr=>(r.map λc=>c.length+4).sum).sum
 |[],ws=>by simp
 |r::rows,ws=>by have ih:=AY rows (Ph ws r);have h:=TP ws r;simp only[List.foldl_cons,Tb,sum_cons];omega
theorem TY:∀ r:List Wd,(r.map λc=>c.length+4).sum<=2 * (r.map λc=>c.length+3).sum
 |[]=>by simp
 |c::r=>by have:=TY r;simp only[Tb,sum_cons];omega
theorem tY:∀ rows:List (List Wd),(rows.map λr=>(r.map λc=>c.length+4).sum).sum<=2 * (rows.map λr=>(r.map λc=>c.length+3).sum+2).sum
 |[]=>by simp
 |r::rows=>by have:=tY rows;have:=TY r;simp only[Tb,sum_cons];omega
theorem NQ:∀ (ws:List Nat) (r:List Wd),(Il ws r).length<=Xk ws+lens r
 |[],r=>by simp[Il]
 |w::ws,[]=>by have ih:=NQ ws [];simp only[Il,Xk,lens,Tb,sum_cons,ua,Oa,List.length_replicate,Eb,List.map_nil,List.sum_nil] at ih ⊢;omega
 |w::ws,c::r=>by have ih:=NQ ws r;simp only[Il,Xk,lens,Tb,sum_cons,ua,Oa,List.length_replicate,Eb] at ih ⊢;omega
theorem BV:∀ r:List Wd,lens r<=(r.map λc=>c.length+3).sum
 |[]=>mc _
 |c::r=>by have ih:=BV r;simp only[lens,Tb,sum_cons] at ih ⊢;omega
theorem JV{A:Type}(f:A->Nat):∀ {l:List A} {a:A},a∈l->f a<=(l.map f).sum
 |b::l,a,h=>by rcases Mc.1 h with rfl|h;simp only[Tb,sum_cons];omega;have:=JV f h;simp only[Tb,sum_cons];omega
theorem uO{k:Nat}:∀ {l:List Wd},(∀ r∈l,r.length<=k)->(xh l).length<=l.length * (k+1)
 |[],_=>by simp[xh]
 |r::l,h=>by
  have ih:=uO (l:=l) λx hx=>h x (Sc _ hx);have hr:=h r (by simp);have e:xh (r::l)=(r++[10])++xh l:=by unfold xh;rw[List.flatMap_cons]
  rw[e,ua,ua,show(r::l).length=l.length+1 from rfl,Nat.succ_mul];simp only[Oa,Eb];omega
theorem I'(rows:List (List Wd)){B:Nat}(hB:(rows.map λr=>(r.map λc=>c.length+3).sum+2).sum<=B):(xh (pC rows)).length<=B * (3 * B+2):=by
 have h1:=AY rows [];have h2:=tY rows;have h3:Xk (Yr rows)<=2 * B:=by have:Xk []=0:=rfl;unfold Yr;omega
 have h4:∀ x∈pC rows,x.length<=3 * B+1:=λx hx=>by obtain⟨r,hr,rfl⟩:=vi hx;have h5:=NQ (Yr rows) r;have h6:=BV r;have h7:=JV (λr:List Wd=>(r.map λc=>c.length+3).sum+2) hr;have h8:(uA (Yr rows) r).length=(Il (Yr rows) r).length+1:=rfl;omega
 have h5:=uO h4;have h6:(pC rows).length=rows.length:=Ua _;have h7:∀ l:List (List Wd),l.length<=(l.map λr=>(r.map λc=>c.length+3).sum+2).sum:=by
  intro l;induction l with
  |nil=>simp
  |cons a l ih=>simp only[Tb,sum_cons,Oa];omega
 have h8:=h7 rows;rw[h6] at h5;exact Uf h5 (Nat.mul_le_mul (Uf h8 hB) Ia)
theorem OZ:∀ l:List Wd,l.flatten.length<=(l.map λw=>w.length+1).sum
 |[]=>by simp
 |a::l=>by have:=OZ l;rw[List.flatten_cons,ua,Tb,sum_cons];omega
theorem aM{k:Nat}:∀ (l:List Wd) (m:Nat),m<=k->(∀ r∈l,r.length<=k)->l.foldl (λm s=>max m s.length) m<=k
 |[],m,h,_=>h
 |a::l,m,h,hl=>aM l _ (Nat.max_le.2 ⟨h,hl a (by simp)⟩) λr hr=>hl r (Sc _ hr)
theorem qqa{runs:Wd}{rows:List Wd}(h:zA runs w=.ok rows):(xh rows).length<=40200:=by
 unfold zA at h;split at h;cases h;split at h;cases h;split at h;cases h;split at h;cases h;injection h with h;rename_i _ l _ _ h3;subst h;have h4:∀ (n:Nat) (s:Wd),(Qo w n s).length=n/\∀ r∈Qo w n s,r.length<=w:=by
  intro n;induction n with
  |zero=>intro s;exact⟨rfl,λr hr=>by cases hr⟩
  |succ n ih=>intro s;obtain⟨i1,i2⟩:=ih (s.drop w);refine⟨by rw[Qo,Oa,i1],λr hr=>?_⟩;rw[Qo] at hr;rcases Mc.1 hr with rfl|hr;rw[List.length_take];omega;exact i2 r hr
 obtain⟨e1,e2⟩:=h4 (Jf l / w) (ym l);have e3:=uO e2;rw[e1] at e3;refine Uf e3 ?_;exact Uf (Nat.mul_le_mul (show Jf l / w<=200 by omega) (show w+1<=201 by omega)) ra
theorem T9(hw:1<=w/\w<=200){b:Xb}{rows:List Wd}(h:Dl w b=.ok rows):(xh rows).length<=50000+bw b * (3 * bw b+2):=by
 have hf:=OZ b.words;have hm:3 * bw b<=bw b * (3 * bw b+2):=by
  have:6<=bw b:=by unfold bw;omega
  calc 3 * bw b=bw b * 3:=Nat.mul_comm _ _
   _<=bw b * (3 * bw b+2):=Nat.mul_le_mul_left _ Ia
 have hwd:(b.words.map λw=>w.length+1).sum<=bw b:=by unfold bw;omega
 unfold Dl at h;split at h;split at h;rename_i hk;injection h with h;subst h;obtain⟨p1,p2,p3⟩:=yQ (w:=w) hw.1 hk;unfold BK;split;simp[xh];have e:xh (Lk b.words w++[List.replicate (Zr (Lk b.words w)) 61])=xh (Lk b.words w)++(List.replicate (Zr (Lk b.words w)) 61++[10]):=by unfold xh;rw[List.flatMap_append];simp
 have hl:Zr (Lk b.words w)<=w:=aM _ 0 (zero_le _) λr hr=>(p1 r hr).2.1;rw[e,ua,DP,ua,List.length_replicate];simp only[Oa,Eb];omega;cases h;split at h;split at h
 rename_i hk;injection h with h;subst h;obtain⟨p1,p2,p3⟩:=yQ (w:=w) hw.1 hk;rw[DP];omega;cases h;split at h;injection h with h;subst h;have:=I' b.rows (B:=bw b) (by unfold bw;omega);omega;have:=qqa h;omega
theorem kX{w:Nat}(hw:1<=w/\w<=200){B:Nat}:∀ {l:List Xb} {parts:List Wd},bws l<=B->bl w l=.ok parts->(parts.map λp=>p.length+1).sum<=bws l * (50001+(3 * B+2))
 |[],parts,_,h=>by cases h;simp
 |b::l,parts,hB,h=>by
  have e5:bws (b::l)=bw b+bws l:=by simp[bws]
  rw[bl] at h;cases hr:Dl w b with
  |error e=>rw[hr] at h;cases h
  |ok rows=>
   cases hl:bl w l with
   |error e=>rw[hr,hl] at h;cases h
   |ok q=>
    rw[hr,hl] at h;cases h;have ih:=kX hw (l:=l) (B:=B) Ia hl;have hp:=T9 hw hr;have h6:6<=bw b:=by unfold bw;omega
    rw[Tb,sum_cons,e5,Nat.add_mul];have h7:bw b * (3 * bw b+2)<=bw b * (3 * B+2):=Nat.mul_le_mul_left _ Ia;have h8:50001<=bw b * 50001:=Nat.le_mul_of_pos_left _ Ia;rw[Nat.mul_add];omega
theorem T6(l:List Xb)(i:Nat):bws (l.take i)<=bws l:=by
 have h:bws l=bws (l.take i)+bws (l.drop i):=by rw[<-PK,List.take_append_drop]
 omega
theorem qpH(hw:1<=w/\w<=200){l:List Xb}(hl:bws l<=20100)(i:Nat){parts:List Wd}(h:bl w (l.take i)=.ok parts):(join parts [10]).length<=4000000000:=by have h1:=T6 l i;have h2:=kX hw (B:=20100) Ia h;have h3:=e6 10 parts;have h4:bws (l.take i) * (50001+(3 * 20100+2))<=20100 * (50001+(3 * 20100+2)):=Nat.mul_le_mul_right _ Ia;omega
end Go.Ba
namespace Go.Proofs.YtjolancjacdeaaaGreatDoor.Rr
open Go.GL Go.RowKit Go.Ba
def dO:List UInt8:=[35,32,79,110,101,10,116,119,111,32,116,104,114,101,101]
theorem F9:sO dO 5=.ok [79,110,101,10,61,61,61,10,10,116,119,111,10,116,104,114,101,101,10]:=zk
attribute [local irreducible] ea Ga Ja aa Go.GL.Pure Bc Tc oc LQ Pa Td Lf
variable{B0:Nat}{w0:World}
theorem Br(hG:GW B0 w0):aa (KC B0 w0) 4 [] [] (gb (bool true)):=by have h1:=qm4 hG dO 5 ra λhw l i parts hl hp=>qpH (w:=5) ⟨by omega,by omega⟩ (by have:=tP hl;have:dO.length=15:=rfl;omega) i hp;rw[F9] at h1;refine cJ Tryz.func4 (n:=19) ?_;refine Xj ?_;refine oS (sF [_,_] rfl h1 ?_);unfold UU;refine ia ?_;exact Na rfl (va rfl) rfl
end Go.Proofs.YtjolancjacdeaaaGreatDoor.Rr
namespace Go.Proofs.YtjolancjacdeaaaGreatDoor.Lb
open Go.GL Go.RowKit Go.Ba
open qK (mH SL RE us)
attribute [local irreducible] ea Ga Ja aa Go.GL.Pure Bc Tc oc LQ Pa Td Lf LS
variable{B0:Nat}{w0:World}
theorem fH(hG:Pp.GW B0 w0):Rr.GW B0 w0:=⟨hG.base.Cs,hG.base.Ri,hG.Bh,hG.mx,hG.base.Jx⟩
theorem DZ(hG:Pp.GW B0 w0){w:Nat}(hw:w<256):aa (KC B0 w0) 3 [int .u8 (w:Int)] [] (gb (bool true)):=by
 have zw:=Rr.Br (B0:=B0) (w0:=w0) (fH hG);obtain⟨x,hp⟩:=p5;obtain⟨K,hK⟩:=hp.run w hw;have hr:=MZ (B0:=B0) (w0:=w0) hG hp;have Lu:=qnd (B0:=B0) (w0:=w0) hG.base hG.mx x (by have:=hp.len;omega) hp.chars;have Oc:=SL (B0:=B0) (w0:=w0) (code:=x) (og:=10000) (we:=[w]) (steps:=100000) (by have:=hp.len;omega) ra (λv hv=>by rw[wh hv];omega) ra ra;rw[hK] at Oc;unfold mH RE at Oc;have Oc:aa (KC B0 w0) _ [.list [.agg [int .i64 10000,str x]],int .i64 10000,.list [int .u32 (w:Int)],int .i64 100000] _ (gb (.agg [str [],int .i64 0,int .i64 (K:Nat)])):=Oc;have ho:=qjH (B0:=B0) (w0:=w0) hG hp hw hK;have eb:=hp.ne;have ew:IntKind.u32.wrap (w:Int)=(w:Int):=by simp only[IntKind.wrap,IntKind.bits,IntKind.signed,Pg];simp;omega
 have ei:IntKind.i64.wrap (w:Int)=(w:Int):=by unfold IntKind.wrap IntKind.bits IntKind.signed;simp;omega
 clear hp hK;refine cJ Tryz.func3 (n:=47) ?_;refine Xj ?_;refine oS (sF [] rfl zw ?_);refine za ?_;refine oC rfl (λhc=>by cases hc) λ_=>?_;refine Af ?_;refine oS (sF [] rfl hr ?_);refine fg ?_;refine oS (sF [_] rfl Lu ?_);refine ja ?_;refine oS (sL (s:=2) (es:=[.agg [int .i64 10000,str x]]) [_] rfl (rc rfl rfl Tf) rfl rfl rfl ?_);refine za ?_;rw[ew];refine oS (sL (s:=1) (es:=[int .u32 (w:Int)]) [_] rfl (rc rfl rfl Tf) rfl rfl rfl<|oS (sF [_,_,_,_] rfl Oc ?_));refine oS (yc λb6=>?_);refine ja ?_;rw[ei];refine oS (sF [_,_,_] rfl ho<|oS (yc λb7=>?_));refine ja ?_;have e1:(!decide (x=[]))=true:=by rw[decide_eq_false eb];rfl
 refine oB 28 (b:=!decide (x=[])) rfl (λ_=>?_) (λh=>by rw[e1] at h;cases h);refine za ?_;refine oB 32 rfl (λ_=>?_) λh=>absurd rfl (zf h);refine ca (Pure.xE (a:=[]) (b:=[]) (i:=0) (k:=0) (j:=(K:Int)) (l:=(K:Int)) rfl rfl rfl rfl rfl)<|za ?_;exact Na rfl (va rfl) rfl
end Go.Proofs.YtjolancjacdeaaaGreatDoor.Lb
