import Derived.Test.YtjolancjacdeaaaGreatDoorBRowRM7
set_option linter.unusedVariables false
set_option linter.unusedSimpArgs false
set_option maxRecDepth 100000
set_option maxHeartbeats 4000000
open List (drop_eq_getElem_cons take_length mem_map_of_mem not_mem_nil nil_append cons_append)
open Nat (zero_le lt_succ_self)
open Option (none_or)
namespace Go.Proofs.YtjolancjacdeaaaGreatDoor.Pp
open Go.GL Go.RowKit Go.Ba
open Rk (Ei Ei.mk OA)
variable{i:Nat}{v:List Wd}
def Ky(r:ao):LV:=.tuple [int .i64 r.1,.list (r.2.map str)]
attribute [local irreducible] ea Ga Ja aa Go.GL.Pure Bc Tc oc LQ Pa Td Lf
variable{B0:Nat}{w0:World}
theorem qq3(hG:GW B0 w0)(v:List Wd)(m:Nat)(hv:Small v):aa (KC B0 w0) 86 [Pj v m] [] (gb (Ky (vt v))):=by
 have k0:=Qj (B0:=B0) (w0:=w0) v m 0 (by have:=hv.1;omega);have k1:=Qj (B0:=B0) (w0:=w0) v m 1 (by have:=hv.1;omega);have k2:=Qj (B0:=B0) (w0:=w0) v m 2 (by have:=hv.1;omega);have kj:=cZ hG (ka v 0) (ka v 2) (ka v 1) (hv.at 0) (hv.at 1);have hF:vt v=match gq (ka v 0) (ka v 2) (ka v 1) with
  |some s=>(3,[s])
  |none=>(0,[]):=rfl
 unfold Pj at k0 k1 k2 ⊢;generalize gq (ka v 0) (ka v 2) (ka v 1)=o at kj hF;refine cJ Tryz.func86 (n:=19) ?_;refine Pc ?_;refine oS (sB (cs:=[.list (v.map str),.atom (.map (some m))]) rfl λb1=>?_);refine oa ?_;refine cD (m:=12) rfl [(b1,.cells 179 [.list (v.map str),.atom (.map (some m))])]<|aT 0 rfl rfl (pG (Ya:=[_,_]) rfl yb rfl rfl)<|aT 2 rfl rfl (pG (Ya:=[_,_]) rfl yb rfl rfl)<|aT 4 rfl rfl (pG (Ya:=[_,_]) rfl yb rfl rfl)<|NB ?_;refine lO 3 (lS (H1:=[]) rfl (.inl rfl) rfl qb Ma (sF [_,_] rfl k2 ?_));refine lO 5 (lS (H1:=[]) rfl (.inl rfl) rfl qb Ma (sF [_,_] rfl k1 ?_));refine lO 6 (lS (H1:=[]) rfl (.inl rfl) rfl qb Ma (S.ff [_,_,_] rfl kj ?_));rintro lv ⟨s,rfl,hs⟩;refine Td.any [(b1,.cells 179 [.list (v.map str),.atom (.map (some m))])] (λ_ h=>h) ?_;refine aT 7 rfl rfl (pM (lv:=.tuple _) rfl)<|aT 8 rfl rfl (Pure.extract (c:=.atom _) rfl rfl)<|aT 9 rfl rfl (Pure.extract (c:=.atom _) rfl rfl)<|aT 10 rfl rfl (pA (lv:=.atom _) rfl)<|aT 11 rfl rfl (pA (lv:=.atom _) rfl)<|qq ?_;refine qg ?_;refine sa (λh=>?_) λh=>?_;obtain⟨l,rfl⟩:=zR h;obtain rfl:=hs l rfl;refine Dc ?_;refine fh ?_;refine oa ?_;exact Na rfl (rC (ib rfl) (rC (rT (v:=.list _) rfl fc) rN)) (by rw[hF];rfl)
 obtain rfl:o=none:=by
  cases o with
  |none=>rfl
  |some l=>cases h
 refine ia ?_;exact Na rfl (rC (ib rfl) (rC (rT (v:=Ea) rfl vN) rN)) (by rw[hF];rfl)
theorem qqj(hG:GW B0 w0)(v:List Wd)(m:Nat)(hv:Small v):aa (KC B0 w0) 91 [Pj v m] [] (gb (Ky (Ct v))):=by
 have k0:=Qj (B0:=B0) (w0:=w0) v m 0 (by have:=hv.1;omega);have kn:=DF hG (ka v 0) (by have:=hv.at 0;omega);have kj:=UL (B0:=B0) (w0:=w0) v m 1 hv zo;have hF:Ct v=match Vc (ka v 0) with
  |some n=>if n≠0/\(jm v 1).isSome=true then (3,[]) else (0,[])
  |none=>(0,[]):=rfl
 unfold Pj at k0 kj ⊢;generalize Vc (ka v 0)=on at kn hF;generalize jm v 1=oj at kj hF;refine cJ Tryz.func91 (n:=27) ?_;refine Pc ?_;refine oS (sB (cs:=[.list (v.map str),.atom (.map (some m))]) rfl λb1=>?_);refine ja ?_;refine oS (sF [_,_] rfl k0<|oS (sF [_] rfl kn ?_));refine ja ?_;refine oS (S.ff [_,_] rfl kj ?_);rintro lv ⟨s,rfl,hs⟩;refine ia ?_;refine oB 20 rfl (λh1=>?_) λh1=>?_;rw[h1] at hF
 cases on with
 |none=>
  refine oa ?_;refine sa (λh=>?_) λh=>?_;cases h
  exact GB
 |some n=>
  refine za ?_;refine sa (λh=>?_) λh=>?_
  have hn:n≠0:=by intro h0;subst h0;exact absurd h ra
  simp only[hn,ne_eq,not_false_eq_true,and_self,if_true] at hF;refine Oe ?_;exact Na rfl (rC (ib rfl) (rC (rT (v:=Ea) rfl vN) rN)) (by rw[hF];rfl);have hn:n=0:=by
   have h0:¬ ¬ ((n:Int)=0):=by simpa using h
   omega
  subst hn;refine ia ?_;exact Na rfl (rC (ib rfl) (rC (rT (v:=Ea) rfl vN) rN)) (by rw[hF];rfl)
 rw[h1] at hF;refine oa ?_;refine sa (λh=>?_) λh=>?_;cases h;refine ia ?_
 exact Na rfl (rC (ib rfl) (rC (rT (v:=Ea) rfl vN) rN)) (by
  rw[hF];cases on <;> simp <;> rfl)
theorem qnK(v:List Wd)(m:Nat)(hv:Small v){es:Array MapEntry}{ga:Nat}{p:List UInt8->Bool}(hs:Dd es p):aa (KC B0 w0) 94 [Pj v m] [(m,.obj (.map es ga))] (λr H=>r=.ret (Ky (Wr p v))/\H=[(m,.obj (.map es ga))]):=by
 have k0:=Qj (B0:=B0) (w0:=w0) v m 0 (by have:=hv.1;omega);have kd:=gR (B0:=B0) (w0:=w0) (ka v 0) (by have:=hv.at 0;omega);have hF:Wr p v=match Ib (ka v 0) with
  |some l=>if p l=true then (0,[]) else (1,[])
  |none=>(0,[]):=rfl
 unfold Pj at k0 ⊢;generalize Ib (ka v 0)=o at kd hF;refine cJ Tryz.func94 (n:=20) ?_;refine Pc ?_;refine oS (sB (cs:=[.list (v.map str),.atom (.map (some m))]) rfl λb1=>?_);refine ja ?_;refine oS (sF [_,_] rfl k0<|oS (S.ff [_] rfl kd ?_));rintro lv ⟨s,rfl,Hu⟩;refine ia ?_;refine oB 13 rfl (λh1=>?_) λh1=>?_;obtain⟨l,rfl⟩:=zR h1;obtain rfl:=Hu l rfl;simp only at hF;refine oa ?_;refine ca (Pure.wq (t:=156) (kt:=9) (el:=4) zk zk (λw=>(Go.zero_of_info (P:=Tryz.prog) (n:=1) zk).1 w) rfl rfl Ff hs)<|za ?_;refine sa (λh=>?_) λh=>?_;have hp:p s=false:=by simpa using h
 refine Oe ?_;exact rR rfl (rC (ib rfl) (rC (rT (v:=Ea) rfl vN) rN)) (fe Ma) ⟨by rw[hF,hp];rfl,rfl⟩;have hp:p s=true:=by simpa using h
 refine ia ?_;exact rR rfl (rC (ib rfl) (rC (rT (v:=Ea) rfl vN) rN)) (fe Ma) ⟨by rw[hF,hp];rfl,rfl⟩;obtain rfl:o=none:=by
  cases o with
  |none=>rfl
  |some l=>cases h1
 refine oa ?_;refine sa (λh=>?_) λh=>?_;cases h;refine ia ?_;exact rR rfl (rC (ib rfl) (rC (rT (v:=Ea) rfl vN) rN)) (fe Ma) ⟨by rw[hF];rfl,rfl⟩
def Fu(v:List Wd):Nat->List Wd->Bool
 |_,[]=>true
 |i,w::r=>decide (ka v i=w) && Fu v (i+1) r
theorem To(v:List Wd)(m i:Nat)(ws:List Wd)(hv:Small v)(hi:i<=1000)(hw:ws.length<=1000):aa (KC B0 w0) 165 [Pj v m,int .i64 i,.list (ws.map str)] [] (gb (bool (Fu v i ws))):=by
 have Kn:(ws.map str).length=ws.length:=Ua _;have kw:∀ k,aa (KC B0 w0) 163 [Pj v m,int .i64 (k:Nat)] [] (gb (str (ka v k))):=λk=>Qj v m k (by have:=hv.1;omega);unfold Pj at kw ⊢;refine cJ Tryz.func165 (n:=24) ?_;refine Pc ?_;refine oS (sB (cs:=[.list (v.map str),.atom (.map (some m))]) rfl λb3=>?_);refine ia ?_
 refine oL (λk ls H=>∃ j,j<=ws.length/\k=ws.length-j/\ls=[(1,int .i64 i),(3,ptr b3 0),(9,.list (ws.map str)),(10,int .i64 ws.length),(11,int .i64 j)]/\H=[(b3,.cells 179 [.list (v.map str),.atom (.map (some m))])]/\Fu v i ws=Fu v (i+j) (ws.drop j))
  ⟨_,_,_,⟨0,zero_le _,rfl,rfl,rfl,rfl⟩,Qa,kb _⟩ ?_
 rintro k ls H ⟨j,hj,rfl,rfl,rfl,hE⟩ j1 Pb;refine Nd ?_;refine sa (λhc=>?_) λhc=>?_;have wa:j<ws.length:=by have:=zt hc;omega
 rw[drop_eq_getElem_cons wa,Fu] at hE;have k1:=kw (i+j);have e1:int .i64 ((i+j:Nat):Int)=int .i64 ((i:Int)+j):=bf zo;rw[e1] at k1;refine ia ?_;refine ca (xR (ad:=str ws[j]) (cs:=[str ws[j]]) rfl rfl zo (Hh _ _ _ wa) rfl rfl)<|ja ?_;refine oS (sF [_,_] rfl k1 ?_);refine za ?_;refine sa (λh=>?_) λh=>?_;have eb:¬ ka v (i+j)=ws[j]:=by simpa using h
 rw[decide_eq_false eb,Pg] at hE;refine Hj ?_;exact Na Pb (va rfl) (Ed hE.symm);have he:ka v (i+j)=ws[j]:=by simpa using h
 rw[Eg he,Bool.true_and] at hE;refine ia ?_;exact⟨_,_,_,by omega,⟨j+1,by omega,rfl,rfl,rfl,by rw[hE,Nat.add_assoc]⟩,Qa,kb _,Pb⟩;have pw:j=ws.length:=by have:=zf hc;omega
 subst pw;rw[List.drop_length,Fu] at hE;refine ia ?_;exact Na Pb (va rfl) (Ed hE.symm)
theorem ql5(v:List Wd)(m:Nat)(hv:Small v):aa (KC B0 w0) 87 [Pj v m] [] (gb (Ky (Dv v))):=by
 have k0:=Qj (B0:=B0) (w0:=w0) v m 0 (by have:=hv.1;omega);have k1:=Qj (B0:=B0) (w0:=w0) v m 1 (by have:=hv.1;omega);have hF:Dv v=if ka v 0=[48]/\(ka v 1=[43]∨ka v 1=[45]∨ka v 1=[94])∨ka v 0=[49]/\(ka v 1=[42]∨ka v 1=[47]) then (2,[]) else (0,[]):=rfl
 unfold Pj at k0 k1 ⊢;generalize ka v 0=a at k0 hF;generalize ka v 1=b at k1 hF;refine cJ Tryz.func87 (n:=36) ?_;refine Pc ?_;refine oS (sB (cs:=[.list (v.map str),.atom (.map (some m))]) rfl λb1=>?_);refine oa ?_;refine cD (m:=6) rfl [(b1,.cells 179 [.list (v.map str),.atom (.map (some m))])]<|aT 0 rfl rfl (pG (Ya:=[_,_]) rfl yb rfl rfl)<|aT 2 rfl rfl (pG (Ya:=[_,_]) rfl yb rfl rfl)<|NB ?_;refine lO 3 (lS (H1:=[]) rfl (.inl rfl) rfl qb Ma (sF [_,_] rfl k1 ?_));refine Td.any [(b1,.cells 179 [.list (v.map str),.atom (.map (some m))])] (λ_ h=>h) ?_;refine aT 4 rfl rfl (pA (lv:=.atom _) rfl)<|aT 5 rfl rfl (pA (lv:=.atom _) rfl)<|qq ?_;refine ia ?_;refine ea.cut [(1,ptr b1 0),(35,bool (decide (a=[48]/\(b=[43]∨b=[45]∨b=[94])∨a=[49]/\(b=[42]∨b=[47]))))] ?_ λj hj=>?_;refine oB 12 rfl (λh1=>?_) λh1=>?_;have e1:a=[48]:=zt h1;have n1:¬ a=[49]:=by rw[e1];decide
 refine oa ?_;refine oB 15 rfl (λh2=>?_) λh2=>?_;have e2:b=[43]:=zt h2;refine za ?_;exact⟨⟨rfl,Ed (by simp[e1,e2]),trivial⟩,rfl,rfl⟩;have e2:¬ b=[43]:=zf h2;refine oa ?_;refine oB 19 rfl (λh3=>?_) λh3=>?_;have e3:b=[45]:=zt h3;refine za ?_;exact⟨⟨rfl,Ed (by simp[e1,e3]),trivial⟩,rfl,rfl⟩;have e3:¬ b=[45]:=zf h3;refine oa ?_;refine oB 24 rfl (λh4=>?_) λh4=>?_;have e4:b=[94]:=zt h4;refine za ?_;exact⟨⟨rfl,Ed (by simp[e1,e4]),trivial⟩,rfl,rfl⟩;have e4:¬ b=[94]:=zf h4;refine oa ?_;refine oB 27 rfl (λh5=>absurd (zt h5) n1) λh5=>?_;refine za ?_;exact⟨⟨rfl,Ed (by simp[e2,e3,e4,n1]),trivial⟩,rfl,rfl⟩;have e1:¬ a=[48]:=zf h1;refine za ?_;refine oB 27 rfl (λh2=>?_) λh2=>?_;have e2:a=[49]:=zt h2;refine oa ?_;refine oB 30 rfl (λh3=>?_) λh3=>?_;have e3:b=[42]:=zt h3;refine oa ?_;exact⟨⟨rfl,Ed (by simp[e2,e3]),trivial⟩,rfl,rfl⟩;have e3:¬ b=[42]:=zf h3;refine oa ?_;exact⟨⟨rfl,Ed (by simp[e2,e3]),trivial⟩,rfl,rfl⟩;have e2:¬ a=[49]:=zf h2;refine za ?_;exact⟨⟨rfl,Ed (by simp[e1,e2]),trivial⟩,rfl,rfl⟩;refine sa (λh=>?_) λh=>?_;rw[zp (zt h)] at hF;refine Oe ?_;exact Na hj (rC (ib rfl) (rC (rT (v:=Ea) rfl vN) rN)) (by rw[hF];rfl);rw[zn (zf h)] at hF;refine ia ?_;exact Na hj (rC (ib rfl) (rC (rT (v:=Ea) rfl vN) rN)) (by rw[hF];rfl)
theorem qpS(l:Wd)(v:List Wd)(i:Nat):xy l (v.drop i)=match Ib (ka v i) with
  |some d=>decide (d=l) || xy l (v.drop (i+1))
  |none=>false:=by
 by_cases h:i<v.length
 ·have e:ka v i=v[i]:=by unfold ka;rw[dh h];rfl
  rw[drop_eq_getElem_cons h,xy,e];first|done|(cases Ib v[i] <;> rfl)
 have e:ka v i=[]:=by unfold ka;rw[List.getElem?_eq_none zo];rfl
 rw[List.drop_eq_nil_of_le zo,e];rfl
theorem Z5{d:Wd}(h:Ib (ka v i)=some d):i<v.length:=by
 by_cases hl:i<v.length;exact hl;have e:ka v i=[]:=by unfold ka;rw[List.getElem?_eq_none zo];rfl
 rw[e] at h;cases h
theorem Z8(v:List Wd)(m:Nat)(hv:Small v):aa (KC B0 w0) 92 [Pj v m] [] (gb (Ky (yt v))):=by
 have k0:=Qj (B0:=B0) (w0:=w0) v m 0 (by have:=hv.1;omega);have kj:=UL (B0:=B0) (w0:=w0) v m 1 hv zo;have kw:∀ k,aa (KC B0 w0) 163 [Pj v m,int .i64 (k:Nat)] [] (gb (str (ka v k))):=λk=>Qj v m k (by have:=hv.1;omega);have kd:∀ k,aa (KC B0 w0) 167 [str (ka v k)] [] (Ko (Ei (Ib (ka v k)))):=λk=>gR (ka v k) (by have:=hv.at k;omega)
 have hF:yt v=match jm v 1 with
  |some l=>if ka v 0=[48]/\xy l (v.drop 3)=true then (3,[]) else (0,[])
  |none=>(0,[]):=rfl
 unfold Pj at k0 kj kw ⊢;generalize jm v 1=oj at kj hF;generalize ka v 0=a at k0 hF;refine cJ Tryz.func92 (n:=35) ?_;refine Pc ?_;refine oS (sB (cs:=[.list (v.map str),.atom (.map (some m))]) rfl λb1=>?_);refine ja ?_;refine oS (S.ff [_,_] rfl kj ?_);rintro lv ⟨s,rfl,hs⟩;refine ja ?_;refine oB 16 rfl (λh1=>?_) λh1=>?_
 obtain rfl:oj=none:=by
  cases oj with
  |none=>rfl
  |some l=>cases h1
 refine oa ?_;refine sa (λh=>?_) λh=>?_;refine Oe ?_;exact Na rfl (rC (ib rfl) (rC (rT (v:=Ea) rfl vN) rN)) (by rw[hF];rfl);cases h
 obtain⟨l,rfl⟩:∃ l,oj=some l:=by
  cases oj with
  |none=>cases h1
  |some l=>exact⟨l,rfl⟩
 obtain rfl:=hs l rfl;simp only at hF;refine za ?_;refine oS (sF [_,_] rfl k0 ?_);refine za ?_;refine sa (λh=>?_) λh=>?_;have eb:¬ a=[48]:=by simpa using h
 rw[zn (λhc=>eb hc.1)] at hF;refine Oe ?_;exact Na rfl (rC (ib rfl) (rC (rT (v:=Ea) rfl vN) rN)) (by rw[hF];rfl);have he:a=[48]:=by simpa using h
 subst he;simp only[true_and] at hF;refine ia ?_;refine oL (λk ls H=>∃ i,(i<=v.length∨i=3)/\k=v.length+4-i/\ls=[(1,ptr b1 0),(4,str s),(6,int .i64 (i:Nat))]/\H=[(b1,.cells 179 [.list (v.map str),.atom (.map (some m))])]/\xy s (v.drop 3)=xy s (v.drop i))
  ⟨_,_,_,⟨3,Or.inr rfl,rfl,rfl,rfl,rfl⟩,Qa,kb _⟩ ?_
 rintro k ls H ⟨i,hi,rfl,rfl,rfl,hE⟩ j1 Pb;have hl:=hv.1;rw[qpS s v i] at hE;refine ja ?_;refine oS (sF [_,_] rfl (kw i)<|oS (S.ff [_] rfl (kd i) ?_));rintro lv ⟨d,rfl,hd⟩;refine ja ?_;refine sa (λh=>?_) λh=>?_
 have hn:Ib (ka v i)=none:=by
  cases ho:Ib (ka v i) with
  |none=>rfl
  |some l=>rw[ho] at h;cases h
 rw[hn] at hE;rw[hE] at hF;refine Hj ?_;exact Na Pb (rC (ib rfl) (rC (rT (v:=Ea) rfl vN) rN)) (by rw[hF];rfl);obtain⟨e,ho⟩:∃ e,Ib (ka v i)=some e:=by
  cases ho:Ib (ka v i) with
  |none=>rw[ho] at h;cases h
  |some l=>exact⟨l,rfl⟩
 have wa:=Z5 ho;obtain rfl:=hd e ho;rw[ho] at hE;simp only at hE;refine ia ?_;refine sa (λh2=>?_) λh2=>?_;have he:d=s:=zt h2;rw[Eg he,Bool.true_or] at hE;rw[hE] at hF;refine Hj ?_;exact Na Pb (rC (ib rfl) (rC (rT (v:=Ea) rfl vN) rN)) (by rw[hF];rfl);have he:¬ d=s:=zf h2;rw[decide_eq_false he,Bool.false_or] at hE;refine ia ?_;exact⟨_,_,_,by omega,⟨i+1,Or.inl zo,rfl,rfl,rfl,hE⟩,Qa,kb _,Pb⟩
theorem U8(hG:GW B0 w0)(v:List Wd)(m:Nat)(hv:Small v):aa (KC B0 w0) 89 [Pj v m] [] (gb (Ky (tu v))):=by
 have k0:=Qj (B0:=B0) (w0:=w0) v m 0 (by have:=hv.1;omega);have kn:=DF hG (ka v 0) (by have:=hv.at 0;omega);have ki:=To (B0:=B0) (w0:=w0) v m 1 [[64],ka v 0,[33]] hv zo (by simp only[Oa,Eb];omega);have hF:tu v=if (Vc (ka v 0)).isSome=true/\Fu v 1 [[64],ka v 0,[33]]=true then (4,[]) else (0,[]):=by simp only[tu,Fu,Le,sf,and_true]
 unfold Pj at k0 ki ⊢;generalize Vc (ka v 0)=on at kn hF;generalize Fu v 1 [[64],ka v 0,[33]]=q at ki hF;generalize ka v 0=a at k0 kn ki;refine cJ Tryz.func89 (n:=20) ?_;refine Pc ?_;refine oS (sB (cs:=[.list (v.map str),.atom (.map (some m))]) rfl λb1=>?_);refine ja ?_;refine oS (sF [_,_] rfl k0<|oS (sF [_] rfl kn ?_));refine oa ?_
 cases on with
 |none=>
  refine FG ?_;refine Pa.Ic (i:=2) rfl rfl rfl rfl zk zk zk rfl<|UB ?_;refine aT 7 rfl rfl (Pure.nh (lv:=.atom _) rfl rfl)<|qq ?_;refine ig ?_;refine sa (λh=>?_) λh=>?_;cases h
  exact GB
 |some n=>refine FG ?_;refine Pa.Ao 2 rfl rfl rfl rfl (pG (Ya:=[_,_]) rfl yb rfl rfl)<|Pa.Ao 3 rfl rfl rfl rfl (pG (Ya:=[_,_]) rfl yb rfl rfl)<|aL ?_ Ma;refine lO 4 (lS (H1:=[]) rfl (.inr ⟨1,true,13,rfl,rfl,rfl⟩) rfl qb Ma (sF [_,_] rfl k0 ?_));refine lO 5 (lS (H1:=[]) rfl (.inr ⟨1,true,13,rfl,rfl,rfl⟩) rfl qb Ma ?_);refine sL [.const (.string { data:=#[64] }),.tmp 16,.const (.string { data:=#[33] })] rfl (rc rfl rfl (rc rfl rfl (rc rfl rfl Tf))) rfl rfl rfl ?_;refine lO 6 (lS (H1:=[]) rfl (.inr ⟨1,true,13,rfl,rfl,rfl⟩) rfl qb Ma (sF [_,_,_] rfl ki ?_));refine Td.any [(b1,.cells 179 [.list (v.map str),.atom (.map (some m))])] (λ_ h=>h) ?_;refine aT 7 rfl rfl (Pure.Gi (lv:=.atom _) rfl rfl)<|qq ?_;refine ig ?_;refine sa (λh=>?_) λh=>?_;have hq:q=true:=h;subst hq;refine Oe ?_;exact Na rfl (rC (ib rfl) (rC (rT (v:=Ea) rfl vN) rN)) (by rw[hF];rfl);have hq:q=false:=h;subst hq;refine ia ?_;exact Na rfl (rC (ib rfl) (rC (rT (v:=Ea) rfl vN) rN)) (by rw[hF];rfl)
theorem qm9(h:5<v.length):((v.map str).take 6).drop 4=[str (ka v 4),str (ka v 5)]:=by
 have e4:ka v 4=v[4]:=by unfold ka;rw[dh zo];rfl
 have e5:ka v 5=v[5]:=by unfold ka;rw[dh h];rfl
 rw[e4,e5,<-List.map_take,<-List.map_drop];have:(v.take 6).drop 4=[v[4],v[5]]:=by rw[List.drop_take,drop_eq_getElem_cons (by omega:4<v.length),drop_eq_getElem_cons h];rfl
 rw[this];rfl
theorem qnu(v:List Wd)(m:Nat)(hv:Small v):aa (KC B0 w0) 90 [Pj v m] [] (gb (Ky (yu v))):=by
 have kj:=UL (B0:=B0) (w0:=w0) v m 4 hv zo;have ki:=To (B0:=B0) (w0:=w0) v m 0 [[49],[60],[49],[60]] hv zo ra;have hF:yu v=if (jm v 4).isSome=true/\Fu v 0 [[49],[60],[49],[60]]=true then (6,[ka v 4,ka v 5]) else (0,[]):=by simp only[yu,Fu,Le,sf,and_true]
 have fa:∀ l,jm v 4=some l->5<v.length:=λl h=>EC h;unfold Pj at kj ki ⊢;generalize jm v 4=oj at kj hF fa;generalize Fu v 0 [[49],[60],[49],[60]]=q at ki hF;refine cJ Tryz.func90 (n:=20) ?_;refine Pc ?_;refine oS (sB (cs:=[.list (v.map str),.atom (.map (some m))]) rfl λb1=>?_);refine ja ?_;refine oS (S.ff [_,_] rfl kj ?_);rintro lv ⟨s,rfl,hs⟩;refine ia ?_
 cases oj with
 |none=>
  refine oa ?_;refine sa (λh=>?_) λh=>?_;cases h
  exact GB
 |some l=>have h5:=fa l rfl;refine za ?_;refine oS (sL [.const (.string { data:=#[49] }),.const (.string { data:=#[60] }),.const (.string { data:=#[49] }),.const (.string { data:=#[60] })] rfl (rc rfl rfl (rc rfl rfl (rc rfl rfl (rc rfl rfl Tf)))) rfl rfl rfl ?_);refine Dg ?_;refine oS (sF [_,_,_] rfl ki ?_);refine oa ?_;refine sa (λh=>?_) λh=>?_;have hq:q=true:=h;subst hq;refine oa ?_;refine cD (m:=5) rfl [(b1,.cells 179 [.list (v.map str),.atom (.map (some m))])]<|aT 0 rfl rfl (pF rfl)<|aT 1 rfl rfl (pL (c:=.list _) rfl yb rfl)<|Pa.take (i:=2) Ma rfl zk zk zk rfl (Pure.sn (es:=v.map str) (i:=4) (j:=6) rfl ⟨_,rfl⟩ ⟨_,rfl⟩ zo zo (by rw[Ua];omega) (Ro v))<|aT 3 rfl rfl (pA (lv:=.atom _) rfl)<|aT 4 rfl rfl (pA (lv:=.list _) rfl)<|qq ?_;refine oa ?_;exact Na rfl (rC (ib rfl) (rC (rT (v:=.list _) rfl fc) rN)) (by rw[hF];exact congrArg (λx=>LV.tuple [int .i64 6,.list x]) (qm9 h5));have hq:q=false:=h;subst hq;refine ia ?_;exact Na rfl (rC (ib rfl) (rC (rT (v:=Ea) rfl vN) rN)) (by rw[hF];rfl)
theorem qlS(hG:GW B0 w0)(v:List Wd)(m:Nat)(hv:Small v):aa (KC B0 w0) 88 [Pj v m] [] (gb (Ky (It v))):=by
 have k0:=Qj (B0:=B0) (w0:=w0) v m 0 (by have:=hv.1;omega);have k1:=Qj (B0:=B0) (w0:=w0) v m 1 (by have:=hv.1;omega);have k2:=Qj (B0:=B0) (w0:=w0) v m 2 (by have:=hv.1;omega);have k3:=Qj (B0:=B0) (w0:=w0) v m 3 (by have:=hv.1;omega);have kj:=cZ hG (ka v 0) (ka v 1) (ka v 2) (hv.at 0) (hv.at 2);have hF:It v=if (ka v 1=[43]∨ka v 1=[42]∨ka v 1=[94])/\ka v 3=ka v 1 then
  (match gq (ka v 0) (ka v 1) (ka v 2) with
  |some s=>(4,[s,ka v 1])
  |none=>(0,[]))
 else (0,[]):=rfl
 unfold Pj at k0 k1 k2 k3 ⊢;generalize gq (ka v 0) (ka v 1) (ka v 2)=o at kj hF;generalize ka v 1=b at k1 kj hF;generalize ka v 3=d at k3 hF;refine cJ Tryz.func88 (n:=38) ?_;refine Pc ?_;refine oS (sB (cs:=[.list (v.map str),.atom (.map (some m))]) rfl λb1=>?_);refine ja ?_;refine oS (sF [_,_] rfl k1 ?_);refine ja ?_;refine ea.cut [(1,ptr b1 0),(4,str b),(24,bool (!decide ((b=[43]∨b=[42]∨b=[94])/\d=b)))] ?_ λj hj=>?_;refine oB 11 rfl (λh1=>?_) λh1=>?_;have e1:¬ b=[43]:=by simpa using h1
 refine za ?_;refine oB 15 rfl (λh2=>?_) λh2=>?_;have e2:¬ b=[42]:=by simpa using h2
 refine za ?_;refine oB 19 rfl (λh3=>?_) λh3=>?_;have e3:¬ b=[94]:=by simpa using h3
 refine oa ?_;exact⟨⟨rfl,rfl,Ed (by simp[e1,e2,e3]),trivial⟩,rfl,rfl⟩;have e3:b=[94]:=by simpa using h3
 refine za ?_;refine oS (sF [_,_] rfl k3 ?_);refine za ?_;exact⟨⟨rfl,rfl,Ed (by simp[e3]),trivial⟩,rfl,rfl⟩;have e2:b=[42]:=by simpa using h2
 refine za ?_;refine oS (sF [_,_] rfl k3 ?_);refine za ?_;exact⟨⟨rfl,rfl,Ed (by simp[e2]),trivial⟩,rfl,rfl⟩;have e1:b=[43]:=by simpa using h1
 refine za ?_;refine oS (sF [_,_] rfl k3 ?_);refine za ?_;exact⟨⟨rfl,rfl,Ed (by simp[e1]),trivial⟩,rfl,rfl⟩;refine sa (λh=>?_) λh=>?_;have hn:¬ ((b=[43]∨b=[42]∨b=[94])/\d=b):=zf (Bool.not_eq_true' _▸h);rw[zn hn] at hF;refine Oe ?_;exact Na hj (rC (ib rfl) (rC (rT (v:=Ea) rfl vN) rN)) (by rw[hF];rfl)
 have hn:(b=[43]∨b=[42]∨b=[94])/\d=b:=by by_cases hc:(b=[43]∨b=[42]∨b=[94])/\d=b;exact hc;rw[decide_eq_false hc] at h;cases h
 rw[zp hn] at hF;refine oa ?_;refine cD (m:=11) rfl [(b1,.cells 179 [.list (v.map str),.atom (.map (some m))])]<|aT 0 rfl rfl (pG (Ya:=[_,_]) rfl yb rfl rfl)<|Qm ?_;refine aT 3 rfl rfl (pG (Ya:=[_,_]) rfl yb rfl rfl)<|NB ?_;refine lO 4 (lS (H1:=[]) rfl (.inl rfl) rfl qb Ma (sF [_,_] rfl k2 ?_));refine lO 5 (lS (H1:=[]) rfl (.inl rfl) rfl qb Ma (S.ff [_,_,_] rfl kj ?_));rintro lv ⟨s,rfl,hs⟩;refine Td.any [(b1,.cells 179 [.list (v.map str),.atom (.map (some m))])] (λ_ h=>h) ?_;refine aT 6 rfl rfl (pM (lv:=.tuple _) rfl)<|aT 7 rfl rfl (Pure.extract (c:=.atom _) rfl rfl)<|aT 8 rfl rfl (Pure.extract (c:=.atom _) rfl rfl)<|aT 9 rfl rfl (pA (lv:=.atom _) rfl)<|aT 10 rfl rfl (pA (lv:=.atom _) rfl)<|qq ?_;refine qg ?_;refine sa (λh=>?_) λh=>?_;obtain⟨l,rfl⟩:=zR h;obtain rfl:=hs l rfl;refine Dc ?_;refine oS (sL [.tmp 35,.tmp 36] rfl (rc rfl rfl (rc rfl rfl Tf)) rfl rfl rfl ?_);refine oa ?_;exact Na hj (rC (ib rfl) (rC (rT (v:=.list _) rfl fc) rN)) (by rw[hF];rfl)
 obtain rfl:o=none:=by
  cases o with
  |none=>rfl
  |some l=>cases h
 refine ia ?_;exact Na hj (rC (ib rfl) (rC (rT (v:=Ea) rfl vN) rN)) (by rw[hF];rfl)
theorem qlt(h:v.length<=i):Uo (v.drop i)=0:=by rw[List.drop_eq_nil_of_le h];rfl
theorem qnM(h:i<v.length)(hd:(Ib v[i]).isSome=true):Uo (v.drop i)=0:=by
 unfold Uo;rw[drop_eq_getElem_cons h,List.takeWhile_cons_of_neg (λhc=>absurd (show(Ib v[i]).isNone=true from hc) (by
  cases hx:Ib v[i] with
  |none=>rw[hx] at hd;cases hd
  |some d=>simp))]
 rfl
theorem qmJ(h:i<v.length)(hd:(Ib v[i]).isSome=false):Uo (v.drop i)=Uo (v.drop (i+1))+1:=by unfold Uo;rw[drop_eq_getElem_cons h,List.takeWhile_cons_of_pos (by simpa using hd)];rfl
theorem w6{n:Nat}(hn:n=ek v)(h0:n=0->i=0)(hi:n<=i)(hE:0<n->Uo (v.drop n)=i-n):uu v=if n<i then (i,v.take n) else (0,[]):=by unfold uu;rw[<-hn];by_cases h:0<n;rw[hE h];by_cases hj:n<i;rw[zp ⟨h,by omega⟩,zp hj,show n+(i-n)=i by omega];rw[zn λhc=>hj zo,zn hj];rw[zn λhc=>h hc.1,zn (by have:=h0 zo;omega)]
theorem qq6(v:List Wd)(m:Nat)(hv:Small v):aa (KC B0 w0) 93 [Pj v m] [] (gb (Ky (uu v))):=by
 have Kn:(v.map str).length=v.length:=Ua _;have hl:=hv.1;have k0:=Qj (B0:=B0) (w0:=w0) v m 0 (by have:=hv.1;omega);have kj:=UL (B0:=B0) (w0:=w0) v m 1 hv zo;have hS:ek v=if (jm v 1).isSome=true/\ka v 0=[48] then 3 else if ka v 0=[59]∨ka v 0=[36] then 1 else 0:=rfl
 have hD:=λ{n i:Nat}=>w6 (v:=v) (n:=n) (i:=i);unfold Pj at k0 kj ⊢;generalize ek v=n at hS hD;generalize jm v 1=oj at kj hS;generalize ka v 0=a at k0 hS;have hn3:n<=3:=by rw[hS];split;omega;split <;> omega
 refine cJ Tryz.func93 (n:=59) ?_;refine Pc ?_;refine oS (sB (cs:=[.list (v.map str),.atom (.map (some m))]) rfl λb1=>?_)
 repeat (first|refine ea.nil ?_|refine qN ?_|refine ca (pA (lv:=.atom _) rfl) ?_)
 refine Pc ?_;repeat (first|refine ea.nil ?_|refine qN ?_|refine ca (pA (lv:=.atom _) rfl) ?_)
 refine Ga.seq ?_;refine cC [(1,ptr b1 0),(4,int .i64 (n:Nat))] ?_ λj hj=>?_;refine ja ?_;refine oS (S.ff [_,_] rfl kj ?_);rintro lv ⟨s,rfl,hs⟩;refine ia ?_;refine ea.cut [(1,ptr b1 0),(4,int .i64 0),(20,bool (decide (oj.isSome=true/\a=[48])))] ?_ λj2 Ub=>?_
 cases oj with
 |none=>refine oa ?_;exact⟨⟨rfl,rfl,Ed (by simp),trivial⟩,rfl,rfl⟩
 |some l=>refine za ?_;refine oS (sF [_,_] rfl k0 ?_);refine oa ?_;exact⟨⟨rfl,rfl,Ed (by simp),trivial⟩,rfl,rfl⟩
 refine sa (λh=>?_) λh=>?_;rw[zp (zt h)] at hS;subst hS;refine Xj ?_;exact⟨Qa,rfl,Ub⟩;rw[zn (zf h)] at hS;refine ja ?_;refine oS (sF [_,_] rfl k0 ?_);refine oa ?_;refine ea.cut [(1,ptr b1 0),(4,int .i64 0),(28,bool (decide (a=[59]∨a=[36])))] ?_ λj3 qi=>?_;refine oB 24 rfl (λh1=>?_) λh1=>?_;have e1:a=[59]:=zt h1;refine oa ?_;exact⟨⟨rfl,rfl,Ed (by simp[e1]),trivial⟩,rfl,rfl⟩;have e1:¬ a=[59]:=zf h1;refine za ?_;refine oS (sF [_,_] rfl k0 ?_);refine oa ?_;exact⟨⟨rfl,rfl,Ed (by simp[e1]),trivial⟩,rfl,rfl⟩;refine sa (λh=>?_) λh=>?_;rw[zp (zt h)] at hS;subst hS;refine Xj ?_;exact⟨Qa,rfl,qi.trans Ub⟩;rw[zn (zf h)] at hS;subst hS;refine oa ?_;exact⟨Qa,rfl,qi.trans Ub⟩;refine ia ?_
 refine oL (λk ls H=>∃ i:Nat,n<=i/\(i<=v.length∨i=n)/\(n=0->i=0)/\k=v.length+4-i/\ls=[(1,ptr b1 0),(4,int .i64 (n:Nat)),(7,int .i64 (i:Nat))]/\H=[(b1,.cells 179 [.list (v.map str),.atom (.map (some m))])]/\Uo (v.drop n)=(i-n)+Uo (v.drop i))
  ⟨_,_,_,⟨n,mc _,Or.inr rfl,id,rfl,rfl,rfl,by omega⟩,Qa,kb _⟩ ?_
 rintro k ls H ⟨i,LM,hi,h0,rfl,rfl,rfl,hE⟩ j1 Pb;refine ja ?_;refine ea.cut [(1,ptr b1 0),(4,int .i64 (n:Nat)),(7,int .i64 (i:Nat)),(38,bool (decide (0<n/\i<v.length)))] ?_ λj2 Ub=>?_;refine oB 32 rfl (λh1=>?_) λh1=>?_;have e1:0<n:=by have:=zt h1;omega
 refine Oi ?_;exact⟨⟨rfl,rfl,rfl,Ed (by rw[decide_eq_decide];omega),trivial⟩,rfl,rfl⟩;have e1:¬ 0<n:=by have:=zf h1;omega
 refine oa ?_;exact⟨⟨rfl,rfl,rfl,Ed (by simp[e1]),trivial⟩,rfl,rfl⟩;refine sa (λh=>?_) λh=>?_;obtain⟨Gn,wa⟩:=zt h;have kd:=gR (B0:=B0) (w0:=w0) v[i] (by have:=hv.2 _ (List.getElem_mem wa);omega);refine ja ?_;refine ca (xR (ad:=str v[i]) (cs:=[str v[i]]) rfl rfl zo (Hh _ _ _ wa) rfl rfl)<|za ?_;refine oS (S.ff [_] rfl kd ?_);rintro lv ⟨s,rfl,hs⟩;refine ia ?_;refine sa (λh2=>?_) λh2=>?_;rw[qnM wa h2] at hE
 replace hD:=hD rfl h0 LM (λ_=>by omega);refine ja ?_;refine sa (λh3=>?_) λh3=>?_;exact lG;exact wG;rw[qmJ wa (by simpa using h2)] at hE;refine ia ?_;exact⟨_,_,_,by omega,⟨i+1,by omega,Or.inl zo,by omega,rfl,rfl,rfl,by omega⟩,Qa,kb _,Ub.trans Pb⟩;have hc:=zf h
 replace hD:=hD rfl h0 LM (λh=>by rw[qlt (v:=v) (i:=i) zo] at hE;omega)
 refine ia ?_;refine sa (λh3=>?_) λh3=>?_;exact lG;exact wG
end Go.Proofs.YtjolancjacdeaaaGreatDoor.Pp
namespace Go.Proofs.YtjolancjacdeaaaGreatDoor.Pp
open Go.GL Go.RowKit Go.Ba
open Rk (Ei Ei.mk OA)
def ME(ab:Wd->Bool)(v:List Wd):List ao:=[vt v,Dv v,It v,tu v,yu v,Ct v,yt v,uu v,Wr ab v]
def jA:List ao->ao
 |[]=>(0,[])
 |r::l=>if r.1≠0 then r else jA l
theorem qnV{ab:Wd->Bool}{v:List Wd}(h:(Wr ab v).1=0):Wr ab v=(0,[]):=by
 unfold Wr at h ⊢;revert h;cases Ib (ka v 0) with
 |none=>exact λ_=>rfl
 |some l=>intro h;simp only at h ⊢;by_cases hu:ab l=true;rw[zp hu];rw[zn hu] at h;cases h
theorem qnt(ab:Wd->Bool)(v:List Wd):Of ab v=jA (ME ab v):=by have hz:=λh=>qnV (ab:=ab) (v:=v) h;unfold Of ME;generalize vt v=a1;generalize Dv v=a2;generalize It v=a3;generalize tu v=a4;generalize yu v=a5;generalize Ct v=a6;generalize yt v=a7;generalize uu v=a8;generalize Wr ab v=a9 at hz;simp only[jA];by_cases h9:a9.1≠0;rw[zp h9];rw[zn h9,hz (Decidable.not_not.1 h9)]
theorem qnT{l:List ao}{i:Nat}(h:i<l.length):jA (l.drop i)=if l[i].1≠0 then l[i] else jA (l.drop (i+1)):=by rw[drop_eq_getElem_cons h,jA]
theorem qpA{l:List ao}{i:Nat}(h:l.length<=i):jA (l.drop i)=(0,[]):=by rw[List.drop_eq_nil_of_le h];try rfl
theorem f'(ab:Wd->Bool)(v:List Wd):(ME ab v).length=9:=rfl
theorem r9(ab:Wd->Bool)(f:Nat):Lo ab f []=[]:=by cases f <;> rfl
theorem qp5(ab:Wd->Bool)(f:Nat)(w:Wd)(r:List Wd):Lo ab (f+1) (w::r)=if (Of ab (w::r)).1=0 then w::Lo ab f r else (Of ab (w::r)).2++Lo ab f ((w::r).drop (Of ab (w::r)).1):=rfl
theorem qpW(l:List Wd)(k:Nat)(h:k<l.length)(s:Wd):Gk (l.take (k+1)) s=(Gk (l.take k) s || decide (td l[k]=some s)):=by unfold Gk;rw[List.take_succ_eq_append_getElem h,List.any_append];simp
attribute [local irreducible] ea Ga Ja aa Go.GL.Pure Bc Tc oc LQ Pa Td Lf
theorem CA(l:List Wd):((l.map str).flatMap LV.cells).all bj=true:=by
 induction l with
 |nil=>rfl
 |cons a l ih=>rw[Tb,List.flatMap_cons,List.all_append,ih];rfl
theorem C'(l:List Wd)(i:Nat):((l.map str).take (((l.map str).length:Nat):Int).toNat).drop ((i:Nat):Int).toNat=(l.drop i).map str:=by rw[Int.toNat_natCast,Int.toNat_natCast,take_length,List.map_drop]
theorem E9{s:Nat}{v:LV}{es:List LV}{H:Heap}{q:Nat×da}(h:Acc s v es H [q]):∃ F,H.Perm ([q]++F):=by
 cases h with
 |nil=>exact⟨[],List.Perm.refl _⟩
 |row=>exact⟨[_],Km ..⟩
theorem Small.drop{l:List Wd}(h:Small l)(i:Nat):Small (l.drop i):=
 ⟨by have:=h.1;rw[List.length_drop];omega,λw hw=>h.2 w (List.mem_of_mem_drop hw)⟩
def Pn(k:Nat):LV:=.atom (.func (.func (86+k)) #[] #[])
variable{B0:Nat}{w0:World}
theorem qqz(hG:GW B0 w0)(l:List Wd)(hv:Small l):aa (KC B0 w0) 35 [.list (l.map str)] [] (gb (.list ((al l).map str))):=by
 have Kn:(l.map str).length=l.length:=Ua _;have hl:=hv.1;refine cJ Tryz.func35 (n:=73) ?_;refine Xj ?_;refine oS (S.makeMap λm=>?_);refine ia ?_;refine oL (λk ls H=>∃ (i:Nat) (es:Array MapEntry) (ga:Nat),i<=l.length/\k=l.length-i/\ls=[(0,.list (l.map str)),(3,.atom (.map (some m))),(17,.list (l.map str)),(18,int .i64 l.length),(19,int .i64 (i:Nat))]/\H=[(m,.obj (.map es ga))]/\Dd es (Gk (l.take i)))
  ⟨_,_,_,⟨0,#[],0,zero_le _,rfl,rfl,rfl,Dd.nil⟩,Qa,kb _⟩ ?_
 rintro k ls H ⟨i,es,ga,hi,rfl,rfl,rfl,hM⟩ j1 Pb;refine Nd ?_;refine sa (λhc=>?_) λhc=>?_;have wa:i<l.length:=by have:=zt hc;omega
 have kr:=UZ (B0:=B0) (w0:=w0) l[i] (by have:=hv.2 _ (List.getElem_mem wa);omega);have hU:Gk (l.take (i+1))=λs=>Gk (l.take i) s || decide (td l[i]=some s):=funext λs=>qpW l i wa s;refine Af ?_;refine gy ?_;refine ja ?_;refine oS (S.ff [_] rfl kr ?_);rintro lv ⟨s,rfl,hs⟩;refine ia ?_;refine sa (λh=>?_) λh=>?_;obtain⟨d,hd⟩:=zR h;obtain rfl:=hs d hd;refine Dc ?_;refine oS (S.vq (t:=156) (kt:=9) (el:=4) zk zk rfl rfl rfl pH hM λrh Vb UJ=>?_);refine Mh ?_
 exact⟨_,_,_,by omega,⟨i+1,rh,Vb,by omega,rfl,rfl,rfl,by
  rw[hU,hd];exact cast (by congr;funext x;simp[eq_comm]) UJ⟩,Qa,kb _,Pb⟩
 have hn:td l[i]=none:=by
  cases ho:td l[i] with
  |none=>rfl
  |some d=>rw[ho] at h;cases h
 refine ia ?_;exact⟨_,_,_,by omega,⟨i+1,es,ga,by omega,rfl,rfl,rfl,by
  rw[hU,hn];exact cast (by congr;funext x;simp) hM⟩,Qa,kb _,Pb⟩
 have ae:i=l.length:=by have:=zf hc;omega
 subst ae;rw[take_length] at hM;refine ia ?_;refine oS (sL [.func 86,.func 87,.func 88,.func 89,.func 90,.func 91,.func 92,.func 93,.func 94] rfl (rc rfl rfl (rc rfl rfl (rc rfl rfl (rc rfl rfl (rc rfl rfl (rc rfl rfl (rc rfl rfl (rc rfl rfl (rc rfl rfl Tf))))))))) rfl rfl rfl ?_);refine ia ?_;refine oL (λk ls H=>∃ (i f:Nat) (out:List Wd) (v:LV),i<=l.length/\k=l.length-i/\ls=[(0,.list (l.map str)),(3,.atom (.map (some m))),(8,.list ((List.range 9).map Pn)),(9,v),(10,int .i64 (i:Nat))]/\Acc 1 v (out.map str) H [(m,.obj (.map es ga))]/\l.length-i<=f/\out.length<=i/\out++Lo (Gk l) f (l.drop i)=al l)
  ⟨_,_,_,⟨0,l.length,[],Ea,zero_le _,rfl,rfl,Acc.nil,by omega,zero_le _,rfl⟩,Qa,kb _⟩ ?_
 rintro k ls H ⟨i,f,out,v,hi,rfl,rfl,Ta,hf,fa,hE⟩ j2 Ub;have tS:(out.map str).length=out.length:=Ua _;refine ia ?_;refine sa (λhc=>?_) λhc=>?_
 ·have wa:i<l.length:=by have:=zt hc;omega
  obtain⟨f,rfl⟩:∃ g,f=g+1:=⟨f-1,by omega⟩;have hR:(Of (Gk l) (l.drop i)).1≠0->(Of (Gk l) (l.drop i)).1<=(l.drop i).length/\(Of (Gk l) (l.drop i)).2.length<(Of (Gk l) (l.drop i)).1:=NO (Gk l) (l.drop i);have hF:=qnt (Gk l) (l.drop i);have hl9:=f' (Gk l) (l.drop i);rw[drop_eq_getElem_cons wa,qp5,<-drop_eq_getElem_cons wa,List.drop_drop] at hE;have IJ:(l.drop i).length=l.length-i:=List.length_drop;repeat (first|refine ea.nil ?_|refine qN ?_|refine Ga.skip ?_|refine Ga.block ?_)
  refine Ga.seq ?_;repeat (first|refine ea.nil ?_|refine qN ?_|refine Ga.region ?_|refine ca (pA (lv:=.atom _) rfl) ?_)
  refine Ga.seq ?_;refine cM (A:=Nat×List Wd×LV×Heap) (λa=>[(0,.list (l.map str)),(3,.atom (.map (some m))),(8,.list ((List.range 9).map Pn)),(9,a.2.2.1),(10,int .i64 (i:Nat)),(11,int .i64 a.1)]) (λa=>a.2.2.2)
   (λa=>a.1=(Of (Gk l) (l.drop i)).1/\a.2.1=(if (Of (Gk l) (l.drop i)).1=0 then out else out++(Of (Gk l) (l.drop i)).2)/\Acc 1 a.2.2.1 (a.2.1.map str) a.2.2.2 [(m,.obj (.map es ga))]) ?_ ?_
  refine ia ?_;refine oL (λk ls H1=>∃ x:Nat,x<=9/\k=9-x/\ls=[(0,.list (l.map str)),(3,.atom (.map (some m))),(8,.list ((List.range 9).map Pn)),(9,v),(10,int .i64 (i:Nat)),(11,int .i64 0),(37,.list ((List.range 9).map Pn)),(38,int .i64 9),(39,int .i64 (x:Nat))]/\H1=H/\Of (Gk l) (l.drop i)=jA ((ME (Gk l) (l.drop i)).drop x)) ?_ ?_;exact⟨_,_,_,⟨0,zero_le _,rfl,rfl,rfl,hF⟩,Qa,kb _⟩;rintro k ls H1 ⟨x,hx,rfl,rfl,rfl,hX⟩ j3 qi;refine Nd ?_;refine sa (λhc=>?_) λhc=>?_;have HR:x<9:=by have:=zt hc;omega
  rw[qnT zo] at hX;refine Af ?_;refine ca (xR (ad:=Pn x) (cs:=[Pn x]) rfl rfl zo (by
   have:=Hh Pn (List.range 9) x (by simpa using HR);rw[List.getElem_range] at this;exact this) rfl rfl) ?_
  refine ja ?_;refine ca (show Go.GL.Pure _ _ _ _ (.list ((l.drop i).map str)) from C' l i▸Pure.sn (es:=l.map str) (i:=((i:Nat):Int)) (j:=(((l.map str).length:Nat):Int)) rfl ⟨_,rfl⟩ rfl zo zo zo (Ro l))<|za ?_;have Gs:=hv.drop i;have Tl:x<(ME (Gk l) (l.drop i)).length:=by omega
  generalize hr:(ME (Gk l) (l.drop i))[x]=r at hX;refine ea.cut [(0,.list (l.map str)),(3,.atom (.map (some m))),(8,.list ((List.range 9).map Pn)),(9,v),(10,int .i64 (i:Nat)),(11,int .i64 0),(14,int .i64 (r.1:Nat)),(15,.list (r.2.map str)),(37,.list ((List.range 9).map Pn)),(38,int .i64 9),(39,int .i64 (x:Nat))] ?_ λj4 Js=>?_;clear hX;have h9:x=0∨x=1∨x=2∨x=3∨x=4∨x=5∨x=6∨x=7∨x=8:=by omega
  rcases h9 with rfl|rfl|rfl|rfl|rfl|rfl|rfl|rfl|rfl;obtain rfl:vt (l.drop i)=r:=hr;refine oS (S.Qs (f:=86) [_] rfl rfl (qq3 hG (l.drop i) m Gs) ?_);refine za ?_;exact⟨Qa,rfl,rfl⟩;obtain rfl:Dv (l.drop i)=r:=hr;refine oS (S.Qs (f:=87) [_] rfl rfl (ql5 (B0:=B0) (w0:=w0) (l.drop i) m Gs) ?_);refine za ?_;exact⟨Qa,rfl,rfl⟩;obtain rfl:It (l.drop i)=r:=hr;refine oS (S.Qs (f:=88) [_] rfl rfl (qlS hG (l.drop i) m Gs) ?_);refine za ?_;exact⟨Qa,rfl,rfl⟩;obtain rfl:tu (l.drop i)=r:=hr;refine oS (S.Qs (f:=89) [_] rfl rfl (U8 hG (l.drop i) m Gs) ?_);refine za ?_;exact⟨Qa,rfl,rfl⟩;obtain rfl:yu (l.drop i)=r:=hr;refine oS (S.Qs (f:=90) [_] rfl rfl (qnu (B0:=B0) (w0:=w0) (l.drop i) m Gs) ?_);refine za ?_;exact⟨Qa,rfl,rfl⟩;obtain rfl:Ct (l.drop i)=r:=hr;refine oS (S.Qs (f:=91) [_] rfl rfl (qqj hG (l.drop i) m Gs) ?_);refine za ?_;exact⟨Qa,rfl,rfl⟩;obtain rfl:yt (l.drop i)=r:=hr;refine oS (S.Qs (f:=92) [_] rfl rfl (Z8 (B0:=B0) (w0:=w0) (l.drop i) m Gs) ?_);refine za ?_;exact⟨Qa,rfl,rfl⟩;obtain rfl:uu (l.drop i)=r:=hr;refine oS (S.Qs (f:=93) [_] rfl rfl (qq6 (B0:=B0) (w0:=w0) (l.drop i) m Gs) ?_);refine za ?_;exact⟨Qa,rfl,rfl⟩;obtain rfl:Wr (Gk l) (l.drop i)=r:=hr;obtain⟨F,hp⟩:=E9 Ta;refine oS (S.Rf (f:=94) (H1:=[(m,.obj (.map es ga))]) (F:=F) [_] rfl rfl hp (qnK (B0:=B0) (w0:=w0) (l.drop i) m Gs hM) (λv' H' hh=>?_) (by rintro ch H' ⟨h,_⟩;cases h));obtain⟨PR,rfl⟩:=hh;cases PR;refine ea.db ⟨[],by simpa using hp.symm⟩ ?_;refine za ?_;exact⟨Qa,rfl,rfl⟩;refine ja ?_;refine sa (λhn=>?_) λhn=>?_;have Gn:r.1≠0:=by have:=zt hn;omega
  rw[zp Gn] at hX;rw[hX] at hR;obtain⟨hR1,ef⟩:=hR Gn;have Rh:(r.2.map str).length=r.2.length:=Ua _;refine fg ?_;refine eh ?_;refine oa ?_;refine oS (S.acc rfl Ta rfl (Ro _) (CA _) zo λv' H' Ra=>?_);refine Wh ?_;refine za ?_;exact⟨(r.1,out++r.2,v',H'),⟨by rw[hX],by rw[hX,zn Gn],by rw[Od];exact Ra⟩,Qa,kb _,Js.trans qi⟩;have Gn:r.1=0:=by have:=zf hn;omega
  rw[zn zo] at hX;refine ia ?_;exact⟨_,_,_,by omega,⟨x+1,by omega,rfl,rfl,rfl,hX⟩,Qa,kb _,Js.trans qi⟩;have HR:x=9:=by have:=zf hc;omega
  subst HR;rw[qpA zo] at hX;refine oa ?_;exact⟨(0,out,v,H1),⟨by rw[hX],by rw[hX];rfl,Ta⟩,Qa,kb _,qi⟩;rintro⟨n,Mv,v',H'⟩ ⟨Ap,gr,Ra⟩ j5 O1;simp only at Ap gr Ra;have aad:(Mv.map str).length=Mv.length:=Ua _;rw[<-Ap] at hR gr hE;refine ia ?_;refine sa (λhn=>?_) λhn=>?_;have Gn:n=0:=by have:=zt hn;omega
  rw[zp Gn] at gr hE;subst gr;refine Xj ?_;refine ca (pM (lv:=v') rfl)<|oa ?_;refine gy ?_;refine za ?_;refine fh ?_;refine oS (S.acc rfl Ra rfl (by simp;rfl) rfl (by simp;omega) λv2 H2 Ac=>ca (pA (lv:=v2) rfl) ?_);refine ia ?_;exact⟨_,_,_,by omega,⟨i+1,f,Mv++[l[i]],v2,by omega,rfl,rfl,by rw[Od];exact Ac,by omega,by simp;omega,by rw[Xc];exact hE⟩,Qa,kb _,O1.trans Ub⟩;have Gn:n≠0:=by have:=zf hn;omega
  rw[zn Gn] at gr hE;obtain⟨hR1,ef⟩:=hR Gn;have Wj:Mv.length=out.length+(Of (Gk l) (l.drop i)).2.length:=by rw[gr,ua]
  refine ia ?_;exact⟨_,_,_,by omega,⟨i+n,f,Mv,v',by omega,rfl,rfl,Ra,by omega,by omega,by rw[gr,Xc];exact hE⟩,Qa,kb _,O1.trans Ub⟩
 have ae:i=l.length:=by have:=zf hc;omega
 subst ae;rw[List.drop_length,r9,Qb] at hE;subst hE;refine Ga.sub (d:=9) (v:=v) rfl Ta.sub ?_;refine cW Fc ?_;refine ia ?_;exact Na (Ub.trans Pb) (rC (rT (v:=.list _) rfl fc) rN) rfl
open Rk (Ei Ei.mk OA Rg)
theorem xf(sep:List UInt8)(ws:List (List UInt8))(hn:ws.length<=1000000000)(hl:(Go.Lib.join ws sep).length<=1000000000):aa (KC B0 w0) 33 [.list (ws.map str),str sep] [] (gb (str (Go.Lib.join ws sep))):=Rk.xf sep ws hn hl
theorem rQ(hG:GW B0 w0)(s:List UInt8)(hs:s.length<=1000000):aa (KC B0 w0) 34 [str s] [] (gb (.list ((Oj s).map str))):=by
 have ht:=Rk.Mj hG.base hG.mx s zo;have Kn:((bq s).map Rg).length=(bq s).length:=Ua _;have Cm:(bq s).length<=s.length+1:=by have h1:=qQ s;rw[<-MC,Ua] at h1;exact h1
 rw[<-MC];generalize bq s=l at ht Kn Cm;refine cJ Tryz.func34 (n:=20) ?_;refine fg ?_;refine oS (sF [_] rfl ht ?_);refine oa ?_;refine oL (λk ls H=>∃ (v:LV) (i:Nat),i<=l.length/\k=l.length-i/\ls=[(3,v),(7,.list (l.map Rg)),(8,int .i64 l.length),(9,int .i64 (i:Nat))]/\Acc 1 v (((l.take i).map (·.1)).map str) H [])
  ⟨_,_,_,⟨Ea,0,zero_le _,rfl,rfl,by simpa using Acc.nil⟩,Qa,kb _⟩ ?_
 rintro k ls H ⟨v,i,hi,rfl,rfl,Ta⟩ j hj;refine Nd ?_;refine sa (λhc=>?_) λhc=>?_;have wa:i<l.length:=by have:=zt hc;omega
 refine jy ?_;refine oS (yc λb5=>?_);refine ja ?_;refine eh ?_;refine oa ?_;refine fh ?_;refine oS (S.Cr rfl Ta rfl (by simp;rfl) rfl (by simp;omega) λv' H' Ra=>?_);refine Wh ?_;refine Mh ?_
 exact⟨_,_,_,by omega,⟨v',i+1,by omega,rfl,rfl,by
  rw[List.take_succ_eq_append_getElem wa,Od,Od];exact Ra⟩,Qa,fe Ma,hj⟩
 have ae:i=l.length:=by have:=zf hc;omega
 subst ae;rw[take_length] at Ta;refine Ga.sub (d:=3) (v:=v) rfl Ta.sub ?_;refine cW Fc ?_;refine ia ?_;exact Na hj (rC (rT (v:=.list _) rfl fc) rN) rfl
theorem L9{l:List Wd}(h:ve l<=1000000):Small l:=⟨by have:=WK l;omega,λw hw=>by have:=aW hw;omega⟩
theorem Sl(hG:GW B0 w0)(s:List UInt8)(hs:s.length<=1000000):aa (KC B0 w0) 14 [str s] [] (gb (.tuple [str (Vy s).1,int .i64 (Vy s).2])):=by
 refine cJ Tryz.func14 (n:=21) ?_;refine ja ?_;refine sa (λh1=>?_) λh1=>?_;have wa:400000<s.length:=by have:=zt h1;omega
 have hO:Vy s=([],6):=by unfold Vy;rw[zp wa]
 refine Oe ?_;exact Na rfl (rC (ib rfl) (va rfl)) (by rw[hO];rfl);have wa:¬ 400000<s.length:=by have:=zf h1;omega
 have hO:Vy s=(Go.Lib.join (gl (Oj s)) [32],0):=by unfold Vy;rw[zn wa]
 have ht:=dQ s;have hc:=wZ s;refine ia ?_;refine oS (sF [_] rfl (rQ hG s hs) ?_);refine oa ?_;refine oL (λk ls H=>∃ l:List Wd,k=l.length/\ls=[(4,.list (l.map str))]/\H=[]/\ve l<=400001/\(∀ w∈l,Fq w)/\gl (Oj s)=gl l)
  ⟨_,_,_,⟨_,rfl,rfl,rfl,by omega,hc,rfl⟩,Qa,kb _⟩ ?_
 rintro k ls H ⟨l,rfl,rfl,rfl,Cm,Qf,hE⟩ j hj;have h1:=qqz hG l (L9 zo);have h2:=T8 l;have Dz:=qpK Qf;have M1:=zL l;have aal:=zL (al l);have DS:=WK l;have aai:=WK (al l);have MD:=tL l;have j1:=xf (B0:=B0) (w0:=w0) [32] l zo zo;have j2:=xf (B0:=B0) (w0:=w0) [32] (al l) zo zo;refine ia ?_;refine oS (sF [_] rfl h1 ?_);refine ia ?_;refine oS (sF [_,_] rfl j2 ?_);refine oa ?_;refine oS (sF [_,_] rfl j1 ?_);refine oa ?_;refine sa (λh3=>?_) λh3=>?_;have he:=O9 Dz Qf (zt h3);rw[V6 he] at hE;rw[hE] at hO;refine ia ?_;refine oS (sF [_,_] rfl j1 ?_);refine oa ?_;exact Na hj (rC (ib rfl) (va rfl)) (by rw[hO];rfl);have eb:¬ al l=l:=λh=>zf h3 (by rw[h]);rw[p9 eb] at hE;refine ia ?_;exact⟨_,_,_,by rcases MD with h|h;exact absurd h eb;exact h,⟨al l,rfl,rfl,rfl,by omega,Dz,hE⟩,Qa,kb _,hj⟩
end Go.Proofs.YtjolancjacdeaaaGreatDoor.Pp
namespace Go.Proofs.YtjolancjacdeaaaGreatDoor.Nh
open Go.GL Go.RowKit Go.Ba
@[reducible] def u32(n:Nat):LV:=int .u32 (n:Int)
theorem jg{x:Nat×da}{H:Heap}:(x::H).Perm (H++[x]):=dd (l₁:=[x])
theorem Sd{kind:Int}{name:List UInt8}{index value:List Ex}{lb Db:List Sm}(h:Kg (.mk kind name index value lb Db)=true)(h7:¬ kind=7):∃ x,value=[x]:=by
 have h1:value.length=1:=by
  simp only[Kg] at h;repeat' (split at h)
  all_goals first
   |(simp only[sf] at h;omega)
   |cases h
   |contradiction
 cases value with
 |nil=>cases h1
 |cons x l=>
  cases l with
  |nil=>exact⟨x,rfl⟩
  |cons y l=>simp at h1
theorem ur{name:List UInt8}{index value:List Ex}{lb Db:List Sm}(h:Kg (.mk 2 name index value lb Db)=true):∃ x,index=[x]:=by
 have h1:index.length=1:=by simp only[Kg] at h;simp only[show ¬ ((2:Int)=1) by decide,if_false,if_true,sf] at h;exact h.2.1
 cases index with
 |nil=>cases h1
 |cons x l=>
  cases l with
  |nil=>exact⟨x,rfl⟩
  |cons y l=>simp at h1
end Go.Proofs.YtjolancjacdeaaaGreatDoor.Nh
namespace Go.Proofs.YtjolancjacdeaaaGreatDoor.Zg
open Go.GL Go.RowKit Go.Ba
variable{d:Nat}{Db lb:List Sm}{err:Int}{index value:List Ex}{name:List UInt8}{o:Value}{s:Nm}
theorem EP{kind:Int}(h:Kg (.mk kind name index value lb Db)=true)(h2:¬ kind=2):index=[]:=by
 have h1:index.length=0:=by
  simp only[Kg] at h;repeat' (split at h)
  all_goals first
   |(simp only[sf] at h;omega)
   |cases h
   |contradiction
 exact List.length_eq_zero_iff.1 h1
theorem YH{kind:Int}(h:Kg (.mk kind name index value lb Db)=true)(h3:¬ kind=3)(h4:¬ kind=4):lb=[]/\Db=[]:=by
 have h1:lb.length=0/\Db.length=0:=by
  simp only[Kg] at h;repeat' (split at h)
  all_goals first
   |(simp only[sf] at h;constructor <;> omega)
   |cases h
   |contradiction
 exact⟨List.length_eq_zero_iff.1 h1.1,List.length_eq_zero_iff.1 h1.2⟩
theorem qo9(h:Kg (.mk 7 name index value lb Db)=true):value=[]:=by
 have h1:value.length=0:=by
  simp only[Kg] at h;repeat' (split at h)
  all_goals first
   |(simp only[sf] at h;omega)
   |cases h
   |contradiction
 exact List.length_eq_zero_iff.1 h1
attribute [local irreducible] ea Ga Ja aa Go.GL.Pure Bc Tc oc LQ Pa Td Lf LS
variable{B0:Nat}{w0:World}
def PU(B0:Nat)(w0:World)(k:KB)(c:wb)(n:Nat):Prop:=∀ (x:Sm) (d:Nat),Kl x<=n->d<=200000000->aa (KC B0 w0) 244 [ptr k.cb 0,Hb x] (Be k d) (tt (xr c x) (iv (bA c x)) (Be k (max d (yr c x))))
def R5(B0:Nat)(w0:World)(k:KB)(c:wb)(n:Nat):Prop:=∀ (l:List Sm) (d:Nat),Nc l<=n->d<=200000000->aa (KC B0 w0) 211 [ptr k.cb 0,.list (l.map Hb)] (Be k d) (tt (pj c l) (iv (Nl c l)) (Be k (max d (Zi c l))))
theorem vI{k:KB}{c:wb}{B D:Nat}(hB:so B D c.funcs)(Ew:D<=100000000){n:Nat}(D1:n<=2000000)(ih:PU B0 w0 k c n):R5 B0 w0 k c n:=by
 intro l d Vg hd;have zw:=LC l;generalize hN:Nl c l=N;generalize Xg:max d (Zi c l)=DD;refine cJ Tryz.func211 (n:=21) ?_;refine ia ?_;refine oL (λkk ls H'=>∃ (pre l1:List Sm) (m d1:Nat),l=pre++l1/\kk=l1.length/\ls=[(0,ptr k.cb 0),(5,iv m),(8,.list (l.map Hb)),(9,int .i64 ((l.map Hb).length:Int)),(10,iv pre.length)]/\H'=Be k d1/\d1<=200000000/\pj c l1=pj c l/\max m (Nl c l1)=N/\max d1 (Zi c l1)=DD)
  ⟨l.length,_,_,⟨[],l,0,d,rfl,rfl,rfl,rfl,hd,rfl,by omega,Xg⟩,Qa,kb _⟩ ?_
 rintro kk ls H' ⟨pre,l1,m,d1,xb,rfl,rfl,rfl,Cx,hE,hM,S2⟩ j hj;have Dj:pre.length<=2000000:=by have:=congrArg List.length xb;rw[ua] at this;omega
 refine Nd ?_;refine sa (λhc=>?_) λhc=>?_;have fa:=zt hc;rw[Ua,xb,ua] at fa
 obtain⟨a,l2,rfl⟩:∃ a l2,l1=a::l2:=by
  cases l1 with
  |nil=>simp at fa
  |cons a l2=>exact⟨a,l2,rfl⟩
 have yw:Kl a<=n:=by
  have h1:∀ (p:List Sm) (x:Sm) (r:List Sm),Kl x<=Nc (p++x::r):=λp=>by
   induction p with
   |nil=>intro x r;show Kl x<=Nc (x::r);rw[Nc];omega
   |cons y p ih2=>intro x r;show Kl x<=Nc (y::(p++x::r));rw[Nc];have:=ih2 x r;omega
  have:=h1 pre a l2;rw[<-xb] at this;omega
 rw[pj] at hE;rw[Nl] at hM;rw[Zi] at S2;have hda:=ZV B D c hB a;refine Af ?_;refine ca (xR (ad:=Hb a) (cs:=[_,_,_,_,_,_]) rfl rfl zo (by rw[xb];exact Wc Hb pre a l2) rfl rfl)<|za ?_;refine oS (yc λb7=>?_);refine ja ?_;refine oS (sK [_,_] rfl (Nh.jg) (ih a d1 yw Cx) (λh0=>?_) λnm h0 e' ya=>?_);rw[h0] at hE;refine ca (Pure.vf m (bA c a) rfl rfl rfl rfl)<|ia ?_;exact⟨l2.length,_,_,lt_succ_self _,⟨pre++[a],l2,max m (bA c a),max d1 (yr c a),by rw[xb];simp,rfl,rfl,rfl,by omega,hE,by omega,by omega⟩,⟨rfl,rfl,rfl,rfl,bf (by simp),trivial⟩,Uy,hj⟩;refine Rc ?_;exact Ae (ya.trans hj) (by rw[<-hE];unfold Cg;rw[zp h0]) h0;have fa:=zf hc;rw[Ua,xb,ua] at fa
 obtain rfl:l1=[]:=by
  cases l1 with
  |nil=>rfl
  |cons a l2=>simp at fa;omega
 rw[Nl] at hM;rw[Zi] at S2;have e1:m=N:=by omega
 have e2:d1=DD:=by omega
 subst e1 e2;refine ia ?_;exact mj hj (va rfl) (hE.symm.trans rfl) rfl Ma
theorem RL{k:KB}{c:wb}(hk:ou k c){B D:Nat}(hB:so B D c.funcs)(oE:B<=50000000)(Ew:D<=100000000):∀ n:Nat,n<=2000000->PU B0 w0 k c n
 |0,_=>λx d h _=>by have:=vO x;omega
 |n+1,D1=>by
  have yM:=vI (B0:=B0) (w0:=w0) hB Ew (n:=n) zo (RL hk hB oE Ew n zo);have hX:BU B0 w0 k c n:=PC hk hB zo Ew n zo;intro x d Vg hd;obtain⟨kind,name,index,value,lb,Db⟩:=x;rw[Kl] at Vg;generalize hI:xr c (Sm.mk kind name index value lb Db)=E;rw[xr] at hI;generalize hN:bA c (Sm.mk kind name index value lb Db)=N;rw[bA] at hN;generalize Xg:max d (yr c (Sm.mk kind name index value lb Db))=DD;rw[yr] at Xg;have Zt:=qna (B0:=B0) (w0:=w0) (Sm.mk kind name index value lb Db);rw[Iq] at Zt ⊢;refine cJ Tryz.func244 (n:=65) ?_;refine Pc ?_;refine oS (sB rfl λb3=>?_);refine oa ?_;refine cM (A:=Unit) (λ_=>[(0,ptr k.cb 0),(3,ptr b3 0)]) (λ_=>(b3,.cells 214 [int .i64 kind,str name,.list (index.map Va),.list (value.map Va),.list (lb.map Hb),.list (Db.map Hb)])::Be k d) (λ_=>Kg (Sm.mk kind name index value lb Db)=true) ?_ λ_ Hg j hj=>?_;refine cD (m:=7) rfl [(b3,.cells 214 [int .i64 kind,str name,.list (index.map Va),.list (value.map Va),.list (lb.map Hb),.list (Db.map Hb)]),(k.cb,.cells 159 [.atom (.map (some k.gm)),.atom (.map (some k.vm)),.atom (.map (some k.am)),.atom (.map (some k.fm)),str k.name,.atom (.map (some k.om)),int .i64 (d:Int)])]<|aT 0 rfl rfl (pG (Ya:=[_,_,_,_,_,_]) rfl yb rfl rfl)<|Qm ?_;refine aT 3 rfl rfl (pN rfl)<|aT 4 rfl rfl (pF rfl)<|aT 5 rfl rfl (pL (c:=.atom _) rfl Ff rfl)<|aL ?_ (Ab pH dc);refine lO 1 (lS (H1:=[]) rfl (.inl rfl) rfl qb (Ab pH dc) (sF [_] rfl Zt ?_))
  cases hf:Kg (Sm.mk kind name index value lb Db) with
  |true=>
   refine lO 6 (lS (H1:=[]) rfl (.inl rfl) rfl qb (Ab pH dc) (Ja.Si [_,_,_] rfl (Xe true k.name 3 ra) (λ_=>?_) λnm h=>absurd rfl h));refine Zj ?_
   exact⟨(),rfl,Qa,kb _,rfl⟩
  |false=>rw[hf,zp rfl] at hI;refine lO 6 (lS (H1:=[]) rfl (.inl rfl) rfl qb (Ab pH dc) (Ja.Si [_,_,_] rfl (Xe false k.name 3 ra) (λh=>absurd h ra) λnm _ e' ya=>?_));refine zg ?_;exact Ae (ya.trans rfl) (by rw[<-hI];rfl) ra
  rw[Hg,zn ra] at hI;refine ia ?_;by_cases h7:kind=7;subst h7;obtain rfl:=qo9 Hg;obtain rfl:=EP Hg ra;obtain⟨rfl,rfl⟩:=YH Hg ra ra;refine oC rfl (λ_=>?_) (λhc=>by cases hc);refine Oe ?_;have e2:d=DD:=by rw[<-Xg];simp only[Nj,Zi];omega
  subst e2;exact mj hj (va rfl) (by rw[<-hI];rfl) (by rw[<-hN];rfl) (fe Ma);refine oC rfl (λhc=>absurd (zt hc) h7) λ_=>?_;obtain⟨x0,rfl⟩:=Nh.Sd Hg h7;rw[zn h7] at hN
  have KM:Hi x0<=n:=by rw[ob,ob] at Vg;omega
  have hdx:=qO B D c hB x0;have aae:=kF B D c hB x0;have hEv:∀ E2,Cg (Bi c [x0]) E2=Cg (Og c x0) E2:=λE2=>by rw[Bi,Bi];unfold Cg;by_cases h:Og c x0≠0;rw[zp h,zp h];rw[zn h,zn ra,zn h]
  rw[hEv] at hI;rw[show([x0]:List Ex).headD default=x0 from rfl] at hN;have hDx:Nj c [x0]=Jj c x0:=by rw[Nj,Nj];omega
  rw[hDx] at Xg;refine ja ?_;refine ca (xR (ad:=Va x0) (cs:=[_,_,_,_]) rfl rfl zo rfl rfl rfl)<|za ?_;refine oS (sK [_,_] rfl (Nh.jg) (hX x0 d KM hd) (λh0=>?_) λnm h0 e' ya=>?_);rotate_left;refine zg ?_;exact Ae (ya.trans hj) (by rw[<-hI];unfold Cg;rw[zp h0]) h0;rw[h0,show ∀ E2,Cg 0 E2=E2 from λE2=>rfl] at hI;generalize Cx:max d (Jj c x0)=d1;refine ea.perm (Nh.jg (H:=Be k d1)).symm ?_;refine ia ?_
  by_cases Xt:kind=1;subst Xt;obtain rfl:=EP Hg ra;obtain⟨rfl,rfl⟩:=YH Hg ra ra;have kq:wu c name=E:=by rw[<-hI];simp only[Bi,pj];unfold Cg;by_cases ha:wu c name=0 <;> simp[ha]
  refine oC rfl (λ_=>?_) (λhc=>by cases hc);refine ia ?_;refine oS (sK [_,_] rfl (Nh.jg) (EF hk d1 name) (λh1=>?_) λnm h1 e' ya=>?_);rw[kq] at h1;refine ia ?_;refine ca (Pure.vf 2 (gk c x0) rfl rfl rfl rfl)<|qh ?_
  have e2:d1=DD:=by rw[<-Xg,<-Cx];simp only[Nj,Zi];omega
  subst e2;refine mj hj (va rfl) h1 ?_ Uy;rw[<-hN];simp only[Nl];exact bf (by simp);refine Rc ?_;exact Ae (ya.trans hj) kq.symm h1;refine oC rfl (λhc=>absurd (zt hc) Xt) λ_=>?_;rw[zn Xt] at hI;refine Yg ?_
  by_cases Em:kind=2
  ·subst Em;obtain⟨i0,rfl⟩:=Nh.ur Hg;obtain⟨rfl,rfl⟩:=YH Hg ra ra
   have LM:Hi i0<=n:=by rw[ob,ob,ob,ob] at Vg;omega
   have hdi:=qO B D c hB i0;have aaf:=kF B D c hB i0;have kq:Cg (Og c i0) (nA c name)=E:=by rw[<-hI];simp only[Bi,pj];unfold Cg;by_cases ha:Og c i0=0 <;> by_cases hb:nA c name=0 <;> simp[ha,hb]
   refine oC rfl (λ_=>?_) (λhc=>by cases hc);refine ja ?_;refine ca (xR (ad:=Va i0) (cs:=[_,_,_,_]) rfl rfl zo rfl rfl rfl)<|za ?_;refine oS (sK [_,_] rfl (Nh.jg) (hX i0 d1 LM zo) (λh1=>?_) λnm h1 e' ya=>?_);rotate_left;refine Rc ?_;exact Ae (ya.trans hj) (by rw[<-kq];unfold Cg;rw[zp h1]) h1;rw[h1] at kq;refine ea.perm (Nh.jg (H:=Be k (max d1 (Jj c i0)))).symm ?_;refine ia ?_;refine oS (sK [_,_] rfl (Nh.jg) (dI hk (max d1 (Jj c i0)) name) (λh2=>?_) λnm h2 e' ya=>?_);refine ia ?_;refine ca (Pure.vf (gk c x0) (2+gk c i0) rfl rfl rfl zo)<|oa ?_
   have e2:max d1 (Jj c i0)=DD:=by rw[<-Xg,<-Cx];simp only[Nj,Zi];omega
   rw[<-e2];exact mj hj (va rfl) (kq.symm.trans h2) (by rw[<-hN];rfl) Uy;refine Rc ?_;exact Ae (ya.trans hj) kq.symm h2
  refine oC rfl (λhc=>absurd (zt hc) Em) λ_=>?_;obtain rfl:=EP Hg Em;rw[zn Em] at hI hN;refine Yg ?_
  by_cases SD:kind=5;subst SD;obtain⟨rfl,rfl⟩:=YH Hg ra ra;refine oC rfl (λ_=>?_) (λhc=>by cases hc);refine ia ?_;have e2:d1=DD:=by rw[<-Xg,<-Cx];simp only[Nj,Zi];omega
  subst e2;exact mj hj (va rfl) (by rw[<-hI];rfl) (by rw[<-hN];rfl) (fe Ma);refine oC rfl (λhc=>absurd (zt hc) SD) λ_=>?_;rw[zn SD] at hN
  have Gz:Cg (pj c lb) (pj c Db)=E:=by rw[<-hI];simp only[Bi];rfl
  refine Yg ?_;by_cases zx:kind=3
  ·refine oC rfl (λ_=>?_) λhc=>absurd zx (zf hc);refine oa ?_;refine oC rfl (λ_=>?_) λhc=>absurd zx (zf hc);refine PG ?_;refine aL ?_ dc;refine lO 4 (lS (H1:=Be k d1) rfl (.inl rfl) rfl Nh.jg Ma (Ja.Si [_,_] rfl (yM lb d1 (by rw[ob,ob,ob] at Vg;omega) zo) (λh1=>?_) λnm h1 e' ya=>?_));rotate_left;refine Rc ?_;exact Ae (ya.trans hj) (by rw[<-Gz];unfold Cg;rw[zp h1]) h1;rw[h1] at Gz;have hdt:=JC B D c hB lb;refine lO 8 (lS (H1:=Be k (max d1 (Zi c lb))) rfl (.inl rfl) rfl qb Ma (Ja.Si [_,_] rfl (yM Db (max d1 (Zi c lb)) (by rw[ob,ob,ob] at Vg;omega) zo) (λh2=>?_) λnm h2 e' ya=>?_));rotate_left;refine Rc ?_;exact Ae (ya.trans hj) Gz.symm h2;refine MG ?_
   have e2:max (max d1 (Zi c lb)) (Zi c Db)=DD:=by rw[<-Xg,<-Cx];simp only[Nj];omega
   rw[<-e2];exact mj hj (va rfl) (Gz.symm.trans h2) (by rw[<-hN];rfl) Uy
  refine oC rfl (λhc=>absurd (zt hc) zx) λ_=>?_;refine Yg ?_
  by_cases Bz:kind=4
  ·refine oC rfl (λ_=>?_) λhc=>absurd Bz (zf hc);refine PG ?_;refine aL ?_ dc;refine lO 4 (lS (H1:=Be k d1) rfl (.inl rfl) rfl Nh.jg Ma (Ja.Si [_,_] rfl (yM lb d1 (by rw[ob,ob,ob] at Vg;omega) zo) (λh1=>?_) λnm h1 e' ya=>?_));rotate_left;refine Rc ?_;exact Ae (ya.trans hj) (by rw[<-Gz];unfold Cg;rw[zp h1]) h1;rw[h1] at Gz;have hdt:=JC B D c hB lb;refine lO 8 (lS (H1:=Be k (max d1 (Zi c lb))) rfl (.inl rfl) rfl qb Ma (Ja.Si [_,_] rfl (yM Db (max d1 (Zi c lb)) (by rw[ob,ob,ob] at Vg;omega) zo) (λh2=>?_) λnm h2 e' ya=>?_));rotate_left;refine Rc ?_;exact Ae (ya.trans hj) Gz.symm h2;refine MG ?_
   have e2:max (max d1 (Zi c lb)) (Zi c Db)=DD:=by rw[<-Xg,<-Cx];simp only[Nj];omega
   rw[<-e2];exact mj hj (va rfl) (Gz.symm.trans h2) (by rw[<-hN];rfl) Uy
  refine oC rfl (λhc=>absurd (zt hc) Bz) λ_=>?_;obtain⟨rfl,rfl⟩:=YH Hg zx Bz;refine ia ?_;refine ca (Pure.vf 2 (gk c x0) rfl rfl rfl rfl)<|qh ?_
  have e2:d1=DD:=by rw[<-Xg,<-Cx];simp only[Nj,Zi];omega
  subst e2;refine mj hj (va rfl) (by rw[<-Gz];rfl) ?_ (fe Ma);rw[<-hN];simp only[Nl];exact bf (by simp)
theorem qpt{X A L:Heap}(h:HSub X L):HSub X (A++L):=
 let ⟨G,hG⟩:=h
 ⟨A++G,(List.Perm.append_left A hG).trans (by
  rw[<-Xc,<-Xc];exact dd.append_right G)⟩
def Vo(k:KB)(o:Value)(d:Nat):Heap:=[(k.cb,.cells 159 [.atom (.map (some k.gm)),.atom (.map (some k.vm)),.atom (.map (some k.am)),.atom (.map (some k.fm)),str k.name,.atom o,int .i64 (d:Int)]),(k.gm,.map (Gd k.G) k.g1),(k.vm,.map (Gd k.V) k.g2),(k.am,.map (Gd k.A) k.g3),(k.fm,.map (Gd k.F) k.g4)]
def ax(err:Int)(P:Heap->Prop)(r:Lc)(H:Heap):Prop:=(err=0/\r=.ret (.tuple [])/\P H)∨(err≠0/\(∃ nm,r=.panic (ly nm err))/\H=[])
section
variable{C:Ctx}{n:Nat}{e:Env}{H:Heap}{dst:Option Nat}{ty:TypeId}{la:String}{ma:Array Edge}{g:Option (Nat×Bool)}{K:LV->Heap->Prop}{X:List PanicEntry->Heap->Prop}
theorem S.Df{P:Heap->Prop}{H1 F:Heap}{f:FuncId} [fb C.P f](args:List Operand){xe:Array TypeId}{av:List LV}(has:args.map e.ev=av)(hp:H.Perm (H1++F))
  (hc:aa C f av H1 (ax err P)) (hk:∀ H',err=0->P H'->K (.tuple []) (H'++F)) (hx:∀ nm,err≠0->X (ly nm err) F):Ja C ⟨dst,.call { callee:=.value (.func f),args:=args.toArray,argTypes:=xe },ty,la,ma,g⟩ e H K X:=by
 refine S.Bb args has hp hc ?_ ?_;rintro v H2 (⟨h1,h2,h3⟩|⟨_,⟨nm,h2⟩,_⟩);cases h2;exact hk _ h1 h3;cases h2;rintro ch H2 (⟨_,h2,_⟩|⟨h1,⟨nm,h2⟩,rfl⟩);cases h2;cases h2;exact hx nm h1
theorem PN{P:Heap->Prop}{H':Heap}{rs:List ResultVar}{vs:List LV}(hd:e.ds=[])(h:Eh C n e H rs vs)(he:err=0)(hv:Ge vs=.tuple [])(hH:HSub H' H)(hP:P H'):oc C n rs (ax err P) .normal e H:=
 rO hd h hH (.inl ⟨he,by rw[hv],hP⟩)
theorem Mg{er:Int}{P:Heap->Prop}{rs:List ResultVar}{nm:List UInt8}(hd:e.ds=[])(he:err=er)(h0:er≠0):oc C n rs (ax err P) (.panic (ly nm er)) e H:=
 oc.panic hd Fc (.inr ⟨by rw[he];exact h0,⟨nm,by rw[he]⟩,rfl⟩)
end
def yj(known:List Nm)(s:Nm):Int:=if Mf s=false then 7 else if s∈known then 8 else 0
theorem oI(known:List Nm)(s:Nm)(l:List Nm):Fl known (s::l)=Cg (yj known s) (Fl (s::known) l):=by rw[Fl];unfold yj;split;rfl;split;rfl;rfl
theorem IQ:∀ (l k k':List Nm),(∀ s,s∈k ↔ s∈k')->Fl k l=Fl k' l
 |[],_,_,_=>rfl
 |s::l,k,k',h=>by
  have h2:yj k s=yj k' s:=by unfold yj;simp only[h s]
  rw[oI,oI,h2,IQ l (s::k) (s::k') (λx=>by simp[h x])]
theorem QQ{k:KB}{known:List Nm}(hG:Ik k.G known)(s:Nm):aa (KC B0 w0) 151 [ptr k.cb 0,str s] (Vo k o d)
  (ax (yj known s) λH=>∃ g1,H=Vo { k with G:=GL.Zb k.G s (bool true),g1:=g1 } o d):=by
 generalize hI:yj known s=E;unfold yj at hI;refine cJ Tryz.func151 (n:=22) ?_;refine Dc ?_;refine oS (sF [_] rfl (jM s) ?_);refine Dg ?_;cases hn:Mf s with
 |false=>
  rw[zp hn] at hI;refine oS (sK (H1:=[]) (F:=Vo k o d) [_,_,_] rfl qb (Xe false s 7 ra) (λh=>absurd h ra) λnm _ e' ya=>?_);refine zg ?_
  exact Mg (ya.trans rfl) hI.symm ra
 |true=>rw[zn (by rw[hn];decide)] at hI;refine oS (sK (H1:=[]) (F:=Vo k o d) [_,_,_] rfl qb (Xe true s 7 ra) (λ_=>?_) λnm h=>absurd rfl h);refine ia ?_;refine ca (Pure.Qe rfl rfl Ff hG)<|oB 13 rfl (λh1=>?_) λh1=>?_;rw[zp (zt h1)] at hI;refine za ?_;refine oS (sK (H1:=[]) (F:=Vo k o d) [_,_,_] rfl qb (Xe false s 8 ra) (λh=>absurd h ra) λnm _ e' ya=>?_);refine zg ?_;exact Mg (ya.trans rfl) hI.symm ra;rw[zn (zf h1)] at hI;refine za ?_;refine oS (sK (H1:=[]) (F:=Vo k o d) [_,_,_] rfl qb (Xe true s 8 ra) (λ_=>?_) λnm h=>absurd rfl h);refine ia ?_;refine oS (S.Uj (k:=s) (lv:=bool true) rfl rfl rfl uc λg1=>?_);refine ig ?_;exact PN rfl rN hI.symm rfl ⟨[],by rw[Qb];exact Km _ _ _⟩ ⟨g1,rfl⟩
theorem qk0{vars ba later:List Nm}{known:List De}{k:KB}(f:od)(hG:Ik k.G (vars++ba++later))(hV:Ik k.V vars)(hA:Ik k.A ba)(hF:∀ n,GL.Sa k.F n=(known.find? λg=>decide (g.name=n)).map vC)(Li:f.name ∉ known.map (·.name))
  {B D:Nat} (hB:so B D known) (oE:B<=50000000) (Ew:D<=100000000) (Vg:zm f<=2000000) :
  aa (KC B0 w0) 153 [ptr k.cb 0,Me f] (Vo k o d)
  (ax (Lp vars ba later known f) λH=>∃ nm o' d' F' g4,(∀ n,GL.Sa F' n=((known++[lj vars ba later known f]).find? λg=>decide (g.name=n)).map vC)/\H=Vo { k with name:=nm,F:=F',g4:=g4 } o' d'):=by
 have qo:=iO Vg;have IM:f.params.length<=2000000:=qo.params;have OM:f.locals.length<=2000000:=qo.locals;have hbn:Nc f.body<=2000000:=by unfold zm at Vg;omega
 generalize hI:Lp vars ba later known f=E;unfold Lp at hI;refine cJ Tryz.func153 (n:=82) ?_;refine Pc ?_;refine oS (sB rfl λb3=>?_);refine ia ?_;refine oS (S.Ji λom=>?_);refine ja ?_;refine oS (sL (es:=[El f.params,El f.locals]) [_,_] rfl (rc rfl rfl (rc rfl rfl Tf)) rfl rfl rfl ?_);refine oS (S.Bb (H1:=[]) (F:=_) [_] rfl qb (iZ [f.params,f.locals] (by simp) (by
  intro l hl;rcases Mc.1 hl with rfl|hl;exact IM;rw[wh hl];exact OM)) ?_ (by rintro ch H' ⟨v,h,_⟩;cases h))
 rintro v2 Y2 ⟨_,h,Ac⟩;cases h;have zh:[f.params,f.locals].flatten=f.params++f.locals:=by simp
 rw[zh] at Ac;refine ea.sub 24 rfl Ac.sub ?_;refine ea.db (H':=(b3,.cells 149 [str f.name,.list (f.params.map str),.list (f.locals.map str),.list (f.body.map Hb)])::Be { k with name:=f.name,om:=om,O:=[],g5:=0 } 1) ?_ ?_
 ·refine qpt ?_
  repeat first
   |exact HSub.nil _
   |refine Ab EB ?_
 refine oa ?_;refine oL (λkk ls H'=>∃ (pre l1:List Nm) (OO:KV) (gg:Nat),f.params++f.locals=pre++l1/\kk=l1.length/\ls=[(0,ptr k.cb 0),(3,ptr b3 0),(24,.list ((f.params++f.locals).map str)),(25,int .i64 (((f.params++f.locals).map str).length:Int)),(26,iv pre.length)] /\
   H'=(b3,.cells 149 [str f.name,.list (f.params.map str),.list (f.locals.map str),.list (f.body.map Hb)])::Be { k with name:=f.name,om:=om,O:=OO,g5:=gg } 1/\Ik OO pre/\Cg (Fl (pre.reverse++(vars++ba++later)) l1) (pj (vg vars ba later known f) f.body)=E)
  ⟨_,_,_,⟨[],f.params++f.locals,[],0,rfl,rfl,rfl,rfl,Ik.nil,hI⟩,Qa,kb _⟩ ?_
 rintro kk ls H' ⟨pre,l1,OO,gg,xb,rfl,rfl,rfl,hO,hE⟩ j hj;have Dj:pre.length<=4000000:=by have:=congrArg List.length xb;rw[ua,ua] at this;omega
 refine Nd ?_;refine sa (λhc=>?_) λhc=>?_
 ·have fa:=zt hc;rw[Ua,xb,ua] at fa
  obtain⟨s,l2,rfl⟩:∃ a l2,l1=a::l2:=by
   cases l1 with
   |nil=>simp at fa
   |cons a l2=>exact⟨a,l2,rfl⟩
  rw[oI] at hE;generalize Gx:yj (pre.reverse++(vars++ba++later)) s=En at hE;unfold yj at Gx;refine Af ?_;refine ca (xR (ad:=str s) (cs:=[str s]) rfl rfl zo (by rw[xb];exact Wc str pre s l2) rfl rfl)<|ja ?_;refine oS (sF [_] rfl (jM s) ?_);refine Dg ?_;cases hn:Mf s with
  |false=>
   rw[zp hn] at Gx;refine oS (sK (H1:=[]) (F:=_) [_,_,_] rfl qb (Xe false s 7 ra) (λh=>absurd h ra) λnm _ e' ya=>?_);refine Rc ?_
   exact Mg (ya.trans hj) (by rw[<-hE,<-Gx];rfl) ra
  |true=>
   rw[zn (by rw[hn];decide)] at Gx;refine oS (sK (H1:=[]) (F:=_) [_,_,_] rfl qb (Xe true s 7 ra) (λ_=>?_) λnm h=>absurd rfl h);refine ja ?_;refine ca (Pure.Qe rfl rfl Hr hG)<|oB 39 rfl (λh1=>?_) λh1=>?_;have Je:s∈pre.reverse++(vars++ba++later):=List.mem_append_right _ (zt h1);rw[zp Je] at Gx;refine za ?_;refine oS (sK (H1:=[]) (F:=_) [_,_,_] rfl qb (Xe false s 8 ra) (λh=>absurd h ra) λnm _ e' ya=>?_);refine Rc ?_;exact Mg (ya.trans hj) (by rw[<-hE,<-Gx];rfl) ra;refine za ?_;refine ca (Pure.Qe rfl rfl eU hO)<|oB 47 rfl (λh2=>?_) λh2=>?_;have Je:s∈pre.reverse++(vars++ba++later):=List.mem_append_left _ (List.mem_reverse.2 (zt h2));rw[zp Je] at Gx;refine za ?_;refine oS (sK (H1:=[]) (F:=_) [_,_,_] rfl qb (Xe false s 8 ra) (λh=>absurd h ra) λnm _ e' ya=>?_);refine Rc ?_;exact Mg (ya.trans hj) (by rw[<-hE,<-Gx];rfl) ra;rw[zn (λh=>(Kj h).elim (λh=>zf h2 (List.mem_reverse.1 h)) (zf h1))] at Gx;subst Gx;refine za ?_;refine oS (sK (H1:=[]) (F:=_) [_,_,_] rfl qb (Xe true s 8 ra) (λ_=>?_) λnm h=>absurd rfl h);refine ja ?_;refine oS (S.Uj (k:=s) (lv:=bool true) rfl rfl rfl A3 λgg2=>?_);refine Mh ?_
   exact⟨l2.length,_,_,lt_succ_self _,⟨pre++[s],l2,GL.Zb OO s (bool true),gg2,by rw[xb];simp,rfl,rfl,rfl,hO.add s,by
    rw[<-hE];rw[IQ l2 ((pre++[s]).reverse++(vars++ba++later)) (s::(pre.reverse++(vars++ba++later))) (λx=>by simp)];rfl⟩,⟨rfl,rfl,rfl,rfl,bf (by simp),trivial⟩,by
    repeat first
     |exact HSub.nil _
     |refine Ab EB ?_,hj⟩
 have fa:=zf hc;rw[Ua,xb,ua] at fa;obtain rfl:l1=[]:=by
  cases l1 with
  |nil=>rfl
  |cons a l2=>simp at fa;omega
 rw[Qb] at xb;rw[<-xb] at hO;have Ls:pj (vg vars ba later known f) f.body=E:=by rw[<-hE];rfl
 have OS:ou { k with name:=f.name,om:=om,O:=OO,g5:=gg } (vg vars ba later known f):=⟨hG,hV,hA,hO,hF⟩;have UI:=vI (B0:=B0) (w0:=w0) (k:={ k with name:=f.name,om:=om,O:=OO,g5:=gg }) (c:=vg vars ba later known f) hB Ew (n:=2000000) (mc _) (RL OS hB oE Ew 2000000 (mc _)) f.body 1 hbn ra;have OD:=jI B D (vg vars ba later known f) hB f.body;have hdb:=JC B D (vg vars ba later known f) hB f.body;refine ja ?_;refine oS (sK [_,_] rfl (Nh.jg) UI (λh0=>?_) λnm h0 e' ya=>?_);rotate_left;refine zg ?_;exact Mg (ya.trans hj) Ls.symm h0;refine ea.perm (Nh.jg (H:=Be _ _)).symm ?_;refine fj ?_;have Ul:(f.params.map str).length<=2000000:=by rw[Ua];exact IM
 refine Ga.tail 20 zk ?_;refine Oi ?_;refine lP (Pure.Bm 2 (f.params.length+1) (Nl (vg vars ba later known f) f.body) rfl rfl rfl rfl (by rw[Ua];omega) rfl) rfl ?_;refine za ?_;refine oS (S.Uj (k:=f.name) (lv:=.agg [int .i64 ((f.params.map str).length:Int),int .i64 (max (max 2 (f.params.length+1)) (Nl (vg vars ba later known f) f.body):Nat),int .i64 (max 1 (Zi (vg vars ba later known f) f.body):Nat)]) rfl rfl rfl lN λg4=>?_);refine ig ?_;refine PN hj rN (Ls.symm.trans h0) rfl (H':=Vo { k with name:=f.name,F:=GL.Zb k.F f.name (.agg [int .i64 ((f.params.map str).length:Int),int .i64 (max (max 2 (f.params.length+1)) (Nl (vg vars ba later known f) f.body):Nat),int .i64 (max 1 (Zi (vg vars ba later known f) f.body):Nat)]),g4:=g4 } (.map (some om)) (max 1 (Zi (vg vars ba later known f) f.body))) ?hs ⟨f.name,_,_,_,g4,λn=>?kv,rfl⟩
 case hs=>
  repeat first
   |exact HSub.nil _
   |refine Ab EB ?_
 case kv=>
  rw[GL.Aj,hF n,List.find?_append];by_cases h1:f.name=n;rw[zp h1];have h2:(known.find? λg=>decide (g.name=n))=none:=by rw[List.find?_eq_none];intro g hg;simp only[sf];intro h3;exact Li (by rw[h1,<-h3];exact mem_map_of_mem hg)
  rw[h2,none_or];have h4:([lj vars ba later known f].find? λg=>decide (g.name=n))=some (lj vars ba later known f):=by rw[List.find?_cons_of_pos];exact Eg h1
  rw[h4];show some _=some (vC _);unfold vC lj;rw[<-Ua (f:=str)];rw[zn h1];have h4:([lj vars ba later known f].find? λg=>decide (g.name=n))=none:=by rw[List.find?_eq_none];intro g hg;rw[wh hg];simp only[sf];exact h1
  rw[h4,Option.or_none]
def Kb(a:Nm×Int):LV:=.agg [str a.1,int .i64 a.2]
def Bf(vars:List Nm)(ba:List (Nm×Int))(fs:List od):LV:=.agg [.list (vars.map str),.list (ba.map Kb),.list (fs.map Me)]
theorem mM:∀ (l known:List Nm),Fl known l=0->l.Nodup/\(∀ s∈l,s ∉ known)/\∀ s∈l,Mf s=true
 |[],known,_=>⟨List.nodup_nil,λs h=>(not_mem_nil h).elim,λs h=>(not_mem_nil h).elim⟩
 |s::l,known,h=>by rw[Fl] at h;split at h;cases h;rename_i h1;split at h;cases h;rename_i h2;obtain⟨h3,h4,h5⟩:=mM l _ h;refine⟨List.nodup_cons.2 ⟨λhm=>h4 s hm rf,h3⟩,?_,?_⟩;intro x hx;rcases Mc.1 hx with rfl|hx;exact h2;exact λhk=>h4 x hx (Sc _ hk);intro x hx;rcases Mc.1 hx with rfl|hx;simpa using h1;exact h5 x hx
theorem SY(h:Mf s=true):s.length<=1000:=by unfold Mf at h;simp only[Le,sf] at h;omega
theorem UE{a b:Int}(h:a≠0):Cg a b=a:=by unfold Cg;exact zp h
theorem TQ:∀ a b:List od,ud (a++b)=ud a+ud b
 |[],b=>by rw[nil_append,ud,Nat.zero_add]
 |x::a,b=>by rw[cons_append,ud,ud,TQ a b];omega
theorem KY{vars ba later:List Nm}:∀ (l:List od) (known:List De),Jr vars ba later known l=0->∀ f∈l,∃ k,Lp vars ba later k f=0
 |[],_,_,f,h=>(not_mem_nil h).elim
 |g::l,known,h,f,hf=>by rw[Jr,Xf] at h;rcases Mc.1 hf with rfl|hf;exact⟨known,h.1⟩;exact KY l _ h.2 f hf
theorem qqg{vars ba later:List Nm}{k:List De}{f:od}(h:Lp vars ba later k f=0):∀ x∈f.params++f.locals,x.length<=1000:=by unfold Lp at h;rw[Xf] at h;intro x hx;exact SY ((mM _ _ h.1).2.2 x hx)
theorem G'{l:List De}{m:De}(hn:(l.map (·.name)).Nodup)(hm:l.getLast? = some m):(l.find? λg=>decide (g.name=m.name))=some m:=by
 obtain⟨ys,rfl⟩:=List.getLast?_eq_some_iff.1 hm;rw[List.find?_append];have h1:(ys.find? λg=>decide (g.name=m.name))=none:=by rw[List.find?_eq_none];intro g hg;simp only[sf];intro h2;rw[Od] at hn;exact(ct hn).2.2 _ (mem_map_of_mem hg) _ (mem_map_of_mem (List.mem_singleton_self m)) h2
 rw[h1,none_or,List.find?_cons_of_pos];exact Eg rfl
theorem mZ{vars ba later:List Nm}:∀ (l:List od) (known:List De),(Yz vars ba later known l).map (·.name)=known.map (·.name)++l.map (·.name)
 |[],known=>by rw[Yz];simp
 |f::l,known=>by rw[Yz,mZ l];simp[lj]
theorem GQ{pre l:List Nm}{FR:Int}(h:Fl pre (s::l)=FR)(h0:yj pre s=0):Fl (pre++[s]) l=FR:=by rw[<-h,oI,h0,IQ l (pre++[s]) (s::pre) (λx=>by simp[or_comm])];rfl
theorem nQ{pre l:List Nm}{FR RA E:Int}(hI:Cg FR RA=E)(h:Fl pre (s::l)=FR)(h0:yj pre s≠0):E=yj pre s:=by rw[<-hI,<-h,oI,UE (a:=Cg _ _) (by rw[UE h0];exact h0),UE h0]
theorem yI{k:KB}(vars:List Nm)(ba:List (Nm×Int))(fs:List od)(Xt:k.G=[])(Em:k.V=[])(zx:k.A=[])(Bz:k.F=[])(Yv:vars.length<=2000000)(bG:ba.length<=2000000)(SJ:∀ a∈ba,-9223372036854775808<=a.2/\a.2<9223372036854775808)(Vg:ud fs<=2000000) :
  aa (KC B0 w0) 75 [ptr k.cb 0,Bf vars ba fs] (Vo k o d) (ax (dq vars ba fs) λH=>H=[]):=by
 have XD:fs.length<=2000000:=Uf (yL fs) Vg;generalize hI:dq vars ba fs=E;unfold dq at hI;generalize XM:Fl [] (vars++ba.map (·.1)++fs.map (·.name))=FR at hI;generalize F2:Iy 0 (ba.map (·.2))=SZ at hI;generalize P2:Jr vars (ba.map (·.1)) (fs.map (·.name)) [] fs=FS at hI;generalize G2:Yz vars (ba.map (·.1)) (fs.map (·.name)) [] fs=SS at hI;generalize Hm:CK vars fs SS=MN at hI;generalize J2:Cg SZ (Cg FS MN)=RA at hI;refine cJ Tryz.func75 (n:=147) ?_;refine Pc ?_;refine oS (sB rfl λb3=>?_);refine ja ?_;refine oL (λkk ls H'=>∃ (pre l1:List Nm) (G1 V1:KV) (g1 g2:Nat),vars=pre++l1/\kk=l1.length/\ls=[(0,ptr k.cb 0),(3,ptr b3 0),(18,.list (vars.map str)),(19,int .i64 ((vars.map str).length:Int)),(20,iv pre.length)] /\
   H'=(b3,.cells 45 [.list (vars.map str),.list (ba.map Kb),.list (fs.map Me)])::Vo { k with G:=G1,g1:=g1,V:=V1,g2:=g2 } o d/\Ik G1 pre/\Ik V1 pre/\Fl pre (l1++ba.map (·.1)++fs.map (·.name))=FR)
  ⟨_,_,_,⟨[],vars,k.G,k.V,k.g1,k.g2,rfl,rfl,rfl,rfl,by rw[Xt];exact Ik.nil,by rw[Em];exact Ik.nil,XM⟩,Qa,kb _⟩ ?_
 rintro kk ls H' ⟨pre,l1,G1,V1,g1,g2,xb,rfl,rfl,rfl,du,D2,hE⟩ j hj;have Dj:pre.length<=2000000:=by have:=congrArg List.length xb;rw[ua] at this;omega
 refine Nd ?_;refine sa (λhc=>?_) λhc=>?_
 ·have fa:=zt hc;rw[Ua,xb,ua] at fa
  obtain⟨s,l2,rfl⟩:∃ a l2,l1=a::l2:=by
   cases l1 with
   |nil=>simp at fa
   |cons a l2=>exact⟨a,l2,rfl⟩
  rw[cons_append,cons_append] at hE;refine Af ?_;refine ca (xR (ad:=str s) (cs:=[str s]) rfl rfl zo (by rw[xb];exact Wc str pre s l2) rfl rfl)<|ja ?_;refine oS (S.Df (F:=[_]) [_,_] rfl (Nh.jg) (QQ (k:={ k with G:=G1,g1:=g1,V:=V1,g2:=g2 }) (o:=o) (d:=d) du s) (λH2 h0 hP=>?_) λnm h0 e' ya=>?_);rotate_left;refine Rc ?_;exact Mg (ya.trans hj) (nQ hI hE h0) h0;obtain⟨Ix,rfl⟩:=hP;refine ea.perm (Nh.jg (H:=Vo _ _ _)).symm ?_;refine ja ?_;refine oS (S.Uj (k:=s) (lv:=bool true) rfl rfl rfl pu λNs=>?_);refine Mh ?_;refine⟨l2.length,_,_,lt_succ_self _,⟨pre++[s],l2,GL.Zb G1 s (bool true),GL.Zb V1 s (bool true),Ix,Ns,by rw[xb];simp,rfl,rfl,rfl,du.add s,D2.add s,GQ hE h0⟩,⟨rfl,rfl,rfl,rfl,bf (by simp),trivial⟩,?_,hj⟩
  repeat first
   |exact HSub.nil _
   |refine Ab EB ?_
 have fa:=zf hc;rw[Ua,xb,ua] at fa;obtain rfl:l1=[]:=by
  cases l1 with
  |nil=>rfl
  |cons a l2=>simp at fa;omega
 rw[Qb] at xb;subst xb;rw[nil_append] at hE;clear fa hc Dj;refine ja ?_;refine oL (λkk ls H'=>∃ (pre l1:List (Nm×Int)) (G1 A1:KV) (g1 g3:Nat),ba=pre++l1/\kk=l1.length/\ls=[(0,ptr k.cb 0),(3,ptr b3 0),(34,.list (ba.map Kb)),(35,int .i64 ((ba.map Kb).length:Int)),(36,iv pre.length)] /\
   H'=(b3,.cells 45 [.list (vars.map str),.list (ba.map Kb),.list (fs.map Me)])::Vo { k with G:=G1,g1:=g1,V:=V1,g2:=g2,A:=A1,g3:=g3 } o d/\Ik G1 (vars++pre.map (·.1))/\Ik A1 (pre.map (·.1))/\Fl (vars++pre.map (·.1)) (l1.map (·.1)++fs.map (·.name))=FR)
  ⟨_,_,_,⟨[],ba,G1,k.A,g1,k.g3,rfl,rfl,rfl,rfl,by simpa using du,by rw[zx];exact Ik.nil,by simpa using hE⟩,Qa,kb _⟩ ?_
 clear du hE G1 g1;rintro kk ls H' ⟨pre,l1,G1,A1,g1,g3,xb,rfl,rfl,rfl,du,tT,hE⟩ j Ub;have Dj:pre.length<=2000000:=by have:=congrArg List.length xb;rw[ua] at this;omega
 refine Nd ?_;refine sa (λhc=>?_) λhc=>?_
 ·have fa:=zt hc;rw[Ua,xb,ua] at fa
  obtain⟨s,l2,rfl⟩:∃ a l2,l1=a::l2:=by
   cases l1 with
   |nil=>simp at fa
   |cons a l2=>exact⟨a,l2,rfl⟩
  rw[Tb,cons_append] at hE;refine EG ?_;refine oS (yc λb7=>?_);refine ja ?_;refine oS (S.Df (F:=[_,_]) [_,_] rfl (dd (l₁:=[_,_])) (QQ (k:={ k with G:=G1,g1:=g1,V:=V1,g2:=g2,A:=A1,g3:=g3 }) (o:=o) (d:=d) du s.1) (λH2 h0 hP=>?_) λnm h0 e' ya=>?_);rotate_left;refine Rc ?_;exact Mg (ya.trans (Ub.trans hj)) (nQ hI hE h0) h0;obtain⟨Ix,rfl⟩:=hP
  refine ea.db (H':=[(b7,.cells 145 [str s.1,int .i64 s.2]),(k.cb,.cells 159 [.atom (.map (some k.gm)),.atom (.map (some k.vm)),.atom (.map (some k.am)),.atom (.map (some k.fm)),str k.name,.atom o,int .i64 (d:Int)]),(b3,.cells 45 [.list (vars.map str),.list (ba.map Kb),.list (fs.map Me)]),
   (k.gm,.map (Gd (GL.Zb G1 s.1 (bool true))) Ix),(k.vm,.map (Gd V1) g2),(k.am,.map (Gd A1) g3),(k.fm,.map (Gd k.F) k.g4)]) ?_ ?_
  ·repeat first
    |exact HSub.nil _
    |refine Ab EB ?_
  refine ig ?_;refine cD (m:=7) rfl [(b7,.cells 145 [str s.1,int .i64 s.2]),(k.cb,.cells 159 [.atom (.map (some k.gm)),.atom (.map (some k.vm)),.atom (.map (some k.am)),.atom (.map (some k.fm)),str k.name,.atom o,int .i64 (d:Int)])]<|DG ?_;refine aL ?_ (Ab pH dc);refine lO 6 (lS (H1:=[(k.am,.map (Gd A1) g3)]) rfl (.inl rfl) rfl (show Ec _ _ _ from pT EE) (Ab pH dc) (S.Uj (k:=s.1) (lv:=bool true) rfl rfl rfl pH λDT=>?_));refine lD zk ?_;refine Mh ?_;refine⟨l2.length,_,_,lt_succ_self _,⟨pre++[s],l2,GL.Zb G1 s.1 (bool true),GL.Zb A1 s.1 (bool true),Ix,DT,by rw[xb];simp,rfl,rfl,rfl,by simpa using du.add s.1,by simpa using tT.add s.1,by simpa using GQ hE h0⟩,⟨rfl,rfl,rfl,rfl,bf (by simp),trivial⟩,?_,Ub⟩
  repeat first
   |exact HSub.nil _
   |refine Ab EB ?_
 have fa:=zf hc;rw[Ua,xb,ua] at fa;obtain rfl:l1=[]:=by
  cases l1 with
  |nil=>rfl
  |cons a l2=>simp at fa;omega
 rw[Qb] at xb;subst xb;rw[List.map_nil,nil_append] at hE;clear fa hc Dj;refine ja ?_;refine oL (λkk ls H'=>∃ (pre l1:List od) (G1:KV) (g1:Nat),fs=pre++l1/\kk=l1.length/\ls=[(0,ptr k.cb 0),(3,ptr b3 0),(52,.list (fs.map Me)),(53,int .i64 ((fs.map Me).length:Int)),(54,iv pre.length)] /\
   H'=(b3,.cells 45 [.list (vars.map str),.list (ba.map Kb),.list (fs.map Me)])::Vo { k with G:=G1,g1:=g1,V:=V1,g2:=g2,A:=A1,g3:=g3 } o d/\Ik G1 (vars++ba.map (·.1)++pre.map (·.name))/\Fl (vars++ba.map (·.1)++pre.map (·.name)) (l1.map (·.name))=FR)
  ⟨_,_,_,⟨[],fs,G1,g1,rfl,rfl,rfl,rfl,by simpa using du,by simpa using hE⟩,Qa,kb _⟩ ?_
 clear du hE G1 g1;rintro kk ls H' ⟨pre,l1,G1,g1,xb,rfl,rfl,rfl,du,hE⟩ j qi;have Dj:pre.length<=2000000:=by have:=congrArg List.length xb;rw[ua] at this;omega
 refine Nd ?_;refine sa (λhc=>?_) λhc=>?_
 ·have fa:=zt hc;rw[Ua,xb,ua] at fa
  obtain⟨s,l2,rfl⟩:∃ a l2,l1=a::l2:=by
   cases l1 with
   |nil=>simp at fa
   |cons a l2=>exact⟨a,l2,rfl⟩
  rw[Tb] at hE;refine Af ?_;refine ca (xR (ad:=Me s) (cs:=[_,_,_,_]) rfl rfl zo (by rw[xb];exact Wc Me pre s l2) rfl rfl)<|za ?_;refine oS (yc λb7=>?_);refine ja ?_;refine oS (S.Df (F:=[_,_]) [_,_] rfl (dd (l₁:=[_,_])) (QQ (k:={ k with G:=G1,g1:=g1,V:=V1,g2:=g2,A:=A1,g3:=g3 }) (o:=o) (d:=d) du s.name) (λH2 h0 hP=>?_) λnm h0 e' ya=>?_);rotate_left;refine Rc ?_;exact Mg (ya.trans (qi.trans (Ub.trans hj))) (nQ hI hE h0) h0;obtain⟨Ix,rfl⟩:=hP;refine ea.perm (dd (l₂:=[_,_])) ?_;refine Mh ?_;refine⟨l2.length,_,_,lt_succ_self _,⟨pre++[s],l2,GL.Zb G1 s.name (bool true),Ix,by rw[xb];simp,rfl,rfl,rfl,by simpa using du.add s.name,by simpa using GQ hE h0⟩,⟨rfl,rfl,rfl,rfl,bf (by simp),trivial⟩,fe Ma,qi⟩
 have fa:=zf hc;rw[Ua,xb,ua] at fa;obtain rfl:l1=[]:=by
  cases l1 with
  |nil=>rfl
  |cons a l2=>simp at fa;omega
 rw[Qb] at xb;subst xb;have lE:FR=0:=hE.symm;clear fa hc Dj hE;rw[lE] at hI;have wS:=(mM _ _ (XM.trans lE)).1;have kJ:=(mM _ _ (XM.trans lE)).2.2;have eG:RA=E:=by rw[<-hI];rfl
 rw[<-J2] at eG;clear hI J2 XM;have hPr:0<=(0:Int)/\(0:Int)<=150000:=⟨by decide,by decide⟩;refine ja ?_;refine oL (λkk ls H'=>∃ (pre l1:List (Nm×Int)) (T:Int),ba=pre++l1/\kk=l1.length/\ls=[(0,ptr k.cb 0),(3,ptr b3 0),(10,int .i64 T),(64,.list (ba.map Kb)),(65,int .i64 ((ba.map Kb).length:Int)),(66,iv pre.length)] /\
   H'=(b3,.cells 45 [.list (vars.map str),.list (ba.map Kb),.list (fs.map Me)])::Vo { k with G:=G1,g1:=g1,V:=V1,g2:=g2,A:=A1,g3:=g3 } o d/\(0<=T/\T<=150000)/\Iy T (l1.map (·.2))=SZ)
  ⟨_,_,_,⟨[],ba,0,rfl,rfl,rfl,rfl,hPr,F2⟩,Qa,kb _⟩ ?_
 clear F2;rintro kk ls H' ⟨pre,l1,T,xb,rfl,rfl,rfl,⟨hT1,TJ⟩,hE⟩ j Js;have Dj:pre.length<=2000000:=by have:=congrArg List.length xb;rw[ua] at this;omega
 refine Nd ?_;refine sa (λhc=>?_) λhc=>?_
 ·have fa:=zt hc;rw[Ua,xb,ua] at fa
  obtain⟨s,l2,rfl⟩:∃ a l2,l1=a::l2:=by
   cases l1 with
   |nil=>simp at fa
   |cons a l2=>exact⟨a,l2,rfl⟩
  obtain⟨dS,Hu⟩:=SJ s (by rw[xb];exact List.mem_append_right _ rf);rw[Tb,Iy] at hE;refine EG ?_;refine oS (yc λb7=>?_);refine ja ?_;refine oB 72 rfl (λh1=>?_) λh1=>?_;rotate_left;have h2:s.2<=0:=by have:=zf h1;omega
  rw[zp h2] at hE;refine oS (sK (H1:=[]) (F:=_) [_,_,_] rfl qb (Xe false s.1 2 ra) (λh=>absurd h ra) λnm _ e' ya=>?_);refine Rc ?_;exact Mg (ya.trans (Js.trans (qi.trans (Ub.trans hj)))) (by rw[<-eG,<-hE];rfl) ra;have h2:¬ s.2<=0:=by have:=zt h1;omega
  rw[zn h2] at hE;refine oS (sK (H1:=[]) (F:=_) [_,_,_] rfl qb (Xe true s.1 2 ra) (λ_=>?_) λnm h=>absurd rfl h);refine ja ?_;refine oB 80 rfl (λh3=>?_) λh3=>?_;rotate_left;have h4:150000-T<s.2:=by have:=zf h3;omega
  rw[zp h4] at hE;refine oS (sK (H1:=[]) (F:=_) [_,_,_] rfl qb (Xe false s.1 6 ra) (λh=>absurd h ra) λnm _ e' ya=>?_);refine Rc ?_;exact Mg (ya.trans (Js.trans (qi.trans (Ub.trans hj)))) (by rw[<-eG,<-hE];rfl) ra;have h4:¬ 150000-T<s.2:=by have:=zt h3;omega
  rw[zn h4] at hE;refine oS (sK (H1:=[]) (F:=_) [_,_,_] rfl qb (Xe true s.1 6 ra) (λ_=>?_) λnm h=>absurd rfl h);refine ia ?_;exact⟨l2.length,_,_,lt_succ_self _,⟨pre++[s],l2,T+s.2,by rw[xb];simp,rfl,rfl,rfl,⟨by omega,by omega⟩,hE⟩,⟨rfl,rfl,rfl,rfl,rfl,bf (by simp),trivial⟩,fe Ma,Js⟩
 have fa:=zf hc;rw[Ua,xb,ua] at fa;obtain rfl:l1=[]:=by
  cases l1 with
  |nil=>rfl
  |cons a l2=>simp at fa;omega
 have mT:SZ=0:=by rw[<-hE];rfl
 rw[mT] at eG;have Hz:Cg FS MN=E:=by rw[<-eG];rfl
 clear eG fa hc Dj xb hE;have VF:(fs.map (·.name)).Nodup:=(ct wS).2.1;have Mn:j.ds=[]:=Js.trans (qi.trans (Ub.trans hj));clear hj Ub qi Js;refine ja ?_;refine oL (λkk ls H'=>∃ (pre l1:List od) (known:List De) (F1:KV) (g4:Nat) (nm:Nm) (o1:Value) (d1:Nat),fs=pre++l1/\kk=l1.length/\ls=[(0,ptr k.cb 0),(3,ptr b3 0),(90,.list (fs.map Me)),(91,int .i64 ((fs.map Me).length:Int)),(92,iv pre.length)] /\
   H'=(b3,.cells 45 [.list (vars.map str),.list (ba.map Kb),.list (fs.map Me)])::Vo { k with name:=nm,G:=G1,g1:=g1,V:=V1,g2:=g2,A:=A1,g3:=g3,F:=F1,g4:=g4 } o1 d1/\(∀ n,GL.Sa F1 n=(known.find? λg=>decide (g.name=n)).map vC)/\known.map (·.name)=pre.map (·.name) /\
   Jr vars (ba.map (·.1)) (fs.map (·.name)) known l1=FS/\Yz vars (ba.map (·.1)) (fs.map (·.name)) known l1=SS/\so (8 * ud pre) pre.length known)
  ⟨_,_,_,⟨[],fs,[],k.F,k.g4,k.name,o,d,rfl,rfl,rfl,rfl,λn=>by rw[Bz];rfl,rfl,P2,G2,λx hx=>(not_mem_nil hx).elim⟩,Qa,kb _⟩ ?_
 rintro kk ls H' ⟨pre,l1,known,F1,g4,nm,o1,d1,xb,rfl,rfl,rfl,hF,uB,hE,hS,hB⟩ j2 Ub;have Dj:pre.length<=2000000:=by have:=congrArg List.length xb;rw[ua] at this;omega
 refine Nd ?_;refine sa (λhc=>?_) λhc=>?_
 ·have fa:=zt hc;rw[Ua,xb,ua] at fa
  obtain⟨s,l2,rfl⟩:∃ a l2,l1=a::l2:=by
   cases l1 with
   |nil=>simp at fa
   |cons a l2=>exact⟨a,l2,rfl⟩
  have ld:ud pre+zm s<=2000000:=by have:=Vg;rw[xb,TQ,ud] at this;omega
  have Li:s.name ∉ known.map (·.name):=by rw[uB];have:=VF;rw[xb,Od,Tb] at this;intro hm;exact(ct this).2.2 _ hm _ rf rfl
  rw[Jr] at hE;rw[Yz] at hS;refine Af ?_;refine ca (xR (ad:=Me s) (cs:=[_,_,_,_]) rfl rfl zo (by rw[xb];exact Wc Me pre s l2) rfl rfl)<|za ?_;refine oS (yc λb7=>?_);refine ja ?_;refine oS (S.Df (F:=[_,_]) [_,_] rfl (dd (l₁:=[_,_])) (qk0 (vars:=vars) (ba:=ba.map (·.1)) (later:=fs.map (·.name)) (known:=known) (k:={ k with name:=nm,G:=G1,g1:=g1,V:=V1,g2:=g2,A:=A1,g3:=g3,F:=F1,g4:=g4 }) (o:=o1) (d:=d1) s du D2 tT hF Li hB zo zo zo) (λH2 h0 hP=>?_) λnm h0 e' ya=>?_);rotate_left;refine Rc ?_;exact Mg (ya.trans (Ub.trans Mn)) (by rw[<-Hz,<-hE,UE (a:=Cg _ _) (by rw[UE h0];exact h0),UE h0]) h0;obtain⟨nm',o',d',F',g4',hF',rfl⟩:=hP;refine ea.perm (dd (l₂:=[_,_])) ?_;refine Mh ?_;refine⟨l2.length,_,_,lt_succ_self _,⟨pre++[s],l2,known++[lj vars (ba.map (·.1)) (fs.map (·.name)) known s],F',g4',nm',o',d',by rw[xb];simp,rfl,rfl,rfl,hF',?_,by rw[<-hE,h0];rfl,hS,?_⟩,⟨rfl,rfl,rfl,rfl,bf (by simp),trivial⟩,fe Ma,Ub⟩;rw[Od,Od,uB];rfl;have h1:=O6 (vars:=vars) (ba:=ba.map (·.1)) (later:=fs.map (·.name)) (f:=s) hB;have h2:ud (pre++[s])=ud pre+zm s:=by rw[TQ,ud,ud];rfl
  intro g hg;rw[h2,ua,List.length_singleton];rcases Kj hg with hg|hg;obtain⟨a1,a2,a3⟩:=hB g hg;exact⟨by omega,by omega,by omega⟩;obtain rfl:=wh hg;obtain⟨a1,a2,a3⟩:=h1;exact⟨by omega,by omega,by omega⟩
 have fa:=zf hc;rw[Ua,xb,ua] at fa;obtain rfl:l1=[]:=by
  cases l1 with
  |nil=>rfl
  |cons a l2=>simp at fa;omega
 have VJ:FS=0:=by rw[<-hE];rfl
 have JS:known=SS:=by rw[<-hS];rfl
 rw[VJ] at Hz;have kE:MN=E:=by rw[<-Hz];rfl
 clear fa hc Dj xb hE;subst JS;have bc:=KY fs [] (P2.trans VJ);have UF:∀ f∈fs,f.name.length<=1000/\∀ x∈f.params++f.locals,x.length<=1000:=λf hf=>by obtain⟨kk,hk⟩:=bc f hf;exact⟨SY (kJ f.name (List.mem_append_right _ (mem_map_of_mem hf))),qqg hk⟩
 have qo:∀ f∈fs,pK f:=λf hf=>iO (Uf (wL hf) Vg);have pr:=Ub.trans Mn;unfold CK at Hm;refine ja ?_
 cases zh:fs.getLast? with
 |none=>
  have SM:fs=[]:=List.getLast?_eq_none_iff.1 zh;rw[zh] at Hm;refine oB 105 rfl (λh=>absurd (zt h) (by rw[SM];decide)) λ_=>?_;refine oa ?_;refine oS (sK (H1:=[]) (F:=_) [_,_,_] rfl qb (Xe false [109,97,105,110] 9 ra) (λh=>absurd h ra) λnm _ e' ya=>?_);refine zg ?_
  exact Mg (ya.trans pr) (kE.symm.trans Hm.symm) ra
 |some f=>
  obtain⟨ys,ER⟩:=List.getLast?_eq_some_iff.1 zh;have DS:(fs.map Me).length=ys.length+1:=by rw[Ua,ER,ua];rfl
  have OM:(fs.map Me).length<=2000000:=by rw[Ua];exact XD
  have Gn:(0:Int)<=((fs.map Me).length:Int)-1:=by omega
  have rl:(fs.map Me)[(((fs.map Me).length:Int)-1).toNat]? = some (Me f):=by rw[show(((fs.map Me).length:Int)-1).toNat=ys.length by omega,ER,Od];rw[List.getElem?_append_right (by rw[Ua];exact mc _),Ua,Nat.sub_self];rfl
  have xz:known.map (·.name)=fs.map (·.name):=by rw[<-G2,mZ];rfl
  obtain⟨m,hm⟩:∃ m,known.getLast? = some m:=by
   cases hx:known.getLast? with
   |some m=>exact⟨m,rfl⟩
   |none=>rw[List.getLast?_eq_none_iff.1 hx,ER] at xz;simp at xz
  have NM:m.name=f.name:=by have h1:=congrArg List.getLast? xz;rw[List.getLast?_map,List.getLast?_map,hm,zh] at h1;exact Option.some.inj h1
  have FJ:=G' (by rw[xz];exact VF) hm;rw[zh,hm] at Hm;replace Hm:(if f.name=[109,97,105,110]/\f.params=[] then (if (Gf vars fs).length<=8000/\m.need<=200/\m.depth<=60 then 0 else 6) else 9)=MN:=Hm
  rw[kE] at Hm;refine oB 105 rfl (λ_=>?_) (λh=>absurd (show((fs.map Me).length:Int) > 0 by omega) (zf h));refine za ?_
  first|refine ea.want rfl rfl ?_|skip
  refine IG ?_;refine oB 115 rfl (λh1=>?_) λh1=>?_;rotate_left;rw[zn (λh=>zf h1 h.1)] at Hm;refine oa ?_;refine oS (sK (H1:=[]) (F:=_) [_,_,_] rfl qb (Xe false [109,97,105,110] 9 ra) (λh=>absurd h ra) λnm _ e' ya=>?_);refine zg ?_;exact Mg (ya.trans pr) Hm.symm ra;have rB:f.name=[109,97,105,110]:=zt h1;refine za ?_
  first|refine ea.want rfl rfl ?_|skip
  refine IG ?_;refine oB 125 rfl (λh2=>?_) λh2=>?_;rotate_left;rw[zn (λh=>zf h2 (by rw[h.2];rfl))] at Hm;refine oS (sK (H1:=[]) (F:=_) [_,_,_] rfl qb (Xe false [109,97,105,110] 9 ra) (λh=>absurd h ra) λnm _ e' ya=>?_);refine zg ?_;exact Mg (ya.trans pr) Hm.symm ra
  have qS:f.params=[]:=by have h3:=zt h2;rw[Ua] at h3;exact List.length_eq_zero_iff.1 zo
  rw[zp ⟨rB,qS⟩] at Hm;refine oS (sK (H1:=[]) (F:=_) [_,_,_] rfl qb (Xe true [109,97,105,110] 9 ra) (λ_=>?_) λnm h=>absurd rfl h)
  have hgF:GL.Sa F1 [109,97,105,110]=some (vC m):=by rw[hF,<-rB,<-NM,FJ];rfl
  refine ja ?_;refine ca (Pure.WA rfl rfl wK hgF)<|oS (yc λb16=>?_);refine ja ?_;refine oS (sF [_] rfl (Wf (.list (ba.map Kb)) Yv XD qo UF) ?_);refine Oi ?_;refine oB 136 rfl (λh3=>?_) λh3=>?_;rotate_left;have tl:¬ ((Gf vars fs).length<=8000/\m.need<=200/\m.depth<=60):=λh=>zf h3 (by rw[Ua];have:=h.1;omega);rw[zn tl] at Hm;refine oa ?_;refine oS (sK (H1:=[]) (F:=_) [_,_,_] rfl qb (Xe false [109,97,105,110] 6 ra) (λh=>absurd h ra) λnm _ e' ya=>?_);exact Mg (ya.trans pr) Hm.symm ra
  have Pk:(Gf vars fs).length<=8000:=by have:=zt h3;rw[Ua] at this;omega
  refine Oi ?_;refine oB 141 rfl (λh4=>?_) λh4=>?_;rotate_left;have tl:¬ ((Gf vars fs).length<=8000/\m.need<=200/\m.depth<=60):=λh=>zf h4 (by have:=h.2.1;omega);rw[zn tl] at Hm;refine oa ?_;refine oS (sK (H1:=[]) (F:=_) [_,_,_] rfl qb (Xe false [109,97,105,110] 6 ra) (λh=>absurd h ra) λnm _ e' ya=>?_);exact Mg (ya.trans pr) Hm.symm ra
  have Gw:m.need<=200:=by have:=zt h4;omega
  refine Oi ?_;refine oB 145 rfl (λh5=>?_) λh5=>?_;rotate_left;have tl:¬ ((Gf vars fs).length<=8000/\m.need<=200/\m.depth<=60):=λh=>zf h5 (by have:=h.2.2;omega);rw[zn tl] at Hm;refine oS (sK (H1:=[]) (F:=_) [_,_,_] rfl qb (Xe false [109,97,105,110] 6 ra) (λh=>absurd h ra) λnm _ e' ya=>?_);exact Mg (ya.trans pr) Hm.symm ra
  have vT:m.depth<=60:=by have:=zt h5;omega
  rw[zp ⟨Pk,Gw,vT⟩] at Hm;refine oS (sK (H1:=[]) (F:=_) [_,_,_] rfl qb (Xe true [109,97,105,110] 6 ra) (λ_=>?_) λnm h=>absurd rfl h);refine ig ?_;exact PN pr rN Hm.symm rfl Fc rfl
section
variable{C:Ctx}{e:Env}{H:Heap}{dst:Option Nat}{ty:TypeId}{la:String}{ma:Array Edge}{g:Option (Nat×Bool)}{x:Operand}
theorem Pure.Im{t xT:TypeId} [ht:Xd C.P t]{zs:List Value}(hz:∀ w,(zeroValue t).run C.P w=.ok (.agg zs.toArray) w)(hx:e.ev x=.atom .nilIface):Go.GL.Pure C ⟨dst,.typeAssert x xT t true,ty,la,ma,g⟩ e H (.tuple [.agg (zs.map .atom),bool false]):=
 .Ka λρ w L h=>⟨.tuple #[.agg zs.toArray,.bool false],by
  simp only[Wa];exact⟨[.agg zs.toArray,.bool false],rfl,by simp only[na,Wa];exact⟨_,_,rfl,⟨zs,rfl,Jl zs⟩,_,_,rfl,rfl,rfl⟩⟩,λw'=>by
  obtain⟨d,hd,hm⟩:=ht.out;have h3:execOp ρ ⟨dst,.typeAssert x xT t true,ty,la,ma,g⟩=(do Pure.pure (.value (<-Instr.typeAssert (ρ x) xT t true))):=rfl;rw[h3,Cb h hx];simp only[Instr.typeAssert,Sb,ed hd,lc];cases d <;> simp_all [Sb]⟩
end
theorem A8(w:World):(zeroValue 153).run Tryz.prog w=.ok (.agg [.string ⟨#[]⟩,.int .i64 0].toArray) w:=
 (Go.zero_of_info (P:=Tryz.prog) (n:=2) zk).1 w
attribute [local irreducible] Lg Re Dq lk
theorem E8(b2 b3:Nat)(c d:LV):lk (KC B0 w0) 74 [ptr b2 0,ptr b3 0] .returning [(b2,.cells 9 [c]),(b3,.cells 24 [d])]
  (λu H=>u=.returning/\H=[(b2,.cells 9 [c]),(b3,.cells 24 [d])]):=by
 refine lk.intro Tryz.func74 rfl (n:=19) rfl rfl rfl ?_;refine dt ?_;refine Dc ?_;refine ca (Pure.Im A8 rfl)<|za ?_;refine oS (yc λb5=>?_);refine ja ?_;refine sa (λhc=>?_) λhc=>?_;cases hc;refine ja ?_;refine sa (λhc=>?_) λhc=>?_;cases hc;refine oa ?_;exact⟨rfl,_,fe Ma,rfl,rfl⟩
theorem U7(b2 b3:Nat)(c d:LV)(nm:List UInt8)(er:Int):lk (KC B0 w0) 74 [ptr b2 0,ptr b3 0] (.panicking (ly nm er)) [(b2,.cells 9 [c]),(b3,.cells 24 [d])]
  (λu H=>settle u=.returning/\H=[(b2,.cells 9 [str nm]),(b3,.cells 24 [int .i64 er])]):=by
 refine lk.intro Tryz.func74 rfl (n:=19) rfl rfl rfl ?_;refine dt ?_;refine Dc ?_;refine ca (Pure.xl (vs:=[.string ⟨nm.toArray⟩,.int .i64 er]) rfl)<|za ?_;refine oS (yc λb5=>?_);refine ja ?_;refine sa (λhc=>?_) λhc=>?_
 ·skip
  refine cD (m:=6) rfl [(b5,.cells 153 [str nm,int .i64 er])]<|LB ?_;refine aT 2 rfl rfl (pF rfl)<|aT 3 rfl rfl (pL (c:=.atom _) rfl yb rfl)<|aL ?_ dc;refine lO 4 (lS (H1:=[(b2,.cells 9 [c])]) (F:=[(b5,.cells 153 [str nm,int .i64 er]),(b3,.cells 24 [d])]) rfl (.inl rfl) rfl uc dc (sS (Ya:=[_]) rfl pH rfl rfl rfl rfl rfl ?_));refine lO 5 (lS (H1:=[(b3,.cells 24 [d])]) (F:=[(b2,.cells 9 [str nm]),(b5,.cells 153 [str nm,int .i64 er])]) rfl (.inl rfl) rfl Ig (Ab uc Fc) (sS (Ya:=[_]) rfl pH rfl rfl rfl rfl rfl ?_));refine lD zk ?_;exact⟨rfl,_,Ab uc dc,rfl,rfl⟩
 cases hc
theorem Cf(vars:List Nm)(ba:List (Nm×Int))(fs:List od)(Yv:vars.length<=2000000)(bG:ba.length<=2000000)(SJ:∀ a∈ba,-9223372036854775808<=a.2/\a.2<9223372036854775808)(Vg:ud fs<=2000000) :
  aa (KC B0 w0) 28 [Bf vars ba fs] [] (λr H=>H=[]/\∃ nm,r=.ret (.tuple [str nm,int .i64 (dq vars ba fs)])):=by
 generalize hE:dq vars ba fs=E;refine aa.Uq Tryz.func28 rfl (n:=15) rfl rfl rfl ?_;refine ak ?_;refine Pc ?_;refine oS (sB rfl λb1=>oS (yc λb2=>?_));refine oS (yc λb3=>?_);refine ig ?_;refine rq ?_;refine Lg.defer rfl rfl ?_;refine Om ?_;refine ak ?_;refine Pc ?_;refine oS (S.Ji λgm=>oS (S.Ji λvm=>?_));refine oS (S.Ji λam=>oS (S.Ji λfm=>?_));refine za ?_;refine oS (sB rfl λcb=>?_);refine ea.db (H':=Vo ⟨cb,gm,vm,am,fm,0,[],[],[],[],[],0,0,0,0,0,[]⟩ (.map none) 0++[(b3,.cells 24 [int .i64 0]),(b2,.cells 9 [str []]),(b1,.cells 45 [.list (vars.map str),.list (ba.map Kb),.list (fs.map Me)])]) ?_ ?_
 ·repeat first
   |exact HSub.nil _
   |refine Ab EB ?_
 refine fj ?_;refine rq ?_;refine Lg.step (S.Df (F:=[_,_,_]) [_,_] rfl qb (yI (k:=⟨cb,gm,vm,am,fm,0,[],[],[],[],[],0,0,0,0,0,[]⟩) (o:=.map none) (d:=0) vars ba fs rfl rfl rfl rfl Yv bG SJ Vg) (λH2 h0 hP=>?_) λnm h0=>?_) rfl
 ·subst hP;rw[hE] at h0;subst h0;refine Om ?_;refine Re.seq (Re.region ?_);refine Lg.step (sS (Ya:=[_]) rfl uc rfl rfl rfl rfl rfl ?_) rfl;refine Lg.step (sS (Ya:=[_]) rfl uc rfl rfl rfl rfl rfl ?_) rfl;refine Om ?_;refine Re.ret ?_
  exact Kq.Ag (vs:=[str [],int .i64 0]) (H1:=[(b2,.cells 9 [str []]),(b3,.cells 24 [int .i64 0])]) (F:=[_]) (H2:=[(b2,.cells 9 [str []]),(b3,.cells 24 [int .i64 0])]) rfl (Km _ _ _) (E8 b2 b3 _ _)
   (rC (qj.Rb rfl yb rfl fc) (rC (qj.Rb rfl Ff rfl fc) rN)) Fc ⟨rfl,[],rfl⟩
 rw[hE] at h0 ⊢;refine Bc.panic ?_;exact Kq.nn (vs:=[str nm,int .i64 E]) (H1:=[(b2,.cells 9 [str []]),(b3,.cells 24 [int .i64 0])]) (F:=[_]) (H2:=[(b2,.cells 9 [str nm]),(b3,.cells 24 [int .i64 E])]) rfl (Km _ _ _) (U7 b2 b3 _ _ nm E)
  (rC (qj.Rb rfl yb rfl fc) (rC (qj.Rb rfl Ff rfl fc) rN)) Fc ⟨rfl,nm,rfl⟩
end Go.Proofs.YtjolancjacdeaaaGreatDoor.Zg
namespace Go.Proofs.YtjolancjacdeaaaGreatDoor.DE
open Go.GL Go.RowKit Go.Ba
open Go.Lib (decDigits itoa join)
variable{A F H1:Heap}{xe:Array TypeId}{Wb:List LV}{f:FuncId}
structure TB where
 tb:Nat
 sm:Nat
 am:Nat
 S:KV
 A:KV
 g1:Nat
 g2:Nat
 sc:Nat
def Ch(k:TB)(own:Nm)(ws:List Wd)(n:Nat)(H:Heap):Prop:=∃ v Hv,GL.Acc 1 v (ws.map str) Hv []/\H=(k.tb,.cells 97 [v,int .i64 (n:Nat),int .i64 (k.sc:Nat),.atom (.map (some k.sm)),.atom (.map (some k.am)),str own])::(k.sm,.map (Gd k.S) k.g1)::(k.am,.map (Gd k.A) k.g2)::Hv
def xt(P:Heap->Prop):Lc->Heap->Prop:=λr H=>r=.ret (.tuple [])/\P H
def iA(s:List UInt8)(P:Heap->Prop):Lc->Heap->Prop:=λr H=>r=.ret (str s)/\P H
structure Wn(k:TB)(c:CC)(own:Nm):Prop where
 sc:∀ name,∃ a:Nat,a<=1000000000/\c.sc name=decDigits a/\((∃ v,GL.Sa k.S (own++[46]++name)=some v/\v=int .i64 (a:Nat))∨(GL.Sa k.S (own++[46]++name)=none/\(GL.Sa k.S name).getD (int .i64 0)=int .i64 (a:Nat)))
 ar:∀ name,∃ a:Nat,a<=1000000000/\c.ar name=decDigits a/\(GL.Sa k.A name).getD (int .i64 0)=int .i64 (a:Nat)
 t0:c.t0=decDigits k.sc
 t1:c.t1=decDigits (k.sc+1)
 t2:c.t2=decDigits (k.sc+2)
 small:k.sc<=1000000000
 own:own.length<=1000000
theorem EK{x y z:Nat×da}:(x::y::z::A).Perm (A++[x,y,z]):=dd (l₁:=[x,y,z])
theorem ke{x:Nat×da}:(x::A).Perm (A++[x]):=(List.perm_append_singleton _ _).symm
theorem Ur{x y:Nat×da}:(x::y::A).Perm (A++[x,y]):=dd (l₁:=[x,y])
theorem nC:A.Perm (A++[]):=by rw[Qb]
theorem Gl{x:Nat×da}:HSub A (x::A):=fe Ma
theorem mA{x y:Nat×da}:HSub A (x::y::A):=fe (fe Ma)
theorem aO{x:Nat×da}:HSub [x] (x::A):=Ab pH Fc
theorem lA{x y:Nat×da}:HSub [x,y] (x::y::A):=Ab pH dc
theorem qX{x:Nat×da}:HSub (x::A) (A++[x]):=⟨[],by rw[Qb];exact ke.symm⟩
theorem dX{x y:Nat×da}:HSub (x::y::A) (A++[x,y]):=⟨[],by rw[Qb];exact Ur.symm⟩
theorem P'{m:Nat}(h:m<4294967296):IntKind.u64.wrap (m:Int)=m:=by simp only[IntKind.wrap,IntKind.bits,IntKind.signed,Pg];simp;omega
section
variable{C:Ctx}{e:Env}{H:Heap}{dst:Option Nat}{ty:TypeId}{la:String}{ma:Array Edge}{g:Option (Nat×Bool)}{K:LV->Heap->Prop}{X:List PanicEntry->Heap->Prop}
theorem Zd{f:FuncId} [fb C.P f](args:List Operand){P:Heap->Prop}(has:args.map e.ev=Wb)(hp:H.Perm (H1++F))(hc:aa C f Wb H1 (xt P))(hk:∀ H',P H'->K (.tuple []) (F++H')) :
  Ja C ⟨dst,.call { callee:=.value (.func f),args:=args.toArray,argTypes:=xe },ty,la,ma,g⟩ e H K X:=
 Ja.qc (K:=λlv se=>∃ H',se=H'++F/\P H'/\lv=.tuple []) (S.Bb args has hp hc (by rintro v H' ⟨h,h2⟩;cases h;exact⟨H',rfl,h2,rfl⟩) (by rintro ch H' ⟨h,_⟩;cases h))
  (by rintro lv se ⟨H',rfl,hP,rfl⟩;exact⟨_,F++H',vR _,⟨[],by rw[Qb];exact dd⟩,hk H' hP⟩)
theorem Pure.vD{t el:TypeId}{zv:Value}{zl lv:LV} [h:xk C.P t el zv zl]{x y:Operand}{b ga:Nat}{m:KV}{s:List UInt8}(hm:e.ev x=.atom (.map (some b)))(hx:e.ev y=str s)(hb:(b,.map (Gd m) ga)∈H)(hg:(GL.Sa m s).getD zl=lv) :
  GL.Pure C ⟨dst,.lookup t x y false,ty,la,ma,g⟩ e H lv:=by
 obtain⟨kt,h1,h2⟩:=h.zd;exact hg▸GL.Pure.Sa h1 h2 h.zero h.rep hm hx hb
theorem S.uh{f:FuncId} [fb C.P f](args:List Operand){P:Heap->Prop}{s:List UInt8}(has:args.map e.ev=Wb)(hp:H.Perm (H1++F))(hc:aa C f Wb H1 (iA s P))(hk:∀ H',P H'->K (str s) (F++H')) :
  Ja C ⟨dst,.call { callee:=.value (.func f),args:=args.toArray,argTypes:=xe },ty,la,ma,g⟩ e H K X:=
 Ja.qc (K:=λlv se=>∃ H',se=H'++F/\P H'/\lv=str s) (S.Bb args has hp hc (by rintro v H' ⟨h,h2⟩;cases h;exact⟨H',rfl,h2,rfl⟩) (by rintro ch H' ⟨h,_⟩;cases h))
  (by rintro lv se ⟨H',rfl,hP,rfl⟩;exact⟨_,F++H',vR _,⟨[],by rw[Qb];exact dd⟩,hk H' hP⟩)
theorem S.Un{fo:Operand} [fb C.P f]{first La:Array Value}(args:List Operand){P:Heap->Prop}(hf:e.ev fo=.atom (.func (.func f) first La))
  (has:first.toList.map .atom++args.map e.ev++La.toList.map .atom=Wb) (hp:H.Perm (H1++F)) (hc:aa C f Wb H1 (xt P)) (hk:∀ H',P H'->K (.tuple []) (F++H')) :
  Ja C ⟨dst,.call { callee:=.value fo,args:=args.toArray,argTypes:=xe },ty,la,ma,g⟩ e H K X:=
 Ja.qc (K:=λlv se=>∃ H',se=H'++F/\P H'/\lv=.tuple []) (S.Rf args hf has hp hc (by rintro v H' ⟨h,h2⟩;cases h;exact⟨H',rfl,h2,rfl⟩) (by rintro ch H' ⟨h,_⟩;cases h))
  (by rintro lv se ⟨H',rfl,hP,rfl⟩;exact⟨_,F++H',vR _,⟨[],by rw[Qb];exact dd⟩,hk H' hP⟩)
end
attribute [local irreducible] ea Ga Ja aa Go.GL.Pure Bc Tc oc LQ Pa Td Lf LS
section
variable{B0:Nat}{w0:World}{k:TB}{own:Nm}{c:CC}{ws:List Wd}{n:Nat}{H:Heap}
theorem Fg(h:Ch k own ws n H)(W:List Wd){a:LV}(ha:GL.elems a=some (W.map str))(hr:ws.length+W.length<=1000000000):aa (KC B0 w0) 80 [ptr k.tb 0,a] H (xt (Ch k own (ws++W) n)):=by obtain⟨v,Hv,Ta,rfl⟩:=h;have h1:(ws.map str).length=ws.length:=Ua _;have h2:(W.map str).length=W.length:=Ua _;refine cJ Tryz.func80 (n:=13) ?_;refine ia ?_;refine ca (pL (c:=v) rfl yb rfl)<|ca (pM (lv:=a) rfl)<|oS (sG EK rfl Ta ha (Ro W) (CA W) zo λv' H' Ra=>?_);refine oa ?_;refine oS (sS (Ya:=[v',int .i64 (n:Nat),int .i64 (k.sc:Nat),.atom (.map (some k.sm)),.atom (.map (some k.am)),str own]) rfl pH (Acc.cell Ra).1 rfl rfl (Acc.cell Ra).2 rfl ?_);refine ig ?_;exact rO rfl rN Ma ⟨rfl,v',H',by rw[Od];exact Ra,rfl⟩
theorem WL(hG:GW B0 w0)(h:Ch k own ws n H)(hn:n<=1000000000000):aa (KC B0 w0) 215 [ptr k.tb 0] H (iA (gd n) (Ch k own ws (n+1))):=by
 obtain⟨v,Hv,Ta,rfl⟩:=h;have hd:(Go.Lib.decDigits n).length<=20:=by rw[Go.Lib.decDigits_length];exact Uf (mI 12 n zo) ra
 refine cJ Tryz.func215 (n:=18) ?_;refine ia ?_;refine oS (sF [_] rfl (Iv hG n zo) ?_);refine ja ?_;first|(refine oS (sS (Ya:=[_,_,_,_,_,_]) rfl pH rfl rfl rfl rfl rfl ?_))|skip
 refine ia ?_;exact rR rfl (va rfl) Ma ⟨rfl,v,Hv,Ta,rfl⟩
theorem EF(hG:GW B0 w0)(hk:Wn k c own)(h:Ch k own ws n H)(name:List UInt8)(hn:name.length<=1000000):aa (KC B0 w0) 82 [ptr k.tb 0,str name] H (iA (c.sc name) (Ch k own ws n)):=by obtain⟨a,Mu,Gm,tr⟩:=hk.sc name;have ho:=hk.own;have h0:=h;obtain⟨v,Hv,Ta,rfl⟩:=h;rw[Gm];refine cJ Tryz.func82 (n:=32) ?_;refine Xj ?_;refine Pm ?_;rcases tr with⟨v3,NR,rfl⟩|⟨NR,hv4⟩;refine qP (Pure.Sq rfl rfl Ff NR) rfl ?_;refine ja ?_;refine sa (λhc=>?_) λhc=>?_;refine Dc ?_;refine oS (sF [_] rfl (Iv hG a zo) ?_);refine oa ?_;exact rR rfl (va rfl) Ma ⟨rfl,h0⟩;cases hc;refine qP (Pure.Bn rfl rfl Ff NR) rfl ?_;refine ja ?_;refine sa (λhc=>?_) λhc=>?_;cases hc;refine ia ?_;refine ca (Pure.vD rfl rfl Ff hv4)<|oS (sF [_] rfl (Iv hG a zo) ?_);refine qh ?_;exact rR rfl (va rfl) Ma ⟨rfl,h0⟩
theorem uM(hG:GW B0 w0)(hk:Wn k c own)(h:Ch k own ws n H)(i:Nat)(hi:i<=2):aa (KC B0 w0) 81 [ptr k.tb 0,int .i64 (i:Nat)] H (iA (decDigits (k.sc+i)) (Ch k own ws n)):=by have h0:=h;obtain⟨v,Hv,Ta,rfl⟩:=h;have hs:=hk.small;have e1:int .i64 ((k.sc:Int)+(i:Int))=int .i64 ((k.sc+i:Nat):Int):=bf zo;refine cJ Tryz.func81 (n:=12) ?_;refine ia ?_;refine oS (sF [_] (by show [_]=_;exact congrArg (λx=>[x]) e1) (Iv hG (k.sc+i) zo) ?_);refine qh ?_;exact rR rfl (va rfl) Ma ⟨rfl,h0⟩
theorem zZ(hG:GW B0 w0)(hk:Wn k c own)(h:Ch k own ws n H)(hr:ws.length+(Ev c).length<=1000000000):aa (KC B0 w0) 247 [ptr k.tb 0] H (xt (Ch k own (ws++Ev c) n)):=by have e:Ev c=[c.t2,[33],c.t1,[33],c.t2,[64],c.t1,[64],[60]]:=rfl;rw[e] at hr ⊢;rw[hk.t1,hk.t2];rw[hk.t1,hk.t2] at hr;refine cJ Tryz.func247 (n:=15) ?_;refine Dc ?_;refine oS (S.uh (F:=[]) [_,_] rfl nC (uM hG hk h 1 ra) λH1 h1=>?_);refine Dg ?_;refine oS (S.uh (H1:=H1) (F:=[]) [_,_] rfl nC (uM hG hk h1 2 ra) λH2 h2=>?_);refine fg ?_;refine oS (sL [_,_,_,_,_,_,_,_,_] rfl (Lq [_,_,_,_,_,_,_,_,_]) rfl rfl rfl<|oS (Zd (H1:=H2) (F:=[]) [_,_] rfl nC (Fg h2 [_,_,_,_,_,_,_,_,_] rfl hr) λH3 h3=>?_));refine ig ?_;exact rO rfl rN Ma ⟨rfl,h3⟩
end
end Go.Proofs.YtjolancjacdeaaaGreatDoor.DE
