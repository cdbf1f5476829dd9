import Derived.Test.YtmnjklgnhpnckaaGreatDoorBRowLB11
set_option linter.unusedVariables false
set_option linter.unusedSimpArgs false
set_option maxRecDepth 100000
set_option maxHeartbeats 4000000
open List (drop_eq_getElem_cons take_length mem_map_of_mem not_mem_nil nil_append cons_append)
open Nat (zero_le lt_succ_self)
open Option (none_or)
namespace Go.Proofs.YtmnjklgnhpnckaaGreatDoor.Pp
open Go.GL Go.RowKit Go.ea
open Sp (Xk Xk.mk rp)
variable{i:Nat}{v:List Wd}
def dE(r:Oq):LV:=.tuple [int .i64 r.1,.list (r.2.map str)]
attribute [local irreducible] wa Qa Ra ca Go.GL.Pure Ud xe od LQ Eb Tf Rh
variable{B0:Nat}{w0:World}
theorem qs6(hG:GW B0 w0)(v:List Wd)(m:Nat)(hv:Small v):ca (KC B0 w0) 95 [Hm v m] [] (Hb (dE (oy v))):=by
 have k0:=Im (B0:=B0) (w0:=w0) v m 0 (by have:=hv.1;omega);have k1:=Im (B0:=B0) (w0:=w0) v m 1 (by have:=hv.1;omega);have k2:=Im (B0:=B0) (w0:=w0) v m 2 (by have:=hv.1;omega);have kj:=qjT hG (fa v 0) (fa v 2) (fa v 1) (hv.at 0) (hv.at 1);have hF:oy v=match Kj (fa v 0) (fa v 2) (fa v 1) with
  |some s=>(3,[s])
  |none=>(0,[]):=rfl
 unfold Hm at k0 k1 k2 ⊢;generalize Kj (fa v 0) (fa v 2) (fa v 1)=o at kj hF;refine Xa Tryz.func95 rfl (n:=19) rfl rfl rfl ?_;refine Xd ?_;refine oS (sB (cs:=[.list (v.map str),.atom (.map (some m))]) rfl λb1=>?_);refine qa ?_;refine bj (m:=12) rfl [(b1,.cells 193 [.list (v.map str),.atom (.map (some m))])] ?_;refine aT 0 rfl rfl (pG (Ab:=[_,_]) rfl Bb rfl rfl)<|aT 2 rfl rfl (pG (Ab:=[_,_]) rfl Bb rfl rfl)<|aT 4 rfl rfl (pG (Ab:=[_,_]) rfl Bb rfl rfl)<|mI ?_;refine lO 3 (lS (H1:=[]) rfl (.inl rfl) rfl Kb Ya (sF [_,_] rfl k2 ?_));refine lO 5 (lS (H1:=[]) rfl (.inl rfl) rfl Kb Ya (sF [_,_] rfl k1 ?_));refine lO 6 (lS (H1:=[]) rfl (.inl rfl) rfl Kb Ya (S.Yh [_,_,_] rfl kj ?_));rintro lv ⟨s,rfl,hs⟩;refine Tf.any [(b1,.cells 193 [.list (v.map str),.atom (.map (some m))])] (λ_ h=>h) ?_;refine aT 7 rfl rfl (pM (lv:=.tuple _) rfl)<|aT 8 rfl rfl (Pure.extract (c:=.atom _) rfl rfl)<|aT 9 rfl rfl (Pure.extract (c:=.atom _) rfl rfl)<|aT 10 rfl rfl (pA (lv:=.atom _) rfl)<|aT 11 rfl rfl (pA (lv:=.atom _) rfl)<|Iu ?_;refine Xh ?_;refine Ca (λh=>?_) λh=>?_;obtain⟨l,rfl⟩:=zR h;obtain rfl:=hs l rfl;refine Bd ?_;refine Ui ?_;refine Ga ?_;exact Wa rfl (rC (Ic rfl) (rC (Gd (v:=.list _) rfl ld) rN)) (by rw[hF];rfl)
 obtain rfl:o=none:=by
  cases o with
  |none=>rfl
  |some l=>cases h
 refine oa ?_;exact Wa rfl (rC (Ic rfl) (rC (Gd (v:=Ob) rfl vN) rN)) (by rw[hF];rfl)
theorem qr7(hG:GW B0 w0)(v:List Wd)(m:Nat)(hv:Small v):ca (KC B0 w0) 100 [Hm v m] [] (Hb (dE (py v))):=by
 have k0:=Im (B0:=B0) (w0:=w0) v m 0 (by have:=hv.1;omega);have kn:=fM hG (fa v 0) (by have:=hv.at 0;omega);have kj:=FU (B0:=B0) (w0:=w0) v m 1 hv zo;have hF:py v=match ib (fa v 0) with
  |some n=>if n≠0/\(Wl v 1).isSome=true then (3,[]) else (0,[])
  |none=>(0,[]):=rfl
 unfold Hm at k0 kj ⊢;generalize ib (fa v 0)=on at kn hF;generalize Wl v 1=oj at kj hF;refine Xa Tryz.func100 rfl (n:=27) rfl rfl rfl ?_;refine Xd ?_;refine oS (sB (cs:=[.list (v.map str),.atom (.map (some m))]) rfl λb1=>?_);refine ja ?_;refine oS (sF [_,_] rfl k0<|oS (sF [_] rfl kn ?_));refine ja ?_;refine oS (S.Yh [_,_] rfl kj ?_);rintro lv ⟨s,rfl,hs⟩;refine oa ?_;refine oB 20 rfl (λh1=>?_) λh1=>?_;rw[h1] at hF
 cases on with
 |none=>
  refine qa ?_;refine Ca (λh=>?_) λh=>?_;cases h
  exact jI
 |some n=>
  refine Ga ?_;refine Ca (λh=>?_) λh=>?_
  have hn:n≠0:=by intro h0;subst h0;exact absurd h da
  simp only[hn,ne_eq,not_false_eq_true,and_self,if_true] at hF;refine Qj ?_;exact Wa rfl (rC (Ic rfl) (rC (Gd (v:=Ob) rfl vN) rN)) (by rw[hF];rfl);have hn:n=0:=by
   have h0:¬ ¬ ((n:Int)=0):=by simpa using h
   omega
  subst hn;refine oa ?_;exact Wa rfl (rC (Ic rfl) (rC (Gd (v:=Ob) rfl vN) rN)) (by rw[hF];rfl)
 rw[h1] at hF;refine qa ?_;refine Ca (λh=>?_) λh=>?_;cases h;refine oa ?_
 exact Wa rfl (rC (Ic rfl) (rC (Gd (v:=Ob) rfl vN) rN)) (by
  rw[hF];cases on <;> simp <;> rfl)
theorem qpp(v:List Wd)(m:Nat)(hv:Small v){es:Array MapEntry}{clock:Nat}{p:List UInt8->Bool}(hs:qe es p):ca (KC B0 w0) 103 [Hm v m] [(m,.obj (.map es clock))] (λr H=>r=.ret (dE (uu p v))/\H=[(m,.obj (.map es clock))]):=by
 have k0:=Im (B0:=B0) (w0:=w0) v m 0 (by have:=hv.1;omega);have kd:=VZ (B0:=B0) (w0:=w0) (fa v 0) (by have:=hv.at 0;omega);have hF:uu p v=match ma (fa v 0) with
  |some l=>if p l=true then (0,[]) else (1,[])
  |none=>(0,[]):=rfl
 unfold Hm at k0 ⊢;generalize ma (fa v 0)=o at kd hF;refine Xa Tryz.func103 rfl (n:=20) rfl rfl rfl ?_;refine Xd ?_;refine oS (sB (cs:=[.list (v.map str),.atom (.map (some m))]) rfl λb1=>?_);refine ja ?_;refine oS (sF [_,_] rfl k0<|oS (S.Yh [_] rfl kd ?_));rintro lv ⟨s,rfl,Jk⟩;refine oa ?_;refine oB 13 rfl (λh1=>?_) λh1=>?_;obtain⟨l,rfl⟩:=zR h1;obtain rfl:=Jk l rfl;simp only at hF;refine qa ?_;refine ia (Pure.Qu (t:=112) (kt:=9) (el:=4) zk zk (λw=>(Go.zero_of_info (P:=Tryz.prog) (n:=1) zk).1 w) rfl rfl xf hs)<|Ga ?_;refine Ca (λh=>?_) λh=>?_;have hp:p s=false:=by simpa using h
 refine Qj ?_;exact rR rfl (rC (Ic rfl) (rC (Gd (v:=Ob) rfl vN) rN)) (Gg Ya) ⟨by rw[hF,hp];rfl,rfl⟩;have hp:p s=true:=by simpa using h
 refine oa ?_;exact rR rfl (rC (Ic rfl) (rC (Gd (v:=Ob) rfl vN) rN)) (Gg Ya) ⟨by rw[hF,hp];rfl,rfl⟩;obtain rfl:o=none:=by
  cases o with
  |none=>rfl
  |some l=>cases h1
 refine qa ?_;refine Ca (λh=>?_) λh=>?_;cases h;refine oa ?_;exact rR rfl (rC (Ic rfl) (rC (Gd (v:=Ob) rfl vN) rN)) (Gg Ya) ⟨by rw[hF];rfl,rfl⟩
def Fz(v:List Wd):Nat->List Wd->Bool
 |_,[]=>true
 |i,w::r=>decide (fa v i=w) && Fz v (i+1) r
theorem Xs(v:List Wd)(m i:Nat)(ws:List Wd)(hv:Small v)(hi:i<=1000)(hw:ws.length<=1000):ca (KC B0 w0) 167 [Hm v m,int .i64 i,.list (ws.map str)] [] (Hb (bool (Fz v i ws))):=by
 have BB:(ws.map str).length=ws.length:=ab _;have kw:∀ k,ca (KC B0 w0) 165 [Hm v m,int .i64 (k:Nat)] [] (Hb (str (fa v k))):=λk=>Im v m k (by have:=hv.1;omega);unfold Hm at kw ⊢;refine Xa Tryz.func167 rfl (n:=24) rfl rfl rfl ?_;refine Xd ?_;refine oS (sB (cs:=[.list (v.map str),.atom (.map (some m))]) rfl λb3=>?_);refine ja ?_
 refine oL (λk ls H=>∃ j,j<=ws.length/\k=ws.length-j/\ls=[(1,int .i64 i),(3,ptr b3 0),(9,.list (ws.map str)),(10,int .i64 ws.length),(11,int .i64 j)]/\H=[(b3,.cells 193 [.list (v.map str),.atom (.map (some m))])]/\Fz v i ws=Fz v (i+j) (ws.drop j))
  ⟨_,_,_,⟨0,zero_le _,rfl,rfl,rfl,rfl⟩,jb,Tb _⟩ ?_
 rintro k ls H ⟨j,hj,rfl,rfl,rfl,hE⟩ j1 Vf;refine wg ?_;refine Ca (λhc=>?_) λhc=>?_;have za:j<ws.length:=by have:=zt hc;omega
 rw[drop_eq_getElem_cons za,Fz] at hE;have k1:=kw (i+j);have e1:int .i64 ((i+j:Nat):Int)=int .i64 ((i:Int)+j):=lh zo;rw[e1] at k1;refine oa ?_;refine ia (xR (ve:=str ws[j]) (cs:=[str ws[j]]) rfl rfl zo (rn _ _ _ za) rfl rfl)<|ja ?_;refine oS (sF [_,_] rfl k1 ?_);refine Ga ?_;refine Ca (λh=>?_) λh=>?_;have ub:¬ fa v (i+j)=ws[j]:=by simpa using h
 rw[decide_eq_false ub,Di] at hE;refine oa ?_;exact Wa Vf (Oa rfl) (Ae hE.symm);have he:fa v (i+j)=ws[j]:=by simpa using h
 rw[Vg he,Bool.true_and] at hE;refine oa ?_;exact⟨_,_,_,by omega,⟨j+1,by omega,rfl,rfl,rfl,by rw[hE,Nat.add_assoc]⟩,jb,Tb _,Vf⟩;have jK:j=ws.length:=by have:=zf hc;omega
 subst jK;rw[List.drop_length,Fz] at hE;refine oa ?_;exact Wa Vf (Oa rfl) (Ae hE.symm)
theorem qnN(v:List Wd)(m:Nat)(hv:Small v):ca (KC B0 w0) 96 [Hm v m] [] (Hb (dE (DA v))):=by
 have k0:=Im (B0:=B0) (w0:=w0) v m 0 (by have:=hv.1;omega);have k1:=Im (B0:=B0) (w0:=w0) v m 1 (by have:=hv.1;omega);have hF:DA v=if fa v 0=[48]/\(fa v 1=[43]∨fa v 1=[45]∨fa v 1=[94])∨fa v 0=[49]/\(fa v 1=[42]∨fa v 1=[47]) then (2,[]) else (0,[]):=rfl
 unfold Hm at k0 k1 ⊢;generalize fa v 0=a at k0 hF;generalize fa v 1=b at k1 hF;refine Xa Tryz.func96 rfl (n:=36) rfl rfl rfl ?_;refine Xd ?_;refine oS (sB (cs:=[.list (v.map str),.atom (.map (some m))]) rfl λb1=>?_);refine qa ?_;refine bj (m:=6) rfl [(b1,.cells 193 [.list (v.map str),.atom (.map (some m))])] ?_;refine aT 0 rfl rfl (pG (Ab:=[_,_]) rfl Bb rfl rfl)<|aT 2 rfl rfl (pG (Ab:=[_,_]) rfl Bb rfl rfl)<|mI ?_;refine lO 3 (lS (H1:=[]) rfl (.inl rfl) rfl Kb Ya (sF [_,_] rfl k1 ?_));refine Tf.any [(b1,.cells 193 [.list (v.map str),.atom (.map (some m))])] (λ_ h=>h) ?_;refine aT 4 rfl rfl (pA (lv:=.atom _) rfl)<|aT 5 rfl rfl (pA (lv:=.atom _) rfl)<|Iu ?_;refine oa ?_;refine wa.cut [(1,ptr b1 0),(35,bool (decide (a=[48]/\(b=[43]∨b=[45]∨b=[94])∨a=[49]/\(b=[42]∨b=[47]))))] ?_ λj hj=>?_;refine oB 12 rfl (λh1=>?_) λh1=>?_;have e1:a=[48]:=zt h1;have n1:¬ a=[49]:=by rw[e1];decide
 refine qa ?_;refine oB 15 rfl (λh2=>?_) λh2=>?_;have e2:b=[43]:=zt h2;refine Ga ?_;exact⟨⟨rfl,Ae (by simp[e1,e2]),trivial⟩,rfl,rfl⟩;have e2:¬ b=[43]:=zf h2;refine qa ?_;refine oB 19 rfl (λh3=>?_) λh3=>?_;have e3:b=[45]:=zt h3;refine Ga ?_;exact⟨⟨rfl,Ae (by simp[e1,e3]),trivial⟩,rfl,rfl⟩;have e3:¬ b=[45]:=zf h3;refine qa ?_;refine oB 24 rfl (λh4=>?_) λh4=>?_;have e4:b=[94]:=zt h4;refine Ga ?_;exact⟨⟨rfl,Ae (by simp[e1,e4]),trivial⟩,rfl,rfl⟩;have e4:¬ b=[94]:=zf h4;refine qa ?_;refine oB 27 rfl (λh5=>absurd (zt h5) n1) λh5=>?_;refine Ga ?_;exact⟨⟨rfl,Ae (by simp[e2,e3,e4,n1]),trivial⟩,rfl,rfl⟩;have e1:¬ a=[48]:=zf h1;refine Ga ?_;refine oB 27 rfl (λh2=>?_) λh2=>?_;have e2:a=[49]:=zt h2;refine qa ?_;refine oB 30 rfl (λh3=>?_) λh3=>?_;have e3:b=[42]:=zt h3;refine qa ?_;exact⟨⟨rfl,Ae (by simp[e2,e3]),trivial⟩,rfl,rfl⟩;have e3:¬ b=[42]:=zf h3;refine qa ?_;exact⟨⟨rfl,Ae (by simp[e2,e3]),trivial⟩,rfl,rfl⟩;have e2:¬ a=[49]:=zf h2;refine Ga ?_;exact⟨⟨rfl,Ae (by simp[e1,e2]),trivial⟩,rfl,rfl⟩;refine Ca (λh=>?_) λh=>?_;rw[zp (zt h)] at hF;refine Qj ?_;exact Wa hj (rC (Ic rfl) (rC (Gd (v:=Ob) rfl vN) rN)) (by rw[hF];rfl);rw[zn (zf h)] at hF;refine oa ?_;exact Wa hj (rC (Ic rfl) (rC (Gd (v:=Ob) rfl vN) rN)) (by rw[hF];rfl)
theorem qrM(l:Wd)(v:List Wd)(i:Nat):Qs l (v.drop i)=match ma (fa v i) with
  |some d=>decide (d=l) || Qs l (v.drop (i+1))
  |none=>false:=by
 by_cases h:i<v.length
 ·have e:fa v i=v[i]:=by unfold fa;rw[di h];rfl
  rw[drop_eq_getElem_cons h,Qs,e];first|done|(cases ma v[i] <;> rfl)
 have e:fa v i=[]:=by unfold fa;rw[List.getElem?_eq_none zo];rfl
 rw[List.drop_eq_nil_of_le zo,e];rfl
theorem qyZ{d:Wd}(h:ma (fa v i)=some d):i<v.length:=by
 by_cases hl:i<v.length;exact hl;have e:fa v i=[]:=by unfold fa;rw[List.getElem?_eq_none zo];rfl
 rw[e] at h;cases h
theorem quw(v:List Wd)(m:Nat)(hv:Small v):ca (KC B0 w0) 101 [Hm v m] [] (Hb (dE (fy v))):=by
 have k0:=Im (B0:=B0) (w0:=w0) v m 0 (by have:=hv.1;omega);have kj:=FU (B0:=B0) (w0:=w0) v m 1 hv zo;have kw:∀ k,ca (KC B0 w0) 165 [Hm v m,int .i64 (k:Nat)] [] (Hb (str (fa v k))):=λk=>Im v m k (by have:=hv.1;omega);have kd:∀ k,ca (KC B0 w0) 169 [str (fa v k)] [] (Dw (Xk (ma (fa v k)))):=λk=>VZ (fa v k) (by have:=hv.at k;omega)
 have hF:fy v=match Wl v 1 with
  |some l=>if fa v 0=[48]/\Qs l (v.drop 3)=true then (3,[]) else (0,[])
  |none=>(0,[]):=rfl
 unfold Hm at k0 kj kw ⊢;generalize Wl v 1=oj at kj hF;generalize fa v 0=a at k0 hF;refine Xa Tryz.func101 rfl (n:=35) rfl rfl rfl ?_;refine Xd ?_;refine oS (sB (cs:=[.list (v.map str),.atom (.map (some m))]) rfl λb1=>?_);refine ja ?_;refine oS (S.Yh [_,_] rfl kj ?_);rintro lv ⟨s,rfl,hs⟩;refine ja ?_;refine oB 16 rfl (λh1=>?_) λh1=>?_
 obtain rfl:oj=none:=by
  cases oj with
  |none=>rfl
  |some l=>cases h1
 refine qa ?_;refine Ca (λh=>?_) λh=>?_;refine Qj ?_;exact Wa rfl (rC (Ic rfl) (rC (Gd (v:=Ob) rfl vN) rN)) (by rw[hF];rfl);cases h
 obtain⟨l,rfl⟩:∃ l,oj=some l:=by
  cases oj with
  |none=>cases h1
  |some l=>exact⟨l,rfl⟩
 obtain rfl:=hs l rfl;simp only at hF;refine Ga ?_;refine oS (sF [_,_] rfl k0 ?_);refine Ga ?_;refine Ca (λh=>?_) λh=>?_;have ub:¬ a=[48]:=by simpa using h
 rw[zn (λhc=>ub hc.1)] at hF;refine Qj ?_;exact Wa rfl (rC (Ic rfl) (rC (Gd (v:=Ob) rfl vN) rN)) (by rw[hF];rfl);have he:a=[48]:=by simpa using h
 subst he;simp only[true_and] at hF;refine oa ?_;refine oL (λk ls H=>∃ i,(i<=v.length∨i=3)/\k=v.length+4-i/\ls=[(1,ptr b1 0),(4,str s),(6,int .i64 (i:Nat))]/\H=[(b1,.cells 193 [.list (v.map str),.atom (.map (some m))])]/\Qs s (v.drop 3)=Qs s (v.drop i))
  ⟨_,_,_,⟨3,Or.inr rfl,rfl,rfl,rfl,rfl⟩,jb,Tb _⟩ ?_
 rintro k ls H ⟨i,hi,rfl,rfl,rfl,hE⟩ j1 Vf;have hl:=hv.1;rw[qrM s v i] at hE;refine ja ?_;refine oS (sF [_,_] rfl (kw i)<|oS (S.Yh [_] rfl (kd i) ?_));rintro lv ⟨d,rfl,hd⟩;refine ja ?_;refine Ca (λh=>?_) λh=>?_
 have hn:ma (fa v i)=none:=by
  cases ho:ma (fa v i) with
  |none=>rfl
  |some l=>rw[ho] at h;cases h
 rw[hn] at hE;rw[hE] at hF;refine oa ?_;exact Wa Vf (rC (Ic rfl) (rC (Gd (v:=Ob) rfl vN) rN)) (by rw[hF];rfl);obtain⟨e,ho⟩:∃ e,ma (fa v i)=some e:=by
  cases ho:ma (fa v i) with
  |none=>rw[ho] at h;cases h
  |some l=>exact⟨l,rfl⟩
 have za:=qyZ ho;obtain rfl:=hd e ho;rw[ho] at hE;simp only at hE;refine oa ?_;refine Ca (λh2=>?_) λh2=>?_;have he:d=s:=zt h2;rw[Vg he,Bool.true_or] at hE;rw[hE] at hF;refine oa ?_;exact Wa Vf (rC (Ic rfl) (rC (Gd (v:=Ob) rfl vN) rN)) (by rw[hF];rfl);have he:¬ d=s:=zf h2;rw[decide_eq_false he,Bool.false_or] at hE;refine oa ?_;exact⟨_,_,_,by omega,⟨i+1,Or.inl zo,rfl,rfl,rfl,hE⟩,jb,Tb _,Vf⟩
theorem quG(hG:GW B0 w0)(v:List Wd)(m:Nat)(hv:Small v):ca (KC B0 w0) 98 [Hm v m] [] (Hb (dE (sz v))):=by
 have k0:=Im (B0:=B0) (w0:=w0) v m 0 (by have:=hv.1;omega);have kn:=fM hG (fa v 0) (by have:=hv.at 0;omega);have ki:=Xs (B0:=B0) (w0:=w0) v m 1 [[64],fa v 0,[33]] hv zo (by simp only[Ba,dc];omega);have hF:sz v=if (ib (fa v 0)).isSome=true/\Fz v 1 [[64],fa v 0,[33]]=true then (4,[]) else (0,[]):=by simp only[sz,Fz,Yc,Mf,and_true]
 unfold Hm at k0 ki ⊢;generalize ib (fa v 0)=on at kn hF;generalize Fz v 1 [[64],fa v 0,[33]]=q at ki hF;generalize fa v 0=a at k0 kn ki;refine Xa Tryz.func98 rfl (n:=20) rfl rfl rfl ?_;refine Xd ?_;refine oS (sB (cs:=[.list (v.map str),.atom (.map (some m))]) rfl λb1=>?_);refine ja ?_;refine oS (sF [_,_] rfl k0<|oS (sF [_] rfl kn ?_));refine qa ?_
 cases on with
 |none=>
  refine BN ?_;refine Eb.Oh (i:=2) rfl rfl rfl rfl zk zk zk rfl<|FN ?_;refine aT 7 rfl rfl (Pure.Km (lv:=.atom _) rfl rfl)<|Iu ?_;refine Qc ?_;refine Ca (λh=>?_) λh=>?_;cases h
  exact jI
 |some n=>refine BN ?_;refine Eb.MD 2 rfl rfl rfl rfl (pG (Ab:=[_,_]) rfl Bb rfl rfl)<|Eb.MD 3 rfl rfl rfl rfl (pG (Ab:=[_,_]) rfl Bb rfl rfl)<|aL ?_ Ya;refine lO 4 (lS (H1:=[]) rfl (.inr ⟨1,true,13,rfl,rfl,rfl⟩) rfl Kb Ya (sF [_,_] rfl k0 ?_));refine lO 5 (lS (H1:=[]) rfl (.inr ⟨1,true,13,rfl,rfl,rfl⟩) rfl Kb Ya ?_);refine sL [.const (.string { data:=#[64] }),.tmp 16,.const (.string { data:=#[33] })] rfl (Hd rfl rfl (Hd rfl rfl (Hd rfl rfl Ek))) rfl rfl rfl ?_;refine lO 6 (lS (H1:=[]) rfl (.inr ⟨1,true,13,rfl,rfl,rfl⟩) rfl Kb Ya (sF [_,_,_] rfl ki ?_));refine Tf.any [(b1,.cells 193 [.list (v.map str),.atom (.map (some m))])] (λ_ h=>h) ?_;refine aT 7 rfl rfl (Pure.Jm (lv:=.atom _) rfl rfl)<|Iu ?_;refine Qc ?_;refine Ca (λh=>?_) λh=>?_;have hq:q=true:=h;subst hq;refine Qj ?_;exact Wa rfl (rC (Ic rfl) (rC (Gd (v:=Ob) rfl vN) rN)) (by rw[hF];rfl);have hq:q=false:=h;subst hq;refine oa ?_;exact Wa rfl (rC (Ic rfl) (rC (Gd (v:=Ob) rfl vN) rN)) (by rw[hF];rfl)
theorem qoS(h:5<v.length):((v.map str).take 6).drop 4=[str (fa v 4),str (fa v 5)]:=by
 have e4:fa v 4=v[4]:=by unfold fa;rw[di zo];rfl
 have e5:fa v 5=v[5]:=by unfold fa;rw[di h];rfl
 rw[e4,e5,<-List.map_take,<-List.map_drop];have:(v.take 6).drop 4=[v[4],v[5]]:=by rw[List.drop_take,drop_eq_getElem_cons (by omega:4<v.length),drop_eq_getElem_cons h];rfl
 rw[this];rfl
theorem qpb(v:List Wd)(m:Nat)(hv:Small v):ca (KC B0 w0) 99 [Hm v m] [] (Hb (dE (zz v))):=by
 have kj:=FU (B0:=B0) (w0:=w0) v m 4 hv zo;have ki:=Xs (B0:=B0) (w0:=w0) v m 0 [[49],[60],[49],[60]] hv zo da;have hF:zz v=if (Wl v 4).isSome=true/\Fz v 0 [[49],[60],[49],[60]]=true then (6,[fa v 4,fa v 5]) else (0,[]):=by simp only[zz,Fz,Yc,Mf,and_true]
 have hlen:∀ l,Wl v 4=some l->5<v.length:=λl h=>Cz h;unfold Hm at kj ki ⊢;generalize Wl v 4=oj at kj hF hlen;generalize Fz v 0 [[49],[60],[49],[60]]=q at ki hF;refine Xa Tryz.func99 rfl (n:=20) rfl rfl rfl ?_;refine Xd ?_;refine oS (sB (cs:=[.list (v.map str),.atom (.map (some m))]) rfl λb1=>?_);refine ja ?_;refine oS (S.Yh [_,_] rfl kj ?_);rintro lv ⟨s,rfl,hs⟩;refine oa ?_
 cases oj with
 |none=>
  refine qa ?_;refine Ca (λh=>?_) λh=>?_;cases h
  exact jI
 |some l=>have h5:=hlen l rfl;refine Ga ?_;refine oS (sL [.const (.string { data:=#[49] }),.const (.string { data:=#[60] }),.const (.string { data:=#[49] }),.const (.string { data:=#[60] })] rfl (Hd rfl rfl (Hd rfl rfl (Hd rfl rfl (Hd rfl rfl Ek)))) rfl rfl rfl ?_);refine qa ?_;refine oS (sF [_,_,_] rfl ki ?_);refine qa ?_;refine Ca (λh=>?_) λh=>?_;have hq:q=true:=h;subst hq;refine qa ?_;refine bj (m:=5) rfl [(b1,.cells 193 [.list (v.map str),.atom (.map (some m))])] ?_;refine aT 0 rfl rfl (pF rfl)<|aT 1 rfl rfl (pL (c:=.list _) rfl Bb rfl)<|Eb.take (i:=2) Ya rfl zk zk zk rfl (Pure.Zq (es:=v.map str) (i:=4) (j:=6) rfl ⟨_,rfl⟩ ⟨_,rfl⟩ zo zo (by rw[ab];omega) (JG v))<|aT 3 rfl rfl (pA (lv:=.atom _) rfl)<|aT 4 rfl rfl (pA (lv:=.list _) rfl)<|Iu ?_;refine qa ?_;exact Wa rfl (rC (Ic rfl) (rC (Gd (v:=.list _) rfl ld) rN)) (by rw[hF];exact congrArg (λx=>LV.tuple [int .i64 6,.list x]) (qoS h5));have hq:q=false:=h;subst hq;refine oa ?_;exact Wa rfl (rC (Ic rfl) (rC (Gd (v:=Ob) rfl vN) rN)) (by rw[hF];rfl)
theorem qnz(hG:GW B0 w0)(v:List Wd)(m:Nat)(hv:Small v):ca (KC B0 w0) 97 [Hm v m] [] (Hb (dE (wy v))):=by
 have k0:=Im (B0:=B0) (w0:=w0) v m 0 (by have:=hv.1;omega);have k1:=Im (B0:=B0) (w0:=w0) v m 1 (by have:=hv.1;omega);have k2:=Im (B0:=B0) (w0:=w0) v m 2 (by have:=hv.1;omega);have k3:=Im (B0:=B0) (w0:=w0) v m 3 (by have:=hv.1;omega);have kj:=qjT hG (fa v 0) (fa v 1) (fa v 2) (hv.at 0) (hv.at 2);have hF:wy v=if (fa v 1=[43]∨fa v 1=[42]∨fa v 1=[94])/\fa v 3=fa v 1 then
  (match Kj (fa v 0) (fa v 1) (fa v 2) with
  |some s=>(4,[s,fa v 1])
  |none=>(0,[]))
 else (0,[]):=rfl
 unfold Hm at k0 k1 k2 k3 ⊢;generalize Kj (fa v 0) (fa v 1) (fa v 2)=o at kj hF;generalize fa v 1=b at k1 kj hF;generalize fa v 3=d at k3 hF;refine Xa Tryz.func97 rfl (n:=38) rfl rfl rfl ?_;refine Xd ?_;refine oS (sB (cs:=[.list (v.map str),.atom (.map (some m))]) rfl λb1=>?_);refine ja ?_;refine oS (sF [_,_] rfl k1 ?_);refine ja ?_;refine wa.cut [(1,ptr b1 0),(4,str b),(24,bool (!decide ((b=[43]∨b=[42]∨b=[94])/\d=b)))] ?_ λj hj=>?_;refine oB 11 rfl (λh1=>?_) λh1=>?_;have e1:¬ b=[43]:=by simpa using h1
 refine Ga ?_;refine oB 15 rfl (λh2=>?_) λh2=>?_;have e2:¬ b=[42]:=by simpa using h2
 refine Ga ?_;refine oB 19 rfl (λh3=>?_) λh3=>?_;have e3:¬ b=[94]:=by simpa using h3
 refine qa ?_;exact⟨⟨rfl,rfl,Ae (by simp[e1,e2,e3]),trivial⟩,rfl,rfl⟩;have e3:b=[94]:=by simpa using h3
 refine Ga ?_;refine oS (sF [_,_] rfl k3 ?_);refine Ga ?_;exact⟨⟨rfl,rfl,Ae (by simp[e3]),trivial⟩,rfl,rfl⟩;have e2:b=[42]:=by simpa using h2
 refine Ga ?_;refine oS (sF [_,_] rfl k3 ?_);refine Ga ?_;exact⟨⟨rfl,rfl,Ae (by simp[e2]),trivial⟩,rfl,rfl⟩;have e1:b=[43]:=by simpa using h1
 refine Ga ?_;refine oS (sF [_,_] rfl k3 ?_);refine Ga ?_;exact⟨⟨rfl,rfl,Ae (by simp[e1]),trivial⟩,rfl,rfl⟩;refine Ca (λh=>?_) λh=>?_;have hn:¬ ((b=[43]∨b=[42]∨b=[94])/\d=b):=zf (Bool.not_eq_true' _▸h);rw[zn hn] at hF;refine Qj ?_;exact Wa hj (rC (Ic rfl) (rC (Gd (v:=Ob) rfl vN) rN)) (by rw[hF];rfl)
 have hn:(b=[43]∨b=[42]∨b=[94])/\d=b:=by by_cases hc:(b=[43]∨b=[42]∨b=[94])/\d=b;exact hc;rw[decide_eq_false hc] at h;cases h
 rw[zp hn] at hF;refine qa ?_;refine bj (m:=11) rfl [(b1,.cells 193 [.list (v.map str),.atom (.map (some m))])] ?_;refine aT 0 rfl rfl (pG (Ab:=[_,_]) rfl Bb rfl rfl)<|Ju ?_;refine aT 3 rfl rfl (pG (Ab:=[_,_]) rfl Bb rfl rfl)<|mI ?_;refine lO 4 (lS (H1:=[]) rfl (.inl rfl) rfl Kb Ya (sF [_,_] rfl k2 ?_));refine lO 5 (lS (H1:=[]) rfl (.inl rfl) rfl Kb Ya (S.Yh [_,_,_] rfl kj ?_));rintro lv ⟨s,rfl,hs⟩;refine Tf.any [(b1,.cells 193 [.list (v.map str),.atom (.map (some m))])] (λ_ h=>h) ?_;refine aT 6 rfl rfl (pM (lv:=.tuple _) rfl)<|aT 7 rfl rfl (Pure.extract (c:=.atom _) rfl rfl)<|aT 8 rfl rfl (Pure.extract (c:=.atom _) rfl rfl)<|aT 9 rfl rfl (pA (lv:=.atom _) rfl)<|aT 10 rfl rfl (pA (lv:=.atom _) rfl)<|Iu ?_;refine Xh ?_;refine Ca (λh=>?_) λh=>?_;obtain⟨l,rfl⟩:=zR h;obtain rfl:=hs l rfl;refine Bd ?_;refine oS (sL [.tmp 35,.tmp 36] rfl (Hd rfl rfl (Hd rfl rfl Ek)) rfl rfl rfl ?_);refine Ga ?_;exact Wa hj (rC (Ic rfl) (rC (Gd (v:=.list _) rfl ld) rN)) (by rw[hF];rfl)
 obtain rfl:o=none:=by
  cases o with
  |none=>rfl
  |some l=>cases h
 refine oa ?_;exact Wa hj (rC (Ic rfl) (rC (Gd (v:=Ob) rfl vN) rN)) (by rw[hF];rfl)
theorem qnc(h:v.length<=i):fq (v.drop i)=0:=by rw[List.drop_eq_nil_of_le h];rfl
theorem qpq(h:i<v.length)(hd:(ma v[i]).isSome=true):fq (v.drop i)=0:=by
 unfold fq;rw[drop_eq_getElem_cons h,List.takeWhile_cons_of_neg (λhc=>absurd (show(ma v[i]).isNone=true from hc) (by
  cases hx:ma v[i] with
  |none=>rw[hx] at hd;cases hd
  |some d=>simp))]
 rfl
theorem qok(h:i<v.length)(hd:(ma v[i]).isSome=false):fq (v.drop i)=fq (v.drop (i+1))+1:=by unfold fq;rw[drop_eq_getElem_cons h,List.takeWhile_cons_of_pos (by simpa using hd)];rfl
theorem qyO{n:Nat}(hn:n=wj v)(h0:n=0->i=0)(hi:n<=i)(hE:0<n->fq (v.drop n)=i-n):uz v=if n<i then (i,v.take n) else (0,[]):=by unfold uz;rw[<-hn];by_cases h:0<n;rw[hE h];by_cases hj:n<i;rw[zp ⟨h,by omega⟩,zp hj,show n+(i-n)=i by omega];rw[zn λhc=>hj zo,zn hj];rw[zn λhc=>h hc.1,zn (by have:=h0 zo;omega)]
theorem qta(v:List Wd)(m:Nat)(hv:Small v):ca (KC B0 w0) 102 [Hm v m] [] (Hb (dE (uz v))):=by
 have BB:(v.map str).length=v.length:=ab _;have hl:=hv.1;have k0:=Im (B0:=B0) (w0:=w0) v m 0 (by have:=hv.1;omega);have kj:=FU (B0:=B0) (w0:=w0) v m 1 hv zo;have hS:wj v=if (Wl v 1).isSome=true/\fa v 0=[48] then 3 else if fa v 0=[59]∨fa v 0=[36] then 1 else 0:=rfl
 have hD:=λ{n i:Nat}=>qyO (v:=v) (n:=n) (i:=i);unfold Hm at k0 kj ⊢;generalize wj v=n at hS hD;generalize Wl v 1=oj at kj hS;generalize fa v 0=a at k0 hS;have hn3:n<=3:=by rw[hS];split;omega;split <;> omega
 refine Xa Tryz.func102 rfl (n:=59) rfl rfl rfl ?_;refine Xd ?_;refine oS (sB (cs:=[.list (v.map str),.atom (.map (some m))]) rfl λb1=>?_)
 repeat (first|refine wa.nil ?_|refine qN ?_|refine ia (pA (lv:=.atom _) rfl) ?_)
 refine Xd ?_;repeat (first|refine wa.nil ?_|refine qN ?_|refine ia (pA (lv:=.atom _) rfl) ?_)
 refine Qa.seq ?_;refine Wz [(1,ptr b1 0),(4,int .i64 (n:Nat))] ?_ λj hj=>?_;refine ja ?_;refine oS (S.Yh [_,_] rfl kj ?_);rintro lv ⟨s,rfl,hs⟩;refine oa ?_;refine wa.cut [(1,ptr b1 0),(4,int .i64 0),(20,bool (decide (oj.isSome=true/\a=[48])))] ?_ λj2 tc=>?_
 cases oj with
 |none=>refine qa ?_;exact⟨⟨rfl,rfl,Ae (by simp),trivial⟩,rfl,rfl⟩
 |some l=>refine Ga ?_;refine oS (sF [_,_] rfl k0 ?_);refine qa ?_;exact⟨⟨rfl,rfl,Ae (by simp),trivial⟩,rfl,rfl⟩
 refine Ca (λh=>?_) λh=>?_;rw[zp (zt h)] at hS;subst hS;refine Ln ?_;exact⟨jb,rfl,tc⟩;rw[zn (zf h)] at hS;refine ja ?_;refine oS (sF [_,_] rfl k0 ?_);refine qa ?_;refine wa.cut [(1,ptr b1 0),(4,int .i64 0),(28,bool (decide (a=[59]∨a=[36])))] ?_ λj3 Om=>?_;refine oB 24 rfl (λh1=>?_) λh1=>?_;have e1:a=[59]:=zt h1;refine qa ?_;exact⟨⟨rfl,rfl,Ae (by simp[e1]),trivial⟩,rfl,rfl⟩;have e1:¬ a=[59]:=zf h1;refine Ga ?_;refine oS (sF [_,_] rfl k0 ?_);refine qa ?_;exact⟨⟨rfl,rfl,Ae (by simp[e1]),trivial⟩,rfl,rfl⟩;refine Ca (λh=>?_) λh=>?_;rw[zp (zt h)] at hS;subst hS;refine Ln ?_;exact⟨jb,rfl,Om.trans tc⟩;rw[zn (zf h)] at hS;subst hS;refine qa ?_;exact⟨jb,rfl,Om.trans tc⟩;refine oa ?_
 refine oL (λk ls H=>∃ i:Nat,n<=i/\(i<=v.length∨i=n)/\(n=0->i=0)/\k=v.length+4-i/\ls=[(1,ptr b1 0),(4,int .i64 (n:Nat)),(7,int .i64 (i:Nat))]/\H=[(b1,.cells 193 [.list (v.map str),.atom (.map (some m))])]/\fq (v.drop n)=(i-n)+fq (v.drop i))
  ⟨_,_,_,⟨n,Nb _,Or.inr rfl,id,rfl,rfl,rfl,by omega⟩,jb,Tb _⟩ ?_
 rintro k ls H ⟨i,AV,hi,h0,rfl,rfl,rfl,hE⟩ j1 Vf;refine ja ?_;refine wa.cut [(1,ptr b1 0),(4,int .i64 (n:Nat)),(7,int .i64 (i:Nat)),(38,bool (decide (0<n/\i<v.length)))] ?_ λj2 tc=>?_;refine oB 32 rfl (λh1=>?_) λh1=>?_;have e1:0<n:=by have:=zt h1;omega
 refine Ga ?_;exact⟨⟨rfl,rfl,rfl,Ae (by rw[decide_eq_decide];omega),trivial⟩,rfl,rfl⟩;have e1:¬ 0<n:=by have:=zf h1;omega
 refine qa ?_;exact⟨⟨rfl,rfl,rfl,Ae (by simp[e1]),trivial⟩,rfl,rfl⟩;refine Ca (λh=>?_) λh=>?_;obtain⟨Mt,za⟩:=zt h;have kd:=VZ (B0:=B0) (w0:=w0) v[i] (by have:=hv.2 _ (List.getElem_mem za);omega);refine ja ?_;refine ia (xR (ve:=str v[i]) (cs:=[str v[i]]) rfl rfl zo (rn _ _ _ za) rfl rfl)<|Ga ?_;refine oS (S.Yh [_] rfl kd ?_);rintro lv ⟨s,rfl,hs⟩;refine oa ?_;refine Ca (λh2=>?_) λh2=>?_;rw[qpq za h2] at hE
 replace hD:=hD rfl h0 AV (λ_=>by omega);refine ja ?_;refine Ca (λh3=>?_) λh3=>?_;exact gN;exact nN;rw[qok za (by simpa using h2)] at hE;refine oa ?_;exact⟨_,_,_,by omega,⟨i+1,by omega,Or.inl zo,by omega,rfl,rfl,rfl,by omega⟩,jb,Tb _,tc.trans Vf⟩;have hc:=zf h
 replace hD:=hD rfl h0 AV (λh=>by rw[qnc (v:=v) (i:=i) zo] at hE;omega)
 refine oa ?_;refine Ca (λh3=>?_) λh3=>?_;exact gN;exact nN
end Go.Proofs.YtmnjklgnhpnckaaGreatDoor.Pp
namespace Go.Proofs.YtmnjklgnhpnckaaGreatDoor.Pp
open Go.GL Go.RowKit Go.ea
open Sp (Xk Xk.mk rp)
def YK(used:Wd->Bool)(v:List Wd):List Oq:=[oy v,DA v,wy v,sz v,zz v,py v,fy v,uz v,uu used v]
def mG:List Oq->Oq
 |[]=>(0,[])
 |r::l=>if r.1≠0 then r else mG l
theorem qpC{used:Wd->Bool}{v:List Wd}(h:(uu used v).1=0):uu used v=(0,[]):=by
 unfold uu at h ⊢;revert h;cases ma (fa v 0) with
 |none=>exact λ_=>rfl
 |some l=>intro h;simp only at h ⊢;by_cases hu:used l=true;rw[zp hu];rw[zn hu] at h;cases h
theorem qpa(used:Wd->Bool)(v:List Wd):ue used v=mG (YK used v):=by have hz:=λh=>qpC (used:=used) (v:=v) h;unfold ue YK;generalize oy v=a1;generalize DA v=a2;generalize wy v=a3;generalize sz v=a4;generalize zz v=a5;generalize py v=a6;generalize fy v=a7;generalize uz v=a8;generalize uu used v=a9 at hz;simp only[mG];by_cases h9:a9.1≠0;rw[zp h9];rw[zn h9,hz (Decidable.not_not.1 h9)]
theorem qpA{l:List Oq}{i:Nat}(h:i<l.length):mG (l.drop i)=if l[i].1≠0 then l[i] else mG (l.drop (i+1)):=by rw[drop_eq_getElem_cons h,mG]
theorem qrw{l:List Oq}{i:Nat}(h:l.length<=i):mG (l.drop i)=(0,[]):=by rw[List.drop_eq_nil_of_le h];try rfl
theorem qtD(used:Wd->Bool)(v:List Wd):(YK used v).length=9:=rfl
theorem quk(used:Wd->Bool)(f:Nat):Wj used f []=[]:=by cases f <;> rfl
theorem qrW(used:Wd->Bool)(f:Nat)(w:Wd)(r:List Wd):Wj used (f+1) (w::r)=if (ue used (w::r)).1=0 then w::Wj used f r else (ue used (w::r)).2++Wj used f ((w::r).drop (ue used (w::r)).1):=rfl
theorem qrP(l:List Wd)(k:Nat)(h:k<l.length)(s:Wd):dd (l.take (k+1)) s=(dd (l.take k) s || decide (La l[k]=some s)):=by unfold dd;rw[List.take_succ_eq_append_getElem h,List.any_append];simp
attribute [local irreducible] wa Qa Ra ca Go.GL.Pure Ud xe od LQ Eb Tf Rh
theorem XI(l:List Wd):((l.map str).flatMap LV.cells).all Tq=true:=by
 induction l with
 |nil=>rfl
 |cons a l ih=>rw[jd,List.flatMap_cons,List.all_append,ih];rfl
theorem qtv(l:List Wd)(i:Nat):((l.map str).take (((l.map str).length:Nat):Int).toNat).drop ((i:Nat):Int).toNat=(l.drop i).map str:=by rw[Int.toNat_natCast,Int.toNat_natCast,take_length,List.map_drop]
theorem qu5{s:Nat}{v:LV}{es:List LV}{H:Heap}{q:Nat×ga}(h:Acc s v es H [q]):∃ F,H.Perm ([q]++F):=by
 cases h with
 |nil=>exact⟨[],List.Perm.refl _⟩
 |row=>exact⟨[_],Vp ..⟩
theorem Small.drop{l:List Wd}(h:Small l)(i:Nat):Small (l.drop i):=
 ⟨by have:=h.1;rw[List.length_drop];omega,λw hw=>h.2 w (List.mem_of_mem_drop hw)⟩
def Hr(k:Nat):LV:=.atom (.func (.func (95+k)) #[] #[])
variable{B0:Nat}{w0:World}
theorem qso(hG:GW B0 w0)(l:List Wd)(hv:Small l):ca (KC B0 w0) 51 [.list (l.map str)] [] (Hb (.list ((dp l).map str))):=by
 have BB:(l.map str).length=l.length:=ab _;have hl:=hv.1;refine Xa Tryz.func51 rfl (n:=73) rfl rfl rfl ?_;refine Ln ?_;refine oS (S.makeMap λm=>?_);refine ja ?_;refine oL (λk ls H=>∃ (i:Nat) (es:Array MapEntry) (clock:Nat),i<=l.length/\k=l.length-i/\ls=[(0,.list (l.map str)),(3,.atom (.map (some m))),(17,.list (l.map str)),(18,int .i64 l.length),(19,int .i64 (i:Nat))]/\H=[(m,.obj (.map es clock))]/\qe es (dd (l.take i)))
  ⟨_,_,_,⟨0,#[],0,zero_le _,rfl,rfl,rfl,qe.nil⟩,jb,Tb _⟩ ?_
 rintro k ls H ⟨i,es,clock,hi,rfl,rfl,rfl,hM⟩ j1 Vf;refine wg ?_;refine Ca (λhc=>?_) λhc=>?_;have za:i<l.length:=by have:=zt hc;omega
 have kr:=qgK (B0:=B0) (w0:=w0) l[i] (by have:=hv.2 _ (List.getElem_mem za);omega);have hU:dd (l.take (i+1))=λs=>dd (l.take i) s || decide (La l[i]=some s):=funext λs=>qrP l i za s;refine Zi ?_;refine ia (xR (ve:=str l[i]) (cs:=[str l[i]]) rfl rfl zo (rn _ _ _ za) rfl rfl)<|ja ?_;refine oS (S.Yh [_] rfl kr ?_);rintro lv ⟨s,rfl,hs⟩;refine oa ?_;refine Ca (λh=>?_) λh=>?_;obtain⟨d,hd⟩:=zR h;obtain rfl:=hs d hd;refine Bd ?_;refine oS (S.Ou (t:=112) (kt:=9) (el:=4) zk zk rfl rfl rfl pH hM λRo mc BR=>?_);refine rl ?_
 exact⟨_,_,_,by omega,⟨i+1,Ro,mc,by omega,rfl,rfl,rfl,by
  rw[hU,hd];exact cast (by congr;funext x;simp[eq_comm]) BR⟩,jb,Tb _,Vf⟩
 have hn:La l[i]=none:=by
  cases ho:La l[i] with
  |none=>rfl
  |some d=>rw[ho] at h;cases h
 refine oa ?_;exact⟨_,_,_,by omega,⟨i+1,es,clock,by omega,rfl,rfl,rfl,by
  rw[hU,hn];exact cast (by congr;funext x;simp) hM⟩,jb,Tb _,Vf⟩
 have xi:i=l.length:=by have:=zf hc;omega
 subst xi;rw[take_length] at hM;refine oa ?_;refine oS (sL [.func 95,.func 96,.func 97,.func 98,.func 99,.func 100,.func 101,.func 102,.func 103] rfl (Hd rfl rfl (Hd rfl rfl (Hd rfl rfl (Hd rfl rfl (Hd rfl rfl (Hd rfl rfl (Hd rfl rfl (Hd rfl rfl (Hd rfl rfl Ek))))))))) rfl rfl rfl ?_);refine ja ?_;refine oL (λk ls H=>∃ (i f:Nat) (out:List Wd) (v:LV),i<=l.length/\k=l.length-i/\ls=[(0,.list (l.map str)),(3,.atom (.map (some m))),(8,.list ((List.range 9).map Hr)),(9,v),(10,int .i64 (i:Nat))]/\Acc 1 v (out.map str) H [(m,.obj (.map es clock))]/\l.length-i<=f/\out.length<=i/\out++Wj (dd l) f (l.drop i)=dp l)
  ⟨_,_,_,⟨0,l.length,[],Ob,zero_le _,rfl,rfl,Acc.nil,by omega,zero_le _,rfl⟩,jb,Tb _⟩ ?_
 rintro k ls H ⟨i,f,out,v,hi,rfl,rfl,kb,hf,hlen,hE⟩ j2 tc;have FM:(out.map str).length=out.length:=ab _;refine ja ?_;refine Ca (λhc=>?_) λhc=>?_
 ·have za:i<l.length:=by have:=zt hc;omega
  obtain⟨f,rfl⟩:∃ g,f=g+1:=⟨f-1,by omega⟩;have hR:(ue (dd l) (l.drop i)).1≠0->(ue (dd l) (l.drop i)).1<=(l.drop i).length/\(ue (dd l) (l.drop i)).2.length<(ue (dd l) (l.drop i)).1:=BG (dd l) (l.drop i);have hF:=qpa (dd l) (l.drop i);have hl9:=qtD (dd l) (l.drop i);rw[drop_eq_getElem_cons za,qrW,<-drop_eq_getElem_cons za,List.drop_drop] at hE;have qF:(l.drop i).length=l.length-i:=List.length_drop;repeat (first|refine wa.nil ?_|refine qN ?_|refine Qa.skip ?_|refine Qa.block ?_)
  refine Qa.seq ?_;repeat (first|refine wa.nil ?_|refine qN ?_|refine Qa.region ?_|refine ia (pA (lv:=.atom _) rfl) ?_)
  refine Qa.seq ?_;refine cM (A:=Nat×List Wd×LV×Heap) (λa=>[(0,.list (l.map str)),(3,.atom (.map (some m))),(8,.list ((List.range 9).map Hr)),(9,a.2.2.1),(10,int .i64 (i:Nat)),(11,int .i64 a.1)]) (λa=>a.2.2.2)
   (λa=>a.1=(ue (dd l) (l.drop i)).1/\a.2.1=(if (ue (dd l) (l.drop i)).1=0 then out else out++(ue (dd l) (l.drop i)).2)/\Acc 1 a.2.2.1 (a.2.1.map str) a.2.2.2 [(m,.obj (.map es clock))]) ?_ ?_
  refine ja ?_;refine oL (λk ls H1=>∃ x:Nat,x<=9/\k=9-x/\ls=[(0,.list (l.map str)),(3,.atom (.map (some m))),(8,.list ((List.range 9).map Hr)),(9,v),(10,int .i64 (i:Nat)),(11,int .i64 0),(37,.list ((List.range 9).map Hr)),(38,int .i64 9),(39,int .i64 (x:Nat))]/\H1=H/\ue (dd l) (l.drop i)=mG ((YK (dd l) (l.drop i)).drop x)) ?_ ?_;exact⟨_,_,_,⟨0,zero_le _,rfl,rfl,rfl,hF⟩,jb,Tb _⟩;rintro k ls H1 ⟨x,hx,rfl,rfl,rfl,hX⟩ j3 Om;refine wg ?_;refine Ca (λhc=>?_) λhc=>?_;have E1:x<9:=by have:=zt hc;omega
  rw[qpA zo] at hX;refine Zi ?_;refine ia (xR (ve:=Hr x) (cs:=[Hr x]) rfl rfl zo (by
   have:=rn Hr (List.range 9) x (by simpa using E1);rw[List.getElem_range] at this;exact this) rfl rfl) ?_
  refine ja ?_;refine ia (show Go.GL.Pure _ _ _ _ (.list ((l.drop i).map str)) from qtv l i▸Pure.Zq (es:=l.map str) (i:=((i:Nat):Int)) (j:=(((l.map str).length:Nat):Int)) rfl ⟨_,rfl⟩ rfl zo zo zo (JG l))<|Ga ?_;have Hz:=hv.drop i;have hxl:x<(YK (dd l) (l.drop i)).length:=by omega
  generalize hr:(YK (dd l) (l.drop i))[x]=r at hX;refine wa.cut [(0,.list (l.map str)),(3,.atom (.map (some m))),(8,.list ((List.range 9).map Hr)),(9,v),(10,int .i64 (i:Nat)),(11,int .i64 0),(14,int .i64 (r.1:Nat)),(15,.list (r.2.map str)),(37,.list ((List.range 9).map Hr)),(38,int .i64 9),(39,int .i64 (x:Nat))] ?_ λj4 pr=>?_;clear hX;have h9:x=0∨x=1∨x=2∨x=3∨x=4∨x=5∨x=6∨x=7∨x=8:=by omega
  rcases h9 with rfl|rfl|rfl|rfl|rfl|rfl|rfl|rfl|rfl;obtain rfl:oy (l.drop i)=r:=hr;refine oS (S.kD (f:=95) [_] rfl rfl (qs6 hG (l.drop i) m Hz) ?_);refine Ga ?_;exact⟨jb,rfl,rfl⟩;obtain rfl:DA (l.drop i)=r:=hr;refine oS (S.kD (f:=96) [_] rfl rfl (qnN (B0:=B0) (w0:=w0) (l.drop i) m Hz) ?_);refine Ga ?_;exact⟨jb,rfl,rfl⟩;obtain rfl:wy (l.drop i)=r:=hr;refine oS (S.kD (f:=97) [_] rfl rfl (qnz hG (l.drop i) m Hz) ?_);refine Ga ?_;exact⟨jb,rfl,rfl⟩;obtain rfl:sz (l.drop i)=r:=hr;refine oS (S.kD (f:=98) [_] rfl rfl (quG hG (l.drop i) m Hz) ?_);refine Ga ?_;exact⟨jb,rfl,rfl⟩;obtain rfl:zz (l.drop i)=r:=hr;refine oS (S.kD (f:=99) [_] rfl rfl (qpb (B0:=B0) (w0:=w0) (l.drop i) m Hz) ?_);refine Ga ?_;exact⟨jb,rfl,rfl⟩;obtain rfl:py (l.drop i)=r:=hr;refine oS (S.kD (f:=100) [_] rfl rfl (qr7 hG (l.drop i) m Hz) ?_);refine Ga ?_;exact⟨jb,rfl,rfl⟩;obtain rfl:fy (l.drop i)=r:=hr;refine oS (S.kD (f:=101) [_] rfl rfl (quw (B0:=B0) (w0:=w0) (l.drop i) m Hz) ?_);refine Ga ?_;exact⟨jb,rfl,rfl⟩;obtain rfl:uz (l.drop i)=r:=hr;refine oS (S.kD (f:=102) [_] rfl rfl (qta (B0:=B0) (w0:=w0) (l.drop i) m Hz) ?_);refine Ga ?_;exact⟨jb,rfl,rfl⟩;obtain rfl:uu (dd l) (l.drop i)=r:=hr;obtain⟨F,hp⟩:=qu5 kb;refine oS (S.yl (f:=103) (H1:=[(m,.obj (.map es clock))]) (F:=F) [_] rfl rfl hp (qpp (B0:=B0) (w0:=w0) (l.drop i) m Hz hM) (λv' H' hh=>?_) (by rintro ch H' ⟨h,_⟩;cases h));obtain⟨PC,rfl⟩:=hh;cases PC;refine wa.Zb ⟨[],by simpa using hp.symm⟩ ?_;refine Ga ?_;exact⟨jb,rfl,rfl⟩;refine ja ?_;refine Ca (λhn=>?_) λhn=>?_;have Mt:r.1≠0:=by have:=zt hn;omega
  rw[zp Mt] at hX;rw[hX] at hR;obtain⟨hR1,vg⟩:=hR Mt;have zj:(r.2.map str).length=r.2.length:=ab _;refine Pj ?_;refine Zm ?_;refine qa ?_;refine oS (S.acc rfl kb rfl (JG _) (XI _) zo λv' H' qb=>?_);refine ik ?_;refine Ga ?_;exact⟨(r.1,out++r.2,v',H'),⟨by rw[hX],by rw[hX,zn Mt],by rw[Lf];exact qb⟩,jb,Tb _,pr.trans Om⟩;have Mt:r.1=0:=by have:=zf hn;omega
  rw[zn zo] at hX;refine oa ?_;exact⟨_,_,_,by omega,⟨x+1,by omega,rfl,rfl,rfl,hX⟩,jb,Tb _,pr.trans Om⟩;have E1:x=9:=by have:=zf hc;omega
  subst E1;rw[qrw zo] at hX;refine qa ?_;exact⟨(0,out,v,H1),⟨by rw[hX],by rw[hX];rfl,kb⟩,jb,Tb _,Om⟩;rintro⟨n,Yq,v',H'⟩ ⟨Kz,Vv,qb⟩ j5 nF;simp only at Kz Vv qb;have aam:(Yq.map str).length=Yq.length:=ab _;rw[<-Kz] at hR Vv hE;refine oa ?_;refine Ca (λhn=>?_) λhn=>?_;have Mt:n=0:=by have:=zt hn;omega
  rw[zp Mt] at Vv hE;subst Vv;refine Ln ?_;refine ia (pM (lv:=v') rfl)<|qa ?_;refine ia (xR (ve:=str l[i]) (cs:=[str l[i]]) rfl rfl zo (rn _ _ _ za) rfl rfl)<|Ga ?_;refine Ui ?_;refine oS (S.acc rfl qb rfl (by simp;rfl) rfl (by simp;omega) λv2 H2 Od=>ia (pA (lv:=v2) rfl) ?_);refine oa ?_;exact⟨_,_,_,by omega,⟨i+1,f,Yq++[l[i]],v2,by omega,rfl,rfl,by rw[Lf];exact Od,by omega,by simp;omega,by rw[Pc];exact hE⟩,jb,Tb _,nF.trans tc⟩;have Mt:n≠0:=by have:=zf hn;omega
  rw[zn Mt] at Vv hE;obtain⟨hR1,vg⟩:=hR Mt;have Qp:Yq.length=out.length+(ue (dd l) (l.drop i)).2.length:=by rw[Vv,ya]
  refine oa ?_;exact⟨_,_,_,by omega,⟨i+n,f,Yq,v',by omega,rfl,rfl,qb,by omega,by omega,by rw[Vv,Pc];exact hE⟩,jb,Tb _,nF.trans tc⟩
 have xi:i=l.length:=by have:=zf hc;omega
 subst xi;rw[List.drop_length,quk,Jd] at hE;subst hE;refine Qa.sub (d:=9) (v:=v) rfl kb.sub ?_;refine cW Vc ?_;refine ja ?_;exact Wa (tc.trans Vf) (rC (Gd (v:=.list _) rfl ld) rN) rfl
open Sp (Xk Xk.mk rp Vi)
theorem ah(sep:List UInt8)(ws:List (List UInt8))(hn:ws.length<=1000000000)(hl:(Go.Lib.join ws sep).length<=1000000000):ca (KC B0 w0) 49 [.list (ws.map str),str sep] [] (Hb (str (Go.Lib.join ws sep))):=Sp.ah sep ws hn hl
theorem qr5(hG:GW B0 w0)(s:List UInt8)(hs:s.length<=1000000):ca (KC B0 w0) 50 [str s] [] (Hb (.list ((xj s).map str))):=by
 have ht:=Sp.Fm hG.base hG.mx s zo;have BB:((nu s).map Vi).length=(nu s).length:=ab _;have jB:(nu s).length<=s.length+1:=by have h1:=oZ s;rw[<-lJ,ab] at h1;exact h1
 rw[<-lJ];generalize nu s=l at ht BB jB;refine Xa Tryz.func50 rfl (n:=20) rfl rfl rfl ?_;refine Pj ?_;refine oS (sF [_] rfl ht ?_);refine Ga ?_;refine oL (λk ls H=>∃ (v:LV) (i:Nat),i<=l.length/\k=l.length-i/\ls=[(3,v),(7,.list (l.map Vi)),(8,int .i64 l.length),(9,int .i64 (i:Nat))]/\Acc 1 v (((l.take i).map (·.1)).map str) H [])
  ⟨_,_,_,⟨Ob,0,zero_le _,rfl,rfl,by simpa using Acc.nil⟩,jb,Tb _⟩ ?_
 rintro k ls H ⟨v,i,hi,rfl,rfl,kb⟩ j hj;refine wg ?_;refine Ca (λhc=>?_) λhc=>?_;have za:i<l.length:=by have:=zt hc;omega
 refine ID ?_;refine oS (Rc λb5=>?_);refine ja ?_;refine Zm ?_;refine qa ?_;refine Ui ?_;refine oS (S.nw rfl kb rfl (by simp;rfl) rfl (by simp;omega) λv' H' qb=>?_);refine ik ?_;refine rl ?_
 exact⟨_,_,_,by omega,⟨v',i+1,by omega,rfl,rfl,by
  rw[List.take_succ_eq_append_getElem za,Lf,Lf];exact qb⟩,jb,Gg Ya,hj⟩
 have xi:i=l.length:=by have:=zf hc;omega
 subst xi;rw[take_length] at kb;refine Qa.sub (d:=3) (v:=v) rfl kb.sub ?_;refine cW Vc ?_;refine ja ?_;exact Wa hj (rC (Gd (v:=.list _) rfl ld) rN) rfl
theorem quN{l:List Wd}(h:kf l<=1000000):Small l:=⟨by have:=HT l;omega,λw hw=>by have:=qsq hw;omega⟩
theorem Kp(hG:GW B0 w0)(s:List UInt8)(hs:s.length<=1000000):ca (KC B0 w0) 29 [str s] [] (Hb (.tuple [str (LC s).1,int .i64 (LC s).2])):=by
 refine Xa Tryz.func29 rfl (n:=21) rfl rfl rfl ?_;refine ja ?_;refine Ca (λh1=>?_) λh1=>?_;have za:400000<s.length:=by have:=zt h1;omega
 have hO:LC s=([],6):=by unfold LC;rw[zp za]
 refine Qj ?_;exact Wa rfl (rC (Ic rfl) (Oa rfl)) (by rw[hO];rfl);have za:¬ 400000<s.length:=by have:=zf h1;omega
 have hO:LC s=(Go.Lib.join (Uh (xj s)) [32],0):=by unfold LC;rw[zn za]
 have ht:=IU s;have hc:=qiW s;refine oa ?_;refine oS (sF [_] rfl (qr5 hG s hs) ?_);refine Ga ?_;refine oL (λk ls H=>∃ l:List Wd,k=l.length/\ls=[(4,.list (l.map str))]/\H=[]/\kf l<=400001/\(∀ w∈l,Hj w)/\Uh (xj s)=Uh l)
  ⟨_,_,_,⟨_,rfl,rfl,rfl,by omega,hc,rfl⟩,jb,Tb _⟩ ?_
 rintro k ls H ⟨l,rfl,rfl,rfl,jB,oe,hE⟩ j hj;have h1:=qso hG l (quN zo);have h2:=quI l;have cw:=qrF oe;have hjt:=SL l;have aau:=SL (dp l);have J3:=HT l;have aar:=HT (dp l);have cK:=UX l;have j1:=ah (B0:=B0) (w0:=w0) [32] l zo zo;have j2:=ah (B0:=B0) (w0:=w0) [32] (dp l) zo zo;refine oa ?_;refine oS (sF [_] rfl h1 ?_);refine ja ?_;refine oS (sF [_,_] rfl j2 ?_);refine qa ?_;refine oS (sF [_,_] rfl j1 ?_);refine qa ?_;refine Ca (λh3=>?_) λh3=>?_;have he:=qvt cw oe (zt h3);rw[qxH he] at hE;rw[hE] at hO;refine oa ?_;refine oS (sF [_,_] rfl j1 ?_);refine qa ?_;exact Wa hj (rC (Ic rfl) (Oa rfl)) (by rw[hO];rfl);have ub:¬ dp l=l:=λh=>zf h3 (by rw[h]);rw[qun ub] at hE;refine ja ?_;exact⟨_,_,_,by rcases cK with h|h;exact absurd h ub;exact h,⟨dp l,rfl,rfl,rfl,by omega,cw,hE⟩,jb,Tb _,hj⟩
end Go.Proofs.YtmnjklgnhpnckaaGreatDoor.Pp
namespace Go.Proofs.YtmnjklgnhpnckaaGreatDoor.pi
open Go.GL Go.RowKit Go.ea
@[reducible] def u32(n:Nat):LV:=int .u32 (n:Int)
theorem Qh{x:Nat×ga}{H:Heap}:(x::H).Perm (H++[x]):=Nh (l₁:=[x])
theorem He{kind:Int}{name:List UInt8}{index value:List Ex}{Ka fb:List Sm}(h:yh (.mk kind name index value Ka fb)=true)(h7:¬ kind=7):∃ x,value=[x]:=by
 have h1:value.length=1:=by
  simp only[yh] at h;repeat' (split at h)
  all_goals first
   |(simp only[Mf] at h;omega)
   |cases h
   |contradiction
 cases value with
 |nil=>cases h1
 |cons x l=>
  cases l with
  |nil=>exact⟨x,rfl⟩
  |cons y l=>simp at h1
theorem ew{name:List UInt8}{index value:List Ex}{Ka fb:List Sm}(h:yh (.mk 2 name index value Ka fb)=true):∃ x,index=[x]:=by
 have h1:index.length=1:=by simp only[yh] at h;simp only[show ¬ ((2:Int)=1) by decide,if_false,if_true,Mf] at h;exact h.2.1
 cases index with
 |nil=>cases h1
 |cons x l=>
  cases l with
  |nil=>exact⟨x,rfl⟩
  |cons y l=>simp at h1
end Go.Proofs.YtmnjklgnhpnckaaGreatDoor.pi
namespace Go.Proofs.YtmnjklgnhpnckaaGreatDoor.Ti
open Go.GL Go.RowKit Go.ea
variable{d:Nat}{fb Ka:List Sm}{err:Int}{index value:List Ex}{name:List UInt8}{o:Value}{s:Nm}
theorem IY{kind:Int}(h:yh (.mk kind name index value Ka fb)=true)(h2:¬ kind=2):index=[]:=by
 have h1:index.length=0:=by
  simp only[yh] at h;repeat' (split at h)
  all_goals first
   |(simp only[Mf] at h;omega)
   |cases h
   |contradiction
 exact List.length_eq_zero_iff.1 h1
theorem EP{kind:Int}(h:yh (.mk kind name index value Ka fb)=true)(h3:¬ kind=3)(h4:¬ kind=4):Ka=[]/\fb=[]:=by
 have h1:Ka.length=0/\fb.length=0:=by
  simp only[yh] at h;repeat' (split at h)
  all_goals first
   |(simp only[Mf] at h;constructor <;> omega)
   |cases h
   |contradiction
 exact⟨List.length_eq_zero_iff.1 h1.1,List.length_eq_zero_iff.1 h1.2⟩
theorem qq4(h:yh (.mk 7 name index value Ka fb)=true):value=[]:=by
 have h1:value.length=0:=by
  simp only[yh] at h;repeat' (split at h)
  all_goals first
   |(simp only[Mf] at h;omega)
   |cases h
   |contradiction
 exact List.length_eq_zero_iff.1 h1
attribute [local irreducible] wa Qa Ra ca Go.GL.Pure Ud xe od LQ Eb Tf Rh LS
variable{B0:Nat}{w0:World}
def qAq(B0:Nat)(w0:World)(k:KB)(c:gb)(n:Nat):Prop:=∀ (x:Sm) (d:Nat),vp x<=n->d<=200000000->ca (KC B0 w0) 201 [ptr k.cb 0,Yb x] (Ef k d) (ly (xk c x) (iv (sC c x)) (Ef k (max d (Jr c x))))
def qzk(B0:Nat)(w0:World)(k:KB)(c:gb)(n:Nat):Prop:=∀ (l:List Sm) (d:Nat),pd l<=n->d<=200000000->ca (KC B0 w0) 155 [ptr k.cb 0,.list (l.map Yb)] (Ef k d) (ly (Gh c l) (iv (Wk c l)) (Ef k (max d (Xi c l))))
theorem QP{k:KB}{c:gb}{B D:Nat}(hB:Hs B D c.funcs)(QB:D<=100000000){n:Nat}(hn6:n<=2000000)(ih:qAq B0 w0 k c n):qzk B0 w0 k c n:=by
 intro l d dh hd;have LB:=eJ l;generalize hN:Wk c l=N;generalize Yi:max d (Xi c l)=DD;refine Xa Tryz.func155 rfl (n:=21) rfl rfl rfl ?_;refine ja ?_;refine oL (λkk ls H'=>∃ (pre l1:List Sm) (m d1:Nat),l=pre++l1/\kk=l1.length/\ls=[(0,ptr k.cb 0),(5,iv m),(8,.list (l.map Yb)),(9,int .i64 ((l.map Yb).length:Int)),(10,iv pre.length)]/\H'=Ef k d1/\d1<=200000000/\Gh c l1=Gh c l/\max m (Wk c l1)=N/\max d1 (Xi c l1)=DD)
  ⟨l.length,_,_,⟨[],l,0,d,rfl,rfl,rfl,rfl,hd,rfl,by omega,Yi⟩,jb,Tb _⟩ ?_
 rintro kk ls H' ⟨pre,l1,m,d1,Mb,rfl,rfl,rfl,xm,hE,hM,hD1⟩ j hj;have Qm:pre.length<=2000000:=by have:=congrArg List.length Mb;rw[ya] at this;omega
 refine wg ?_;refine Ca (λhc=>?_) λhc=>?_;have hlen:=zt hc;rw[ab,Mb,ya] at hlen
 obtain⟨a,l2,rfl⟩:∃ a l2,l1=a::l2:=by
  cases l1 with
  |nil=>simp at hlen
  |cons a l2=>exact⟨a,l2,rfl⟩
 have JB:vp a<=n:=by
  have h1:∀ (p:List Sm) (x:Sm) (r:List Sm),vp x<=pd (p++x::r):=λp=>by
   induction p with
   |nil=>intro x r;show vp x<=pd (x::r);rw[pd];omega
   |cons y p ih2=>intro x r;show vp x<=pd (y::(p++x::r));rw[pd];have:=ih2 x r;omega
  have:=h1 pre a l2;rw[<-Mb] at this;omega
 rw[Gh] at hE;rw[Wk] at hM;rw[Xi] at hD1;have hda:=qsu B D c hB a;refine Zi ?_;refine ia (xR (ve:=Yb a) (cs:=[_,_,_,_,_,_]) rfl rfl zo (by rw[Mb];exact xd Yb pre a l2) rfl rfl)<|Ga ?_;refine oS (Rc λb7=>?_);refine ja ?_;refine oS (sK [_,_] rfl (pi.Qh) (ih a d1 JB xm) (λh0=>?_) λnm h0 e' Aa=>?_);rw[h0] at hE;refine ia (Pure.pj m (sC c a) rfl rfl rfl rfl)<|oa ?_;exact⟨l2.length,_,_,lt_succ_self _,⟨pre++[a],l2,max m (sC c a),max d1 (Jr c a),by rw[Mb];simp,rfl,rfl,rfl,by omega,hE,by omega,by omega⟩,⟨rfl,rfl,rfl,rfl,lh (by simp),trivial⟩,mE,hj⟩;refine qd ?_;exact Af (Aa.trans hj) (by rw[<-hE];unfold ui;rw[zp h0]) h0;have hlen:=zf hc;rw[ab,Mb,ya] at hlen
 obtain rfl:l1=[]:=by
  cases l1 with
  |nil=>rfl
  |cons a l2=>simp at hlen;omega
 rw[Wk] at hM;rw[Xi] at hD1;have e1:m=N:=by omega
 have e2:d1=DD:=by omega
 subst e1 e2;refine oa ?_;exact Ul hj (Oa rfl) (hE.symm.trans rfl) rfl Ya
theorem OU{k:KB}{c:gb}(hk:nz k c){B D:Nat}(hB:Hs B D c.funcs)(AK:B<=50000000)(QB:D<=100000000):∀ n:Nat,n<=2000000->qAq B0 w0 k c n
 |0,_=>λx d h _=>by have:=NX x;omega
 |n+1,hn6=>by
  have pV:=QP (B0:=B0) (w0:=w0) hB QB (n:=n) zo (OU hk hB AK QB n zo);have hX:q8 B0 w0 k c n:=iJ hk hB zo QB n zo;intro x d dh hd;obtain⟨kind,name,index,value,Ka,fb⟩:=x;rw[vp] at dh;generalize hI:xk c (Sm.mk kind name index value Ka fb)=E;rw[xk] at hI;generalize hN:sC c (Sm.mk kind name index value Ka fb)=N;rw[sC] at hN;generalize Yi:max d (Jr c (Sm.mk kind name index value Ka fb))=DD;rw[Jr] at Yi;have kK:=qoT (B0:=B0) (w0:=w0) (Sm.mk kind name index value Ka fb);rw[rv] at kK ⊢;refine Xa Tryz.func201 rfl (n:=65) rfl rfl rfl ?_;refine Xd ?_;refine oS (sB rfl λb3=>?_);refine qa ?_;refine cM (A:=Unit) (λ_=>[(0,ptr k.cb 0),(3,ptr b3 0)]) (λ_=>(b3,.cells 217 [int .i64 kind,str name,.list (index.map eb),.list (value.map eb),.list (Ka.map Yb),.list (fb.map Yb)])::Ef k d) (λ_=>yh (Sm.mk kind name index value Ka fb)=true) ?_ λ_ Ib j hj=>?_;refine bj (m:=7) rfl [(b3,.cells 217 [int .i64 kind,str name,.list (index.map eb),.list (value.map eb),.list (Ka.map Yb),.list (fb.map Yb)]),(k.cb,.cells 115 [.atom (.map (some k.gm)),.atom (.map (some k.vm)),.atom (.map (some k.am)),.atom (.map (some k.fm)),str k.name,.atom (.map (some k.om)),int .i64 (d:Int)])] ?_;refine aT 0 rfl rfl (pG (Ab:=[_,_,_,_,_,_]) rfl Bb rfl rfl)<|Ju ?_;refine aT 3 rfl rfl (pN rfl)<|aT 4 rfl rfl (pF rfl)<|aT 5 rfl rfl (pL (c:=.atom _) rfl xf rfl)<|aL ?_ (Pb pH Xc);refine lO 1 (lS (H1:=[]) rfl (.inl rfl) rfl Kb (Pb pH Xc) (sF [_] rfl kK ?_))
  cases hf:yh (Sm.mk kind name index value Ka fb) with
  |true=>
   refine lO 6 (lS (H1:=[]) rfl (.inl rfl) rfl Kb (Pb pH Xc) (Ra.Al [_,_,_] rfl (Cg true k.name 3 da) (λ_=>?_) λnm h=>absurd rfl h));refine Xm ?_
   exact⟨(),rfl,jb,Tb _,rfl⟩
  |false=>rw[hf,zp rfl] at hI;refine lO 6 (lS (H1:=[]) rfl (.inl rfl) rfl Kb (Pb pH Xc) (Ra.Al [_,_,_] rfl (Cg false k.name 3 da) (λh=>absurd h da) λnm _ e' Aa=>?_));refine oi ?_;exact Af (Aa.trans rfl) (by rw[<-hI];rfl) da
  rw[Ib,zn da] at hI;refine oa ?_;by_cases h7:kind=7;subst h7;obtain rfl:=qq4 Ib;obtain rfl:=IY Ib da;obtain⟨rfl,rfl⟩:=EP Ib da da;refine oC rfl (λ_=>?_) (λhc=>by cases hc);refine Qj ?_;have e2:d=DD:=by rw[<-Yi];simp only[gi,Xi];omega
  subst e2;exact Ul hj (Oa rfl) (by rw[<-hI];rfl) (by rw[<-hN];rfl) (Gg Ya);refine oC rfl (λhc=>absurd (zt hc) h7) λ_=>?_;obtain⟨x0,rfl⟩:=pi.He Ib h7;rw[zn h7] at hN
  have nr:Zk x0<=n:=by rw[Fb,Fb] at dh;omega
  have px:=JX B D c hB x0;have aan:=XL B D c hB x0;have hEv:∀ E2,ui (Sf c [x0]) E2=ui (bf c x0) E2:=λE2=>by rw[Sf,Sf];unfold ui;by_cases h:bf c x0≠0;rw[zp h,zp h];rw[zn h,zn da,zn h]
  rw[hEv] at hI;rw[show([x0]:List Ex).headD default=x0 from rfl] at hN;have hDx:gi c [x0]=Oi c x0:=by rw[gi,gi];omega
  rw[hDx] at Yi;refine ja ?_;refine ia (xR (ve:=eb x0) (cs:=[_,_,_,_]) rfl rfl zo rfl rfl rfl)<|Ga ?_;refine oS (sK [_,_] rfl (pi.Qh) (hX x0 d nr hd) (λh0=>?_) λnm h0 e' Aa=>?_);rotate_left;refine oi ?_;exact Af (Aa.trans hj) (by rw[<-hI];unfold ui;rw[zp h0]) h0;rw[h0,show ∀ E2,ui 0 E2=E2 from λE2=>rfl] at hI;generalize xm:max d (Oi c x0)=d1;refine wa.perm (pi.Qh (H:=Ef k d1)).symm ?_;refine oa ?_
  by_cases Ds:kind=1;subst Ds;obtain rfl:=IY Ib da;obtain⟨rfl,rfl⟩:=EP Ib da da;have Du:Vr c name=E:=by rw[<-hI];simp only[Sf,Gh];unfold ui;by_cases ha:Vr c name=0 <;> simp[ha]
  refine oC rfl (λ_=>?_) (λhc=>by cases hc);refine oa ?_;refine oS (sK [_,_] rfl (pi.Qh) (gM hk d1 name) (λh1=>?_) λnm h1 e' Aa=>?_);rw[Du] at h1;refine oa ?_;refine ia (Pure.pj 2 (tf c x0) rfl rfl rfl rfl)<|Qc ?_
  have e2:d1=DD:=by rw[<-Yi,<-xm];simp only[gi,Xi];omega
  subst e2;refine Ul hj (Oa rfl) h1 ?_ mE;rw[<-hN];simp only[Wk];exact lh (by simp);refine qd ?_;exact Af (Aa.trans hj) Du.symm h1;refine oC rfl (λhc=>absurd (zt hc) Ds) λ_=>?_;rw[zn Ds] at hI;refine Ch ?_
  by_cases Ah:kind=2
  ·subst Ah;obtain⟨i0,rfl⟩:=pi.ew Ib;obtain⟨rfl,rfl⟩:=EP Ib da da
   have AV:Zk i0<=n:=by rw[Fb,Fb,Fb,Fb] at dh;omega
   have hdi:=JX B D c hB i0;have aao:=XL B D c hB i0;have Du:ui (bf c i0) (qy c name)=E:=by rw[<-hI];simp only[Sf,Gh];unfold ui;by_cases ha:bf c i0=0 <;> by_cases hb:qy c name=0 <;> simp[ha,hb]
   refine oC rfl (λ_=>?_) (λhc=>by cases hc);refine ja ?_;refine ia (xR (ve:=eb i0) (cs:=[_,_,_,_]) rfl rfl zo rfl rfl rfl)<|Ga ?_;refine oS (sK [_,_] rfl (pi.Qh) (hX i0 d1 AV zo) (λh1=>?_) λnm h1 e' Aa=>?_);rotate_left;refine qd ?_;exact Af (Aa.trans hj) (by rw[<-Du];unfold ui;rw[zp h1]) h1;rw[h1] at Du;refine wa.perm (pi.Qh (H:=Ef k (max d1 (Oi c i0)))).symm ?_;refine oa ?_;refine oS (sK [_,_] rfl (pi.Qh) (UP hk (max d1 (Oi c i0)) name) (λh2=>?_) λnm h2 e' Aa=>?_);refine oa ?_;refine ia (Pure.pj (tf c x0) (2+tf c i0) rfl rfl rfl zo)<|qa ?_
   have e2:max d1 (Oi c i0)=DD:=by rw[<-Yi,<-xm];simp only[gi,Xi];omega
   rw[<-e2];exact Ul hj (Oa rfl) (Du.symm.trans h2) (by rw[<-hN];rfl) mE;refine qd ?_;exact Af (Aa.trans hj) Du.symm h2
  refine oC rfl (λhc=>absurd (zt hc) Ah) λ_=>?_;obtain rfl:=IY Ib Ah;rw[zn Ah] at hI hN;refine Ch ?_
  by_cases iK:kind=5;subst iK;obtain⟨rfl,rfl⟩:=EP Ib da da;refine oC rfl (λ_=>?_) (λhc=>by cases hc);refine oa ?_;have e2:d1=DD:=by rw[<-Yi,<-xm];simp only[gi,Xi];omega
  subst e2;exact Ul hj (Oa rfl) (by rw[<-hI];rfl) (by rw[<-hN];rfl) (Gg Ya);refine oC rfl (λhc=>absurd (zt hc) iK) λ_=>?_;rw[zn iK] at hN
  have vF:ui (Gh c Ka) (Gh c fb)=E:=by rw[<-hI];simp only[Sf];rfl
  refine Ch ?_;by_cases aD:kind=3
  ·refine oC rfl (λ_=>?_) λhc=>absurd aD (zf hc);refine qa ?_;refine oC rfl (λ_=>?_) λhc=>absurd aD (zf hc);refine KN ?_;refine aL ?_ Xc;refine lO 4 (lS (H1:=Ef k d1) rfl (.inl rfl) rfl pi.Qh Ya (Ra.Al [_,_] rfl (pV Ka d1 (by rw[Fb,Fb,Fb] at dh;omega) zo) (λh1=>?_) λnm h1 e' Aa=>?_));rotate_left;refine qd ?_;exact Af (Aa.trans hj) (by rw[<-vF];unfold ui;rw[zp h1]) h1;rw[h1] at vF;have C4:=dJ B D c hB Ka;refine lO 8 (lS (H1:=Ef k (max d1 (Xi c Ka))) rfl (.inl rfl) rfl Kb Ya (Ra.Al [_,_] rfl (pV fb (max d1 (Xi c Ka)) (by rw[Fb,Fb,Fb] at dh;omega) zo) (λh2=>?_) λnm h2 e' Aa=>?_));rotate_left;refine qd ?_;exact Af (Aa.trans hj) vF.symm h2;refine HN ?_
   have e2:max (max d1 (Xi c Ka)) (Xi c fb)=DD:=by rw[<-Yi,<-xm];simp only[gi];omega
   rw[<-e2];exact Ul hj (Oa rfl) (vF.symm.trans h2) (by rw[<-hN];rfl) mE
  refine oC rfl (λhc=>absurd (zt hc) aD) λ_=>?_;refine Ch ?_
  by_cases mF:kind=4
  ·refine oC rfl (λ_=>?_) λhc=>absurd mF (zf hc);refine KN ?_;refine aL ?_ Xc;refine lO 4 (lS (H1:=Ef k d1) rfl (.inl rfl) rfl pi.Qh Ya (Ra.Al [_,_] rfl (pV Ka d1 (by rw[Fb,Fb,Fb] at dh;omega) zo) (λh1=>?_) λnm h1 e' Aa=>?_));rotate_left;refine qd ?_;exact Af (Aa.trans hj) (by rw[<-vF];unfold ui;rw[zp h1]) h1;rw[h1] at vF;have C4:=dJ B D c hB Ka;refine lO 8 (lS (H1:=Ef k (max d1 (Xi c Ka))) rfl (.inl rfl) rfl Kb Ya (Ra.Al [_,_] rfl (pV fb (max d1 (Xi c Ka)) (by rw[Fb,Fb,Fb] at dh;omega) zo) (λh2=>?_) λnm h2 e' Aa=>?_));rotate_left;refine qd ?_;exact Af (Aa.trans hj) vF.symm h2;refine HN ?_
   have e2:max (max d1 (Xi c Ka)) (Xi c fb)=DD:=by rw[<-Yi,<-xm];simp only[gi];omega
   rw[<-e2];exact Ul hj (Oa rfl) (vF.symm.trans h2) (by rw[<-hN];rfl) mE
  refine oC rfl (λhc=>absurd (zt hc) mF) λ_=>?_;obtain⟨rfl,rfl⟩:=EP Ib aD mF;refine oa ?_;refine ia (Pure.pj 2 (tf c x0) rfl rfl rfl rfl)<|Qc ?_
  have e2:d1=DD:=by rw[<-Yi,<-xm];simp only[gi,Xi];omega
  subst e2;refine Ul hj (Oa rfl) (by rw[<-vF];rfl) ?_ (Gg Ya);rw[<-hN];simp only[Wk];exact lh (by simp)
theorem qrr{X A L:Heap}(h:HSub X L):HSub X (A++L):=
 let ⟨G,hG⟩:=h
 ⟨A++G,(List.Perm.append_left A hG).trans (by
  rw[<-Pc,<-Pc];exact Nh.append_right G)⟩
def dt(k:KB)(o:Value)(d:Nat):Heap:=[(k.cb,.cells 115 [.atom (.map (some k.gm)),.atom (.map (some k.vm)),.atom (.map (some k.am)),.atom (.map (some k.fm)),str k.name,.atom o,int .i64 (d:Int)]),(k.gm,.map (ye k.G) k.g1),(k.vm,.map (ye k.V) k.g2),(k.am,.map (ye k.A) k.g3),(k.fm,.map (ye k.F) k.g4)]
def tC(err:Int)(P:Heap->Prop)(r:re)(H:Heap):Prop:=(err=0/\r=.ret (.tuple [])/\P H)∨(err≠0/\(∃ nm,r=.panic (LD nm err))/\H=[])
section
variable{C:Ctx}{n:Nat}{e:Env}{H:Heap}{dst:Option Nat}{ty:TypeId}{pos:String}{ka:Array Edge}{g:Option (Nat×Bool)}{K:LV->Heap->Prop}{X:List PanicEntry->Heap->Prop}
theorem S.yc{P:Heap->Prop}{H1 F:Heap}{f:FuncId} [Gb C.P f](args:List Operand){yg:Array TypeId}{av:List LV}(has:args.map e.ev=av)(hp:H.Perm (H1++F))
  (hc:ca C f av H1 (tC err P)) (hk:∀ H',err=0->P H'->K (.tuple []) (H'++F)) (hx:∀ nm,err≠0->X (LD nm err) F):Ra C ⟨dst,.call { callee:=.value (.func f),args:=args.toArray,argTypes:=yg },ty,pos,ka,g⟩ e H K X:=by
 refine S.Ec args has hp hc ?_ ?_;rintro v H2 (⟨h1,h2,h3⟩|⟨_,⟨nm,h2⟩,_⟩);cases h2;exact hk _ h1 h3;cases h2;rintro ch H2 (⟨_,h2,_⟩|⟨h1,⟨nm,h2⟩,rfl⟩);cases h2;cases h2;exact hx nm h1
theorem LW{P:Heap->Prop}{H':Heap}{rs:List ResultVar}{vs:List LV}(hd:e.ds=[])(h:Zl C n e H rs vs)(he:err=0)(hv:qh vs=.tuple [])(hH:HSub H' H)(hP:P H'):od C n rs (tC err P) .normal e H:=
 rO hd h hH (.inl ⟨he,by rw[hv],hP⟩)
theorem Ki{er:Int}{P:Heap->Prop}{rs:List ResultVar}{nm:List UInt8}(hd:e.ds=[])(he:err=er)(h0:er≠0):od C n rs (tC err P) (.panic (LD nm er)) e H:=
 od.panic hd Vc (.inr ⟨by rw[he];exact h0,⟨nm,by rw[he]⟩,rfl⟩)
end
def im(known:List Nm)(s:Nm):Int:=if Le s=false then 7 else if s∈known then 8 else 0
theorem KP(known:List Nm)(s:Nm)(l:List Nm):Wn known (s::l)=ui (im known s) (Wn (s::known) l):=by rw[Wn];unfold im;split;rfl;split;rfl;rfl
theorem kZ:∀ (l k k':List Nm),(∀ s,s∈k ↔ s∈k')->Wn k l=Wn k' l
 |[],_,_,_=>rfl
 |s::l,k,k',h=>by
  have h2:im k s=im k' s:=by unfold im;simp only[h s]
  rw[KP,KP,h2,kZ l (s::k) (s::k') (λx=>by simp[h x])]
theorem EZ{k:KB}{known:List Nm}(hG:Sn k.G known)(s:Nm):ca (KC B0 w0) 82 [ptr k.cb 0,str s] (dt k o d)
  (tC (im known s) λH=>∃ g1,H=dt { k with G:=GL.rc k.G s (bool true),g1:=g1 } o d):=by
 generalize hI:im known s=E;unfold im at hI;refine Xa Tryz.func82 rfl (n:=22) rfl rfl rfl ?_;refine Bd ?_;refine oS (sF [_] rfl (ZU s) ?_);refine qa ?_;cases hn:Le s with
 |false=>
  rw[zp hn] at hI;refine oS (sK (H1:=[]) (F:=dt k o d) [_,_,_] rfl Kb (Cg false s 7 da) (λh=>absurd h da) λnm _ e' Aa=>?_);refine oi ?_
  exact Ki (Aa.trans rfl) hI.symm da
 |true=>rw[zn (by rw[hn];decide)] at hI;refine oS (sK (H1:=[]) (F:=dt k o d) [_,_,_] rfl Kb (Cg true s 7 da) (λ_=>?_) λnm h=>absurd rfl h);refine oa ?_;refine ia (Pure.lg rfl rfl xf hG)<|oB 13 rfl (λh1=>?_) λh1=>?_;rw[zp (zt h1)] at hI;refine Ga ?_;refine oS (sK (H1:=[]) (F:=dt k o d) [_,_,_] rfl Kb (Cg false s 8 da) (λh=>absurd h da) λnm _ e' Aa=>?_);refine oi ?_;exact Ki (Aa.trans rfl) hI.symm da;rw[zn (zf h1)] at hI;refine Ga ?_;refine oS (sK (H1:=[]) (F:=dt k o d) [_,_,_] rfl Kb (Cg true s 8 da) (λ_=>?_) λnm h=>absurd rfl h);refine oa ?_;refine oS (S.Mm (k:=s) (lv:=bool true) rfl rfl rfl Fc λg1=>?_);refine Qc ?_;exact LW rfl rN hI.symm rfl ⟨[],by rw[Jd];exact Vp _ _ _⟩ ⟨g1,rfl⟩
theorem qmE{vars ba later:List Nm}{known:List Nd}{k:KB}(f:ob)(hG:Sn k.G (vars++ba++later))(hV:Sn k.V vars)(hA:Sn k.A ba)(hF:∀ n,GL.db k.F n=(known.find? λg=>decide (g.name=n)).map TI)(jl:f.name ∉ known.map (·.name))
  {B D:Nat} (hB:Hs B D known) (AK:B<=50000000) (QB:D<=100000000) (dh:kq f<=2000000) :
  ca (KC B0 w0) 84 [ptr k.cb 0,cg f] (dt k o d)
  (tC (Yt vars ba later known f) λH=>∃ nm o' d' F' g4,(∀ n,GL.db F' n=((known++[Fi vars ba later known f]).find? λg=>decide (g.name=n)).map TI)/\H=dt { k with name:=nm,F:=F',g4:=g4 } o' d'):=by
 have Bs:=YW dh;have wV:f.params.length<=2000000:=Bs.params;have CV:f.locals.length<=2000000:=Bs.locals;have hbn:pd f.body<=2000000:=by unfold kq at dh;omega
 generalize hI:Yt vars ba later known f=E;unfold Yt at hI;refine Xa Tryz.func84 rfl (n:=82) rfl rfl rfl ?_;refine Xd ?_;refine oS (sB rfl λb3=>?_);refine oa ?_;refine oS (S.fl λom=>?_);refine ja ?_;refine oS (sL (es:=[fp f.params,fp f.locals]) [_,_] rfl (Hd rfl rfl (Hd rfl rfl Ek)) rfl rfl rfl ?_);refine oS (S.Ec (H1:=[]) (F:=_) [_] rfl Kb (qki [f.params,f.locals] (by simp) (by
  intro l hl;rcases lc.1 hl with rfl|hl;exact wV;rw[cj hl];exact CV)) ?_ (by rintro ch H' ⟨v,h,_⟩;cases h))
 rintro v2 Ha2 ⟨_,h,Od⟩;cases h;have Dn:[f.params,f.locals].flatten=f.params++f.locals:=by simp
 rw[Dn] at Od;refine wa.sub 24 rfl Od.sub ?_;refine wa.Zb (H':=(b3,.cells 168 [str f.name,.list (f.params.map str),.list (f.locals.map str),.list (f.body.map Yb)])::Ef { k with name:=f.name,om:=om,O:=[],g5:=0 } 1) ?_ ?_
 ·refine qrr ?_
  repeat first
   |exact HSub.nil _
   |refine Pb dI ?_
 refine Ga ?_;refine oL (λkk ls H'=>∃ (pre l1:List Nm) (OO:KV) (gg:Nat),f.params++f.locals=pre++l1/\kk=l1.length/\ls=[(0,ptr k.cb 0),(3,ptr b3 0),(24,.list ((f.params++f.locals).map str)),(25,int .i64 (((f.params++f.locals).map str).length:Int)),(26,iv pre.length)] /\
   H'=(b3,.cells 168 [str f.name,.list (f.params.map str),.list (f.locals.map str),.list (f.body.map Yb)])::Ef { k with name:=f.name,om:=om,O:=OO,g5:=gg } 1/\Sn OO pre/\ui (Wn (pre.reverse++(vars++ba++later)) l1) (Gh (Wf vars ba later known f) f.body)=E)
  ⟨_,_,_,⟨[],f.params++f.locals,[],0,rfl,rfl,rfl,rfl,Sn.nil,hI⟩,jb,Tb _⟩ ?_
 rintro kk ls H' ⟨pre,l1,OO,gg,Mb,rfl,rfl,rfl,hO,hE⟩ j hj;have Qm:pre.length<=4000000:=by have:=congrArg List.length Mb;rw[ya,ya] at this;omega
 refine wg ?_;refine Ca (λhc=>?_) λhc=>?_
 ·have hlen:=zt hc;rw[ab,Mb,ya] at hlen
  obtain⟨s,l2,rfl⟩:∃ a l2,l1=a::l2:=by
   cases l1 with
   |nil=>simp at hlen
   |cons a l2=>exact⟨a,l2,rfl⟩
  rw[KP] at hE;generalize iD:im (pre.reverse++(vars++ba++later)) s=En at hE;unfold im at iD;refine Zi ?_;refine ia (xR (ve:=str s) (cs:=[str s]) rfl rfl zo (by rw[Mb];exact xd str pre s l2) rfl rfl)<|ja ?_;refine oS (sF [_] rfl (ZU s) ?_);refine qa ?_;cases hn:Le s with
  |false=>
   rw[zp hn] at iD;refine oS (sK (H1:=[]) (F:=_) [_,_,_] rfl Kb (Cg false s 7 da) (λh=>absurd h da) λnm _ e' Aa=>?_);refine qd ?_
   exact Ki (Aa.trans hj) (by rw[<-hE,<-iD];rfl) da
  |true=>
   rw[zn (by rw[hn];decide)] at iD;refine oS (sK (H1:=[]) (F:=_) [_,_,_] rfl Kb (Cg true s 7 da) (λ_=>?_) λnm h=>absurd rfl h);refine ja ?_;refine ia (Pure.lg rfl rfl Vz hG)<|oB 39 rfl (λh1=>?_) λh1=>?_;have fg:s∈pre.reverse++(vars++ba++later):=List.mem_append_right _ (zt h1);rw[zp fg] at iD;refine Ga ?_;refine oS (sK (H1:=[]) (F:=_) [_,_,_] rfl Kb (Cg false s 8 da) (λh=>absurd h da) λnm _ e' Aa=>?_);refine qd ?_;exact Ki (Aa.trans hj) (by rw[<-hE,<-iD];rfl) da;refine Ga ?_;refine ia (Pure.lg rfl rfl x7 hO)<|oB 47 rfl (λh2=>?_) λh2=>?_;have fg:s∈pre.reverse++(vars++ba++later):=List.mem_append_left _ (List.mem_reverse.2 (zt h2));rw[zp fg] at iD;refine Ga ?_;refine oS (sK (H1:=[]) (F:=_) [_,_,_] rfl Kb (Cg false s 8 da) (λh=>absurd h da) λnm _ e' Aa=>?_);refine qd ?_;exact Ki (Aa.trans hj) (by rw[<-hE,<-iD];rfl) da;rw[zn (λh=>(vj h).elim (λh=>zf h2 (List.mem_reverse.1 h)) (zf h1))] at iD;subst iD;refine Ga ?_;refine oS (sK (H1:=[]) (F:=_) [_,_,_] rfl Kb (Cg true s 8 da) (λ_=>?_) λnm h=>absurd rfl h);refine ja ?_;refine oS (S.Mm (k:=s) (lv:=bool true) rfl rfl rfl zp6 λgg2=>?_);refine rl ?_
   exact⟨l2.length,_,_,lt_succ_self _,⟨pre++[s],l2,GL.rc OO s (bool true),gg2,by rw[Mb];simp,rfl,rfl,rfl,hO.add s,by
    rw[<-hE];rw[kZ l2 ((pre++[s]).reverse++(vars++ba++later)) (s::(pre.reverse++(vars++ba++later))) (λx=>by simp)];rfl⟩,⟨rfl,rfl,rfl,rfl,lh (by simp),trivial⟩,by
    repeat first
     |exact HSub.nil _
     |refine Pb dI ?_,hj⟩
 have hlen:=zf hc;rw[ab,Mb,ya] at hlen;obtain rfl:l1=[]:=by
  cases l1 with
  |nil=>rfl
  |cons a l2=>simp at hlen;omega
 rw[Jd] at Mb;rw[<-Mb] at hO;have Er:Gh (Wf vars ba later known f) f.body=E:=by rw[<-hE];rfl
 have P3:nz { k with name:=f.name,om:=om,O:=OO,g5:=gg } (Wf vars ba later known f):=⟨hG,hV,hA,hO,hF⟩;have yQ:=QP (B0:=B0) (w0:=w0) (k:={ k with name:=f.name,om:=om,O:=OO,g5:=gg }) (c:=Wf vars ba later known f) hB QB (n:=2000000) (Nb _) (OU P3 hB AK QB 2000000 (Nb _)) f.body 1 hbn da;have eK:=HP B D (Wf vars ba later known f) hB f.body;have hdb:=dJ B D (Wf vars ba later known f) hB f.body;refine ja ?_;refine oS (sK [_,_] rfl (pi.Qh) yQ (λh0=>?_) λnm h0 e' Aa=>?_);rotate_left;refine oi ?_;exact Ki (Aa.trans hj) Er.symm h0;refine wa.perm (pi.Qh (H:=Ef _ _)).symm ?_;refine Qc ?_;have yp:(f.params.map str).length<=2000000:=by rw[ab];exact wV
 refine Qa.tail 20 zk ?_;refine Ga ?_;refine lP (Pure.mq 2 (f.params.length+1) (Wk (Wf vars ba later known f) f.body) rfl rfl rfl rfl (by rw[ab];omega) rfl) rfl ?_;refine Ga ?_;refine oS (S.Mm (k:=f.name) (lv:=.agg [int .i64 ((f.params.map str).length:Int),int .i64 (max (max 2 (f.params.length+1)) (Wk (Wf vars ba later known f) f.body):Nat),int .i64 (max 1 (Xi (Wf vars ba later known f) f.body):Nat)]) rfl rfl rfl aW λg4=>?_);refine Qc ?_;refine LW hj rN (Er.symm.trans h0) rfl (H':=dt { k with name:=f.name,F:=GL.rc k.F f.name (.agg [int .i64 ((f.params.map str).length:Int),int .i64 (max (max 2 (f.params.length+1)) (Wk (Wf vars ba later known f) f.body):Nat),int .i64 (max 1 (Xi (Wf vars ba later known f) f.body):Nat)]),g4:=g4 } (.map (some om)) (max 1 (Xi (Wf vars ba later known f) f.body))) ?hs ⟨f.name,_,_,_,g4,λn=>?kv,rfl⟩
 case hs=>
  repeat first
   |exact HSub.nil _
   |refine Pb dI ?_
 case kv=>
  rw[GL.qm,hF n,List.find?_append];by_cases h1:f.name=n;rw[zp h1];have h2:(known.find? λg=>decide (g.name=n))=none:=by rw[List.find?_eq_none];intro g hg;simp only[Mf];intro h3;exact jl (by rw[h1,<-h3];exact mem_map_of_mem hg)
  rw[h2,none_or];have h4:([Fi vars ba later known f].find? λg=>decide (g.name=n))=some (Fi vars ba later known f):=by rw[List.find?_cons_of_pos];exact Vg h1
  rw[h4];show some _=some (TI _);unfold TI Fi;rw[<-ab (f:=str)];rw[zn h1];have h4:([Fi vars ba later known f].find? λg=>decide (g.name=n))=none:=by rw[List.find?_eq_none];intro g hg;rw[cj hg];simp only[Mf];exact h1
  rw[h4,Option.or_none]
def bc(a:Nm×Int):LV:=.agg [str a.1,int .i64 a.2]
def fh(vars:List Nm)(ba:List (Nm×Int))(fs:List ob):LV:=.agg [.list (vars.map str),.list (ba.map bc),.list (fs.map cg)]
theorem cV:∀ (l known:List Nm),Wn known l=0->l.Nodup/\(∀ s∈l,s ∉ known)/\∀ s∈l,Le s=true
 |[],known,_=>⟨List.nodup_nil,λs h=>(not_mem_nil h).elim,λs h=>(not_mem_nil h).elim⟩
 |s::l,known,h=>by rw[Wn] at h;split at h;cases h;rename_i h1;split at h;cases h;rename_i h2;obtain⟨h3,h4,h5⟩:=cV l _ h;refine⟨List.nodup_cons.2 ⟨λhm=>h4 s hm Ce,h3⟩,?_,?_⟩;intro x hx;rcases lc.1 hx with rfl|hx;exact h2;exact λhk=>h4 x hx (Gc _ hk);intro x hx;rcases lc.1 hx with rfl|hx;simpa using h1;exact h5 x hx
theorem qlN(h:Le s=true):s.length<=1000:=by unfold Le at h;simp only[Yc,Mf] at h;omega
theorem nL{a b:Int}(h:a≠0):ui a b=a:=by unfold ui;exact zp h
theorem GZ:∀ a b:List ob,Qd (a++b)=Qd a+Qd b
 |[],b=>by rw[nil_append,Qd,Nat.zero_add]
 |x::a,b=>by rw[cons_append,Qd,Qd,GZ a b];omega
theorem qlr{vars ba later:List Nm}:∀ (l:List ob) (known:List Nd),Ur vars ba later known l=0->∀ f∈l,∃ k,Yt vars ba later k f=0
 |[],_,_,f,h=>(not_mem_nil h).elim
 |g::l,known,h,f,hf=>by rw[Ur,Dc] at h;rcases lc.1 hf with rfl|hf;exact⟨known,h.1⟩;exact qlr l _ h.2 f hf
theorem qr4{vars ba later:List Nm}{k:List Nd}{f:ob}(h:Yt vars ba later k f=0):∀ x∈f.params++f.locals,x.length<=1000:=by unfold Yt at h;rw[Dc] at h;intro x hx;exact qlN ((cV _ _ h.1).2.2 x hx)
theorem qto{l:List Nd}{m:Nd}(hn:(l.map (·.name)).Nodup)(hm:l.getLast? = some m):(l.find? λg=>decide (g.name=m.name))=some m:=by
 obtain⟨ys,rfl⟩:=List.getLast?_eq_some_iff.1 hm;rw[List.find?_append];have h1:(ys.find? λg=>decide (g.name=m.name))=none:=by rw[List.find?_eq_none];intro g hg;simp only[Mf];intro h2;rw[Lf] at hn;exact(Dm hn).2.2 _ (mem_map_of_mem hg) _ (mem_map_of_mem (List.mem_singleton_self m)) h2
 rw[h1,none_or,List.find?_cons_of_pos];exact Vg rfl
theorem qkb{vars ba later:List Nm}:∀ (l:List ob) (known:List Nd),(oA vars ba later known l).map (·.name)=known.map (·.name)++l.map (·.name)
 |[],known=>by rw[oA];simp
 |f::l,known=>by rw[oA,qkb l];simp[Fi]
theorem fZ{pre l:List Nm}{FR:Int}(h:Wn pre (s::l)=FR)(h0:im pre s=0):Wn (pre++[s]) l=FR:=by rw[<-h,KP,h0,kZ l (pre++[s]) (s::pre) (λx=>by simp[or_comm])];rfl
theorem aZ{pre l:List Nm}{FR RA E:Int}(hI:ui FR RA=E)(h:Wn pre (s::l)=FR)(h0:im pre s≠0):E=im pre s:=by rw[<-hI,<-h,KP,nL (a:=ui _ _) (by rw[nL h0];exact h0),nL h0]
theorem rJ{k:KB}(vars:List Nm)(ba:List (Nm×Int))(fs:List ob)(Ds:k.G=[])(Ah:k.V=[])(aD:k.A=[])(mF:k.F=[])(fB:vars.length<=2000000)(OM:ba.length<=2000000)(qK:∀ a∈ba,-9223372036854775808<=a.2/\a.2<9223372036854775808)(dh:Qd fs<=2000000) :
  ca (KC B0 w0) 44 [ptr k.cb 0,fh vars ba fs] (dt k o d) (tC (Uq vars ba fs) λH=>H=[]):=by
 have lK:fs.length<=2000000:=Se (qU fs) dh;generalize hI:Uq vars ba fs=E;unfold Uq at hI;generalize OV:Wn [] (vars++ba.map (·.1)++fs.map (·.name))=FR at hI;generalize hSZ:bE 0 (ba.map (·.2))=SZ at hI;generalize hFS:Ur vars (ba.map (·.1)) (fs.map (·.name)) [] fs=FS at hI;generalize hSS:oA vars (ba.map (·.1)) (fs.map (·.name)) [] fs=SS at hI;generalize tq:vO vars fs SS=MN at hI;generalize hRA:ui SZ (ui FS MN)=RA at hI;refine Xa Tryz.func44 rfl (n:=147) rfl rfl rfl ?_;refine Xd ?_;refine oS (sB rfl λb3=>?_);refine ja ?_;refine oL (λkk ls H'=>∃ (pre l1:List Nm) (G1 V1:KV) (g1 g2:Nat),vars=pre++l1/\kk=l1.length/\ls=[(0,ptr k.cb 0),(3,ptr b3 0),(18,.list (vars.map str)),(19,int .i64 ((vars.map str).length:Int)),(20,iv pre.length)] /\
   H'=(b3,.cells 68 [.list (vars.map str),.list (ba.map bc),.list (fs.map cg)])::dt { k with G:=G1,g1:=g1,V:=V1,g2:=g2 } o d/\Sn G1 pre/\Sn V1 pre/\Wn pre (l1++ba.map (·.1)++fs.map (·.name))=FR)
  ⟨_,_,_,⟨[],vars,k.G,k.V,k.g1,k.g2,rfl,rfl,rfl,rfl,by rw[Ds];exact Sn.nil,by rw[Ah];exact Sn.nil,OV⟩,jb,Tb _⟩ ?_
 rintro kk ls H' ⟨pre,l1,G1,V1,g1,g2,Mb,rfl,rfl,rfl,Yy,hV1,hE⟩ j hj;have Qm:pre.length<=2000000:=by have:=congrArg List.length Mb;rw[ya] at this;omega
 refine wg ?_;refine Ca (λhc=>?_) λhc=>?_
 ·have hlen:=zt hc;rw[ab,Mb,ya] at hlen
  obtain⟨s,l2,rfl⟩:∃ a l2,l1=a::l2:=by
   cases l1 with
   |nil=>simp at hlen
   |cons a l2=>exact⟨a,l2,rfl⟩
  rw[cons_append,cons_append] at hE;refine Zi ?_;refine ia (xR (ve:=str s) (cs:=[str s]) rfl rfl zo (by rw[Mb];exact xd str pre s l2) rfl rfl)<|ja ?_;refine oS (S.yc (F:=[_]) [_,_] rfl (pi.Qh) (EZ (k:={ k with G:=G1,g1:=g1,V:=V1,g2:=g2 }) (o:=o) (d:=d) Yy s) (λH2 h0 hP=>?_) λnm h0 e' Aa=>?_);rotate_left;refine qd ?_;exact Ki (Aa.trans hj) (aZ hI hE h0) h0;obtain⟨jD,rfl⟩:=hP;refine wa.perm (pi.Qh (H:=dt _ _ _)).symm ?_;refine ja ?_;refine oS (S.Mm (k:=s) (lv:=bool true) rfl rfl rfl Uz λSB=>?_);refine rl ?_;refine⟨l2.length,_,_,lt_succ_self _,⟨pre++[s],l2,GL.rc G1 s (bool true),GL.rc V1 s (bool true),jD,SB,by rw[Mb];simp,rfl,rfl,rfl,Yy.add s,hV1.add s,fZ hE h0⟩,⟨rfl,rfl,rfl,rfl,lh (by simp),trivial⟩,?_,hj⟩
  repeat first
   |exact HSub.nil _
   |refine Pb dI ?_
 have hlen:=zf hc;rw[ab,Mb,ya] at hlen;obtain rfl:l1=[]:=by
  cases l1 with
  |nil=>rfl
  |cons a l2=>simp at hlen;omega
 rw[Jd] at Mb;subst Mb;rw[nil_append] at hE;clear hlen hc Qm;refine ja ?_;refine oL (λkk ls H'=>∃ (pre l1:List (Nm×Int)) (G1 A1:KV) (g1 g3:Nat),ba=pre++l1/\kk=l1.length/\ls=[(0,ptr k.cb 0),(3,ptr b3 0),(34,.list (ba.map bc)),(35,int .i64 ((ba.map bc).length:Int)),(36,iv pre.length)] /\
   H'=(b3,.cells 68 [.list (vars.map str),.list (ba.map bc),.list (fs.map cg)])::dt { k with G:=G1,g1:=g1,V:=V1,g2:=g2,A:=A1,g3:=g3 } o d/\Sn G1 (vars++pre.map (·.1))/\Sn A1 (pre.map (·.1))/\Wn (vars++pre.map (·.1)) (l1.map (·.1)++fs.map (·.name))=FR)
  ⟨_,_,_,⟨[],ba,G1,k.A,g1,k.g3,rfl,rfl,rfl,rfl,by simpa using Yy,by rw[aD];exact Sn.nil,by simpa using hE⟩,jb,Tb _⟩ ?_
 clear Yy hE G1 g1;rintro kk ls H' ⟨pre,l1,G1,A1,g1,g3,Mb,rfl,rfl,rfl,Yy,CK,hE⟩ j tc;have Qm:pre.length<=2000000:=by have:=congrArg List.length Mb;rw[ya] at this;omega
 refine wg ?_;refine Ca (λhc=>?_) λhc=>?_
 ·have hlen:=zt hc;rw[ab,Mb,ya] at hlen
  obtain⟨s,l2,rfl⟩:∃ a l2,l1=a::l2:=by
   cases l1 with
   |nil=>simp at hlen
   |cons a l2=>exact⟨a,l2,rfl⟩
  rw[jd,cons_append] at hE;refine yN ?_;refine oS (Rc λb7=>?_);refine ja ?_;refine oS (S.yc (F:=[_,_]) [_,_] rfl (Nh (l₁:=[_,_])) (EZ (k:={ k with G:=G1,g1:=g1,V:=V1,g2:=g2,A:=A1,g3:=g3 }) (o:=o) (d:=d) Yy s.1) (λH2 h0 hP=>?_) λnm h0 e' Aa=>?_);rotate_left;refine qd ?_;exact Ki (Aa.trans (tc.trans hj)) (aZ hI hE h0) h0;obtain⟨jD,rfl⟩:=hP
  refine wa.Zb (H':=[(b7,.cells 164 [str s.1,int .i64 s.2]),(k.cb,.cells 115 [.atom (.map (some k.gm)),.atom (.map (some k.vm)),.atom (.map (some k.am)),.atom (.map (some k.fm)),str k.name,.atom o,int .i64 (d:Int)]),(b3,.cells 68 [.list (vars.map str),.list (ba.map bc),.list (fs.map cg)]),
   (k.gm,.map (ye (GL.rc G1 s.1 (bool true))) jD),(k.vm,.map (ye V1) g2),(k.am,.map (ye A1) g3),(k.fm,.map (ye k.F) k.g4)]) ?_ ?_
  ·repeat first
    |exact HSub.nil _
    |refine Pb dI ?_
  refine Qc ?_;refine bj (m:=7) rfl [(b7,.cells 164 [str s.1,int .i64 s.2]),(k.cb,.cells 115 [.atom (.map (some k.gm)),.atom (.map (some k.vm)),.atom (.map (some k.am)),.atom (.map (some k.fm)),str k.name,.atom o,int .i64 (d:Int)])] ?_;refine xN ?_;refine aL ?_ (Pb pH Xc);refine lO 6 (lS (H1:=[(k.am,.map (ye A1) g3)]) rfl (.inl rfl) rfl (show zd _ _ _ from fc OK) (Pb pH Xc) (S.Mm (k:=s.1) (lv:=bool true) rfl rfl rfl pH λA6=>?_));refine lD zk ?_;refine rl ?_;refine⟨l2.length,_,_,lt_succ_self _,⟨pre++[s],l2,GL.rc G1 s.1 (bool true),GL.rc A1 s.1 (bool true),jD,A6,by rw[Mb];simp,rfl,rfl,rfl,by simpa using Yy.add s.1,by simpa using CK.add s.1,by simpa using fZ hE h0⟩,⟨rfl,rfl,rfl,rfl,lh (by simp),trivial⟩,?_,tc⟩
  repeat first
   |exact HSub.nil _
   |refine Pb dI ?_
 have hlen:=zf hc;rw[ab,Mb,ya] at hlen;obtain rfl:l1=[]:=by
  cases l1 with
  |nil=>rfl
  |cons a l2=>simp at hlen;omega
 rw[Jd] at Mb;subst Mb;rw[List.map_nil,nil_append] at hE;clear hlen hc Qm;refine ja ?_;refine oL (λkk ls H'=>∃ (pre l1:List ob) (G1:KV) (g1:Nat),fs=pre++l1/\kk=l1.length/\ls=[(0,ptr k.cb 0),(3,ptr b3 0),(52,.list (fs.map cg)),(53,int .i64 ((fs.map cg).length:Int)),(54,iv pre.length)] /\
   H'=(b3,.cells 68 [.list (vars.map str),.list (ba.map bc),.list (fs.map cg)])::dt { k with G:=G1,g1:=g1,V:=V1,g2:=g2,A:=A1,g3:=g3 } o d/\Sn G1 (vars++ba.map (·.1)++pre.map (·.name))/\Wn (vars++ba.map (·.1)++pre.map (·.name)) (l1.map (·.name))=FR)
  ⟨_,_,_,⟨[],fs,G1,g1,rfl,rfl,rfl,rfl,by simpa using Yy,by simpa using hE⟩,jb,Tb _⟩ ?_
 clear Yy hE G1 g1;rintro kk ls H' ⟨pre,l1,G1,g1,Mb,rfl,rfl,rfl,Yy,hE⟩ j Om;have Qm:pre.length<=2000000:=by have:=congrArg List.length Mb;rw[ya] at this;omega
 refine wg ?_;refine Ca (λhc=>?_) λhc=>?_
 ·have hlen:=zt hc;rw[ab,Mb,ya] at hlen
  obtain⟨s,l2,rfl⟩:∃ a l2,l1=a::l2:=by
   cases l1 with
   |nil=>simp at hlen
   |cons a l2=>exact⟨a,l2,rfl⟩
  rw[jd] at hE;refine Zi ?_;refine ia (xR (ve:=cg s) (cs:=[_,_,_,_]) rfl rfl zo (by rw[Mb];exact xd cg pre s l2) rfl rfl)<|Ga ?_;refine oS (Rc λb7=>?_);refine ja ?_;refine oS (S.yc (F:=[_,_]) [_,_] rfl (Nh (l₁:=[_,_])) (EZ (k:={ k with G:=G1,g1:=g1,V:=V1,g2:=g2,A:=A1,g3:=g3 }) (o:=o) (d:=d) Yy s.name) (λH2 h0 hP=>?_) λnm h0 e' Aa=>?_);rotate_left;refine qd ?_;exact Ki (Aa.trans (Om.trans (tc.trans hj))) (aZ hI hE h0) h0;obtain⟨jD,rfl⟩:=hP;refine wa.perm (Nh (l₂:=[_,_])) ?_;refine rl ?_;refine⟨l2.length,_,_,lt_succ_self _,⟨pre++[s],l2,GL.rc G1 s.name (bool true),jD,by rw[Mb];simp,rfl,rfl,rfl,by simpa using Yy.add s.name,by simpa using fZ hE h0⟩,⟨rfl,rfl,rfl,rfl,lh (by simp),trivial⟩,Gg Ya,Om⟩
 have hlen:=zf hc;rw[ab,Mb,ya] at hlen;obtain rfl:l1=[]:=by
  cases l1 with
  |nil=>rfl
  |cons a l2=>simp at hlen;omega
 rw[Jd] at Mb;subst Mb;have wK:FR=0:=hE.symm;clear hlen hc Qm hE;rw[wK] at hI;have y3:=(cV _ _ (OV.trans wK)).1;have NQ:=(cV _ _ (OV.trans wK)).2.2;have UM:RA=E:=by rw[<-hI];rfl
 rw[<-hRA] at UM;clear hI hRA OV;have hPr:0<=(0:Int)/\(0:Int)<=150000:=⟨by decide,by decide⟩;refine ja ?_;refine oL (λkk ls H'=>∃ (pre l1:List (Nm×Int)) (T:Int),ba=pre++l1/\kk=l1.length/\ls=[(0,ptr k.cb 0),(3,ptr b3 0),(10,int .i64 T),(64,.list (ba.map bc)),(65,int .i64 ((ba.map bc).length:Int)),(66,iv pre.length)] /\
   H'=(b3,.cells 68 [.list (vars.map str),.list (ba.map bc),.list (fs.map cg)])::dt { k with G:=G1,g1:=g1,V:=V1,g2:=g2,A:=A1,g3:=g3 } o d/\(0<=T/\T<=150000)/\bE T (l1.map (·.2))=SZ)
  ⟨_,_,_,⟨[],ba,0,rfl,rfl,rfl,rfl,hPr,hSZ⟩,jb,Tb _⟩ ?_
 clear hSZ;rintro kk ls H' ⟨pre,l1,T,Mb,rfl,rfl,rfl,⟨hT1,yR⟩,hE⟩ j pr;have Qm:pre.length<=2000000:=by have:=congrArg List.length Mb;rw[ya] at this;omega
 refine wg ?_;refine Ca (λhc=>?_) λhc=>?_
 ·have hlen:=zt hc;rw[ab,Mb,ya] at hlen
  obtain⟨s,l2,rfl⟩:∃ a l2,l1=a::l2:=by
   cases l1 with
   |nil=>simp at hlen
   |cons a l2=>exact⟨a,l2,rfl⟩
  obtain⟨F2,Jk⟩:=qK s (by rw[Mb];exact List.mem_append_right _ Ce);rw[jd,bE] at hE;refine yN ?_;refine oS (Rc λb7=>?_);refine ja ?_;refine oB 72 rfl (λh1=>?_) λh1=>?_;rotate_left;have h2:s.2<=0:=by have:=zf h1;omega
  rw[zp h2] at hE;refine oS (sK (H1:=[]) (F:=_) [_,_,_] rfl Kb (Cg false s.1 2 da) (λh=>absurd h da) λnm _ e' Aa=>?_);refine qd ?_;exact Ki (Aa.trans (pr.trans (Om.trans (tc.trans hj)))) (by rw[<-UM,<-hE];rfl) da;have h2:¬ s.2<=0:=by have:=zt h1;omega
  rw[zn h2] at hE;refine oS (sK (H1:=[]) (F:=_) [_,_,_] rfl Kb (Cg true s.1 2 da) (λ_=>?_) λnm h=>absurd rfl h);refine ja ?_;refine oB 80 rfl (λh3=>?_) λh3=>?_;rotate_left;have h4:150000-T<s.2:=by have:=zf h3;omega
  rw[zp h4] at hE;refine oS (sK (H1:=[]) (F:=_) [_,_,_] rfl Kb (Cg false s.1 6 da) (λh=>absurd h da) λnm _ e' Aa=>?_);refine qd ?_;exact Ki (Aa.trans (pr.trans (Om.trans (tc.trans hj)))) (by rw[<-UM,<-hE];rfl) da;have h4:¬ 150000-T<s.2:=by have:=zt h3;omega
  rw[zn h4] at hE;refine oS (sK (H1:=[]) (F:=_) [_,_,_] rfl Kb (Cg true s.1 6 da) (λ_=>?_) λnm h=>absurd rfl h);refine oa ?_;exact⟨l2.length,_,_,lt_succ_self _,⟨pre++[s],l2,T+s.2,by rw[Mb];simp,rfl,rfl,rfl,⟨by omega,by omega⟩,hE⟩,⟨rfl,rfl,rfl,rfl,rfl,lh (by simp),trivial⟩,Gg Ya,pr⟩
 have hlen:=zf hc;rw[ab,Mb,ya] at hlen;obtain rfl:l1=[]:=by
  cases l1 with
  |nil=>rfl
  |cons a l2=>simp at hlen;omega
 have E5:SZ=0:=by rw[<-hE];rfl
 rw[E5] at UM;have wF:ui FS MN=E:=by rw[<-UM];rfl
 clear UM hlen hc Qm Mb hE;have IM:(fs.map (·.name)).Nodup:=(Dm y3).2.1;have rr:j.ds=[]:=pr.trans (Om.trans (tc.trans hj));clear hj tc Om pr;refine ja ?_;refine oL (λkk ls H'=>∃ (pre l1:List ob) (known:List Nd) (F1:KV) (g4:Nat) (nm:Nm) (o1:Value) (d1:Nat),fs=pre++l1/\kk=l1.length/\ls=[(0,ptr k.cb 0),(3,ptr b3 0),(90,.list (fs.map cg)),(91,int .i64 ((fs.map cg).length:Int)),(92,iv pre.length)] /\
   H'=(b3,.cells 68 [.list (vars.map str),.list (ba.map bc),.list (fs.map cg)])::dt { k with name:=nm,G:=G1,g1:=g1,V:=V1,g2:=g2,A:=A1,g3:=g3,F:=F1,g4:=g4 } o1 d1/\(∀ n,GL.db F1 n=(known.find? λg=>decide (g.name=n)).map TI)/\known.map (·.name)=pre.map (·.name) /\
   Ur vars (ba.map (·.1)) (fs.map (·.name)) known l1=FS/\oA vars (ba.map (·.1)) (fs.map (·.name)) known l1=SS/\Hs (8 * Qd pre) pre.length known)
  ⟨_,_,_,⟨[],fs,[],k.F,k.g4,k.name,o,d,rfl,rfl,rfl,rfl,λn=>by rw[mF];rfl,rfl,hFS,hSS,λx hx=>(not_mem_nil hx).elim⟩,jb,Tb _⟩ ?_
 rintro kk ls H' ⟨pre,l1,known,F1,g4,nm,o1,d1,Mb,rfl,rfl,rfl,hF,ZC,hE,hS,hB⟩ j2 tc;have Qm:pre.length<=2000000:=by have:=congrArg List.length Mb;rw[ya] at this;omega
 refine wg ?_;refine Ca (λhc=>?_) λhc=>?_
 ·have hlen:=zt hc;rw[ab,Mb,ya] at hlen
  obtain⟨s,l2,rfl⟩:∃ a l2,l1=a::l2:=by
   cases l1 with
   |nil=>simp at hlen
   |cons a l2=>exact⟨a,l2,rfl⟩
  have gd:Qd pre+kq s<=2000000:=by have:=dh;rw[Mb,GZ,Qd] at this;omega
  have jl:s.name ∉ known.map (·.name):=by rw[ZC];have:=IM;rw[Mb,Lf,jd] at this;intro hm;exact(Dm this).2.2 _ hm _ Ce rfl
  rw[Ur] at hE;rw[oA] at hS;refine Zi ?_;refine ia (xR (ve:=cg s) (cs:=[_,_,_,_]) rfl rfl zo (by rw[Mb];exact xd cg pre s l2) rfl rfl)<|Ga ?_;refine oS (Rc λb7=>?_);refine ja ?_;refine oS (S.yc (F:=[_,_]) [_,_] rfl (Nh (l₁:=[_,_])) (qmE (vars:=vars) (ba:=ba.map (·.1)) (later:=fs.map (·.name)) (known:=known) (k:={ k with name:=nm,G:=G1,g1:=g1,V:=V1,g2:=g2,A:=A1,g3:=g3,F:=F1,g4:=g4 }) (o:=o1) (d:=d1) s Yy hV1 CK hF jl hB zo zo zo) (λH2 h0 hP=>?_) λnm h0 e' Aa=>?_);rotate_left;refine qd ?_;exact Ki (Aa.trans (tc.trans rr)) (by rw[<-wF,<-hE,nL (a:=ui _ _) (by rw[nL h0];exact h0),nL h0]) h0;obtain⟨nm',o',d',F',g4',hF',rfl⟩:=hP;refine wa.perm (Nh (l₂:=[_,_])) ?_;refine rl ?_;refine⟨l2.length,_,_,lt_succ_self _,⟨pre++[s],l2,known++[Fi vars (ba.map (·.1)) (fs.map (·.name)) known s],F',g4',nm',o',d',by rw[Mb];simp,rfl,rfl,rfl,hF',?_,by rw[<-hE,h0];rfl,hS,?_⟩,⟨rfl,rfl,rfl,rfl,lh (by simp),trivial⟩,Gg Ya,tc⟩;rw[Lf,Lf,ZC];rfl;have h1:=qxU (vars:=vars) (ba:=ba.map (·.1)) (later:=fs.map (·.name)) (f:=s) hB;have h2:Qd (pre++[s])=Qd pre+kq s:=by rw[GZ,Qd,Qd];rfl
  intro g hg;rw[h2,ya,List.length_singleton];rcases vj hg with hg|hg;obtain⟨a1,a2,a3⟩:=hB g hg;exact⟨by omega,by omega,by omega⟩;obtain rfl:=cj hg;obtain⟨a1,a2,a3⟩:=h1;exact⟨by omega,by omega,by omega⟩
 have hlen:=zf hc;rw[ab,Mb,ya] at hlen;obtain rfl:l1=[]:=by
  cases l1 with
  |nil=>rfl
  |cons a l2=>simp at hlen;omega
 have CR:FS=0:=by rw[<-hE];rfl
 have N3:known=SS:=by rw[<-hS];rfl
 rw[CR] at wF;have vK:MN=E:=by rw[<-wF];rfl
 clear hlen hc Qm Mb hE;subst N3;have ug:=qlr fs [] (hFS.trans CR);have eF:∀ f∈fs,f.name.length<=1000/\∀ x∈f.params++f.locals,x.length<=1000:=λf hf=>by obtain⟨kk,hk⟩:=ug f hf;exact⟨qlN (NQ f.name (List.mem_append_right _ (mem_map_of_mem hf))),qr4 hk⟩
 have Bs:∀ f∈fs,pS f:=λf hf=>YW (Se (jU hf) dh);have bw:=tc.trans rr;unfold vO at tq;refine ja ?_
 cases Dn:fs.getLast? with
 |none=>
  have hf0:fs=[]:=List.getLast?_eq_none_iff.1 Dn;rw[Dn] at tq;refine oB 105 rfl (λh=>absurd (zt h) (by rw[hf0];decide)) λ_=>?_;refine qa ?_;refine oS (sK (H1:=[]) (F:=_) [_,_,_] rfl Kb (Cg false [109,97,105,110] 9 da) (λh=>absurd h da) λnm _ e' Aa=>?_);refine oi ?_
  exact Ki (Aa.trans bw) (vK.symm.trans tq.symm) da
 |some f=>
  obtain⟨ys,z1⟩:=List.getLast?_eq_some_iff.1 Dn;have J3:(fs.map cg).length=ys.length+1:=by rw[ab,z1,ya];rfl
  have CV:(fs.map cg).length<=2000000:=by rw[ab];exact lK
  have Mt:(0:Int)<=((fs.map cg).length:Int)-1:=by omega
  have wm:(fs.map cg)[(((fs.map cg).length:Int)-1).toNat]? = some (cg f):=by rw[show(((fs.map cg).length:Int)-1).toNat=ys.length by omega,z1,Lf];rw[List.getElem?_append_right (by rw[ab];exact Nb _),ab,Nat.sub_self];rfl
  have fF:known.map (·.name)=fs.map (·.name):=by rw[<-hSS,qkb];rfl
  obtain⟨m,hm⟩:∃ m,known.getLast? = some m:=by
   cases hx:known.getLast? with
   |some m=>exact⟨m,rfl⟩
   |none=>rw[List.getLast?_eq_none_iff.1 hx,z1] at fF;simp at fF
  have D3:m.name=f.name:=by have h1:=congrArg List.getLast? fF;rw[List.getLast?_map,List.getLast?_map,hm,Dn] at h1;exact Option.some.inj h1
  have eR:=qto (by rw[fF];exact IM) hm;rw[Dn,hm] at tq;replace tq:(if f.name=[109,97,105,110]/\f.params=[] then (if (Ad vars fs).length<=8000/\m.need<=200/\m.depth<=60 then 0 else 6) else 9)=MN:=tq
  rw[vK] at tq;refine oB 105 rfl (λ_=>?_) (λh=>absurd (show((fs.map cg).length:Int) > 0 by omega) (zf h));refine Ga ?_
  first|refine wa.want rfl rfl ?_|skip
  refine DN ?_;refine oB 115 rfl (λh1=>?_) λh1=>?_;rotate_left;rw[zn (λh=>zf h1 h.1)] at tq;refine qa ?_;refine oS (sK (H1:=[]) (F:=_) [_,_,_] rfl Kb (Cg false [109,97,105,110] 9 da) (λh=>absurd h da) λnm _ e' Aa=>?_);refine oi ?_;exact Ki (Aa.trans bw) tq.symm da;have EH:f.name=[109,97,105,110]:=zt h1;refine Ga ?_
  first|refine wa.want rfl rfl ?_|skip
  refine DN ?_;refine oB 125 rfl (λh2=>?_) λh2=>?_;rotate_left;rw[zn (λh=>zf h2 (by rw[h.2];rfl))] at tq;refine oS (sK (H1:=[]) (F:=_) [_,_,_] rfl Kb (Cg false [109,97,105,110] 9 da) (λh=>absurd h da) λnm _ e' Aa=>?_);refine oi ?_;exact Ki (Aa.trans bw) tq.symm da
  have Qy:f.params=[]:=by have h3:=zt h2;rw[ab] at h3;exact List.length_eq_zero_iff.1 zo
  rw[zp ⟨EH,Qy⟩] at tq;refine oS (sK (H1:=[]) (F:=_) [_,_,_] rfl Kb (Cg true [109,97,105,110] 9 da) (λ_=>?_) λnm h=>absurd rfl h)
  have hgF:GL.db F1 [109,97,105,110]=some (TI m):=by rw[hF,<-EH,<-D3,eR];rfl
  refine ja ?_;refine ia (Pure.nH rfl rfl yS hgF)<|oS (Rc λb16=>?_);refine ja ?_;refine oS (sF [_] rfl (Fh (.list (ba.map bc)) fB lK Bs eF) ?_);refine Ga ?_;refine oB 136 rfl (λh3=>?_) λh3=>?_;rotate_left;have Po:¬ ((Ad vars fs).length<=8000/\m.need<=200/\m.depth<=60):=λh=>zf h3 (by rw[ab];have:=h.1;omega);rw[zn Po] at tq;refine qa ?_;refine oS (sK (H1:=[]) (F:=_) [_,_,_] rfl Kb (Cg false [109,97,105,110] 6 da) (λh=>absurd h da) λnm _ e' Aa=>?_);exact Ki (Aa.trans bw) tq.symm da
  have Gr:(Ad vars fs).length<=8000:=by have:=zt h3;rw[ab] at this;omega
  refine Ga ?_;refine oB 141 rfl (λh4=>?_) λh4=>?_;rotate_left;have Po:¬ ((Ad vars fs).length<=8000/\m.need<=200/\m.depth<=60):=λh=>zf h4 (by have:=h.2.1;omega);rw[zn Po] at tq;refine qa ?_;refine oS (sK (H1:=[]) (F:=_) [_,_,_] rfl Kb (Cg false [109,97,105,110] 6 da) (λh=>absurd h da) λnm _ e' Aa=>?_);exact Ki (Aa.trans bw) tq.symm da
  have yF:m.need<=200:=by have:=zt h4;omega
  refine Ga ?_;refine oB 145 rfl (λh5=>?_) λh5=>?_;rotate_left;have Po:¬ ((Ad vars fs).length<=8000/\m.need<=200/\m.depth<=60):=λh=>zf h5 (by have:=h.2.2;omega);rw[zn Po] at tq;refine oS (sK (H1:=[]) (F:=_) [_,_,_] rfl Kb (Cg false [109,97,105,110] 6 da) (λh=>absurd h da) λnm _ e' Aa=>?_);exact Ki (Aa.trans bw) tq.symm da
  have h5':m.depth<=60:=by have:=zt h5;omega
  rw[zp ⟨Gr,yF,h5'⟩] at tq;refine oS (sK (H1:=[]) (F:=_) [_,_,_] rfl Kb (Cg true [109,97,105,110] 6 da) (λ_=>?_) λnm h=>absurd rfl h);refine Qc ?_;exact LW bw rN tq.symm rfl Vc rfl
section
variable{C:Ctx}{e:Env}{H:Heap}{dst:Option Nat}{ty:TypeId}{pos:String}{ka:Array Edge}{g:Option (Nat×Bool)}{x:Operand}
theorem Pure.wq{t xT:TypeId} [ht:Ie C.P t]{zs:List Value}(hz:∀ w,(zeroValue t).run C.P w=.ok (.agg zs.toArray) w)(hx:e.ev x=.atom .nilIface):Go.GL.Pure C ⟨dst,.typeAssert x xT t true,ty,pos,ka,g⟩ e H (.tuple [.agg (zs.map .atom),bool false]):=
 .Ja λρ w L h=>⟨.tuple #[.agg zs.toArray,.bool false],by
  simp only[wb];exact⟨[.agg zs.toArray,.bool false],rfl,by simp only[la,wb];exact⟨_,_,rfl,⟨zs,rfl,Wq zs⟩,_,_,rfl,rfl,rfl⟩⟩,λw'=>by
  obtain⟨d,hd,hm⟩:=ht.out;have h3:execOp ρ ⟨dst,.typeAssert x xT t true,ty,pos,ka,g⟩=(do Pure.pure (.value (<-Instr.typeAssert (ρ x) xT t true))):=rfl;rw[h3,Rb h hx];simp only[Instr.typeAssert,wc,ie hd,Sc];cases d <;> simp_all [wc]⟩
end
theorem qwj(w:World):(zeroValue 109).run Tryz.prog w=.ok (.agg [.string ⟨#[]⟩,.int .i64 0].toArray) w:=
 (Go.zero_of_info (P:=Tryz.prog) (n:=2) zk).1 w
attribute [local irreducible] Ii ng fv qn
theorem qwc(b2 b3:Nat)(c d:LV):qn (KC B0 w0) 43 [ptr b2 0,ptr b3 0] .returning [(b2,.cells 9 [c]),(b3,.cells 23 [d])]
  (λu H=>u=.returning/\H=[(b2,.cells 9 [c]),(b3,.cells 23 [d])]):=by
 refine qn.intro Tryz.func43 rfl (n:=19) rfl rfl rfl ?_;refine Lx ?_;refine Bd ?_;refine ia (Pure.wq qwj rfl)<|Ga ?_;refine oS (Rc λb5=>?_);refine ja ?_;refine Ca (λhc=>?_) λhc=>?_;cases hc;refine ja ?_;refine Ca (λhc=>?_) λhc=>?_;cases hc;refine qa ?_;exact⟨rfl,_,Gg Ya,rfl,rfl⟩
theorem qvw(b2 b3:Nat)(c d:LV)(nm:List UInt8)(er:Int):qn (KC B0 w0) 43 [ptr b2 0,ptr b3 0] (.panicking (LD nm er)) [(b2,.cells 9 [c]),(b3,.cells 23 [d])]
  (λu H=>settle u=.returning/\H=[(b2,.cells 9 [str nm]),(b3,.cells 23 [int .i64 er])]):=by
 refine qn.intro Tryz.func43 rfl (n:=19) rfl rfl rfl ?_;refine Lx ?_;refine Bd ?_;refine ia (Pure.Uo (vs:=[.string ⟨nm.toArray⟩,.int .i64 er]) rfl)<|Ga ?_;refine oS (Rc λb5=>?_);refine ja ?_;refine Ca (λhc=>?_) λhc=>?_
 ·skip
  refine bj (m:=6) rfl [(b5,.cells 109 [str nm,int .i64 er])] ?_;refine lI ?_;refine aT 2 rfl rfl (pF rfl)<|aT 3 rfl rfl (pL (c:=.atom _) rfl Bb rfl)<|aL ?_ Xc;refine lO 4 (lS (H1:=[(b2,.cells 9 [c])]) (F:=[(b5,.cells 109 [str nm,int .i64 er]),(b3,.cells 23 [d])]) rfl (.inl rfl) rfl Fc Xc (sS (Ab:=[_]) rfl pH rfl rfl rfl rfl rfl ?_));refine lO 5 (lS (H1:=[(b3,.cells 23 [d])]) (F:=[(b2,.cells 9 [str nm]),(b5,.cells 109 [str nm,int .i64 er])]) rfl (.inl rfl) rfl Bj (Pb Fc Vc) (sS (Ab:=[_]) rfl pH rfl rfl rfl rfl rfl ?_));refine lD zk ?_;exact⟨rfl,_,Pb Fc Xc,rfl,rfl⟩
 cases hc
theorem Ff(vars:List Nm)(ba:List (Nm×Int))(fs:List ob)(fB:vars.length<=2000000)(OM:ba.length<=2000000)(qK:∀ a∈ba,-9223372036854775808<=a.2/\a.2<9223372036854775808)(dh:Qd fs<=2000000) :
  ca (KC B0 w0) 27 [fh vars ba fs] [] (λr H=>H=[]/\∃ nm,r=.ret (.tuple [str nm,int .i64 (Uq vars ba fs)])):=by
 generalize hE:Uq vars ba fs=E;refine ca.Nv Tryz.func27 rfl (n:=15) rfl rfl rfl ?_;refine Ym ?_;refine Xd ?_;refine oS (sB rfl λb1=>oS (Rc λb2=>?_));refine oS (Rc λb3=>?_);refine Qc ?_;refine Ku ?_;refine Ii.defer rfl rfl ?_;refine zq ?_;refine Ym ?_;refine Xd ?_;refine oS (S.fl λgm=>oS (S.fl λvm=>?_));refine oS (S.fl λam=>oS (S.fl λfm=>?_));refine Ga ?_;refine oS (sB rfl λcb=>?_);refine wa.Zb (H':=dt ⟨cb,gm,vm,am,fm,0,[],[],[],[],[],0,0,0,0,0,[]⟩ (.map none) 0++[(b3,.cells 23 [int .i64 0]),(b2,.cells 9 [str []]),(b1,.cells 68 [.list (vars.map str),.list (ba.map bc),.list (fs.map cg)])]) ?_ ?_
 ·repeat first
   |exact HSub.nil _
   |refine Pb dI ?_
 refine Qc ?_;refine Ku ?_;refine Ii.step (S.yc (F:=[_,_,_]) [_,_] rfl Kb (rJ (k:=⟨cb,gm,vm,am,fm,0,[],[],[],[],[],0,0,0,0,0,[]⟩) (o:=.map none) (d:=0) vars ba fs rfl rfl rfl rfl fB OM qK dh) (λH2 h0 hP=>?_) λnm h0=>?_) rfl
 ·subst hP;rw[hE] at h0;subst h0;refine zq ?_;refine ng.seq (ng.region ?_);refine Ii.step (sS (Ab:=[_]) rfl Fc rfl rfl rfl rfl rfl ?_) rfl;refine Ii.step (sS (Ab:=[_]) rfl Fc rfl rfl rfl rfl rfl ?_) rfl;refine zq ?_;refine ng.ret ?_
  exact qv.Gj (vs:=[str [],int .i64 0]) (H1:=[(b2,.cells 9 [str []]),(b3,.cells 23 [int .i64 0])]) (F:=[_]) (H2:=[(b2,.cells 9 [str []]),(b3,.cells 23 [int .i64 0])]) rfl (Vp _ _ _) (qwc b2 b3 _ _)
   (rC (Xl.ic rfl Bb rfl ld) (rC (Xl.ic rfl xf rfl ld) rN)) Vc ⟨rfl,[],rfl⟩
 rw[hE] at h0 ⊢;refine Ud.panic ?_;exact qv.Xq (vs:=[str nm,int .i64 E]) (H1:=[(b2,.cells 9 [str []]),(b3,.cells 23 [int .i64 0])]) (F:=[_]) (H2:=[(b2,.cells 9 [str nm]),(b3,.cells 23 [int .i64 E])]) rfl (Vp _ _ _) (qvw b2 b3 _ _ nm E)
  (rC (Xl.ic rfl Bb rfl ld) (rC (Xl.ic rfl xf rfl ld) rN)) Vc ⟨rfl,nm,rfl⟩
end Go.Proofs.YtmnjklgnhpnckaaGreatDoor.Ti
