import Derived.Test.YtmnjklgnhpnckaaGreatDoorBRowLV11
set_option linter.unusedVariables false
set_option linter.unusedSimpArgs false
set_option maxRecDepth 100000
set_option maxHeartbeats 4000000
open List (drop_eq_getElem_cons take_length mem_append_right mem_map_of_mem not_mem_nil nil_append cons_append)
open Nat (zero_le lt_succ_self)
open Option (none_or)
namespace Go.Proofs.YtmnjklgnhpnckaaGreatDoor.Pp
open Go.GL Go.RowKit Go.ia
open sq (rl rl.mk Xp)
variable{i:Nat}{v:List Wd}
theorem qoI(h:5<v.length):((v.map str).take 6).drop 4=[str (ka v 4),str (ka v 5)]:=by
 have e4:ka v 4=v[4]:=by unfold ka;rw[jh zo];rfl
 have e5:ka v 5=v[5]:=by unfold ka;rw[jh h];rfl
 rw[e4,e5,<-List.map_take,<-List.map_drop];have:(v.take 6).drop 4=[v[4],v[5]]:=by rw[List.drop_take,drop_eq_getElem_cons (by omega:4<v.length),drop_eq_getElem_cons h];rfl
 rw[this];rfl
attribute [local irreducible] Ea fb Ya ca Go.GL.Pure ve Oe Kd LQ yb nh db
variable{B0:Nat}{w0:World}
theorem qo5(v:List Wd)(m:Nat)(hv:Small v):ca (KC B0 w0) 99 [dn v m] [] (Qb (fF (fA v))):=by
 have kj:=aV (B0:=B0) (w0:=w0) v m 4 hv zo;have ki:=Jt (B0:=B0) (w0:=w0) v m 0 [[49],[60],[49],[60]] hv zo fa;have hF:fA v=if (zm v 4).isSome=true/\qA v 0 [[49],[60],[49],[60]]=true then (6,[ka v 4,ka v 5]) else (0,[]):=by simp only[fA,qA,sd,Gg,and_true]
 have na:∀ l,zm v 4=some l->5<v.length:=λl h=>lA h;unfold dn at kj ki ⊢;generalize zm v 4=oj at kj hF na;generalize qA v 0 [[49],[60],[49],[60]]=q at ki hF;refine kb Tryz.func99 rfl (n:=20) rfl rfl rfl ?_;refine qe ?_;refine oS (sB (cs:=[.list (v.map str),.atom (.map (some m))]) rfl λb1=>?_);refine wa ?_;refine oS (S.Dg [_,_] rfl kj ?_);rintro lv ⟨s,rfl,hs⟩;refine xa ?_
 cases oj with
 |none=>
  refine Da ?_;refine Ma (λh=>?_) λh=>?_;cases h
  exact ZI
 |some l=>have h5:=na l rfl;refine Na ?_;refine oS (sL [.const (.string { data:=#[49] }),.const (.string { data:=#[60] }),.const (.string { data:=#[49] }),.const (.string { data:=#[60] })] rfl (gd rfl rfl (gd rfl rfl (gd rfl rfl (gd rfl rfl Ch)))) rfl rfl rfl ?_);refine fi ?_;refine oS (sF [_,_,_] rfl ki ?_);refine Da ?_;refine Ma (λh=>?_) λh=>?_;have hq:q=true:=h;subst hq;refine Da ?_;refine cD (m:=5) rfl [(b1,.cells 193 [.list (v.map str),.atom (.map (some m))])]<|aT 0 rfl rfl (pF rfl)<|aT 1 rfl rfl (pL (c:=.list _) rfl nc rfl)<|yb.take (i:=2) ob rfl zk zk zk rfl (Pure.Tr (es:=v.map str) (i:=4) (j:=6) rfl ⟨_,rfl⟩ ⟨_,rfl⟩ zo zo (by rw[Db];omega) (zH v))<|aT 3 rfl rfl (pA (lv:=.atom _) rfl)<|aT 4 rfl rfl (pA (lv:=.list _) rfl)<|jv ?_;refine Da ?_;exact qb rfl (rC (Fc rfl) (rC (rT (v:=.list _) rfl Nd) rN)) (by rw[hF];exact congrArg (λx=>LV.tuple [int .i64 6,.list x]) (qoI h5));have hq:q=false:=h;subst hq;refine xa ?_;exact qb rfl (rC (Fc rfl) (rC (rT (v:=Yb) rfl vN) rN)) (by rw[hF];rfl)
theorem qno(hG:GW B0 w0)(v:List Wd)(m:Nat)(hv:Small v):ca (KC B0 w0) 97 [dn v m] [] (Qb (fF (Xy v))):=by
 have k0:=gn (B0:=B0) (w0:=w0) v m 0 (by have:=hv.1;omega);have k1:=gn (B0:=B0) (w0:=w0) v m 1 (by have:=hv.1;omega);have k2:=gn (B0:=B0) (w0:=w0) v m 2 (by have:=hv.1;omega);have k3:=gn (B0:=B0) (w0:=w0) v m 3 (by have:=hv.1;omega);have kj:=qjI hG (ka v 0) (ka v 1) (ka v 2) (hv.at 0) (hv.at 2);have hF:Xy v=if (ka v 1=[43]∨ka v 1=[42]∨ka v 1=[94])/\ka v 3=ka v 1 then
  (match ak (ka v 0) (ka v 1) (ka v 2) with
  |some s=>(4,[s,ka v 1])
  |none=>(0,[]))
 else (0,[]):=rfl
 unfold dn at k0 k1 k2 k3 ⊢;generalize ak (ka v 0) (ka v 1) (ka v 2)=o at kj hF;generalize ka v 1=b at k1 kj hF;generalize ka v 3=d at k3 hF;refine kb Tryz.func97 rfl (n:=38) rfl rfl rfl ?_;refine qe ?_;refine oS (sB (cs:=[.list (v.map str),.atom (.map (some m))]) rfl λb1=>?_);refine wa ?_;refine oS (sF [_,_] rfl k1 ?_);refine wa ?_;refine Ea.cut [(1,ptr b1 0),(4,str b),(24,bool (!decide ((b=[43]∨b=[42]∨b=[94])/\d=b)))] ?_ λj hj=>?_;refine oB 11 rfl (λh1=>?_) λh1=>?_;have e1:¬ b=[43]:=by simpa using h1
 refine Na ?_;refine oB 15 rfl (λh2=>?_) λh2=>?_;have e2:¬ b=[42]:=by simpa using h2
 refine Na ?_;refine oB 19 rfl (λh3=>?_) λh3=>?_;have e3:¬ b=[94]:=by simpa using h3
 refine Da ?_;exact⟨⟨rfl,rfl,xe (by simp[e1,e2,e3]),trivial⟩,rfl,rfl⟩;have e3:b=[94]:=by simpa using h3
 refine Na ?_;refine oS (sF [_,_] rfl k3 ?_);refine Na ?_;exact⟨⟨rfl,rfl,xe (by simp[e3]),trivial⟩,rfl,rfl⟩;have e2:b=[42]:=by simpa using h2
 refine Na ?_;refine oS (sF [_,_] rfl k3 ?_);refine Na ?_;exact⟨⟨rfl,rfl,xe (by simp[e2]),trivial⟩,rfl,rfl⟩;have e1:b=[43]:=by simpa using h1
 refine Na ?_;refine oS (sF [_,_] rfl k3 ?_);refine Na ?_;exact⟨⟨rfl,rfl,xe (by simp[e1]),trivial⟩,rfl,rfl⟩;refine Ma (λh=>?_) λh=>?_;have hn:¬ ((b=[43]∨b=[42]∨b=[94])/\d=b):=zf (Bool.not_eq_true' _▸h);rw[zn hn] at hF;refine Gj ?_;exact qb hj (rC (Fc rfl) (rC (rT (v:=Yb) rfl vN) rN)) (by rw[hF];rfl)
 have hn:(b=[43]∨b=[42]∨b=[94])/\d=b:=by by_cases hc:(b=[43]∨b=[42]∨b=[94])/\d=b;exact hc;rw[decide_eq_false hc] at h;cases h
 rw[zp hn] at hF;refine Da ?_;refine cD (m:=11) rfl [(b1,.cells 193 [.list (v.map str),.atom (.map (some m))])]<|aT 0 rfl rfl (pG (Ob:=[_,_]) rfl nc rfl rfl)<|mv ?_;refine aT 3 rfl rfl (pG (Ob:=[_,_]) rfl nc rfl rfl)<|bJ ?_;refine lO 4 (lS (H1:=[]) rfl (.inl rfl) rfl mc ob (sF [_,_] rfl k2 ?_));refine lO 5 (lS (H1:=[]) rfl (.inl rfl) rfl mc ob (S.Dg [_,_,_] rfl kj ?_));rintro lv ⟨s,rfl,hs⟩;refine nh.any [(b1,.cells 193 [.list (v.map str),.atom (.map (some m))])] (λ_ h=>h) ?_;refine aT 6 rfl rfl (pM (lv:=.tuple _) rfl)<|aT 7 rfl rfl (Pure.extract (c:=.atom _) rfl rfl)<|aT 8 rfl rfl (Pure.extract (c:=.atom _) rfl rfl)<|aT 9 rfl rfl (pA (lv:=.atom _) rfl)<|aT 10 rfl rfl (pA (lv:=.atom _) rfl)<|jv ?_;refine Di ?_;refine Ma (λh=>?_) λh=>?_;obtain⟨l,rfl⟩:=zR h;obtain rfl:=hs l rfl;refine Bd ?_;refine oS (sL [.tmp 35,.tmp 36] rfl (gd rfl rfl (gd rfl rfl Ch)) rfl rfl rfl ?_);refine Na ?_;exact qb hj (rC (Fc rfl) (rC (rT (v:=.list _) rfl Nd) rN)) (by rw[hF];rfl)
 obtain rfl:o=none:=by
  cases o with
  |none=>rfl
  |some l=>cases h
 refine xa ?_;exact qb hj (rC (Fc rfl) (rC (rT (v:=Yb) rfl vN) rN)) (by rw[hF];rfl)
theorem qmZ(h:v.length<=i):Cq (v.drop i)=0:=by rw[List.drop_eq_nil_of_le h];rfl
theorem qpn(h:i<v.length)(hd:(ya v[i]).isSome=true):Cq (v.drop i)=0:=by
 unfold Cq;rw[drop_eq_getElem_cons h,List.takeWhile_cons_of_neg (λhc=>absurd (show(ya v[i]).isNone=true from hc) (by
  cases hx:ya v[i] with
  |none=>rw[hx] at hd;cases hd
  |some d=>simp))]
 rfl
theorem qob(h:i<v.length)(hd:(ya v[i]).isSome=false):Cq (v.drop i)=Cq (v.drop (i+1))+1:=by unfold Cq;rw[drop_eq_getElem_cons h,List.takeWhile_cons_of_pos (by simpa using hd)];rfl
theorem qyM{n:Nat}(hn:n=Mj v)(h0:n=0->i=0)(hi:n<=i)(hE:0<n->Cq (v.drop n)=i-n):Yz v=if n<i then (i,v.take n) else (0,[]):=by unfold Yz;rw[<-hn];by_cases h:0<n;rw[hE h];by_cases hj:n<i;rw[zp ⟨h,by omega⟩,zp hj,show n+(i-n)=i by omega];rw[zn λhc=>hj zo,zn hj];rw[zn λhc=>h hc.1,zn (by have:=h0 zo;omega)]
theorem qta(v:List Wd)(m:Nat)(hv:Small v):ca (KC B0 w0) 102 [dn v m] [] (Qb (fF (Yz v))):=by
 have zC:(v.map str).length=v.length:=Db _;have hl:=hv.1;have k0:=gn (B0:=B0) (w0:=w0) v m 0 (by have:=hv.1;omega);have kj:=aV (B0:=B0) (w0:=w0) v m 1 hv zo;have hS:Mj v=if (zm v 1).isSome=true/\ka v 0=[48] then 3 else if ka v 0=[59]∨ka v 0=[36] then 1 else 0:=rfl
 have hD:=λ{n i:Nat}=>qyM (v:=v) (n:=n) (i:=i);unfold dn at k0 kj ⊢;generalize Mj v=n at hS hD;generalize zm v 1=oj at kj hS;generalize ka v 0=a at k0 hS;have hn3:n<=3:=by rw[hS];split;omega;split <;> omega
 refine kb Tryz.func102 rfl (n:=59) rfl rfl rfl ?_;refine qe ?_;refine oS (sB (cs:=[.list (v.map str),.atom (.map (some m))]) rfl λb1=>?_)
 repeat (first|refine Ea.nil ?_|refine qN ?_|refine la (pA (lv:=.atom _) rfl) ?_)
 refine qe ?_;repeat (first|refine Ea.nil ?_|refine qN ?_|refine la (pA (lv:=.atom _) rfl) ?_)
 refine fb.seq ?_;refine Sz [(1,ptr b1 0),(4,int .i64 (n:Nat))] ?_ λj hj=>?_;refine wa ?_;refine oS (S.Dg [_,_] rfl kj ?_);rintro lv ⟨s,rfl,hs⟩;refine xa ?_;refine Ea.cut [(1,ptr b1 0),(4,int .i64 0),(20,bool (decide (oj.isSome=true/\a=[48])))] ?_ λj2 wc=>?_
 cases oj with
 |none=>refine Da ?_;exact⟨⟨rfl,rfl,xe (by simp),trivial⟩,rfl,rfl⟩
 |some l=>refine Na ?_;refine oS (sF [_,_] rfl k0 ?_);refine Da ?_;exact⟨⟨rfl,rfl,xe (by simp),trivial⟩,rfl,rfl⟩
 refine Ma (λh=>?_) λh=>?_;rw[zp (zt h)] at hS;subst hS;refine Yn ?_;exact⟨lb,rfl,wc⟩;rw[zn (zf h)] at hS;refine wa ?_;refine oS (sF [_,_] rfl k0 ?_);refine Da ?_;refine Ea.cut [(1,ptr b1 0),(4,int .i64 0),(28,bool (decide (a=[59]∨a=[36])))] ?_ λj3 qn=>?_;refine oB 24 rfl (λh1=>?_) λh1=>?_;have e1:a=[59]:=zt h1;refine Da ?_;exact⟨⟨rfl,rfl,xe (by simp[e1]),trivial⟩,rfl,rfl⟩;have e1:¬ a=[59]:=zf h1;refine Na ?_;refine oS (sF [_,_] rfl k0 ?_);refine Da ?_;exact⟨⟨rfl,rfl,xe (by simp[e1]),trivial⟩,rfl,rfl⟩;refine Ma (λh=>?_) λh=>?_;rw[zp (zt h)] at hS;subst hS;refine Yn ?_;exact⟨lb,rfl,qn.trans wc⟩;rw[zn (zf h)] at hS;subst hS;refine Da ?_;exact⟨lb,rfl,qn.trans wc⟩;refine xa ?_
 refine oL (λk ls H=>∃ i:Nat,n<=i/\(i<=v.length∨i=n)/\(n=0->i=0)/\k=v.length+4-i/\ls=[(1,ptr b1 0),(4,int .i64 (n:Nat)),(7,int .i64 (i:Nat))]/\H=[(b1,.cells 193 [.list (v.map str),.atom (.map (some m))])]/\Cq (v.drop n)=(i-n)+Cq (v.drop i))
  ⟨_,_,_,⟨n,Jb _,Or.inr rfl,id,rfl,rfl,rfl,by omega⟩,lb,Kb _⟩ ?_
 rintro k ls H ⟨i,aW,hi,h0,rfl,rfl,rfl,hE⟩ j1 pd;refine wa ?_;refine Ea.cut [(1,ptr b1 0),(4,int .i64 (n:Nat)),(7,int .i64 (i:Nat)),(38,bool (decide (0<n/\i<v.length)))] ?_ λj2 wc=>?_;refine oB 32 rfl (λh1=>?_) λh1=>?_;have e1:0<n:=by have:=zt h1;omega
 refine Na ?_;exact⟨⟨rfl,rfl,rfl,xe (by rw[decide_eq_decide];omega),trivial⟩,rfl,rfl⟩;have e1:¬ 0<n:=by have:=zf h1;omega
 refine Da ?_;exact⟨⟨rfl,rfl,rfl,xe (by simp[e1]),trivial⟩,rfl,rfl⟩;refine Ma (λh=>?_) λh=>?_;obtain⟨Co,Ja⟩:=zt h;have kd:=I1 (B0:=B0) (w0:=w0) v[i] (by have:=hv.2 _ (List.getElem_mem Ja);omega);refine wa ?_;refine la (xR (ke:=str v[i]) (cs:=[str v[i]]) rfl rfl zo (Ln _ _ _ Ja) rfl rfl)<|Na ?_;refine oS (S.Dg [_] rfl kd ?_);rintro lv ⟨s,rfl,hs⟩;refine xa ?_;refine Ma (λh2=>?_) λh2=>?_;rw[qpn Ja h2] at hE
 replace hD:=hD rfl h0 aW (λ_=>by omega);refine wa ?_;refine Ma (λh3=>?_) λh3=>?_;exact ZN;exact iO;rw[qob Ja (by simpa using h2)] at hE;refine xa ?_;exact⟨_,_,_,by omega,⟨i+1,by omega,Or.inl zo,by omega,rfl,rfl,rfl,by omega⟩,lb,Kb _,wc.trans pd⟩;have hc:=zf h
 replace hD:=hD rfl h0 aW (λh=>by rw[qmZ (v:=v) (i:=i) zo] at hE;omega)
 refine xa ?_;refine Ma (λh3=>?_) λh3=>?_;exact ZN;exact iO
end Go.Proofs.YtmnjklgnhpnckaaGreatDoor.Pp
namespace Go.Proofs.YtmnjklgnhpnckaaGreatDoor.Pp
open Go.GL Go.RowKit Go.ia
open sq (rl rl.mk Xp)
def UL(ja:Wd->Bool)(v:List Wd):List Dr:=[Oy v,AB v,Xy v,Wz v,fA v,Py v,Jy v,Yz v,Su ja v]
def cH:List Dr->Dr
 |[]=>(0,[])
 |r::l=>if r.1≠0 then r else cH l
theorem qpC{ja:Wd->Bool}{v:List Wd}(h:(Su ja v).1=0):Su ja v=(0,[]):=by
 unfold Su at h ⊢;revert h;cases ya (ka v 0) with
 |none=>exact λ_=>rfl
 |some l=>intro h;simp only at h ⊢;by_cases hu:ja l=true;rw[zp hu];rw[zn hu] at h;cases h
theorem qo4(ja:Wd->Bool)(v:List Wd):Ke ja v=cH (UL ja v):=by have hz:=λh=>qpC (ja:=ja) (v:=v) h;unfold Ke UL;generalize Oy v=a1;generalize AB v=a2;generalize Xy v=a3;generalize Wz v=a4;generalize fA v=a5;generalize Py v=a6;generalize Jy v=a7;generalize Yz v=a8;generalize Su ja v=a9 at hz;simp only[cH];by_cases h9:a9.1≠0;rw[zp h9];rw[zn h9,hz (Decidable.not_not.1 h9)]
theorem qpA{l:List Dr}{i:Nat}(h:i<l.length):cH (l.drop i)=if l[i].1≠0 then l[i] else cH (l.drop (i+1)):=by rw[drop_eq_getElem_cons h,cH]
theorem qry{l:List Dr}{i:Nat}(h:l.length<=i):cH (l.drop i)=(0,[]):=by rw[List.drop_eq_nil_of_le h];try rfl
theorem qtH(ja:Wd->Bool)(v:List Wd):(UL ja v).length=9:=rfl
theorem qul(ja:Wd->Bool)(f:Nat):rk ja f []=[]:=by cases f <;> rfl
theorem qrX(ja:Wd->Bool)(f:Nat)(w:Wd)(r:List Wd):rk ja (f+1) (w::r)=if (Ke ja (w::r)).1=0 then w::rk ja f r else (Ke ja (w::r)).2++rk ja f ((w::r).drop (Ke ja (w::r)).1):=rfl
theorem qrQ(l:List Wd)(k:Nat)(h:k<l.length)(s:Wd):Ad (l.take (k+1)) s=(Ad (l.take k) s || decide (Va l[k]=some s)):=by unfold Ad;rw[List.take_succ_eq_append_getElem h,List.any_append];simp
attribute [local irreducible] Ea fb Ya ca Go.GL.Pure ve Oe Kd LQ yb nh db
theorem MJ(l:List Wd):((l.map str).flatMap LV.cells).all yq=true:=by
 induction l with
 |nil=>rfl
 |cons a l ih=>rw[jd,List.flatMap_cons,List.all_append,ih];rfl
theorem qtx(l:List Wd)(i:Nat):((l.map str).take (((l.map str).length:Nat):Int).toNat).drop ((i:Nat):Int).toNat=(l.drop i).map str:=by rw[Int.toNat_natCast,Int.toNat_natCast,take_length,List.map_drop]
theorem qu5{s:Nat}{v:LV}{es:List LV}{H:Heap}{q:Nat×ma}(h:Acc s v es H [q]):∃ F,H.Perm ([q]++F):=by
 cases h with
 |nil=>exact⟨[],List.Perm.refl _⟩
 |row=>exact⟨[_],cr ..⟩
theorem Small.drop{l:List Wd}(h:Small l)(i:Nat):Small (l.drop i):=
 ⟨by have:=h.1;rw[List.length_drop];omega,λw hw=>h.2 w (List.mem_of_mem_drop hw)⟩
def Is(k:Nat):LV:=.atom (.func (.func (95+k)) #[] #[])
variable{B0:Nat}{w0:World}
theorem qsn(hG:GW B0 w0)(l:List Wd)(hv:Small l):ca (KC B0 w0) 51 [.list (l.map str)] [] (Qb (.list ((Np l).map str))):=by
 have zC:(l.map str).length=l.length:=Db _;have hl:=hv.1;refine kb Tryz.func51 rfl (n:=73) rfl rfl rfl ?_;refine Yn ?_;refine oS (S.makeMap λm=>?_);refine xa ?_;refine oL (λk ls H=>∃ (i:Nat) (es:Array MapEntry) (qa:Nat),i<=l.length/\k=l.length-i/\ls=[(0,.list (l.map str)),(3,.atom (.map (some m))),(17,.list (l.map str)),(18,int .i64 l.length),(19,int .i64 (i:Nat))]/\H=[(m,.obj (.map es qa))]/\He es (Ad (l.take i)))
  ⟨_,_,_,⟨0,#[],0,zero_le _,rfl,rfl,rfl,He.nil⟩,lb,Kb _⟩ ?_
 rintro k ls H ⟨i,es,qa,hi,rfl,rfl,rfl,hM⟩ j1 pd;refine Zg ?_;refine Ma (λhc=>?_) λhc=>?_;have Ja:i<l.length:=by have:=zt hc;omega
 have kr:=qgB (B0:=B0) (w0:=w0) l[i] (by have:=hv.2 _ (List.getElem_mem Ja);omega);have hU:Ad (l.take (i+1))=λs=>Ad (l.take i) s || decide (Va l[i]=some s):=funext λs=>qrQ l i Ja s;refine Ti ?_;refine la (xR (ke:=str l[i]) (cs:=[str l[i]]) rfl rfl zo (Ln _ _ _ Ja) rfl rfl)<|wa ?_;refine oS (S.Dg [_] rfl kr ?_);rintro lv ⟨s,rfl,hs⟩;refine xa ?_;refine Ma (λh=>?_) λh=>?_;obtain⟨d,hd⟩:=zR h;obtain rfl:=hs d hd;refine Bd ?_;refine oS (S.uv (t:=112) (kt:=9) (el:=4) zk zk rfl rfl rfl pH hM λCp Ec mS=>?_);refine Zk ?_
 exact⟨_,_,_,by omega,⟨i+1,Cp,Ec,by omega,rfl,rfl,rfl,by
  rw[hU,hd];exact cast (by congr;funext x;simp[eq_comm]) mS⟩,lb,Kb _,pd⟩
 have hn:Va l[i]=none:=by
  cases ho:Va l[i] with
  |none=>rfl
  |some d=>rw[ho] at h;cases h
 refine xa ?_;exact⟨_,_,_,by omega,⟨i+1,es,qa,by omega,rfl,rfl,rfl,by
  rw[hU,hn];exact cast (by congr;funext x;simp) hM⟩,lb,Kb _,pd⟩
 have Ff:i=l.length:=by have:=zf hc;omega
 subst Ff;rw[take_length] at hM;refine xa ?_;refine oS (sL [.func 95,.func 96,.func 97,.func 98,.func 99,.func 100,.func 101,.func 102,.func 103] rfl (gd rfl rfl (gd rfl rfl (gd rfl rfl (gd rfl rfl (gd rfl rfl (gd rfl rfl (gd rfl rfl (gd rfl rfl (gd rfl rfl Ch))))))))) rfl rfl rfl ?_);refine wa ?_;refine oL (λk ls H=>∃ (i f:Nat) (out:List Wd) (v:LV),i<=l.length/\k=l.length-i/\ls=[(0,.list (l.map str)),(3,.atom (.map (some m))),(8,.list ((List.range 9).map Is)),(9,v),(10,int .i64 (i:Nat))]/\Acc 1 v (out.map str) H [(m,.obj (.map es qa))]/\l.length-i<=f/\out.length<=i/\out++rk (Ad l) f (l.drop i)=Np l)
  ⟨_,_,_,⟨0,l.length,[],Yb,zero_le _,rfl,rfl,Acc.nil,by omega,zero_le _,rfl⟩,lb,Kb _⟩ ?_
 rintro k ls H ⟨i,f,out,v,hi,rfl,rfl,Ra,hf,na,hE⟩ j2 wc;have hol:(out.map str).length=out.length:=Db _;refine xa ?_;refine Ma (λhc=>?_) λhc=>?_
 ·have Ja:i<l.length:=by have:=zt hc;omega
  obtain⟨f,rfl⟩:∃ g,f=g+1:=⟨f-1,by omega⟩;have hR:(Ke (Ad l) (l.drop i)).1≠0->(Ke (Ad l) (l.drop i)).1<=(l.drop i).length/\(Ke (Ad l) (l.drop i)).2.length<(Ke (Ad l) (l.drop i)).1:=kH (Ad l) (l.drop i);have hF:=qo4 (Ad l) (l.drop i);have hl9:=qtH (Ad l) (l.drop i);rw[drop_eq_getElem_cons Ja,qrX,<-drop_eq_getElem_cons Ja,List.drop_drop] at hE;have ot:(l.drop i).length=l.length-i:=List.length_drop;repeat (first|refine Ea.nil ?_|refine qN ?_|refine fb.skip ?_|refine fb.block ?_)
  refine fb.seq ?_;repeat (first|refine Ea.nil ?_|refine qN ?_|refine fb.region ?_|refine la (pA (lv:=.atom _) rfl) ?_)
  refine fb.seq ?_;refine cM (A:=Nat×List Wd×LV×Heap) (λa=>[(0,.list (l.map str)),(3,.atom (.map (some m))),(8,.list ((List.range 9).map Is)),(9,a.2.2.1),(10,int .i64 (i:Nat)),(11,int .i64 a.1)]) (λa=>a.2.2.2)
   (λa=>a.1=(Ke (Ad l) (l.drop i)).1/\a.2.1=(if (Ke (Ad l) (l.drop i)).1=0 then out else out++(Ke (Ad l) (l.drop i)).2)/\Acc 1 a.2.2.1 (a.2.1.map str) a.2.2.2 [(m,.obj (.map es qa))]) ?_ ?_
  refine xa ?_;refine oL (λk ls H1=>∃ x:Nat,x<=9/\k=9-x/\ls=[(0,.list (l.map str)),(3,.atom (.map (some m))),(8,.list ((List.range 9).map Is)),(9,v),(10,int .i64 (i:Nat)),(11,int .i64 0),(37,.list ((List.range 9).map Is)),(38,int .i64 9),(39,int .i64 (x:Nat))]/\H1=H/\Ke (Ad l) (l.drop i)=cH ((UL (Ad l) (l.drop i)).drop x)) ?_ ?_;exact⟨_,_,_,⟨0,zero_le _,rfl,rfl,rfl,hF⟩,lb,Kb _⟩;rintro k ls H1 ⟨x,hx,rfl,rfl,rfl,hX⟩ j3 qn;refine Zg ?_;refine Ma (λhc=>?_) λhc=>?_;have T2:x<9:=by have:=zt hc;omega
  rw[qpA zo] at hX;refine Ti ?_;refine la (xR (ke:=Is x) (cs:=[Is x]) rfl rfl zo (by
   have:=Ln Is (List.range 9) x (by simpa using T2);rw[List.getElem_range] at this;exact this) rfl rfl) ?_
  refine wa ?_;refine la (show Go.GL.Pure _ _ _ _ (.list ((l.drop i).map str)) from qtx l i▸Pure.Tr (es:=l.map str) (i:=((i:Nat):Int)) (j:=(((l.map str).length:Nat):Int)) rfl ⟨_,rfl⟩ rfl zo zo zo (zH l))<|Na ?_;have tA:=hv.drop i;have P2:x<(UL (Ad l) (l.drop i)).length:=by omega
  generalize hr:(UL (Ad l) (l.drop i))[x]=r at hX;refine Ea.cut [(0,.list (l.map str)),(3,.atom (.map (some m))),(8,.list ((List.range 9).map Is)),(9,v),(10,int .i64 (i:Nat)),(11,int .i64 0),(14,int .i64 (r.1:Nat)),(15,.list (r.2.map str)),(37,.list ((List.range 9).map Is)),(38,int .i64 9),(39,int .i64 (x:Nat))] ?_ λj4 FC=>?_;clear hX;have h9:x=0∨x=1∨x=2∨x=3∨x=4∨x=5∨x=6∨x=7∨x=8:=by omega
  rcases h9 with rfl|rfl|rfl|rfl|rfl|rfl|rfl|rfl|rfl;obtain rfl:Oy (l.drop i)=r:=hr;refine oS (S.kE (f:=95) [_] rfl rfl (qs6 hG (l.drop i) m tA) ?_);refine Na ?_;exact⟨lb,rfl,rfl⟩;obtain rfl:AB (l.drop i)=r:=hr;refine oS (S.kE (f:=96) [_] rfl rfl (qnF (B0:=B0) (w0:=w0) (l.drop i) m tA) ?_);refine Na ?_;exact⟨lb,rfl,rfl⟩;obtain rfl:Xy (l.drop i)=r:=hr;refine oS (S.kE (f:=97) [_] rfl rfl (qno hG (l.drop i) m tA) ?_);refine Na ?_;exact⟨lb,rfl,rfl⟩;obtain rfl:Wz (l.drop i)=r:=hr;refine oS (S.kE (f:=98) [_] rfl rfl (quD hG (l.drop i) m tA) ?_);refine Na ?_;exact⟨lb,rfl,rfl⟩;obtain rfl:fA (l.drop i)=r:=hr;refine oS (S.kE (f:=99) [_] rfl rfl (qo5 (B0:=B0) (w0:=w0) (l.drop i) m tA) ?_);refine Na ?_;exact⟨lb,rfl,rfl⟩;obtain rfl:Py (l.drop i)=r:=hr;refine oS (S.kE (f:=100) [_] rfl rfl (qr7 hG (l.drop i) m tA) ?_);refine Na ?_;exact⟨lb,rfl,rfl⟩;obtain rfl:Jy (l.drop i)=r:=hr;refine oS (S.kE (f:=101) [_] rfl rfl (kQ (B0:=B0) (w0:=w0) (l.drop i) m tA) ?_);refine Na ?_;exact⟨lb,rfl,rfl⟩;obtain rfl:Yz (l.drop i)=r:=hr;refine oS (S.kE (f:=102) [_] rfl rfl (qta (B0:=B0) (w0:=w0) (l.drop i) m tA) ?_);refine Na ?_;exact⟨lb,rfl,rfl⟩;obtain rfl:Su (Ad l) (l.drop i)=r:=hr;obtain⟨F,hp⟩:=qu5 Ra;refine oS (S.Ml (f:=103) (H1:=[(m,.obj (.map es qa))]) (F:=F) [_] rfl rfl hp (qpl (B0:=B0) (w0:=w0) (l.drop i) m tA hM) (λv' H' hh=>?_) (by rintro ch H' ⟨h,_⟩;cases h));obtain⟨NV,rfl⟩:=hh;cases NV;refine Ea.qc ⟨[],by simpa using hp.symm⟩ ?_;refine Na ?_;exact⟨lb,rfl,rfl⟩;refine wa ?_;refine Ma (λhn=>?_) λhn=>?_;have Co:r.1≠0:=by have:=zt hn;omega
  rw[zp Co] at hX;rw[hX] at hR;obtain⟨hR1,Yg⟩:=hR Co;have Cl:(r.2.map str).length=r.2.length:=Db _;refine di ?_;refine Xi ?_;refine Da ?_;refine oS (S.acc rfl Ra rfl (zH _) (MJ _) zo λv' H' ab=>?_);refine rm ?_;refine Na ?_;exact⟨(r.1,out++r.2,v',H'),⟨by rw[hX],by rw[hX,zn Co],by rw[Je];exact ab⟩,lb,Kb _,FC.trans qn⟩;have Co:r.1=0:=by have:=zf hn;omega
  rw[zn zo] at hX;refine xa ?_;exact⟨_,_,_,by omega,⟨x+1,by omega,rfl,rfl,rfl,hX⟩,lb,Kb _,FC.trans qn⟩;have T2:x=9:=by have:=zf hc;omega
  subst T2;rw[qry zo] at hX;refine Da ?_;exact⟨(0,out,v,H1),⟨by rw[hX],by rw[hX];rfl,Ra⟩,lb,Kb _,qn⟩;rintro⟨n,Sr,v',H'⟩ ⟨sw,pw,ab⟩ j5 hj5;simp only at sw pw ab;have aam:(Sr.map str).length=Sr.length:=Db _;rw[<-sw] at hR pw hE;refine xa ?_;refine Ma (λhn=>?_) λhn=>?_;have Co:n=0:=by have:=zt hn;omega
  rw[zp Co] at pw hE;subst pw;refine Yn ?_;refine la (pM (lv:=v') rfl)<|Da ?_;refine la (xR (ke:=str l[i]) (cs:=[str l[i]]) rfl rfl zo (Ln _ _ _ Ja) rfl rfl)<|Na ?_;refine tj ?_;refine oS (S.acc rfl ab rfl (by simp;rfl) rfl (by simp;omega) λv2 H2 ie=>la (pA (lv:=v2) rfl) ?_);refine xa ?_;exact⟨_,_,_,by omega,⟨i+1,f,Sr++[l[i]],v2,by omega,rfl,rfl,by rw[Je];exact ie,by omega,by simp;omega,by rw[Sc];exact hE⟩,lb,Kb _,hj5.trans wc⟩;have Co:n≠0:=by have:=zf hn;omega
  rw[zn Co] at pw hE;obtain⟨hR1,Yg⟩:=hR Co;have Bs:Sr.length=out.length+(Ke (Ad l) (l.drop i)).2.length:=by rw[pw,Ga]
  refine xa ?_;exact⟨_,_,_,by omega,⟨i+n,f,Sr,v',by omega,rfl,rfl,ab,by omega,by omega,by rw[pw,Sc];exact hE⟩,lb,Kb _,hj5.trans wc⟩
 have Ff:i=l.length:=by have:=zf hc;omega
 subst Ff;rw[List.drop_length,qul,de] at hE;subst hE;refine fb.sub (d:=9) (v:=v) rfl Ra.sub ?_;refine cW yd ?_;refine wa ?_;exact qb (wc.trans pd) (rC (rT (v:=.list _) rfl Nd) rN) rfl
open sq (rl rl.mk Xp uj)
theorem qh(sep:List UInt8)(ws:List (List UInt8))(hn:ws.length<=1000000000)(hl:(Go.Lib.join ws sep).length<=1000000000):ca (KC B0 w0) 49 [.list (ws.map str),str sep] [] (Qb (str (Go.Lib.join ws sep))):=sq.qh sep ws hn hl
theorem qr5(hG:GW B0 w0)(s:List UInt8)(hs:s.length<=1000000):ca (KC B0 w0) 50 [str s] [] (Qb (.list ((Nj s).map str))):=by
 have ht:=sq.an hG.base hG.mx s zo;have zC:((Ku s).map uj).length=(Ku s).length:=Db _;have uA:(Ku s).length<=s.length+1:=by have h1:=OZ s;rw[<-aK,Db] at h1;exact h1
 rw[<-aK];generalize Ku s=l at ht zC uA;refine kb Tryz.func50 rfl (n:=20) rfl rfl rfl ?_;refine di ?_;refine oS (sF [_] rfl ht ?_);refine Da ?_;refine oL (λk ls H=>∃ (v:LV) (i:Nat),i<=l.length/\k=l.length-i/\ls=[(3,v),(7,.list (l.map uj)),(8,int .i64 l.length),(9,int .i64 (i:Nat))]/\Acc 1 v (((l.take i).map (·.1)).map str) H [])
  ⟨_,_,_,⟨Yb,0,zero_le _,rfl,rfl,by simpa using Acc.nil⟩,lb,Kb _⟩ ?_
 rintro k ls H ⟨v,i,hi,rfl,rfl,Ra⟩ j hj;refine Zg ?_;refine Ma (λhc=>?_) λhc=>?_;have Ja:i<l.length:=by have:=zt hc;omega
 refine NE ?_;refine oS (Jd λb5=>?_);refine wa ?_;refine Xi ?_;refine Da ?_;refine tj ?_;refine oS (S.Jw rfl Ra rfl (by simp;rfl) rfl (by simp;omega) λv' H' ab=>?_);refine rm ?_;refine Zk ?_
 exact⟨_,_,_,by omega,⟨v',i+1,by omega,rfl,rfl,by
  rw[List.take_succ_eq_append_getElem Ja,Je,Je];exact ab⟩,lb,Pg ob,hj⟩
 have Ff:i=l.length:=by have:=zf hc;omega
 subst Ff;rw[take_length] at Ra;refine fb.sub (d:=3) (v:=v) rfl Ra.sub ?_;refine cW yd ?_;refine wa ?_;exact qb hj (rC (rT (v:=.list _) rfl Nd) rN) rfl
theorem quM{l:List Wd}(h:Ef l<=1000000):Small l:=⟨by have:=cU l;omega,λw hw=>by have:=M' hw;omega⟩
theorem mq(hG:GW B0 w0)(s:List UInt8)(hs:s.length<=1000000):ca (KC B0 w0) 29 [str s] [] (Qb (.tuple [str (PD s).1,int .i64 (PD s).2])):=by
 refine kb Tryz.func29 rfl (n:=21) rfl rfl rfl ?_;refine wa ?_;refine Ma (λh1=>?_) λh1=>?_;have Ja:400000<s.length:=by have:=zt h1;omega
 have hO:PD s=([],6):=by unfold PD;rw[zp Ja]
 refine Gj ?_;exact qb rfl (rC (Fc rfl) (eb rfl)) (by rw[hO];rfl);have Ja:¬ 400000<s.length:=by have:=zf h1;omega
 have hO:PD s=(Go.Lib.join (qi (Nj s)) [32],0):=by unfold PD;rw[zn Ja]
 have ht:=fV s;have hc:=qiR s;refine xa ?_;refine oS (sF [_] rfl (qr5 hG s hs) ?_);refine Na ?_;refine oL (λk ls H=>∃ l:List Wd,k=l.length/\ls=[(4,.list (l.map str))]/\H=[]/\Ef l<=400001/\(∀ w∈l,Xj w)/\qi (Nj s)=qi l)
  ⟨_,_,_,⟨_,rfl,rfl,rfl,by omega,hc,rfl⟩,lb,Kb _⟩ ?_
 rintro k ls H ⟨l,rfl,rfl,rfl,uA,Ge,hE⟩ j hj;have h1:=qsn hG l (quM zo);have h2:=quH l;have Aw:=qrG Ge;have hjt:=IM l;have aau:=IM (Np l);have GN:=cU l;have aar:=cU (Np l);have LK:=TY l;have j1:=qh (B0:=B0) (w0:=w0) [32] l zo zo;have j2:=qh (B0:=B0) (w0:=w0) [32] (Np l) zo zo;refine xa ?_;refine oS (sF [_] rfl h1 ?_);refine wa ?_;refine oS (sF [_,_] rfl j2 ?_);refine Da ?_;refine oS (sF [_,_] rfl j1 ?_);refine Da ?_;refine Ma (λh3=>?_) λh3=>?_;have he:=qvq Aw Ge (zt h3);rw[qxB he] at hE;rw[hE] at hO;refine xa ?_;refine oS (sF [_,_] rfl j1 ?_);refine Da ?_;exact qb hj (rC (Fc rfl) (eb rfl)) (by rw[hO];rfl);have Fb:¬ Np l=l:=λh=>zf h3 (by rw[h]);rw[qup Fb] at hE;refine wa ?_;exact⟨_,_,_,by rcases LK with h|h;exact absurd h Fb;exact h,⟨Np l,rfl,rfl,rfl,by omega,Aw,hE⟩,lb,Kb _,hj⟩
end Go.Proofs.YtmnjklgnhpnckaaGreatDoor.Pp
namespace Go.Proofs.YtmnjklgnhpnckaaGreatDoor.xi
open Go.GL Go.RowKit Go.ia
@[reducible] def u32(n:Nat):LV:=int .u32 (n:Int)
theorem oi{x:Nat×ma}{H:Heap}:(x::H).Perm (H++[x]):=gi (l₁:=[x])
theorem Ve{kind:Int}{name:List UInt8}{index value:List Ex}{Ua Cb:List Sm}(h:Jh (.mk kind name index value Ua Cb)=true)(h7:¬ kind=7):∃ x,value=[x]:=by
 have h1:value.length=1:=by
  simp only[Jh] at h;repeat' (split at h)
  all_goals first
   |(simp only[Gg] at h;omega)
   |cases h
   |contradiction
 cases value with
 |nil=>cases h1
 |cons x l=>
  cases l with
  |nil=>exact⟨x,rfl⟩
  |cons y l=>simp at h1
theorem Cw{name:List UInt8}{index value:List Ex}{Ua Cb:List Sm}(h:Jh (.mk 2 name index value Ua Cb)=true):∃ x,index=[x]:=by
 have h1:index.length=1:=by simp only[Jh] at h;simp only[show ¬ ((2:Int)=1) by decide,if_false,if_true,Gg] at h;exact h.2.1
 cases index with
 |nil=>cases h1
 |cons x l=>
  cases l with
  |nil=>exact⟨x,rfl⟩
  |cons y l=>simp at h1
end Go.Proofs.YtmnjklgnhpnckaaGreatDoor.xi
namespace Go.Proofs.YtmnjklgnhpnckaaGreatDoor.sj
open Go.GL Go.RowKit Go.ia
variable{d:Nat}{Cb Ua:List Sm}{err:Int}{index value:List Ex}{name:List UInt8}{o:Value}{s:Nm}
theorem jZ{kind:Int}(h:Jh (.mk kind name index value Ua Cb)=true)(h2:¬ kind=2):index=[]:=by
 have h1:index.length=0:=by
  simp only[Jh] at h;repeat' (split at h)
  all_goals first
   |(simp only[Gg] at h;omega)
   |cases h
   |contradiction
 exact List.length_eq_zero_iff.1 h1
theorem mQ{kind:Int}(h:Jh (.mk kind name index value Ua Cb)=true)(h3:¬ kind=3)(h4:¬ kind=4):Ua=[]/\Cb=[]:=by
 have h1:Ua.length=0/\Cb.length=0:=by
  simp only[Jh] at h;repeat' (split at h)
  all_goals first
   |(simp only[Gg] at h;constructor <;> omega)
   |cases h
   |contradiction
 exact⟨List.length_eq_zero_iff.1 h1.1,List.length_eq_zero_iff.1 h1.2⟩
theorem qq4(h:Jh (.mk 7 name index value Ua Cb)=true):value=[]:=by
 have h1:value.length=0:=by
  simp only[Jh] at h;repeat' (split at h)
  all_goals first
   |(simp only[Gg] at h;omega)
   |cases h
   |contradiction
 exact List.length_eq_zero_iff.1 h1
attribute [local irreducible] Ea fb Ya ca Go.GL.Pure ve Oe Kd LQ yb nh db LS
variable{B0:Nat}{w0:World}
def qAj(B0:Nat)(w0:World)(k:KB)(c:Bb)(n:Nat):Prop:=∀ (x:Sm) (d:Nat),Yp x<=n->d<=200000000->ca (KC B0 w0) 201 [ptr k.cb 0,lc x] (Xf k d) (Gy (Pk c x) (iv (ED c x)) (Xf k (max d (Ls c x))))
def qza(B0:Nat)(w0:World)(k:KB)(c:Bb)(n:Nat):Prop:=∀ (l:List Sm) (d:Nat),Ld l<=n->d<=200000000->ca (KC B0 w0) 155 [ptr k.cb 0,.list (l.map lc)] (Xf k d) (Gy (Th c l) (iv (ql c l)) (Xf k (max d (vj c l))))
theorem yQ{k:KB}{c:Bb}{B D:Nat}(hB:pt B D c.funcs)(ZC:D<=100000000){n:Nat}(hn6:n<=2000000)(ih:qAj B0 w0 k c n):qza B0 w0 k c n:=by
 intro l d rh hd;have uu:=UJ l;generalize hN:ql c l=N;generalize wj:max d (vj c l)=DD;refine kb Tryz.func155 rfl (n:=21) rfl rfl rfl ?_;refine xa ?_;refine oL (λkk ls H'=>∃ (pre l1:List Sm) (m d1:Nat),l=pre++l1/\kk=l1.length/\ls=[(0,ptr k.cb 0),(5,iv m),(8,.list (l.map lc)),(9,int .i64 ((l.map lc).length:Int)),(10,iv pre.length)]/\H'=Xf k d1/\d1<=200000000/\Th c l1=Th c l/\max m (ql c l1)=N/\max d1 (vj c l1)=DD)
  ⟨l.length,_,_,⟨[],l,0,d,rfl,rfl,rfl,rfl,hd,rfl,by omega,wj⟩,lb,Kb _⟩ ?_
 rintro kk ls H' ⟨pre,l1,m,d1,Xb,rfl,rfl,rfl,Rq,hE,hM,hD1⟩ j hj;have Kl:pre.length<=2000000:=by have:=congrArg List.length Xb;rw[Ga] at this;omega
 refine Zg ?_;refine Ma (λhc=>?_) λhc=>?_;have na:=zt hc;rw[Db,Xb,Ga] at na
 obtain⟨a,l2,rfl⟩:∃ a l2,l1=a::l2:=by
  cases l1 with
  |nil=>simp at na
  |cons a l2=>exact⟨a,l2,rfl⟩
 have UC:Yp a<=n:=by
  have h1:∀ (p:List Sm) (x:Sm) (r:List Sm),Yp x<=Ld (p++x::r):=λp=>by
   induction p with
   |nil=>intro x r;show Yp x<=Ld (x::r);rw[Ld];omega
   |cons y p ih2=>intro x r;show Yp x<=Ld (y::(p++x::r));rw[Ld];have:=ih2 x r;omega
  have:=h1 pre a l2;rw[<-Xb] at this;omega
 rw[Th] at hE;rw[ql] at hM;rw[vj] at hD1;have hda:=I' B D c hB a;refine Ti ?_;refine la (xR (ke:=lc a) (cs:=[_,_,_,_,_,_]) rfl rfl zo (by rw[Xb];exact Td lc pre a l2) rfl rfl)<|Na ?_;refine oS (Jd λb7=>?_);refine wa ?_;refine oS (sK [_,_] rfl (xi.oi) (ih a d1 UC Rq) (λh0=>?_) λnm h0 e' Ka=>?_);rw[h0] at hE;refine la (Pure.Ej m (ED c a) rfl rfl rfl rfl)<|xa ?_;exact⟨l2.length,_,_,lt_succ_self _,⟨pre++[a],l2,max m (ED c a),max d1 (Ls c a),by rw[Xb];simp,rfl,rfl,rfl,by omega,hE,by omega,by omega⟩,⟨rfl,rfl,rfl,rfl,Kg (by simp),trivial⟩,zF,hj⟩;refine Qd ?_;exact Tf (Ka.trans hj) (by rw[<-hE];unfold Ii;rw[zp h0]) h0;have na:=zf hc;rw[Db,Xb,Ga] at na
 obtain rfl:l1=[]:=by
  cases l1 with
  |nil=>rfl
  |cons a l2=>simp at na;omega
 rw[ql] at hM;rw[vj] at hD1;have e1:m=N:=by omega
 have e2:d1=DD:=by omega
 subst e1 e2;refine xa ?_;exact xm hj (eb rfl) (hE.symm.trans rfl) rfl ob
theorem WU{k:KB}{c:Bb}(hk:Pz k c){B D:Nat}(hB:pt B D c.funcs)(tL:B<=50000000)(ZC:D<=100000000):∀ n:Nat,n<=2000000->qAj B0 w0 k c n
 |0,_=>λx d h _=>by have:=fY x;omega
 |n+1,hn6=>by
  have HV:=yQ (B0:=B0) (w0:=w0) hB ZC (n:=n) zo (WU hk hB tL ZC n zo);have hX:L7 B0 w0 k c n:=SJ hk hB zo ZC n zo;intro x d rh hd;obtain⟨kind,name,index,value,Ua,Cb⟩:=x;rw[Yp] at rh;generalize hI:Pk c (Sm.mk kind name index value Ua Cb)=E;rw[Pk] at hI;generalize hN:ED c (Sm.mk kind name index value Ua Cb)=N;rw[ED] at hN;generalize wj:max d (Ls c (Sm.mk kind name index value Ua Cb))=DD;rw[Ls] at wj;have WK:=qoJ (B0:=B0) (w0:=w0) (Sm.mk kind name index value Ua Cb);rw[Mv] at WK ⊢;refine kb Tryz.func201 rfl (n:=65) rfl rfl rfl ?_;refine qe ?_;refine oS (sB rfl λb3=>?_);refine Da ?_;refine cM (A:=Unit) (λ_=>[(0,ptr k.cb 0),(3,ptr b3 0)]) (λ_=>(b3,.cells 217 [int .i64 kind,str name,.list (index.map Ab),.list (value.map Ab),.list (Ua.map lc),.list (Cb.map lc)])::Xf k d) (λ_=>Jh (Sm.mk kind name index value Ua Cb)=true) ?_ λ_ Ub j hj=>?_;refine cD (m:=7) rfl [(b3,.cells 217 [int .i64 kind,str name,.list (index.map Ab),.list (value.map Ab),.list (Ua.map lc),.list (Cb.map lc)]),(k.cb,.cells 115 [.atom (.map (some k.gm)),.atom (.map (some k.vm)),.atom (.map (some k.am)),.atom (.map (some k.fm)),str k.name,.atom (.map (some k.om)),int .i64 (d:Int)])]<|aT 0 rfl rfl (pG (Ob:=[_,_,_,_,_,_]) rfl nc rfl rfl)<|mv ?_;refine aT 3 rfl rfl (pN rfl)<|aT 4 rfl rfl (pF rfl)<|aT 5 rfl rfl (pL (c:=.atom _) rfl Oh rfl)<|aL ?_ (tc pH qd);refine lO 1 (lS (H1:=[]) rfl (.inl rfl) rfl mc (tc pH qd) (sF [_] rfl WK ?_))
  cases hf:Jh (Sm.mk kind name index value Ua Cb) with
  |true=>
   refine lO 6 (lS (H1:=[]) rfl (.inl rfl) rfl mc (tc pH qd) (Ya.Nl [_,_,_] rfl (Jg true k.name 3 fa) (λ_=>?_) λnm h=>absurd rfl h));refine fq ?_
   exact⟨(),rfl,lb,Kb _,rfl⟩
  |false=>rw[hf,zp rfl] at hI;refine lO 6 (lS (H1:=[]) rfl (.inl rfl) rfl mc (tc pH qd) (Ya.Nl [_,_,_] rfl (Jg false k.name 3 fa) (λh=>absurd h fa) λnm _ e' Ka=>?_));refine Ei ?_;exact Tf (Ka.trans rfl) (by rw[<-hI];rfl) fa
  rw[Ub,zn fa] at hI;refine xa ?_;by_cases h7:kind=7;subst h7;obtain rfl:=qq4 Ub;obtain rfl:=jZ Ub fa;obtain⟨rfl,rfl⟩:=mQ Ub fa fa;refine oC rfl (λ_=>?_) (λhc=>by cases hc);refine Gj ?_;have e2:d=DD:=by rw[<-wj];simp only[Ai,vj];omega
  subst e2;exact xm hj (eb rfl) (by rw[<-hI];rfl) (by rw[<-hN];rfl) (Pg ob);refine oC rfl (λhc=>absurd (zt hc) h7) λ_=>?_;obtain⟨x0,rfl⟩:=xi.Ve Ub h7;rw[zn h7] at hN
  have As:xl x0<=n:=by rw[Sb,Sb] at rh;omega
  have Ux:=qY B D c hB x0;have aan:=NM B D c hB x0;have hEv:∀ E2,Ii (ig c [x0]) E2=Ii (yf c x0) E2:=λE2=>by rw[ig,ig];unfold Ii;by_cases h:yf c x0≠0;rw[zp h,zp h];rw[zn h,zn fa,zn h]
  rw[hEv] at hI;rw[show([x0]:List Ex).headD default=x0 from rfl] at hN;have hDx:Ai c [x0]=nj c x0:=by rw[Ai,Ai];omega
  rw[hDx] at wj;refine wa ?_;refine la (xR (ke:=Ab x0) (cs:=[_,_,_,_]) rfl rfl zo rfl rfl rfl)<|Na ?_;refine oS (sK [_,_] rfl (xi.oi) (hX x0 d As hd) (λh0=>?_) λnm h0 e' Ka=>?_);rotate_left;refine Ei ?_;exact Tf (Ka.trans hj) (by rw[<-hI];unfold Ii;rw[zp h0]) h0;rw[h0,show ∀ E2,Ii 0 E2=E2 from λE2=>rfl] at hI;generalize Rq:max d (nj c x0)=d1;refine Ea.perm (xi.oi (H:=Xf k d1)).symm ?_;refine xa ?_
  by_cases jt:kind=1;subst jt;obtain rfl:=jZ Ub fa;obtain⟨rfl,rfl⟩:=mQ Ub fa fa;have dv:Zs c name=E:=by rw[<-hI];simp only[ig,Th];unfold Ii;by_cases ha:Zs c name=0 <;> simp[ha]
  refine oC rfl (λ_=>?_) (λhc=>by cases hc);refine xa ?_;refine oS (sK [_,_] rfl (xi.oi) (YM hk d1 name) (λh1=>?_) λnm h1 e' Ka=>?_);rw[dv] at h1;refine xa ?_;refine la (Pure.Ej 2 (Kf c x0) rfl rfl rfl rfl)<|dd ?_
  have e2:d1=DD:=by rw[<-wj,<-Rq];simp only[Ai,vj];omega
  subst e2;refine xm hj (eb rfl) h1 ?_ zF;rw[<-hN];simp only[ql];exact Kg (by simp);refine Qd ?_;exact Tf (Ka.trans hj) dv.symm h1;refine oC rfl (λhc=>absurd (zt hc) jt) λ_=>?_;rw[zn jt] at hI;refine Si ?_
  by_cases Ng:kind=2
  ·subst Ng;obtain⟨i0,rfl⟩:=xi.Cw Ub;obtain⟨rfl,rfl⟩:=mQ Ub fa fa
   have aW:xl i0<=n:=by rw[Sb,Sb,Sb,Sb] at rh;omega
   have hdi:=qY B D c hB i0;have aao:=NM B D c hB i0;have dv:Ii (yf c i0) (Qy c name)=E:=by rw[<-hI];simp only[ig,Th];unfold Ii;by_cases ha:yf c i0=0 <;> by_cases hb:Qy c name=0 <;> simp[ha,hb]
   refine oC rfl (λ_=>?_) (λhc=>by cases hc);refine wa ?_;refine la (xR (ke:=Ab i0) (cs:=[_,_,_,_]) rfl rfl zo rfl rfl rfl)<|Na ?_;refine oS (sK [_,_] rfl (xi.oi) (hX i0 d1 aW zo) (λh1=>?_) λnm h1 e' Ka=>?_);rotate_left;refine Qd ?_;exact Tf (Ka.trans hj) (by rw[<-dv];unfold Ii;rw[zp h1]) h1;rw[h1] at dv;refine Ea.perm (xi.oi (H:=Xf k (max d1 (nj c i0)))).symm ?_;refine xa ?_;refine oS (sK [_,_] rfl (xi.oi) (uQ hk (max d1 (nj c i0)) name) (λh2=>?_) λnm h2 e' Ka=>?_);refine xa ?_;refine la (Pure.Ej (Kf c x0) (2+Kf c i0) rfl rfl rfl zo)<|Da ?_
   have e2:max d1 (nj c i0)=DD:=by rw[<-wj,<-Rq];simp only[Ai,vj];omega
   rw[<-e2];exact xm hj (eb rfl) (dv.symm.trans h2) (by rw[<-hN];rfl) zF;refine Qd ?_;exact Tf (Ka.trans hj) dv.symm h2
  refine oC rfl (λhc=>absurd (zt hc) Ng) λ_=>?_;obtain rfl:=jZ Ub Ng;rw[zn Ng] at hI hN;refine Si ?_
  by_cases UK:kind=5;subst UK;obtain⟨rfl,rfl⟩:=mQ Ub fa fa;refine oC rfl (λ_=>?_) (λhc=>by cases hc);refine xa ?_;have e2:d1=DD:=by rw[<-wj,<-Rq];simp only[Ai,vj];omega
  subst e2;exact xm hj (eb rfl) (by rw[<-hI];rfl) (by rw[<-hN];rfl) (Pg ob);refine oC rfl (λhc=>absurd (zt hc) UK) λ_=>?_;rw[zn UK] at hN
  have AG:Ii (Th c Ua) (Th c Cb)=E:=by rw[<-hI];simp only[ig];rfl
  refine Si ?_;by_cases dE:kind=3
  ·refine oC rfl (λ_=>?_) λhc=>absurd dE (zf hc);refine Da ?_;refine oC rfl (λ_=>?_) λhc=>absurd dE (zf hc);refine BO ?_;refine aL ?_ qd;refine lO 4 (lS (H1:=Xf k d1) rfl (.inl rfl) rfl xi.oi ob (Ya.Nl [_,_] rfl (HV Ua d1 (by rw[Sb,Sb,Sb] at rh;omega) zo) (λh1=>?_) λnm h1 e' Ka=>?_));rotate_left;refine Qd ?_;exact Tf (Ka.trans hj) (by rw[<-AG];unfold Ii;rw[zp h1]) h1;rw[h1] at AG;have W4:=RJ B D c hB Ua;refine lO 8 (lS (H1:=Xf k (max d1 (vj c Ua))) rfl (.inl rfl) rfl mc ob (Ya.Nl [_,_] rfl (HV Cb (max d1 (vj c Ua)) (by rw[Sb,Sb,Sb] at rh;omega) zo) (λh2=>?_) λnm h2 e' Ka=>?_));rotate_left;refine Qd ?_;exact Tf (Ka.trans hj) AG.symm h2;refine zO ?_
   have e2:max (max d1 (vj c Ua)) (vj c Cb)=DD:=by rw[<-wj,<-Rq];simp only[Ai];omega
   rw[<-e2];exact xm hj (eb rfl) (AG.symm.trans h2) (by rw[<-hN];rfl) zF
  refine oC rfl (λhc=>absurd (zt hc) dE) λ_=>?_;refine Si ?_
  by_cases vG:kind=4
  ·refine oC rfl (λ_=>?_) λhc=>absurd vG (zf hc);refine BO ?_;refine aL ?_ qd;refine lO 4 (lS (H1:=Xf k d1) rfl (.inl rfl) rfl xi.oi ob (Ya.Nl [_,_] rfl (HV Ua d1 (by rw[Sb,Sb,Sb] at rh;omega) zo) (λh1=>?_) λnm h1 e' Ka=>?_));rotate_left;refine Qd ?_;exact Tf (Ka.trans hj) (by rw[<-AG];unfold Ii;rw[zp h1]) h1;rw[h1] at AG;have W4:=RJ B D c hB Ua;refine lO 8 (lS (H1:=Xf k (max d1 (vj c Ua))) rfl (.inl rfl) rfl mc ob (Ya.Nl [_,_] rfl (HV Cb (max d1 (vj c Ua)) (by rw[Sb,Sb,Sb] at rh;omega) zo) (λh2=>?_) λnm h2 e' Ka=>?_));rotate_left;refine Qd ?_;exact Tf (Ka.trans hj) AG.symm h2;refine zO ?_
   have e2:max (max d1 (vj c Ua)) (vj c Cb)=DD:=by rw[<-wj,<-Rq];simp only[Ai];omega
   rw[<-e2];exact xm hj (eb rfl) (AG.symm.trans h2) (by rw[<-hN];rfl) zF
  refine oC rfl (λhc=>absurd (zt hc) vG) λ_=>?_;obtain⟨rfl,rfl⟩:=mQ Ub dE vG;refine xa ?_;refine la (Pure.Ej 2 (Kf c x0) rfl rfl rfl rfl)<|dd ?_
  have e2:d1=DD:=by rw[<-wj,<-Rq];simp only[Ai,vj];omega
  subst e2;refine xm hj (eb rfl) (by rw[<-AG];rfl) ?_ (Pg ob);rw[<-hN];simp only[ql];exact Kg (by simp)
theorem qrt{X A L:Heap}(h:HSub X L):HSub X (A++L):=
 let ⟨G,hG⟩:=h
 ⟨A++G,(List.Perm.append_left A hG).trans (by
  rw[<-Sc,<-Sc];exact gi.append_right G)⟩
def Qt(k:KB)(o:Value)(d:Nat):Heap:=[(k.cb,.cells 115 [.atom (.map (some k.gm)),.atom (.map (some k.vm)),.atom (.map (some k.am)),.atom (.map (some k.fm)),str k.name,.atom o,int .i64 (d:Int)]),(k.gm,.map (Pe k.G) k.g1),(k.vm,.map (Pe k.V) k.g2),(k.am,.map (Pe k.A) k.g3),(k.fm,.map (Pe k.F) k.g4)]
def FD(err:Int)(P:Heap->Prop)(r:Ie)(H:Heap):Prop:=(err=0/\r=.ret (.tuple [])/\P H)∨(err≠0/\(∃ nm,r=.panic (QE nm err))/\H=[])
section
variable{C:Ctx}{n:Nat}{e:Env}{H:Heap}{dst:Option Nat}{ty:TypeId}{ra:String}{ua:Array Edge}{g:Option (Nat×Bool)}{K:LV->Heap->Prop}{X:List PanicEntry->Heap->Prop}
theorem S.Lc{P:Heap->Prop}{H1 F:Heap}{f:FuncId} [Tb C.P f](args:List Operand){Rd:Array TypeId}{av:List LV}(has:args.map e.ev=av)(hp:H.Perm (H1++F))
  (hc:ca C f av H1 (FD err P)) (hk:∀ H',err=0->P H'->K (.tuple []) (H'++F)) (hx:∀ nm,err≠0->X (QE nm err) F):Ya C ⟨dst,.call { callee:=.value (.func f),args:=args.toArray,argTypes:=Rd },ty,ra,ua,g⟩ e H K X:=by
 refine S.Tc args has hp hc ?_ ?_;rintro v H2 (⟨h1,h2,h3⟩|⟨_,⟨nm,h2⟩,_⟩);cases h2;exact hk _ h1 h3;cases h2;rintro ch H2 (⟨_,h2,_⟩|⟨h1,⟨nm,h2⟩,rfl⟩);cases h2;cases h2;exact hx nm h1
theorem kX{P:Heap->Prop}{H':Heap}{rs:List ResultVar}{vs:List LV}(hd:e.ds=[])(h:Dm C n e H rs vs)(he:err=0)(hv:Dh vs=.tuple [])(hH:HSub H' H)(hP:P H'):Kd C n rs (FD err P) .normal e H:=
 rO hd h hH (.inl ⟨he,by rw[hv],hP⟩)
theorem fj{er:Int}{P:Heap->Prop}{rs:List ResultVar}{nm:List UInt8}(hd:e.ds=[])(he:err=er)(h0:er≠0):Kd C n rs (FD err P) (.panic (QE nm er)) e H:=
 Kd.panic hd yd (.inr ⟨by rw[he];exact h0,⟨nm,by rw[he]⟩,rfl⟩)
end
def Gm(known:List Nm)(s:Nm):Int:=if cf s=false then 7 else if s∈known then 8 else 0
theorem qQ(known:List Nm)(s:Nm)(l:List Nm):yo known (s::l)=Ii (Gm known s) (yo (s::known) l):=by rw[yo];unfold Gm;split;rfl;split;rfl;rfl
theorem KZ:∀ (l k k':List Nm),(∀ s,s∈k ↔ s∈k')->yo k l=yo k' l
 |[],_,_,_=>rfl
 |s::l,k,k',h=>by
  have h2:Gm k s=Gm k' s:=by unfold Gm;simp only[h s]
  rw[qQ,qQ,h2,KZ l (s::k) (s::k') (λx=>by simp[h x])]
theorem P0{k:KB}{known:List Nm}(hG:so k.G known)(s:Nm):ca (KC B0 w0) 82 [ptr k.cb 0,str s] (Qt k o d)
  (FD (Gm known s) λH=>∃ g1,H=Qt { k with G:=GL.Ic k.G s (bool true),g1:=g1 } o d):=by
 generalize hI:Gm known s=E;unfold Gm at hI;refine kb Tryz.func82 rfl (n:=22) rfl rfl rfl ?_;refine Bd ?_;refine oS (sF [_] rfl (vV s) ?_);refine fi ?_;cases hn:cf s with
 |false=>
  rw[zp hn] at hI;refine oS (sK (H1:=[]) (F:=Qt k o d) [_,_,_] rfl mc (Jg false s 7 fa) (λh=>absurd h fa) λnm _ e' Ka=>?_);refine Ei ?_
  exact fj (Ka.trans rfl) hI.symm fa
 |true=>rw[zn (by rw[hn];decide)] at hI;refine oS (sK (H1:=[]) (F:=Qt k o d) [_,_,_] rfl mc (Jg true s 7 fa) (λ_=>?_) λnm h=>absurd rfl h);refine xa ?_;refine la (Pure.wg rfl rfl Oh hG)<|oB 13 rfl (λh1=>?_) λh1=>?_;rw[zp (zt h1)] at hI;refine Na ?_;refine oS (sK (H1:=[]) (F:=Qt k o d) [_,_,_] rfl mc (Jg false s 8 fa) (λh=>absurd h fa) λnm _ e' Ka=>?_);refine Ei ?_;exact fj (Ka.trans rfl) hI.symm fa;rw[zn (zf h1)] at hI;refine Na ?_;refine oS (sK (H1:=[]) (F:=Qt k o d) [_,_,_] rfl mc (Jg true s 8 fa) (λ_=>?_) λnm h=>absurd rfl h);refine xa ?_;refine oS (S.mn (k:=s) (lv:=bool true) rfl rfl rfl Od λg1=>?_);refine dd ?_;exact kX rfl rN hI.symm rfl ⟨[],by rw[de];exact cr _ _ _⟩ ⟨g1,rfl⟩
theorem qmt{vars ba later:List Nm}{known:List fe}{k:KB}(f:Pb)(hG:so k.G (vars++ba++later))(hV:so k.V vars)(hA:so k.A ba)(hF:∀ n,GL.wb k.F n=(known.find? λg=>decide (g.name=n)).map IJ)(Dl:f.name ∉ known.map (·.name))
  {B D:Nat} (hB:pt B D known) (tL:B<=50000000) (ZC:D<=100000000) (rh:Jq f<=2000000) :
  ca (KC B0 w0) 84 [ptr k.cb 0,pg f] (Qt k o d)
  (FD (Au vars ba later known f) λH=>∃ nm o' d' F' g4,(∀ n,GL.wb F' n=((known++[Zi vars ba later known f]).find? λg=>decide (g.name=n)).map IJ)/\H=Qt { k with name:=nm,F:=F',g4:=g4 } o' d'):=by
 have fw:=yX rh;have WV:f.params.length<=2000000:=fw.params;have eW:f.locals.length<=2000000:=fw.locals;have hbn:Ld f.body<=2000000:=by unfold Jq at rh;omega
 generalize hI:Au vars ba later known f=E;unfold Au at hI;refine kb Tryz.func84 rfl (n:=82) rfl rfl rfl ?_;refine qe ?_;refine oS (sB rfl λb3=>?_);refine xa ?_;refine oS (S.Al λom=>?_);refine wa ?_;refine oS (sL (es:=[Rp f.params,Rp f.locals]) [_,_] rfl (gd rfl rfl (gd rfl rfl Ch)) rfl rfl rfl ?_);refine oS (S.Tc (H1:=[]) (F:=_) [_] rfl mc (qkc [f.params,f.locals] (by simp) (by
  intro l hl;rcases zc.1 hl with rfl|hl;exact WV;rw[Vi hl];exact eW)) ?_ (by rintro ch H' ⟨v,h,_⟩;cases h))
 rintro v2 Ha2 ⟨_,h,ie⟩;cases h;have Mk:[f.params,f.locals].flatten=f.params++f.locals:=by simp
 rw[Mk] at ie;refine Ea.sub 24 rfl ie.sub ?_;refine Ea.qc (H':=(b3,.cells 168 [str f.name,.list (f.params.map str),.list (f.locals.map str),.list (f.body.map lc)])::Xf { k with name:=f.name,om:=om,O:=[],g5:=0 } 1) ?_ ?_
 ·refine qrt ?_
  repeat first
   |exact HSub.nil _
   |refine tc WI ?_
 refine Da ?_;refine oL (λkk ls H'=>∃ (pre l1:List Nm) (OO:KV) (gg:Nat),f.params++f.locals=pre++l1/\kk=l1.length/\ls=[(0,ptr k.cb 0),(3,ptr b3 0),(24,.list ((f.params++f.locals).map str)),(25,int .i64 (((f.params++f.locals).map str).length:Int)),(26,iv pre.length)] /\
   H'=(b3,.cells 168 [str f.name,.list (f.params.map str),.list (f.locals.map str),.list (f.body.map lc)])::Xf { k with name:=f.name,om:=om,O:=OO,g5:=gg } 1/\so OO pre/\Ii (yo (pre.reverse++(vars++ba++later)) l1) (Th (lg vars ba later known f) f.body)=E)
  ⟨_,_,_,⟨[],f.params++f.locals,[],0,rfl,rfl,rfl,rfl,so.nil,hI⟩,lb,Kb _⟩ ?_
 rintro kk ls H' ⟨pre,l1,OO,gg,Xb,rfl,rfl,rfl,hO,hE⟩ j hj;have Kl:pre.length<=4000000:=by have:=congrArg List.length Xb;rw[Ga,Ga] at this;omega
 refine Zg ?_;refine Ma (λhc=>?_) λhc=>?_
 ·have na:=zt hc;rw[Db,Xb,Ga] at na
  obtain⟨s,l2,rfl⟩:∃ a l2,l1=a::l2:=by
   cases l1 with
   |nil=>simp at na
   |cons a l2=>exact⟨a,l2,rfl⟩
  rw[qQ] at hE;generalize iE:Gm (pre.reverse++(vars++ba++later)) s=En at hE;unfold Gm at iE;refine Ti ?_;refine la (xR (ke:=str s) (cs:=[str s]) rfl rfl zo (by rw[Xb];exact Td str pre s l2) rfl rfl)<|wa ?_;refine oS (sF [_] rfl (vV s) ?_);refine fi ?_;cases hn:cf s with
  |false=>
   rw[zp hn] at iE;refine oS (sK (H1:=[]) (F:=_) [_,_,_] rfl mc (Jg false s 7 fa) (λh=>absurd h fa) λnm _ e' Ka=>?_);refine Qd ?_
   exact fj (Ka.trans hj) (by rw[<-hE,<-iE];rfl) fa
  |true=>
   rw[zn (by rw[hn];decide)] at iE;refine oS (sK (H1:=[]) (F:=_) [_,_,_] rfl mc (Jg true s 7 fa) (λ_=>?_) λnm h=>absurd rfl h);refine wa ?_;refine la (Pure.wg rfl rfl sy hG)<|oB 39 rfl (λh1=>?_) λh1=>?_;have Wf:s∈pre.reverse++(vars++ba++later):=mem_append_right _ (zt h1);rw[zp Wf] at iE;refine Na ?_;refine oS (sK (H1:=[]) (F:=_) [_,_,_] rfl mc (Jg false s 8 fa) (λh=>absurd h fa) λnm _ e' Ka=>?_);refine Qd ?_;exact fj (Ka.trans hj) (by rw[<-hE,<-iE];rfl) fa;refine Na ?_;refine la (Pure.wg rfl rfl U6 hO)<|oB 47 rfl (λh2=>?_) λh2=>?_;have Wf:s∈pre.reverse++(vars++ba++later):=List.mem_append_left _ (List.mem_reverse.2 (zt h2));rw[zp Wf] at iE;refine Na ?_;refine oS (sK (H1:=[]) (F:=_) [_,_,_] rfl mc (Jg false s 8 fa) (λh=>absurd h fa) λnm _ e' Ka=>?_);refine Qd ?_;exact fj (Ka.trans hj) (by rw[<-hE,<-iE];rfl) fa;rw[zn (λh=>(xj h).elim (λh=>zf h2 (List.mem_reverse.1 h)) (zf h1))] at iE;subst iE;refine Na ?_;refine oS (sK (H1:=[]) (F:=_) [_,_,_] rfl mc (Jg true s 8 fa) (λ_=>?_) λnm h=>absurd rfl h);refine wa ?_;refine oS (S.mn (k:=s) (lv:=bool true) rfl rfl rfl zp6 λgg2=>?_);refine Zk ?_
   exact⟨l2.length,_,_,lt_succ_self _,⟨pre++[s],l2,GL.Ic OO s (bool true),gg2,by rw[Xb];simp,rfl,rfl,rfl,hO.add s,by
    rw[<-hE];rw[KZ l2 ((pre++[s]).reverse++(vars++ba++later)) (s::(pre.reverse++(vars++ba++later))) (λx=>by simp)];rfl⟩,⟨rfl,rfl,rfl,rfl,Kg (by simp),trivial⟩,by
    repeat first
     |exact HSub.nil _
     |refine tc WI ?_,hj⟩
 have na:=zf hc;rw[Db,Xb,Ga] at na;obtain rfl:l1=[]:=by
  cases l1 with
  |nil=>rfl
  |cons a l2=>simp at na;omega
 rw[de] at Xb;rw[<-Xb] at hO;have qq:Th (lg vars ba later known f) f.body=E:=by rw[<-hE];rfl
 have M4:Pz { k with name:=f.name,om:=om,O:=OO,g5:=gg } (lg vars ba later known f):=⟨hG,hV,hA,hO,hF⟩;have iG:=yQ (B0:=B0) (w0:=w0) (k:={ k with name:=f.name,om:=om,O:=OO,g5:=gg }) (c:=lg vars ba later known f) hB ZC (n:=2000000) (Jb _) (WU M4 hB tL ZC 2000000 (Jb _)) f.body 1 hbn fa;have PK:=gQ B D (lg vars ba later known f) hB f.body;have hdb:=RJ B D (lg vars ba later known f) hB f.body;refine wa ?_;refine oS (sK [_,_] rfl (xi.oi) iG (λh0=>?_) λnm h0 e' Ka=>?_);rotate_left;refine Ei ?_;exact fj (Ka.trans hj) qq.symm h0;refine Ea.perm (xi.oi (H:=Xf _ _)).symm ?_;refine dd ?_;have Un:(f.params.map str).length<=2000000:=by rw[Db];exact WV
 refine fb.tail 20 zk ?_;refine Na ?_;refine Wm (Pure.Lq 2 (f.params.length+1) (ql (lg vars ba later known f) f.body) rfl rfl rfl rfl (by rw[Db];omega) rfl) rfl ?_;refine Na ?_;refine oS (S.mn (k:=f.name) (lv:=.agg [int .i64 ((f.params.map str).length:Int),int .i64 (max (max 2 (f.params.length+1)) (ql (lg vars ba later known f) f.body):Nat),int .i64 (max 1 (vj (lg vars ba later known f) f.body):Nat)]) rfl rfl rfl DW λg4=>?_);refine dd ?_;refine kX hj rN (qq.symm.trans h0) rfl (H':=Qt { k with name:=f.name,F:=GL.Ic k.F f.name (.agg [int .i64 ((f.params.map str).length:Int),int .i64 (max (max 2 (f.params.length+1)) (ql (lg vars ba later known f) f.body):Nat),int .i64 (max 1 (vj (lg vars ba later known f) f.body):Nat)]),g4:=g4 } (.map (some om)) (max 1 (vj (lg vars ba later known f) f.body))) ?hs ⟨f.name,_,_,_,g4,λn=>?kv,rfl⟩
 case hs=>
  repeat first
   |exact HSub.nil _
   |refine tc WI ?_
 case kv=>
  rw[GL.Im,hF n,List.find?_append];by_cases h1:f.name=n;rw[zp h1];have h2:(known.find? λg=>decide (g.name=n))=none:=by rw[List.find?_eq_none];intro g hg;simp only[Gg];intro h3;exact Dl (by rw[h1,<-h3];exact mem_map_of_mem hg)
  rw[h2,none_or];have h4:([Zi vars ba later known f].find? λg=>decide (g.name=n))=some (Zi vars ba later known f):=by rw[List.find?_cons_of_pos];exact Nf h1
  rw[h4];show some _=some (IJ _);unfold IJ Zi;rw[<-Db (f:=str)];rw[zn h1];have h4:([Zi vars ba later known f].find? λg=>decide (g.name=n))=none:=by rw[List.find?_eq_none];intro g hg;rw[Vi hg];simp only[Gg];exact h1
  rw[h4,Option.or_none]
def rc(a:Nm×Int):LV:=.agg [str a.1,int .i64 a.2]
def vh(vars:List Nm)(ba:List (Nm×Int))(fs:List Pb):LV:=.agg [.list (vars.map str),.list (ba.map rc),.list (fs.map pg)]
theorem uV:∀ (l known:List Nm),yo known l=0->l.Nodup/\(∀ s∈l,s ∉ known)/\∀ s∈l,cf s=true
 |[],known,_=>⟨List.nodup_nil,λs h=>(not_mem_nil h).elim,λs h=>(not_mem_nil h).elim⟩
 |s::l,known,h=>by rw[yo] at h;split at h;cases h;rename_i h1;split at h;cases h;rename_i h2;obtain⟨h3,h4,h5⟩:=uV l _ h;refine⟨List.nodup_cons.2 ⟨λhm=>h4 s hm We,h3⟩,?_,?_⟩;intro x hx;rcases zc.1 hx with rfl|hx;exact h2;exact λhk=>h4 x hx (Pc _ hk);intro x hx;rcases zc.1 hx with rfl|hx;simpa using h1;exact h5 x hx
theorem qlD(h:cf s=true):s.length<=1000:=by unfold cf at h;simp only[sd,Gg] at h;omega
theorem gM{a b:Int}(h:a≠0):Ii a b=a:=by unfold Ii;exact zp h
theorem S0:∀ a b:List Pb,je (a++b)=je a+je b
 |[],b=>by rw[nil_append,je,Nat.zero_add]
 |x::a,b=>by rw[cons_append,je,je,S0 a b];omega
theorem qlh{vars ba later:List Nm}:∀ (l:List Pb) (known:List fe),Ys vars ba later known l=0->∀ f∈l,∃ k,Au vars ba later k f=0
 |[],_,_,f,h=>(not_mem_nil h).elim
 |g::l,known,h,f,hf=>by rw[Ys,Rc] at h;rcases zc.1 hf with rfl|hf;exact⟨known,h.1⟩;exact qlh l _ h.2 f hf
theorem qr4{vars ba later:List Nm}{k:List fe}{f:Pb}(h:Au vars ba later k f=0):∀ x∈f.params++f.locals,x.length<=1000:=by unfold Au at h;rw[Rc] at h;intro x hx;exact qlD ((uV _ _ h.1).2.2 x hx)
theorem qtr{l:List fe}{m:fe}(hn:(l.map (·.name)).Nodup)(hm:l.getLast? = some m):(l.find? λg=>decide (g.name=m.name))=some m:=by
 obtain⟨ys,rfl⟩:=List.getLast?_eq_some_iff.1 hm;rw[List.find?_append];have h1:(ys.find? λg=>decide (g.name=m.name))=none:=by rw[List.find?_eq_none];intro g hg;simp only[Gg];intro h2;rw[Je] at hn;exact(Xm hn).2.2 _ (mem_map_of_mem hg) _ (mem_map_of_mem (List.mem_singleton_self m)) h2
 rw[h1,none_or,List.find?_cons_of_pos];exact Nf rfl
theorem qj5{vars ba later:List Nm}:∀ (l:List Pb) (known:List fe),(ZA vars ba later known l).map (·.name)=known.map (·.name)++l.map (·.name)
 |[],known=>by rw[ZA];simp
 |f::l,known=>by rw[ZA,qj5 l];simp[Zi]
theorem DZ{pre l:List Nm}{FR:Int}(h:yo pre (s::l)=FR)(h0:Gm pre s=0):yo (pre++[s]) l=FR:=by rw[<-h,qQ,h0,KZ l (pre++[s]) (s::pre) (λx=>by simp[or_comm])];rfl
theorem AZ{pre l:List Nm}{FR RA E:Int}(hI:Ii FR RA=E)(h:yo pre (s::l)=FR)(h0:Gm pre s≠0):E=Gm pre s:=by rw[<-hI,<-h,qQ,gM (a:=Ii _ _) (by rw[gM h0];exact h0),gM h0]
theorem eK{k:KB}(vars:List Nm)(ba:List (Nm×Int))(fs:List Pb)(jt:k.G=[])(Ng:k.V=[])(dE:k.A=[])(vG:k.F=[])(dC:vars.length<=2000000)(ON:ba.length<=2000000)(fL:∀ a∈ba,-9223372036854775808<=a.2/\a.2<9223372036854775808)(rh:je fs<=2000000) :
  ca (KC B0 w0) 44 [ptr k.cb 0,vh vars ba fs] (Qt k o d) (FD (Jr vars ba fs) λH=>H=[]):=by
 have XK:fs.length<=2000000:=Qf (wU fs) rh;generalize hI:Jr vars ba fs=E;unfold Jr at hI;generalize oW:yo [] (vars++ba.map (·.1)++fs.map (·.name))=FR at hI;generalize hSZ:eF 0 (ba.map (·.2))=SZ at hI;generalize hFS:Ys vars (ba.map (·.1)) (fs.map (·.name)) [] fs=FS at hI;generalize hSS:ZA vars (ba.map (·.1)) (fs.map (·.name)) [] fs=SS at hI;generalize Sq:aP vars fs SS=MN at hI;generalize hRA:Ii SZ (Ii FS MN)=RA at hI;refine kb Tryz.func44 rfl (n:=147) rfl rfl rfl ?_;refine qe ?_;refine oS (sB rfl λb3=>?_);refine wa ?_;refine oL (λkk ls H'=>∃ (pre l1:List Nm) (G1 V1:KV) (g1 g2:Nat),vars=pre++l1/\kk=l1.length/\ls=[(0,ptr k.cb 0),(3,ptr b3 0),(18,.list (vars.map str)),(19,int .i64 ((vars.map str).length:Int)),(20,iv pre.length)] /\
   H'=(b3,.cells 68 [.list (vars.map str),.list (ba.map rc),.list (fs.map pg)])::Qt { k with G:=G1,g1:=g1,V:=V1,g2:=g2 } o d/\so G1 pre/\so V1 pre/\yo pre (l1++ba.map (·.1)++fs.map (·.name))=FR)
  ⟨_,_,_,⟨[],vars,k.G,k.V,k.g1,k.g2,rfl,rfl,rfl,rfl,by rw[jt];exact so.nil,by rw[Ng];exact so.nil,oW⟩,lb,Kb _⟩ ?_
 rintro kk ls H' ⟨pre,l1,G1,V1,g1,g2,Xb,rfl,rfl,rfl,Az,hV1,hE⟩ j hj;have Kl:pre.length<=2000000:=by have:=congrArg List.length Xb;rw[Ga] at this;omega
 refine Zg ?_;refine Ma (λhc=>?_) λhc=>?_
 ·have na:=zt hc;rw[Db,Xb,Ga] at na
  obtain⟨s,l2,rfl⟩:∃ a l2,l1=a::l2:=by
   cases l1 with
   |nil=>simp at na
   |cons a l2=>exact⟨a,l2,rfl⟩
  rw[cons_append,cons_append] at hE;refine Ti ?_;refine la (xR (ke:=str s) (cs:=[str s]) rfl rfl zo (by rw[Xb];exact Td str pre s l2) rfl rfl)<|wa ?_;refine oS (S.Lc (F:=[_]) [_,_] rfl (xi.oi) (P0 (k:={ k with G:=G1,g1:=g1,V:=V1,g2:=g2 }) (o:=o) (d:=d) Az s) (λH2 h0 hP=>?_) λnm h0 e' Ka=>?_);rotate_left;refine Qd ?_;exact fj (Ka.trans hj) (AZ hI hE h0) h0;obtain⟨jE,rfl⟩:=hP;refine Ea.perm (xi.oi (H:=Qt _ _ _)).symm ?_;refine wa ?_;refine oS (S.mn (k:=s) (lv:=bool true) rfl rfl rfl HA λbD=>?_);refine Zk ?_;refine⟨l2.length,_,_,lt_succ_self _,⟨pre++[s],l2,GL.Ic G1 s (bool true),GL.Ic V1 s (bool true),jE,bD,by rw[Xb];simp,rfl,rfl,rfl,Az.add s,hV1.add s,DZ hE h0⟩,⟨rfl,rfl,rfl,rfl,Kg (by simp),trivial⟩,?_,hj⟩
  repeat first
   |exact HSub.nil _
   |refine tc WI ?_
 have na:=zf hc;rw[Db,Xb,Ga] at na;obtain rfl:l1=[]:=by
  cases l1 with
  |nil=>rfl
  |cons a l2=>simp at na;omega
 rw[de] at Xb;subst Xb;rw[nil_append] at hE;clear na hc Kl;refine wa ?_;refine oL (λkk ls H'=>∃ (pre l1:List (Nm×Int)) (G1 A1:KV) (g1 g3:Nat),ba=pre++l1/\kk=l1.length/\ls=[(0,ptr k.cb 0),(3,ptr b3 0),(34,.list (ba.map rc)),(35,int .i64 ((ba.map rc).length:Int)),(36,iv pre.length)] /\
   H'=(b3,.cells 68 [.list (vars.map str),.list (ba.map rc),.list (fs.map pg)])::Qt { k with G:=G1,g1:=g1,V:=V1,g2:=g2,A:=A1,g3:=g3 } o d/\so G1 (vars++pre.map (·.1))/\so A1 (pre.map (·.1))/\yo (vars++pre.map (·.1)) (l1.map (·.1)++fs.map (·.name))=FR)
  ⟨_,_,_,⟨[],ba,G1,k.A,g1,k.g3,rfl,rfl,rfl,rfl,by simpa using Az,by rw[dE];exact so.nil,by simpa using hE⟩,lb,Kb _⟩ ?_
 clear Az hE G1 g1;rintro kk ls H' ⟨pre,l1,G1,A1,g1,g3,Xb,rfl,rfl,rfl,Az,rW,hE⟩ j wc;have Kl:pre.length<=2000000:=by have:=congrArg List.length Xb;rw[Ga] at this;omega
 refine Zg ?_;refine Ma (λhc=>?_) λhc=>?_
 ·have na:=zt hc;rw[Db,Xb,Ga] at na
  obtain⟨s,l2,rfl⟩:∃ a l2,l1=a::l2:=by
   cases l1 with
   |nil=>simp at na
   |cons a l2=>exact⟨a,l2,rfl⟩
  rw[jd,cons_append] at hE;refine qO ?_;refine oS (Jd λb7=>?_);refine wa ?_;refine oS (S.Lc (F:=[_,_]) [_,_] rfl (gi (l₁:=[_,_])) (P0 (k:={ k with G:=G1,g1:=g1,V:=V1,g2:=g2,A:=A1,g3:=g3 }) (o:=o) (d:=d) Az s.1) (λH2 h0 hP=>?_) λnm h0 e' Ka=>?_);rotate_left;refine Qd ?_;exact fj (Ka.trans (wc.trans hj)) (AZ hI hE h0) h0;obtain⟨jE,rfl⟩:=hP
  refine Ea.qc (H':=[(b7,.cells 164 [str s.1,int .i64 s.2]),(k.cb,.cells 115 [.atom (.map (some k.gm)),.atom (.map (some k.vm)),.atom (.map (some k.am)),.atom (.map (some k.fm)),str k.name,.atom o,int .i64 (d:Int)]),(b3,.cells 68 [.list (vars.map str),.list (ba.map rc),.list (fs.map pg)]),
   (k.gm,.map (Pe (GL.Ic G1 s.1 (bool true))) jE),(k.vm,.map (Pe V1) g2),(k.am,.map (Pe A1) g3),(k.fm,.map (Pe k.F) k.g4)]) ?_ ?_
  ·repeat first
    |exact HSub.nil _
    |refine tc WI ?_
  refine dd ?_;refine cD (m:=7) rfl [(b7,.cells 164 [str s.1,int .i64 s.2]),(k.cb,.cells 115 [.atom (.map (some k.gm)),.atom (.map (some k.vm)),.atom (.map (some k.am)),.atom (.map (some k.fm)),str k.name,.atom o,int .i64 (d:Int)])]<|oO ?_;refine aL ?_ (tc pH qd);refine lO 6 (lS (H1:=[(k.am,.map (Pe A1) g3)]) rfl (.inl rfl) rfl (show xd _ _ _ from pT WN) (tc pH qd) (S.mn (k:=s.1) (lv:=bool true) rfl rfl rfl pH λY5=>?_));refine lD zk ?_;refine Zk ?_;refine⟨l2.length,_,_,lt_succ_self _,⟨pre++[s],l2,GL.Ic G1 s.1 (bool true),GL.Ic A1 s.1 (bool true),jE,Y5,by rw[Xb];simp,rfl,rfl,rfl,by simpa using Az.add s.1,by simpa using rW.add s.1,by simpa using DZ hE h0⟩,⟨rfl,rfl,rfl,rfl,Kg (by simp),trivial⟩,?_,wc⟩
  repeat first
   |exact HSub.nil _
   |refine tc WI ?_
 have na:=zf hc;rw[Db,Xb,Ga] at na;obtain rfl:l1=[]:=by
  cases l1 with
  |nil=>rfl
  |cons a l2=>simp at na;omega
 rw[de] at Xb;subst Xb;rw[List.map_nil,nil_append] at hE;clear na hc Kl;refine wa ?_;refine oL (λkk ls H'=>∃ (pre l1:List Pb) (G1:KV) (g1:Nat),fs=pre++l1/\kk=l1.length/\ls=[(0,ptr k.cb 0),(3,ptr b3 0),(52,.list (fs.map pg)),(53,int .i64 ((fs.map pg).length:Int)),(54,iv pre.length)] /\
   H'=(b3,.cells 68 [.list (vars.map str),.list (ba.map rc),.list (fs.map pg)])::Qt { k with G:=G1,g1:=g1,V:=V1,g2:=g2,A:=A1,g3:=g3 } o d/\so G1 (vars++ba.map (·.1)++pre.map (·.name))/\yo (vars++ba.map (·.1)++pre.map (·.name)) (l1.map (·.name))=FR)
  ⟨_,_,_,⟨[],fs,G1,g1,rfl,rfl,rfl,rfl,by simpa using Az,by simpa using hE⟩,lb,Kb _⟩ ?_
 clear Az hE G1 g1;rintro kk ls H' ⟨pre,l1,G1,g1,Xb,rfl,rfl,rfl,Az,hE⟩ j qn;have Kl:pre.length<=2000000:=by have:=congrArg List.length Xb;rw[Ga] at this;omega
 refine Zg ?_;refine Ma (λhc=>?_) λhc=>?_
 ·have na:=zt hc;rw[Db,Xb,Ga] at na
  obtain⟨s,l2,rfl⟩:∃ a l2,l1=a::l2:=by
   cases l1 with
   |nil=>simp at na
   |cons a l2=>exact⟨a,l2,rfl⟩
  rw[jd] at hE;refine Ti ?_;refine la (xR (ke:=pg s) (cs:=[_,_,_,_]) rfl rfl zo (by rw[Xb];exact Td pg pre s l2) rfl rfl)<|Na ?_;refine oS (Jd λb7=>?_);refine wa ?_;refine oS (S.Lc (F:=[_,_]) [_,_] rfl (gi (l₁:=[_,_])) (P0 (k:={ k with G:=G1,g1:=g1,V:=V1,g2:=g2,A:=A1,g3:=g3 }) (o:=o) (d:=d) Az s.name) (λH2 h0 hP=>?_) λnm h0 e' Ka=>?_);rotate_left;refine Qd ?_;exact fj (Ka.trans (qn.trans (wc.trans hj))) (AZ hI hE h0) h0;obtain⟨jE,rfl⟩:=hP;refine Ea.perm (gi (l₂:=[_,_])) ?_;refine Zk ?_;refine⟨l2.length,_,_,lt_succ_self _,⟨pre++[s],l2,GL.Ic G1 s.name (bool true),jE,by rw[Xb];simp,rfl,rfl,rfl,by simpa using Az.add s.name,by simpa using DZ hE h0⟩,⟨rfl,rfl,rfl,rfl,Kg (by simp),trivial⟩,Pg ob,qn⟩
 have na:=zf hc;rw[Db,Xb,Ga] at na;obtain rfl:l1=[]:=by
  cases l1 with
  |nil=>rfl
  |cons a l2=>simp at na;omega
 rw[de] at Xb;subst Xb;have mL:FR=0:=hE.symm;clear na hc Kl hE;rw[mL] at hI;have u4:=(uV _ _ (oW.trans mL)).1;have tR:=(uV _ _ (oW.trans mL)).2.2;have RN:RA=E:=by rw[<-hI];rfl
 rw[<-hRA] at RN;clear hI hRA oW;have hPr:0<=(0:Int)/\(0:Int)<=150000:=⟨by decide,by decide⟩;refine wa ?_;refine oL (λkk ls H'=>∃ (pre l1:List (Nm×Int)) (T:Int),ba=pre++l1/\kk=l1.length/\ls=[(0,ptr k.cb 0),(3,ptr b3 0),(10,int .i64 T),(64,.list (ba.map rc)),(65,int .i64 ((ba.map rc).length:Int)),(66,iv pre.length)] /\
   H'=(b3,.cells 68 [.list (vars.map str),.list (ba.map rc),.list (fs.map pg)])::Qt { k with G:=G1,g1:=g1,V:=V1,g2:=g2,A:=A1,g3:=g3 } o d/\(0<=T/\T<=150000)/\eF T (l1.map (·.2))=SZ)
  ⟨_,_,_,⟨[],ba,0,rfl,rfl,rfl,rfl,hPr,hSZ⟩,lb,Kb _⟩ ?_
 clear hSZ;rintro kk ls H' ⟨pre,l1,T,Xb,rfl,rfl,rfl,⟨hT1,iS⟩,hE⟩ j FC;have Kl:pre.length<=2000000:=by have:=congrArg List.length Xb;rw[Ga] at this;omega
 refine Zg ?_;refine Ma (λhc=>?_) λhc=>?_
 ·have na:=zt hc;rw[Db,Xb,Ga] at na
  obtain⟨s,l2,rfl⟩:∃ a l2,l1=a::l2:=by
   cases l1 with
   |nil=>simp at na
   |cons a l2=>exact⟨a,l2,rfl⟩
  obtain⟨J3,Wk⟩:=fL s (by rw[Xb];exact mem_append_right _ We);rw[jd,eF] at hE;refine qO ?_;refine oS (Jd λb7=>?_);refine wa ?_;refine oB 72 rfl (λh1=>?_) λh1=>?_;rotate_left;have h2:s.2<=0:=by have:=zf h1;omega
  rw[zp h2] at hE;refine oS (sK (H1:=[]) (F:=_) [_,_,_] rfl mc (Jg false s.1 2 fa) (λh=>absurd h fa) λnm _ e' Ka=>?_);refine Qd ?_;exact fj (Ka.trans (FC.trans (qn.trans (wc.trans hj)))) (by rw[<-RN,<-hE];rfl) fa;have h2:¬ s.2<=0:=by have:=zt h1;omega
  rw[zn h2] at hE;refine oS (sK (H1:=[]) (F:=_) [_,_,_] rfl mc (Jg true s.1 2 fa) (λ_=>?_) λnm h=>absurd rfl h);refine wa ?_;refine oB 80 rfl (λh3=>?_) λh3=>?_;rotate_left;have h4:150000-T<s.2:=by have:=zf h3;omega
  rw[zp h4] at hE;refine oS (sK (H1:=[]) (F:=_) [_,_,_] rfl mc (Jg false s.1 6 fa) (λh=>absurd h fa) λnm _ e' Ka=>?_);refine Qd ?_;exact fj (Ka.trans (FC.trans (qn.trans (wc.trans hj)))) (by rw[<-RN,<-hE];rfl) fa;have h4:¬ 150000-T<s.2:=by have:=zt h3;omega
  rw[zn h4] at hE;refine oS (sK (H1:=[]) (F:=_) [_,_,_] rfl mc (Jg true s.1 6 fa) (λ_=>?_) λnm h=>absurd rfl h);refine xa ?_;exact⟨l2.length,_,_,lt_succ_self _,⟨pre++[s],l2,T+s.2,by rw[Xb];simp,rfl,rfl,rfl,⟨by omega,by omega⟩,hE⟩,⟨rfl,rfl,rfl,rfl,rfl,Kg (by simp),trivial⟩,Pg ob,FC⟩
 have na:=zf hc;rw[Db,Xb,Ga] at na;obtain rfl:l1=[]:=by
  cases l1 with
  |nil=>rfl
  |cons a l2=>simp at na;omega
 have M5:SZ=0:=by rw[<-hE];rfl
 rw[M5] at RN;have BG:Ii FS MN=E:=by rw[<-RN];rfl
 clear RN na hc Kl Xb hE;have FN:(fs.map (·.name)).Nodup:=(Xm u4).2.1;have Cs:j.ds=[]:=FC.trans (qn.trans (wc.trans hj));clear hj wc qn FC;refine wa ?_;refine oL (λkk ls H'=>∃ (pre l1:List Pb) (known:List fe) (F1:KV) (g4:Nat) (nm:Nm) (o1:Value) (d1:Nat),fs=pre++l1/\kk=l1.length/\ls=[(0,ptr k.cb 0),(3,ptr b3 0),(90,.list (fs.map pg)),(91,int .i64 ((fs.map pg).length:Int)),(92,iv pre.length)] /\
   H'=(b3,.cells 68 [.list (vars.map str),.list (ba.map rc),.list (fs.map pg)])::Qt { k with name:=nm,G:=G1,g1:=g1,V:=V1,g2:=g2,A:=A1,g3:=g3,F:=F1,g4:=g4 } o1 d1/\(∀ n,GL.wb F1 n=(known.find? λg=>decide (g.name=n)).map IJ)/\known.map (·.name)=pre.map (·.name) /\
   Ys vars (ba.map (·.1)) (fs.map (·.name)) known l1=FS/\ZA vars (ba.map (·.1)) (fs.map (·.name)) known l1=SS/\pt (8 * je pre) pre.length known)
  ⟨_,_,_,⟨[],fs,[],k.F,k.g4,k.name,o,d,rfl,rfl,rfl,rfl,λn=>by rw[vG];rfl,rfl,hFS,hSS,λx hx=>(not_mem_nil hx).elim⟩,lb,Kb _⟩ ?_
 rintro kk ls H' ⟨pre,l1,known,F1,g4,nm,o1,d1,Xb,rfl,rfl,rfl,hF,yA,hE,hS,hB⟩ j2 wc;have Kl:pre.length<=2000000:=by have:=congrArg List.length Xb;rw[Ga] at this;omega
 refine Zg ?_;refine Ma (λhc=>?_) λhc=>?_
 ·have na:=zt hc;rw[Db,Xb,Ga] at na
  obtain⟨s,l2,rfl⟩:∃ a l2,l1=a::l2:=by
   cases l1 with
   |nil=>simp at na
   |cons a l2=>exact⟨a,l2,rfl⟩
  have ld:je pre+Jq s<=2000000:=by have:=rh;rw[Xb,S0,je] at this;omega
  have Dl:s.name ∉ known.map (·.name):=by rw[yA];have:=FN;rw[Xb,Je,jd] at this;intro hm;exact(Xm this).2.2 _ hm _ We rfl
  rw[Ys] at hE;rw[ZA] at hS;refine Ti ?_;refine la (xR (ke:=pg s) (cs:=[_,_,_,_]) rfl rfl zo (by rw[Xb];exact Td pg pre s l2) rfl rfl)<|Na ?_;refine oS (Jd λb7=>?_);refine wa ?_;refine oS (S.Lc (F:=[_,_]) [_,_] rfl (gi (l₁:=[_,_])) (qmt (vars:=vars) (ba:=ba.map (·.1)) (later:=fs.map (·.name)) (known:=known) (k:={ k with name:=nm,G:=G1,g1:=g1,V:=V1,g2:=g2,A:=A1,g3:=g3,F:=F1,g4:=g4 }) (o:=o1) (d:=d1) s Az hV1 rW hF Dl hB zo zo zo) (λH2 h0 hP=>?_) λnm h0 e' Ka=>?_);rotate_left;refine Qd ?_;exact fj (Ka.trans (wc.trans Cs)) (by rw[<-BG,<-hE,gM (a:=Ii _ _) (by rw[gM h0];exact h0),gM h0]) h0;obtain⟨nm',o',d',F',g4',hF',rfl⟩:=hP;refine Ea.perm (gi (l₂:=[_,_])) ?_;refine Zk ?_;refine⟨l2.length,_,_,lt_succ_self _,⟨pre++[s],l2,known++[Zi vars (ba.map (·.1)) (fs.map (·.name)) known s],F',g4',nm',o',d',by rw[Xb];simp,rfl,rfl,rfl,hF',?_,by rw[<-hE,h0];rfl,hS,?_⟩,⟨rfl,rfl,rfl,rfl,Kg (by simp),trivial⟩,Pg ob,wc⟩;rw[Je,Je,yA];rfl;have h1:=qxO (vars:=vars) (ba:=ba.map (·.1)) (later:=fs.map (·.name)) (f:=s) hB;have h2:je (pre++[s])=je pre+Jq s:=by rw[S0,je,je];rfl
  intro g hg;rw[h2,Ga,List.length_singleton];rcases xj hg with hg|hg;obtain⟨a1,a2,a3⟩:=hB g hg;exact⟨by omega,by omega,by omega⟩;obtain rfl:=Vi hg;obtain⟨a1,a2,a3⟩:=h1;exact⟨by omega,by omega,by omega⟩
 have na:=zf hc;rw[Db,Xb,Ga] at na;obtain rfl:l1=[]:=by
  cases l1 with
  |nil=>rfl
  |cons a l2=>simp at na;omega
 have nS:FS=0:=by rw[<-hE];rfl
 have K4:known=SS:=by rw[<-hS];rfl
 rw[nS] at BG;have lL:MN=E:=by rw[<-BG];rfl
 clear na hc Kl Xb hE;subst K4;have Bg:=qlh fs [] (hFS.trans nS);have nG:∀ f∈fs,f.name.length<=1000/\∀ x∈f.params++f.locals,x.length<=1000:=λf hf=>by obtain⟨kk,hk⟩:=Bg f hf;exact⟨qlD (tR f.name (mem_append_right _ (mem_map_of_mem hf))),qr4 hk⟩
 have fw:∀ f∈fs,bT f:=λf hf=>yX (Qf (HU hf) rh);have zw:=wc.trans Cs;unfold aP at Sq;refine wa ?_
 cases Mk:fs.getLast? with
 |none=>
  have hf0:fs=[]:=List.getLast?_eq_none_iff.1 Mk;rw[Mk] at Sq;refine oB 105 rfl (λh=>absurd (zt h) (by rw[hf0];decide)) λ_=>?_;refine Da ?_;refine oS (sK (H1:=[]) (F:=_) [_,_,_] rfl mc (Jg false [109,97,105,110] 9 fa) (λh=>absurd h fa) λnm _ e' Ka=>?_);refine Ei ?_
  exact fj (Ka.trans zw) (lL.symm.trans Sq.symm) fa
 |some f=>
  obtain⟨ys,I2⟩:=List.getLast?_eq_some_iff.1 Mk;have GN:(fs.map pg).length=ys.length+1:=by rw[Db,I2,Ga];rfl
  have eW:(fs.map pg).length<=2000000:=by rw[Db];exact XK
  have Co:(0:Int)<=((fs.map pg).length:Int)-1:=by omega
  have Vh:(fs.map pg)[(((fs.map pg).length:Int)-1).toNat]? = some (pg f):=by rw[show(((fs.map pg).length:Int)-1).toNat=ys.length by omega,I2,Je];rw[List.getElem?_append_right (by rw[Db];exact Jb _),Db,Nat.sub_self];rfl
  have oG:known.map (·.name)=fs.map (·.name):=by rw[<-hSS,qj5];rfl
  obtain⟨m,hm⟩:∃ m,known.getLast? = some m:=by
   cases hx:known.getLast? with
   |some m=>exact⟨m,rfl⟩
   |none=>rw[List.getLast?_eq_none_iff.1 hx,I2] at oG;simp at oG
  have D4:m.name=f.name:=by have h1:=congrArg List.getLast? oG;rw[List.getLast?_map,List.getLast?_map,hm,Mk] at h1;exact Option.some.inj h1
  have QR:=qtr (by rw[oG];exact FN) hm;rw[Mk,hm] at Sq;replace Sq:(if f.name=[109,97,105,110]/\f.params=[] then (if (Vd vars fs).length<=8000/\m.need<=200/\m.depth<=60 then 0 else 6) else 9)=MN:=Sq
  rw[lL] at Sq;refine oB 105 rfl (λ_=>?_) (λh=>absurd (show((fs.map pg).length:Int) > 0 by omega) (zf h));refine Na ?_
  first|refine Ea.want rfl rfl ?_|skip
  refine vO ?_;refine oB 115 rfl (λh1=>?_) λh1=>?_;rotate_left;rw[zn (λh=>zf h1 h.1)] at Sq;refine Da ?_;refine oS (sK (H1:=[]) (F:=_) [_,_,_] rfl mc (Jg false [109,97,105,110] 9 fa) (λh=>absurd h fa) λnm _ e' Ka=>?_);refine Ei ?_;exact fj (Ka.trans zw) Sq.symm fa;have oI:f.name=[109,97,105,110]:=zt h1;refine Na ?_
  first|refine Ea.want rfl rfl ?_|skip
  refine vO ?_;refine oB 125 rfl (λh2=>?_) λh2=>?_;rotate_left;rw[zn (λh=>zf h2 (by rw[h.2];rfl))] at Sq;refine oS (sK (H1:=[]) (F:=_) [_,_,_] rfl mc (Jg false [109,97,105,110] 9 fa) (λh=>absurd h fa) λnm _ e' Ka=>?_);refine Ei ?_;exact fj (Ka.trans zw) Sq.symm fa
  have rz:f.params=[]:=by have h3:=zt h2;rw[Db] at h3;exact List.length_eq_zero_iff.1 zo
  rw[zp ⟨oI,rz⟩] at Sq;refine oS (sK (H1:=[]) (F:=_) [_,_,_] rfl mc (Jg true [109,97,105,110] 9 fa) (λ_=>?_) λnm h=>absurd rfl h)
  have hgF:GL.wb F1 [109,97,105,110]=some (IJ m):=by rw[hF,<-oI,<-D4,QR];rfl
  refine wa ?_;refine la (Pure.WH rfl rfl iT hgF)<|oS (Jd λb16=>?_);refine wa ?_;refine oS (sF [_] rfl (Sh (.list (ba.map rc)) dC XK fw nG) ?_);refine Na ?_;refine oB 136 rfl (λh3=>?_) λh3=>?_;rotate_left;have Ap:¬ ((Vd vars fs).length<=8000/\m.need<=200/\m.depth<=60):=λh=>zf h3 (by rw[Db];have:=h.1;omega);rw[zn Ap] at Sq;refine Da ?_;refine oS (sK (H1:=[]) (F:=_) [_,_,_] rfl mc (Jg false [109,97,105,110] 6 fa) (λh=>absurd h fa) λnm _ e' Ka=>?_);exact fj (Ka.trans zw) Sq.symm fa
  have Hs:(Vd vars fs).length<=8000:=by have:=zt h3;rw[Db] at this;omega
  refine Na ?_;refine oB 141 rfl (λh4=>?_) λh4=>?_;rotate_left;have Ap:¬ ((Vd vars fs).length<=8000/\m.need<=200/\m.depth<=60):=λh=>zf h4 (by have:=h.2.1;omega);rw[zn Ap] at Sq;refine Da ?_;refine oS (sK (H1:=[]) (F:=_) [_,_,_] rfl mc (Jg false [109,97,105,110] 6 fa) (λh=>absurd h fa) λnm _ e' Ka=>?_);exact fj (Ka.trans zw) Sq.symm fa
  have CG:m.need<=200:=by have:=zt h4;omega
  refine Na ?_;refine oB 145 rfl (λh5=>?_) λh5=>?_;rotate_left;have Ap:¬ ((Vd vars fs).length<=8000/\m.need<=200/\m.depth<=60):=λh=>zf h5 (by have:=h.2.2;omega);rw[zn Ap] at Sq;refine oS (sK (H1:=[]) (F:=_) [_,_,_] rfl mc (Jg false [109,97,105,110] 6 fa) (λh=>absurd h fa) λnm _ e' Ka=>?_);exact fj (Ka.trans zw) Sq.symm fa
  have h5':m.depth<=60:=by have:=zt h5;omega
  rw[zp ⟨Hs,CG,h5'⟩] at Sq;refine oS (sK (H1:=[]) (F:=_) [_,_,_] rfl mc (Jg true [109,97,105,110] 6 fa) (λ_=>?_) λnm h=>absurd rfl h);refine dd ?_;exact kX zw rN Sq.symm rfl yd rfl
section
variable{C:Ctx}{e:Env}{H:Heap}{dst:Option Nat}{ty:TypeId}{ra:String}{ua:Array Edge}{g:Option (Nat×Bool)}{x:Operand}
theorem Pure.Vq{t xT:TypeId} [ht:Ye C.P t]{zs:List Value}(hz:∀ w,(zeroValue t).run C.P w=.ok (.agg zs.toArray) w)(hx:e.ev x=.atom .nilIface):Go.GL.Pure C ⟨dst,.typeAssert x xT t true,ty,ra,ua,g⟩ e H (.tuple [.agg (zs.map .atom),bool false]):=
 .Wa λρ w L h=>⟨.tuple #[.agg zs.toArray,.bool false],by
  simp only[xb];exact⟨[.agg zs.toArray,.bool false],rfl,by simp only[oa,xb];exact⟨_,_,rfl,⟨zs,rfl,Wp zs⟩,_,_,rfl,rfl,rfl⟩⟩,λw'=>by
  obtain⟨d,hd,hm⟩:=ht.out;have h3:execOp ρ ⟨dst,.typeAssert x xT t true,ty,ra,ua,g⟩=(do Pure.pure (.value (<-Instr.typeAssert (ρ x) xT t true))):=rfl;rw[h3,Zb h hx];simp only[Instr.typeAssert,Ac,ye hd,ad];cases d <;> simp_all [Ac]⟩
end
theorem qwa(w:World):(zeroValue 109).run Tryz.prog w=.ok (.agg [.string ⟨#[]⟩,.int .i64 0].toArray) w:=
 (Go.zero_of_info (P:=Tryz.prog) (n:=2) zk).1 w
attribute [local irreducible] dj xg Gv Kn
theorem qv5(b2 b3:Nat)(c d:LV):Kn (KC B0 w0) 43 [ptr b2 0,ptr b3 0] .returning [(b2,.cells 9 [c]),(b3,.cells 23 [d])]
  (λu H=>u=.returning/\H=[(b2,.cells 9 [c]),(b3,.cells 23 [d])]):=by
 refine Kn.intro Tryz.func43 rfl (n:=19) rfl rfl rfl ?_;refine xy ?_;refine Bd ?_;refine la (Pure.Vq qwa rfl)<|Na ?_;refine oS (Jd λb5=>?_);refine wa ?_;refine Ma (λhc=>?_) λhc=>?_;cases hc;refine wa ?_;refine Ma (λhc=>?_) λhc=>?_;cases hc;refine Da ?_;exact⟨rfl,_,Pg ob,rfl,rfl⟩
theorem qvw(b2 b3:Nat)(c d:LV)(nm:List UInt8)(er:Int):Kn (KC B0 w0) 43 [ptr b2 0,ptr b3 0] (.panicking (QE nm er)) [(b2,.cells 9 [c]),(b3,.cells 23 [d])]
  (λu H=>settle u=.returning/\H=[(b2,.cells 9 [str nm]),(b3,.cells 23 [int .i64 er])]):=by
 refine Kn.intro Tryz.func43 rfl (n:=19) rfl rfl rfl ?_;refine xy ?_;refine Bd ?_;refine la (Pure.Ep (vs:=[.string ⟨nm.toArray⟩,.int .i64 er]) rfl)<|Na ?_;refine oS (Jd λb5=>?_);refine wa ?_;refine Ma (λhc=>?_) λhc=>?_
 ·skip
  refine cD (m:=6) rfl [(b5,.cells 109 [str nm,int .i64 er])]<|aT 0 rfl rfl (pF rfl)<|aT 1 rfl rfl (pL (c:=.atom _) rfl nc rfl)<|aT 2 rfl rfl (pF rfl)<|aT 3 rfl rfl (pL (c:=.atom _) rfl nc rfl)<|aL ?_ qd;refine lO 4 (lS (H1:=[(b2,.cells 9 [c])]) (F:=[(b5,.cells 109 [str nm,int .i64 er]),(b3,.cells 23 [d])]) rfl (.inl rfl) rfl Od qd (sS (Ob:=[_]) rfl pH rfl rfl rfl rfl rfl ?_));refine lO 5 (lS (H1:=[(b3,.cells 23 [d])]) (F:=[(b2,.cells 9 [str nm]),(b5,.cells 109 [str nm,int .i64 er])]) rfl (.inl rfl) rfl Fi (tc Od yd) (sS (Ob:=[_]) rfl pH rfl rfl rfl rfl rfl ?_));refine lD zk ?_;exact⟨rfl,_,tc Od qd,rfl,rfl⟩
 cases hc
theorem Yf(vars:List Nm)(ba:List (Nm×Int))(fs:List Pb)(dC:vars.length<=2000000)(ON:ba.length<=2000000)(fL:∀ a∈ba,-9223372036854775808<=a.2/\a.2<9223372036854775808)(rh:je fs<=2000000) :
  ca (KC B0 w0) 27 [vh vars ba fs] [] (λr H=>H=[]/\∃ nm,r=.ret (.tuple [str nm,int .i64 (Jr vars ba fs)])):=by
 generalize hE:Jr vars ba fs=E;refine ca.aw Tryz.func27 rfl (n:=15) rfl rfl rfl ?_;refine An ?_;refine qe ?_;refine oS (sB rfl λb1=>oS (Jd λb2=>?_));refine oS (Jd λb3=>?_);refine dd ?_;refine ov ?_;refine dj.defer rfl rfl ?_;refine jr ?_;refine An ?_;refine qe ?_;refine oS (S.Al λgm=>oS (S.Al λvm=>?_));refine oS (S.Al λam=>oS (S.Al λfm=>?_));refine Na ?_;refine oS (sB rfl λcb=>?_);refine Ea.qc (H':=Qt ⟨cb,gm,vm,am,fm,0,[],[],[],[],[],0,0,0,0,0,[]⟩ (.map none) 0++[(b3,.cells 23 [int .i64 0]),(b2,.cells 9 [str []]),(b1,.cells 68 [.list (vars.map str),.list (ba.map rc),.list (fs.map pg)])]) ?_ ?_
 ·repeat first
   |exact HSub.nil _
   |refine tc WI ?_
 refine dd ?_;refine ov ?_;refine dj.step (S.Lc (F:=[_,_,_]) [_,_] rfl mc (eK (k:=⟨cb,gm,vm,am,fm,0,[],[],[],[],[],0,0,0,0,0,[]⟩) (o:=.map none) (d:=0) vars ba fs rfl rfl rfl rfl dC ON fL rh) (λH2 h0 hP=>?_) λnm h0=>?_) rfl
 ·subst hP;rw[hE] at h0;subst h0;refine jr ?_;refine xg.seq (xg.region ?_);refine dj.step (sS (Ob:=[_]) rfl Od rfl rfl rfl rfl rfl ?_) rfl;refine dj.step (sS (Ob:=[_]) rfl Od rfl rfl rfl rfl rfl ?_) rfl;refine jr ?_;refine xg.ret ?_
  exact Lv.Wj (vs:=[str [],int .i64 0]) (H1:=[(b2,.cells 9 [str []]),(b3,.cells 23 [int .i64 0])]) (F:=[_]) (H2:=[(b2,.cells 9 [str []]),(b3,.cells 23 [int .i64 0])]) rfl (cr _ _ _) (qv5 b2 b3 _ _)
   (rC (Am.Bc rfl nc rfl Nd) (rC (Am.Bc rfl Oh rfl Nd) rN)) yd ⟨rfl,[],rfl⟩
 rw[hE] at h0 ⊢;refine ve.panic ?_;exact Lv.Rr (vs:=[str nm,int .i64 E]) (H1:=[(b2,.cells 9 [str []]),(b3,.cells 23 [int .i64 0])]) (F:=[_]) (H2:=[(b2,.cells 9 [str nm]),(b3,.cells 23 [int .i64 E])]) rfl (cr _ _ _) (qvw b2 b3 _ _ nm E)
  (rC (Am.Bc rfl nc rfl Nd) (rC (Am.Bc rfl Oh rfl Nd) rN)) yd ⟨rfl,nm,rfl⟩
end Go.Proofs.YtmnjklgnhpnckaaGreatDoor.sj
namespace Go.Proofs.YtmnjklgnhpnckaaGreatDoor.VI
open Go.GL Go.RowKit Go.ia
open Go.Lib (decDigits itoa join)
variable{A F H1:Heap}{Rd:Array TypeId}{Mc:List LV}{env:Bb}{f:FuncId}{m:Nat}
structure TB where
 tb:Nat
 sm:Nat
 am:Nat
 S:KV
 A:KV
 g1:Nat
 g2:Nat
 sc:Nat
def Qj(k:TB)(own:Nm)(ws:List Wd)(n:Nat)(H:Heap):Prop:=∃ v Hv,GL.Acc 1 v (ws.map str) Hv []/\H=(k.tb,.cells 121 [v,int .i64 (n:Nat),int .i64 (k.sc:Nat),.atom (.map (some k.sm)),.atom (.map (some k.am)),str own])::(k.sm,.map (Pe k.S) k.g1)::(k.am,.map (Pe k.A) k.g2)::Hv
def Hy(P:Heap->Prop):Ie->Heap->Prop:=λr H=>r=.ret (.tuple [])/\P H
def aH(s:List UInt8)(P:Heap->Prop):Ie->Heap->Prop:=λr H=>r=.ret (str s)/\P H
structure Ts(k:TB)(c:CC)(own:Nm):Prop where
 sc:∀ name,∃ a:Nat,a<=1000000000/\c.sc name=decDigits a/\((∃ v,GL.wb k.S (own++[46]++name)=some v/\v=int .i64 (a:Nat))∨(GL.wb k.S (own++[46]++name)=none/\(GL.wb k.S name).getD (int .i64 0)=int .i64 (a:Nat)))
 ar:∀ name,∃ a:Nat,a<=1000000000/\c.ar name=decDigits a/\(GL.wb k.A name).getD (int .i64 0)=int .i64 (a:Nat)
 t0:c.t0=decDigits k.sc
 t1:c.t1=decDigits (k.sc+1)
 t2:c.t2=decDigits (k.sc+2)
 small:k.sc<=1000000000
 own:own.length<=1000000
theorem CQ{x y z:Nat×ma}:(x::y::z::A).Perm (A++[x,y,z]):=gi (l₁:=[x,y,z])
theorem qf{x:Nat×ma}:(x::A).Perm (A++[x]):=(List.perm_append_singleton _ _).symm
theorem ox{x y:Nat×ma}:(x::y::A).Perm (A++[x,y]):=gi (l₁:=[x,y])
theorem yJ:A.Perm (A++[]):=by rw[de]
theorem Tp{x:Nat×ma}:HSub A (x::A):=Pg ob
theorem fH{x y:Nat×ma}:HSub A (x::y::A):=Pg (Pg ob)
theorem rX{x:Nat×ma}:HSub [x] (x::A):=tc pH yd
theorem eH{x y:Nat×ma}:HSub [x,y] (x::y::A):=tc pH qd
theorem qpN{x:Nat×ma}:HSub (x::A) (A++[x]):=⟨[],by rw[de];exact qf.symm⟩
theorem qq1{x y:Nat×ma}:HSub (x::y::A) (A++[x,y]):=⟨[],by rw[de];exact ox.symm⟩
theorem qt4(h:m<4294967296):IntKind.u64.wrap (m:Int)=m:=by simp only[IntKind.wrap,IntKind.bits,IntKind.signed,Ui];simp;omega
section
variable{C:Ctx}{e:Env}{H:Heap}{dst:Option Nat}{ty:TypeId}{ra:String}{ua:Array Edge}{g:Option (Nat×Bool)}{K:LV->Heap->Prop}{X:List PanicEntry->Heap->Prop}
theorem Ze{f:FuncId} [Tb C.P f](args:List Operand){P:Heap->Prop}(has:args.map e.ev=Mc)(hp:H.Perm (H1++F))(hc:ca C f Mc H1 (Hy P))(hk:∀ H',P H'->K (.tuple []) (F++H')) :
  Ya C ⟨dst,.call { callee:=.value (.func f),args:=args.toArray,argTypes:=Rd },ty,ra,ua,g⟩ e H K X:=
 Ya.Zc (K:=λlv Bh=>∃ H',Bh=H'++F/\P H'/\lv=.tuple []) (S.Tc args has hp hc (by rintro v H' ⟨h,h2⟩;cases h;exact⟨H',rfl,h2,rfl⟩) (by rintro ch H' ⟨h,_⟩;cases h))
  (by rintro lv Bh ⟨H',rfl,hP,rfl⟩;exact⟨_,F++H',vR _,⟨[],by rw[de];exact gi⟩,hk H' hP⟩)
theorem Pure.AK{t el:TypeId}{zv:Value}{zl lv:LV} [h:jo C.P t el zv zl]{x y:Operand}{b qa:Nat}{m:KV}{s:List UInt8}(hm:e.ev x=.atom (.map (some b)))(hx:e.ev y=str s)(hb:(b,.map (Pe m) qa)∈H)(hg:(GL.wb m s).getD zl=lv) :
  GL.Pure C ⟨dst,.lookup t x y false,ty,ra,ua,g⟩ e H lv:=by
 obtain⟨kt,h1,h2⟩:=h.De;exact hg▸GL.Pure.wb h1 h2 h.zero h.rep hm hx hb
theorem S.Hj{f:FuncId} [Tb C.P f](args:List Operand){P:Heap->Prop}{s:List UInt8}(has:args.map e.ev=Mc)(hp:H.Perm (H1++F))(hc:ca C f Mc H1 (aH s P))(hk:∀ H',P H'->K (str s) (F++H')) :
  Ya C ⟨dst,.call { callee:=.value (.func f),args:=args.toArray,argTypes:=Rd },ty,ra,ua,g⟩ e H K X:=
 Ya.Zc (K:=λlv Bh=>∃ H',Bh=H'++F/\P H'/\lv=str s) (S.Tc args has hp hc (by rintro v H' ⟨h,h2⟩;cases h;exact⟨H',rfl,h2,rfl⟩) (by rintro ch H' ⟨h,_⟩;cases h))
  (by rintro lv Bh ⟨H',rfl,hP,rfl⟩;exact⟨_,F++H',vR _,⟨[],by rw[de];exact gi⟩,hk H' hP⟩)
theorem S.Ps{fo:Operand} [Tb C.P f]{first ib:Array Value}(args:List Operand){P:Heap->Prop}(hf:e.ev fo=.atom (.func (.func f) first ib))
  (has:first.toList.map .atom++args.map e.ev++ib.toList.map .atom=Mc) (hp:H.Perm (H1++F)) (hc:ca C f Mc H1 (Hy P)) (hk:∀ H',P H'->K (.tuple []) (F++H')) :
  Ya C ⟨dst,.call { callee:=.value fo,args:=args.toArray,argTypes:=Rd },ty,ra,ua,g⟩ e H K X:=
 Ya.Zc (K:=λlv Bh=>∃ H',Bh=H'++F/\P H'/\lv=.tuple []) (S.Ml args hf has hp hc (by rintro v H' ⟨h,h2⟩;cases h;exact⟨H',rfl,h2,rfl⟩) (by rintro ch H' ⟨h,_⟩;cases h))
  (by rintro lv Bh ⟨H',rfl,hP,rfl⟩;exact⟨_,F++H',vR _,⟨[],by rw[de];exact gi⟩,hk H' hP⟩)
end
attribute [local irreducible] Ea fb Ya ca Go.GL.Pure ve Oe Kd LQ yb nh db LS
section
variable{B0:Nat}{w0:World}{k:TB}{own:Nm}{c:CC}{ws:List Wd}{n:Nat}{H:Heap}
theorem Oi(h:Qj k own ws n H)(W:List Wd){a:LV}(ha:GL.elems a=some (W.map str))(hr:ws.length+W.length<=1000000000):ca (KC B0 w0) 89 [ptr k.tb 0,a] H (Hy (Qj k own (ws++W) n)):=by obtain⟨v,Hv,Ra,rfl⟩:=h;have h1:(ws.map str).length=ws.length:=Db _;have h2:(W.map str).length=W.length:=Db _;refine kb Tryz.func89 rfl (n:=13) rfl rfl rfl ?_;refine xa ?_;refine la (pL (c:=v) rfl nc rfl)<|la (pM (lv:=a) rfl)<|oS (sG CQ rfl Ra ha (zH W) (MJ W) zo λv' H' ab=>?_);refine Da ?_;refine oS (sS (Ob:=[v',int .i64 (n:Nat),int .i64 (k.sc:Nat),.atom (.map (some k.sm)),.atom (.map (some k.am)),str own]) rfl pH (Acc.cell ab).1 rfl rfl (Acc.cell ab).2 rfl ?_);refine dd ?_;exact rO rfl rN ob ⟨rfl,v',H',by rw[Je];exact ab,rfl⟩
theorem lV(hG:GW B0 w0)(h:Qj k own ws n H)(hn:n<=1000000000000):ca (KC B0 w0) 205 [ptr k.tb 0] H (aH (za n) (Qj k own ws (n+1))):=by
 obtain⟨v,Hv,Ra,rfl⟩:=h;have hd:(Go.Lib.decDigits n).length<=20:=by rw[Go.Lib.decDigits_length];exact Qf (rV 12 n zo) fa
 refine kb Tryz.func205 rfl (n:=18) rfl rfl rfl ?_;refine xa ?_;refine oS (sF [_] rfl (JH hG n zo) ?_);refine wa ?_;first|(refine oS (sS (Ob:=[_,_,_,_,_,_]) rfl pH rfl rfl rfl rfl rfl ?_))|skip
 refine xa ?_;exact rR rfl (eb rfl) ob ⟨rfl,v,Hv,Ra,rfl⟩
theorem YM(hG:GW B0 w0)(hk:Ts k c own)(h:Qj k own ws n H)(name:List UInt8)(hn:name.length<=1000000):ca (KC B0 w0) 91 [ptr k.tb 0,str name] H (aH (c.sc name) (Qj k own ws n)):=by obtain⟨a,Xx,pq,Bw⟩:=hk.sc name;have ho:=hk.own;have h0:=h;obtain⟨v,Hv,Ra,rfl⟩:=h;rw[pq];refine kb Tryz.func91 rfl (n:=32) rfl rfl rfl ?_;refine Yn ?_;refine qm ?_;rcases Bw with⟨v3,cG,rfl⟩|⟨cG,hv4⟩;refine qP (Pure.Yv rfl rfl Oh cG) rfl ?_;refine wa ?_;refine Ma (λhc=>?_) λhc=>?_;refine Bd ?_;refine oS (sF [_] rfl (JH hG a zo) ?_);refine Da ?_;exact rR rfl (eb rfl) ob ⟨rfl,h0⟩;cases hc;refine qP (Pure.Yr rfl rfl Oh cG) rfl ?_;refine wa ?_;refine Ma (λhc=>?_) λhc=>?_;cases hc;refine xa ?_;refine la (Pure.AK rfl rfl Oh hv4)<|oS (sF [_] rfl (JH hG a zo) ?_);refine dd ?_;exact rR rfl (eb rfl) ob ⟨rfl,h0⟩
theorem zV(hG:GW B0 w0)(hk:Ts k c own)(h:Qj k own ws n H)(i:Nat)(hi:i<=2):ca (KC B0 w0) 90 [ptr k.tb 0,int .i64 (i:Nat)] H (aH (decDigits (k.sc+i)) (Qj k own ws n)):=by have h0:=h;obtain⟨v,Hv,Ra,rfl⟩:=h;have hs:=hk.small;have e1:int .i64 ((k.sc:Int)+(i:Int))=int .i64 ((k.sc+i:Nat):Int):=Kg zo;refine kb Tryz.func90 rfl (n:=12) rfl rfl rfl ?_;refine xa ?_;refine oS (sF [_] (by show [_]=_;exact congrArg (λx=>[x]) e1) (JH hG (k.sc+i) zo) ?_);refine dd ?_;exact rR rfl (eb rfl) ob ⟨rfl,h0⟩
theorem qiP(hG:GW B0 w0)(hk:Ts k c own)(h:Qj k own ws n H)(hr:ws.length+(Xl c).length<=1000000000):ca (KC B0 w0) 234 [ptr k.tb 0] H (Hy (Qj k own (ws++Xl c) n)):=by have e:Xl c=[c.t2,[33],c.t1,[33],c.t2,[64],c.t1,[64],[60]]:=rfl;rw[e] at hr ⊢;rw[hk.t1,hk.t2];rw[hk.t1,hk.t2] at hr;refine kb Tryz.func234 rfl (n:=15) rfl rfl rfl ?_;refine Bd ?_;refine oS (S.Hj (F:=[]) [_,_] rfl yJ (zV hG hk h 1 fa) λH1 h1=>?_);refine fi ?_;refine oS (S.Hj (H1:=H1) (F:=[]) [_,_] rfl yJ (zV hG hk h1 2 fa) λH2 h2=>?_);refine di ?_;refine oS (sL [_,_,_,_,_,_,_,_,_] rfl (Wu [_,_,_,_,_,_,_,_,_]) rfl rfl rfl<|oS (Ze (H1:=H2) (F:=[]) [_,_] rfl yJ (Oi h2 [_,_,_,_,_,_,_,_,_] rfl hr) λH3 h3=>?_));refine dd ?_;exact rO rfl rN ob ⟨rfl,h3⟩
end
structure Yq(env:Bb):Prop where
 sc:∀ s,Zs env s=0->s.length<=24
 fn:∀ k∈env.funcs,k.name.length<=24
theorem Yq.call(h:Yq env){name:Nm}(hc:Lc env name m=0):name.length<=24:=by
 unfold Lc at hc;split at hc;rename_i e;rw[e];decide;split at hc;rename_i e;rw[e];decide;unfold Bb.fn at hc;cases hf:env.funcs.find? λf=>decide (f.name=name) with
 |none=>rw[hf] at hc;simp only at hc;split at hc <;> cases hc
 |some k=>have e:k.name=name:=zt (List.find?_some (p:=λg:fe=>decide (g.name=name)) hf);rw[<-e];exact h.fn k (List.mem_of_find?_eq_some hf)
section
variable{C:Ctx}{e:Env}{H:Heap}{dst:Option Nat}{ty:TypeId}{ra:String}{ua:Array Edge}{g:Option (Nat×Bool)}{K:LV->Heap->Prop}{X:List PanicEntry->Heap->Prop}
theorem Ya.iy{f:FuncId} [Tb C.P f](args:List Operand){P:Heap->Prop}(has:args.map e.ev=Mc)(hc:ca C f Mc H (Hy P))(hk:∀ H',P H'->K (.tuple []) H') :
  Ya C ⟨dst,.call { callee:=.value (.func f),args:=args.toArray,argTypes:=Rd },ty,ra,ua,g⟩ e H K X:=
 Ya.Zc (Ze (F:=[]) (K:=λlv H'=>K lv H') (X:=X) args has (by rw[de]) hc λH' h=>hk H' h) λlv H' h=>⟨lv,H',vR _,Kb _,h⟩
end
variable{B0:Nat}{w0:World}
abbrev Ez(b:Nat)(op:Nm)(num:Nat)(name:Nm)(args:List Ex):Nat×ma:=(b,.cells 220 [str op,int .u32 (num:Int),str name,.list (args.map Ab)])
def wJ(B0:Nat)(w0:World)(k:TB)(own:Nm)(c:CC)(env:Bb)(m:Nat):Prop:=∀ (x:Ex) (ws:List Wd) (n:Nat) (H:Heap),xl x<=m->Ji x->yf env x=0->Qj k own ws n H->ws.length+(Mb c x).length<=1000000000->ca (KC B0 w0) 158 [ptr k.tb 0,Ab x] H (Hy (Qj k own (ws++Mb c x) n))
theorem XY{k:TB}{own:Nm}{c:CC}(ih:wJ B0 w0 k own c env m)(l:List Ex)(ws:List Wd)(n:Nat)(H:Heap)(hm:Sb l<=m)(hl:l.length<=2000000)(ec:Ck l)(he:ig env l=0)(h:Qj k own ws n H)(hr:ws.length+(Hb c l).flatten.length<=1000000000) :
  ca (KC B0 w0) 203 [ptr k.tb 0,.list (l.map Ab)] H (Hy (Qj k own (ws++(Hb c l).flatten) n)):=by
 have Bg:(l.map Ab).length=l.length:=Db _;refine kb Tryz.func203 rfl (n:=16) rfl rfl rfl ?_;refine xa ?_;refine oL (λkk ls H'=>∃ (pre l1:List Ex) (Ym:List Wd),l=pre++l1/\kk=l1.length/\ls=[(0,ptr k.tb 0),(6,.list (l.map Ab)),(7,int .i64 ((l.map Ab).length:Int)),(8,int .i64 (pre.length:Int))]/\Qj k own Ym n H'/\Ym++(Hb c l1).flatten=ws++(Hb c l).flatten/\ig env l1=0/\Ck l1)
  ⟨l.length,_,_,⟨[],l,ws,rfl,rfl,rfl,h,rfl,he,ec⟩,lb,Kb _⟩ ?_
 rintro kk ls H' ⟨pre,l1,Ym,Xb,rfl,rfl,hT,hW,Ci,sw⟩ j hj;have Kl:pre.length<=2000000:=by have:=congrArg List.length Xb;rw[Ga] at this;omega
 refine Zg ?_;refine Ma (λhc=>?_) λhc=>?_;have na:=zt hc;rw[Db,Xb,Ga] at na
 obtain⟨a,l2,rfl⟩:∃ a l2,l1=a::l2:=by
  cases l1 with
  |nil=>simp at na
  |cons a l2=>exact⟨a,l2,rfl⟩
 have UC:xl a<=Sb l:=NY (by rw[Xb];exact mem_append_right _ We);rw[ig] at Ci;rw[Ck] at sw;rw[Hb,List.flatten_cons,<-Sc] at hW;obtain⟨h1,h2⟩:=Rc.1 Ci;have Zl:=congrArg List.length hW;rw[Ga,Ga,Ga] at Zl;refine Ti ?_;refine la (xR (ke:=Ab a) (cs:=[_,_,_,_]) rfl rfl zo (by rw[Xb];exact sj.Td Ab pre a l2) rfl rfl)<|Na ?_;refine oS (Jd λb8=>?_);refine wa ?_;refine oS (Ze (H1:=H') (F:=[_]) [_,_] rfl qf (ih a Ym n H' zo sw.1 h1 hT zo) λH2 iS=>?_);refine Zk ?_;exact⟨l2.length,_,_,lt_succ_self _,⟨pre++[a],l2,Ym++Mb c a,by rw[Xb];simp,rfl,rfl,iS,hW,h2,sw.2⟩,⟨rfl,rfl,rfl,Kg (by simp),trivial⟩,Tp,hj⟩;have na:=zf hc;rw[Db,Xb,Ga] at na
 obtain rfl:l1=[]:=by
  cases l1 with
  |nil=>rfl
  |cons a l2=>simp at na;omega
 rw[Hb,List.flatten_nil,de] at hW;refine Da ?_;exact rO hj rN ob ⟨rfl,by rw[<-hW];exact hT⟩
theorem qnU{k:TB}{own:Nm}{c:CC}(ih:wJ B0 w0 k own c env m)(b2 b3:Nat)(op:Nm)(num:Nat)(name:Nm)(x y:Ex)(ws:List Wd)(n:Nat)(H:Heap)(hx:xl x<=m)(hy:xl y<=m)(nx:Ji x)(ny:Ji y)(ex:yf env x=0)(ey:yf env y=0)(h:Qj k own ws n H)
  (A B:List Wd) {a b:LV} (ha:GL.elems a=some (A.map str)) (hb:GL.elems b=some (B.map str)) (hr:ws.length+(A++Mb c x++B++Mb c y).length<=1000000000) :
  ca (KC B0 w0) 233 [a,b,ptr b2 0,ptr b3 0] ((b2,.cells 118 [ptr k.tb 0])::Ez b3 op num name [x,y]::H)
   (Hy λH'=>∃ H2,H'=(b2,.cells 118 [ptr k.tb 0])::Ez b3 op num name [x,y]::H2/\Qj k own (ws++(A++Mb c x++B++Mb c y)) n H2):=by
 simp only[Ga] at hr;refine kb Tryz.func233 rfl (n:=24) rfl rfl rfl ?_;refine xa ?_;refine la (pM (lv:=a) rfl)<|oS (Ze (H1:=H) (F:=[_,_]) [_,_] rfl ox (Oi h A ha zo) λH2 h2=>?_);refine Da ?_;refine wO ?_;refine yb.take (i:=3) eH rfl zk zk zk rfl (xR (ke:=Ab x) (cs:=[_,_,_,_]) rfl rfl fa rfl rfl rfl)<|aT 4 rfl rfl (pR (Ob:=[_,_,_,_]) rfl rfl rfl)<|aL ?_ eH;refine lO 5 (lS (H1:=H2) (F:=[_,_]) rfl (.inl rfl) rfl ox ob (Ya.iy [_,_] rfl (ih x _ n H2 hx nx ex h2 (by rw[Ga];omega)) λH3 h3=>?_));refine fq ?_;refine cW qq1 ?_;refine xa ?_;refine la (pM (lv:=b) rfl)<|oS (Ze (H1:=H3) (F:=[_,_]) [_,_] rfl ox (Oi h3 B hb (by simp only[Ga];omega)) λH4 h4=>?_);refine dd ?_;refine wO ?_;refine yb.take (i:=3) eH rfl zk zk zk rfl (xR (ke:=Ab y) (cs:=[_,_,_,_]) rfl rfl fa rfl rfl rfl)<|aT 4 rfl rfl (pR (Ob:=[_,_,_,_]) rfl rfl rfl)<|aL ?_ eH;refine lO 5 (lS (H1:=H4) (F:=[_,_]) rfl (.inl rfl) rfl ox ob (Ya.iy [_,_] rfl (ih y _ n H4 hy ny ey h4 (by simp only[Ga];omega)) λH5 h5=>?_));refine lD zk ?_
 exact rO rfl rN qq1 ⟨rfl,H5,rfl,by
  simp only[Sc] at h5 ⊢;exact h5⟩
end Go.Proofs.YtmnjklgnhpnckaaGreatDoor.VI
