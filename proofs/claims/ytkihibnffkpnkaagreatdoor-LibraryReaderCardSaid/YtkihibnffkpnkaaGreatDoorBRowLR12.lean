import Derived.Test.YtkihibnffkpnkaaGreatDoorBRowLR11
set_option linter.unusedVariables false
set_option linter.unusedSimpArgs false
set_option maxRecDepth 100000
set_option maxHeartbeats 4000000
open Go.GL (zk)
open List (drop_eq_getElem_cons take_length mem_append_right mem_map_of_mem not_mem_nil nil_append cons_append)
open Nat (zero_le lt_succ_self)
open Option (none_or)
namespace Go.Proofs.YtkihibnffkpnkaaGreatDoor.Pp
open Go.GL Go.RowKit Go.Stele
open Asm (qbt qbt.mk qbH)
variable{i:Nat}{v:List Wd}
theorem qnI(h:5<v.length):((v.map str).take 6).drop 4=[str (wdAt v 4),str (wdAt v 5)]:=by
 have e4:wdAt v 4=v[4]:=by unfold wdAt;rw[List.getElem?_eq_getElem zo];rfl
 have e5:wdAt v 5=v[5]:=by unfold wdAt;rw[List.getElem?_eq_getElem h];rfl
 rw[e4,e5,<-List.map_take,<-List.map_drop]
 have:(v.take 6).drop 4=[v[4],v[5]]:=by
  rw[List.drop_take,drop_eq_getElem_cons (by omega:4<v.length),drop_eq_getElem_cons h];rfl
 rw[this];rfl
attribute [local irreducible] LOps qag qae LCalls Go.GL.Pure qaz qam qad LQ LAny qaI qan
section
variable{B0:Nat}{w0:World}
theorem qn2(v:List Wd)(m:Nat)(hv:Small v):LCalls (KC B0 w0) 149 [qb3 v m] [] (Ret (qht (qdx v))):=by
 have kj:=qhm (B0:=B0) (w0:=w0) v m 4 hv zo;have ki:=qcp (B0:=B0) (w0:=w0) v m 0 [[49],[60],[49],[60]] hv zo zDd
 have hF:qdx v=if (qdd v 4).isSome=true/\isW v 0 [[49],[60],[49],[60]]=true then (6,[wdAt v 4,wdAt v 5]) else (0,[]):=by
  simp only[qdx,isW,zBa,zDe,and_true]
 have hlen:∀ l,qdd v 4=some l->5<v.length:=λl h=>qcF h;unfold qb3 at kj ki ⊢;generalize qdd v 4=oj at kj hF hlen;generalize isW v 0 [[49],[60],[49],[60]]=q at ki hF;refine zcI Tryz.func149 rfl (n:=20) rfl rfl rfl ?_;refine gah ?_;refine oS (zsB (cs:=[.list (v.map str),.atom (.map (some m))]) rfl λb1=>?_) rfl;refine gaa ?_;refine oS (S.fnIf [_,_] rfl kj ?_) rfl;rintro lv ⟨s,rfl,hs⟩;refine gac ?_
 cases oj with
 |none=>
  refine gab ?_;refine zoC rfl (λh=>?_) (λh=>?_);cases h
  exact zT29
 |some l=>
  have h5:=hlen l rfl;refine gad ?_;refine oS (sL [.const (.string { data:=#[49] }),.const (.string { data:=#[60] }),.const (.string { data:=#[49] }),.const (.string { data:=#[60] })] rfl (eC rfl rfl (eC rfl rfl (eC rfl rfl (eC rfl rfl eN)))) rfl rfl rfl ?_) rfl;refine gaj ?_;refine oS (sF [_,_,_] rfl ki ?_) rfl;refine gab ?_;refine zoC rfl (λh=>?_) (λh=>?_);have hq:q=true:=h;subst hq;refine gab ?_;refine cD (m:=5) rfl [(b1,.cells 179 [.list (v.map str),.atom (.map (some m))])]<|aT 0 rfl rfl (pF rfl)<|aT 1 rfl rfl (pL (c:=.list _) rfl zm0 rfl)<|LAny.take (i:=2) zhr rfl zk zk zk rfl (Pure.lslice (es:=v.map str) (i:=4) (j:=6) rfl ⟨_,rfl⟩ ⟨_,rfl⟩ zo zo (by rw[zLm];omega) (qey v))<|aT 3 rfl rfl (pA (lv:=.atom _) rfl)<|aT 4 rfl rfl (pA (lv:=.list _) rfl)<|zQ47 ?_;refine gab ?_;exact qac rfl (rC (zrt rfl) (rC (rT (v:=.list _) rfl zsr) rN)) (by rw[hF];exact congrArg (λx=>LV.tuple [int .i64 6,.list x]) (qnI h5));have hq:q=false:=h;subst hq;refine gac ?_;exact qac rfl (rC (zrt rfl) (rC (rT (v:=qab) rfl vN) rN)) (by rw[hF];rfl)
end
section
variable{B0:Nat}{w0:World}
theorem qmy(hG:GW B0 w0)(v:List Wd)(m:Nat)(hv:Small v):LCalls (KC B0 w0) 147 [qb3 v m] [] (Ret (qht (qcy v))):=by
 have k0:=qaQ (B0:=B0) (w0:=w0) v m 0 (by have:=hv.1;omega);have k1:=qaQ (B0:=B0) (w0:=w0) v m 1 (by have:=hv.1;omega);have k2:=qaQ (B0:=B0) (w0:=w0) v m 2 (by have:=hv.1;omega);have k3:=qaQ (B0:=B0) (w0:=w0) v m 3 (by have:=hv.1;omega);have kj:=qjc hG (wdAt v 0) (wdAt v 1) (wdAt v 2) (hv.at 0) (hv.at 2)
 have hF:qcy v=if (wdAt v 1=[43]∨wdAt v 1=[42]∨wdAt v 1=[94])/\wdAt v 3=wdAt v 1 then
  (match qa2 (wdAt v 0) (wdAt v 1) (wdAt v 2) with
  |some s=>(4,[s,wdAt v 1])
  |none=>(0,[]))
 else (0,[]):=rfl
 unfold qb3 at k0 k1 k2 k3 ⊢;generalize qa2 (wdAt v 0) (wdAt v 1) (wdAt v 2)=o at kj hF;generalize wdAt v 1=b at k1 kj hF;generalize wdAt v 3=d at k3 hF;refine zcI Tryz.func147 rfl (n:=38) rfl rfl rfl ?_;refine gah ?_;refine oS (zsB (cs:=[.list (v.map str),.atom (.map (some m))]) rfl λb1=>?_) rfl;refine gaa ?_;refine oS (sF [_,_] rfl k1 ?_) rfl;refine gaa ?_;refine LOps.cut [(1,ptr b1 0),(4,str b),(24,bool (!decide ((b=[43]∨b=[42]∨b=[94])/\d=b)))] ?_ (λj hj=>?_);refine zoB 11 rfl (λh1=>?_) (λh1=>?_);have e1:¬ b=[43]:=by simpa using h1
 refine gad ?_;refine zoB 15 rfl (λh2=>?_) (λh2=>?_);have e2:¬ b=[42]:=by simpa using h2
 refine gad ?_;refine zoB 19 rfl (λh3=>?_) (λh3=>?_);have e3:¬ b=[94]:=by simpa using h3
 refine gab ?_;exact⟨⟨rfl,rfl,qau (by simp[e1,e2,e3]),trivial⟩,rfl,rfl⟩;have e3:b=[94]:=by simpa using h3
 refine gad ?_;refine oS (sF [_,_] rfl k3 ?_) rfl;refine gad ?_;exact⟨⟨rfl,rfl,qau (by simp[e3]),trivial⟩,rfl,rfl⟩;have e2:b=[42]:=by simpa using h2
 refine gad ?_;refine oS (sF [_,_] rfl k3 ?_) rfl;refine gad ?_;exact⟨⟨rfl,rfl,qau (by simp[e2]),trivial⟩,rfl,rfl⟩;have e1:b=[43]:=by simpa using h1
 refine gad ?_;refine oS (sF [_,_] rfl k3 ?_) rfl;refine gad ?_;exact⟨⟨rfl,rfl,qau (by simp[e1]),trivial⟩,rfl,rfl⟩;refine zoC rfl (λh=>?_) (λh=>?_);have hn:¬ ((b=[43]∨b=[42]∨b=[94])/\d=b):=zf (Bool.not_eq_true' _▸h);rw[zn hn] at hF;refine gap ?_;exact qac hj (rC (zrt rfl) (rC (rT (v:=qab) rfl vN) rN)) (by rw[hF];rfl)
 have hn:(b=[43]∨b=[42]∨b=[94])/\d=b:=by
  by_cases hc:(b=[43]∨b=[42]∨b=[94])/\d=b
  exact hc;rw[decide_eq_false hc] at h;cases h
 rw[zp hn] at hF;refine gab ?_;refine cD (m:=11) rfl [(b1,.cells 179 [.list (v.map str),.atom (.map (some m))])]<|aT 0 rfl rfl (pG (cs':=[_,_]) rfl zm0 rfl rfl)<|zQ35 ?_;refine aT 3 rfl rfl (pG (cs':=[_,_]) rfl zm0 rfl rfl)<|zQ46 ?_;refine lO 4 (lS (H1:=[]) rfl (.inl rfl) rfl zpr zhr (sF [_,_] rfl k2 ?_));refine lO 5 (lS (H1:=[]) rfl (.inl rfl) rfl zpr zhr (S.fnIf [_,_,_] rfl kj ?_));rintro lv ⟨s,rfl,hs⟩;refine qaI.any [(b1,.cells 179 [.list (v.map str),.atom (.map (some m))])] (λ_ h=>h) ?_;refine aT 6 rfl rfl (pM (lv:=.tuple _) rfl)<|aT 7 rfl rfl (Pure.extract (c:=.atom _) rfl rfl)<|aT 8 rfl rfl (Pure.extract (c:=.atom _) rfl rfl)<|aT 9 rfl rfl (pA (lv:=.atom _) rfl)<|aT 10 rfl rfl (pA (lv:=.atom _) rfl)<|zQ47 ?_;refine gam ?_;refine zoC rfl (λh=>?_) (λh=>?_);obtain⟨l,rfl⟩:=Option.isSome_iff_exists.1 h;obtain rfl:=hs l rfl;refine gag ?_;refine oS (sL [.tmp 35,.tmp 36] rfl (eC rfl rfl (eC rfl rfl eN)) rfl rfl rfl ?_) rfl;refine gad ?_;exact qac hj (rC (zrt rfl) (rC (rT (v:=.list _) rfl zsr) rN)) (by rw[hF];rfl)
 obtain rfl:o=none:=by
  cases o with
  |none=>rfl
  |some l=>cases h
 refine gac ?_;exact qac hj (rC (zrt rfl) (rC (rT (v:=qab) rfl vN) rN)) (by rw[hF];rfl)
end
theorem qme(h:v.length<=i):qbV (v.drop i)=0:=by
 rw[List.drop_eq_nil_of_le h];rfl
theorem qoh(h:i<v.length)(hd:(defW v[i]).isSome=true):qbV (v.drop i)=0:=by
 unfold qbV
 rw[drop_eq_getElem_cons h,List.takeWhile_cons_of_neg (λhc=>absurd (show(defW v[i]).isNone=true from hc) (by
  cases hx:defW v[i] with
  |none=>rw[hx] at hd;cases hd
  |some d=>simp))]
 rfl
theorem qnh(h:i<v.length)(hd:(defW v[i]).isSome=false):qbV (v.drop i)=qbV (v.drop (i+1))+1:=by
 unfold qbV;rw[drop_eq_getElem_cons h,List.takeWhile_cons_of_pos (by simpa using hd)];rfl
theorem qwF{n:Nat}(hn:n=qcv v)(h0:n=0->i=0)(hi:n<=i)(hE:0<n->qbV (v.drop n)=i-n):qiB v=if n<i then (i,v.take n) else (0,[]):=by
 unfold qiB;rw[<-hn]
 by_cases h:0<n
 rw[hE h]
 by_cases hj:n<i
 rw[zp ⟨h,by omega⟩,zp hj,show n+(i-n)=i by omega];rw[zn (λhc=>hj zo),zn hj];rw[zn (λhc=>h hc.1),zn (by have:=h0 zo;omega)]
section
variable{B0:Nat}{w0:World}
theorem qrT(v:List Wd)(m:Nat)(hv:Small v):LCalls (KC B0 w0) 152 [qb3 v m] [] (Ret (qht (qiB v))):=by
 have hla:(v.map str).length=v.length:=zLm _;have hl:=hv.1;have k0:=qaQ (B0:=B0) (w0:=w0) v m 0 (by have:=hv.1;omega);have kj:=qhm (B0:=B0) (w0:=w0) v m 1 hv zo;have hS:qcv v=if (qdd v 1).isSome=true/\wdAt v 0=[48] then 3 else if wdAt v 0=[59]∨wdAt v 0=[36] then 1 else 0:=rfl
 have hD:=λ{i}=>@qwF i v;unfold qb3 at k0 kj ⊢;generalize qcv v=n at hS hD;generalize qdd v 1=oj at kj hS;generalize wdAt v 0=a at k0 hS
 have hn3:n<=3:=by
  rw[hS];split;omega;split <;> omega
 refine zcI Tryz.func152 rfl (n:=59) rfl rfl rfl ?_;refine gah ?_;refine oS (zsB (cs:=[.list (v.map str),.atom (.map (some m))]) rfl λb1=>?_) rfl
 repeat (first|refine LOps.nil ?_|refine qN ?_|refine oP (pA (lv:=.atom _) rfl) rfl ?_)
 refine gah ?_
 repeat (first|refine LOps.nil ?_|refine qN ?_|refine oP (pA (lv:=.atom _) rfl) rfl ?_)
 refine qag.seq ?_;refine zcC [(1,ptr b1 0),(4,int .i64 (n:Nat))] ?_ (λj hj=>?_);refine gaa ?_;refine oS (S.fnIf [_,_] rfl kj ?_) rfl;rintro lv ⟨s,rfl,hs⟩;refine gac ?_;refine LOps.cut [(1,ptr b1 0),(4,int .i64 0),(20,bool (decide (oj.isSome=true/\a=[48])))] ?_ (λj2 hj2=>?_)
 cases oj with
 |none=>
  refine gab ?_
  exact⟨⟨rfl,rfl,qau (by simp),trivial⟩,rfl,rfl⟩
 |some l=>
  refine gad ?_;refine oS (sF [_,_] rfl k0 ?_) rfl;refine gab ?_;exact⟨⟨rfl,rfl,qau (by simp),trivial⟩,rfl,rfl⟩
 refine zoC rfl (λh=>?_) (λh=>?_);rw[zp (zt h)] at hS;subst hS;refine gar ?_;exact⟨⟨rfl,rfl,trivial⟩,rfl,hj2⟩;rw[zn (zf h)] at hS;refine gaa ?_;refine oS (sF [_,_] rfl k0 ?_) rfl;refine gab ?_;refine LOps.cut [(1,ptr b1 0),(4,int .i64 0),(28,bool (decide (a=[59]∨a=[36])))] ?_ (λj3 hj3=>?_);refine zoB 24 rfl (λh1=>?_) (λh1=>?_);have e1:a=[59]:=zt h1;refine gab ?_;exact⟨⟨rfl,rfl,qau (by simp[e1]),trivial⟩,rfl,rfl⟩;have e1:¬ a=[59]:=zf h1;refine gad ?_;refine oS (sF [_,_] rfl k0 ?_) rfl;refine gab ?_;exact⟨⟨rfl,rfl,qau (by simp[e1]),trivial⟩,rfl,rfl⟩;refine zoC rfl (λh=>?_) (λh=>?_);rw[zp (zt h)] at hS;subst hS;refine gar ?_;exact⟨⟨rfl,rfl,trivial⟩,rfl,hj3.trans hj2⟩;rw[zn (zf h)] at hS;subst hS;refine gab ?_;exact⟨⟨rfl,rfl,trivial⟩,rfl,hj3.trans hj2⟩;refine gac ?_
 refine zoL (λk ls H=>∃ i:Nat,n<=i/\(i<=v.length∨i=n)/\(n=0->i=0)/\k=v.length+4-i/\ls=[(1,ptr b1 0),(4,int .i64 (n:Nat)),(7,int .i64 (i:Nat))]/\H=[(b1,.cells 179 [.list (v.map str),.atom (.map (some m))])]/\qbV (v.drop n)=(i-n)+qbV (v.drop i))
  ⟨_,_,_,⟨n,zNr _,Or.inr rfl,id,rfl,rfl,rfl,by omega⟩,⟨rfl,rfl,rfl,trivial⟩,zhR _⟩ ?_
 rintro k ls H ⟨i,hni,hi,h0,rfl,rfl,rfl,hE⟩ j1 hj1;refine gaa ?_;refine LOps.cut [(1,ptr b1 0),(4,int .i64 (n:Nat)),(7,int .i64 (i:Nat)),(38,bool (decide (0<n/\i<v.length)))] ?_ (λj2 hj2=>?_);refine zoB 32 rfl (λh1=>?_) (λh1=>?_);have e1:0<n:=by have:=zt h1;omega
 refine gad ?_;exact⟨⟨rfl,rfl,rfl,qau (by rw[decide_eq_decide];omega),trivial⟩,rfl,rfl⟩;have e1:¬ 0<n:=by have:=zf h1;omega
 refine gab ?_;exact⟨⟨rfl,rfl,rfl,qau (by simp[e1]),trivial⟩,rfl,rfl⟩;refine zoC rfl (λh=>?_) (λh=>?_);obtain⟨hn0,hlt⟩:=zt h;have kd:=qed (B0:=B0) (w0:=w0) v[i] (by have:=hv.2 _ (List.getElem_mem hlt);omega);refine gaa ?_;refine oP (xR (el':=str v[i]) (cs:=[str v[i]]) rfl rfl zo (qbj _ _ _ hlt) rfl rfl) rfl<|gad ?_;refine oS (S.fnIf [_] rfl kd ?_) rfl;rintro lv ⟨s,rfl,hs⟩;refine gac ?_;refine zoC rfl (λh2=>?_) (λh2=>?_);rw[qoh hlt h2] at hE
 replace hD:=hD rfl h0 hni (λ_=>by omega)
 refine gaa ?_;refine zoC rfl (λh3=>?_) (λh3=>?_);exact zT30;exact zT16;rw[qnh hlt (by simpa using h2)] at hE;refine gac ?_;exact⟨_,_,_,by omega,⟨i+1,by omega,Or.inl zo,by omega,rfl,rfl,rfl,by omega⟩,⟨rfl,rfl,qap zo,trivial⟩,zhR _,hj2.trans hj1⟩;have hc:=zf h
 replace hD:=hD rfl h0 hni (λh=>by rw[qme (v:=v) (i:=i) zo] at hE;omega)
 refine gac ?_;refine zoC rfl (λh3=>?_) (λh3=>?_);exact zT30;exact zT16
end
end Go.Proofs.YtkihibnffkpnkaaGreatDoor.Pp
namespace Go.Proofs.YtkihibnffkpnkaaGreatDoor.Pp
open Go.GL Go.RowKit Go.Stele
open Asm (qbt qbt.mk qbH)
variable{i:Nat}{v:List Wd}
def qp1(used:Wd->Bool)(v:List Wd):List qeZ:=[qhE v,qcV v,qcy v,qiE v,qdx v,qeV v,qhN v,qiB v,qcB used v]
def qik:List qeZ->qeZ
 |[]=>(0,[])
 |r::l=>if r.1≠0 then r else qik l
theorem qor{used:Wd->Bool}(h:(qcB used v).1=0):qcB used v=(0,[]):=by
 unfold qcB at h ⊢;revert h
 cases defW (wdAt v 0) with
 |none=>exact λ_=>rfl
 |some l=>
  intro h;simp only at h ⊢
  by_cases hu:used l=true
  rw[zp hu];rw[zn hu] at h;cases h
theorem qn1(used:Wd->Bool)(v:List Wd):qa3 used v=qik (qp1 used v):=by
 have hz:=@qor v used;unfold qa3 qp1;generalize qhE v=a1;generalize qcV v=a2;generalize qcy v=a3;generalize qiE v=a4;generalize qdx v=a5;generalize qeV v=a6;generalize qhN v=a7;generalize qiB v=a8;generalize qcB used v=a9 at hz;simp only[qik]
 by_cases h9:a9.1≠0
 rw[zp h9];rw[zn h9,hz (Decidable.not_not.1 h9)]
theorem qop{l:List qeZ}(h:i<l.length):qik (l.drop i)=if l[i].1≠0 then l[i] else qik (l.drop (i+1)):=by
 rw[drop_eq_getElem_cons h,qik]
theorem qqk{l:List qeZ}(h:l.length<=i):qik (l.drop i)=(0,[]):=by
 rw[List.drop_eq_nil_of_le h]
 try rfl
theorem qsj(used:Wd->Bool)(v:List Wd):(qp1 used v).length=9:=rfl
theorem qsS(used:Wd->Bool)(f:Nat):qcC used f []=[]:=by
 cases f <;> rfl
theorem qqK(used:Wd->Bool)(f:Nat)(w:Wd)(r:List Wd):qcC used (f+1) (w::r)=if (qa3 used (w::r)).1=0 then w::qcC used f r else (qa3 used (w::r)).2++qcC used f ((w::r).drop (qa3 used (w::r)).1):=rfl
theorem qqE(l:List Wd)(k:Nat)(h:k<l.length)(s:Wd):qaN (l.take (k+1)) s=(qaN (l.take k) s || decide (refW l[k]=some s)):=by
 unfold qaN;rw[List.take_succ_eq_append_getElem h,List.any_append]
 simp
attribute [local irreducible] LOps qag qae LCalls Go.GL.Pure qaz qam qad LQ LAny qaI qan
theorem qgB(l:List Wd):((l.map str).flatMap LV.cells).all qc4=true:=by
 induction l with
 |nil=>rfl
 |cons a l ih=>
  rw[zMc,List.flatMap_cons,List.all_append,ih];rfl
theorem qsd(l:List Wd)(i:Nat):((l.map str).take (((l.map str).length:Nat):Int).toNat).drop ((i:Nat):Int).toNat=(l.drop i).map str:=by
 rw[Int.toNat_natCast,Int.toNat_natCast,take_length,List.map_drop]
theorem qtt{s:Nat}{v:LV}{es:List LV}{H:Heap}{q:Nat×LObj}(h:Acc s v es H [q]):∃ F,H.Perm ([q]++F):=by
 cases h with
 |nil=>exact⟨[],List.Perm.refl _⟩
 |row=>exact⟨[_],List.Perm.swap ..⟩
theorem Small.drop{l:List Wd}(h:Small l)(i:Nat):Small (l.drop i):=
 ⟨by have:=h.1;rw[List.length_drop];omega,λw hw=>h.2 w (List.mem_of_mem_drop hw)⟩
def fnLV(k:Nat):LV:=.atom (.func (.func (145+k)) #[] #[])
section
variable{B0:Nat}{w0:World}
theorem qra(hG:GW B0 w0)(l:List Wd)(hv:Small l):LCalls (KC B0 w0) 85 [.list (l.map str)] [] (Ret (.list ((qei l).map str))):=by
 have hla:(l.map str).length=l.length:=zLm _;have hl:=hv.1;refine zcI Tryz.func85 rfl (n:=73) rfl rfl rfl ?_;refine gar ?_;refine oS (S.makeMap λm=>?_) rfl;refine gaa ?_
 refine zoL (λk ls H=>∃ (i:Nat) (es:Array MapEntry) (clock:Nat),i<=l.length/\k=l.length-i/\ls=[(0,.list (l.map str)),(3,.atom (.map (some m))),(17,.list (l.map str)),(18,int .i64 l.length),(19,int .i64 (i:Nat))]/\H=[(m,.obj (.map es clock))]/\SetMap es (qaN (l.take i)))
  ⟨_,_,_,⟨0,#[],0,zero_le _,rfl,rfl,rfl,SetMap.nil⟩,⟨rfl,rfl,rfl,qap zo,rfl,trivial⟩,zhR _⟩ ?_
 rintro k ls H ⟨i,es,clock,hi,rfl,rfl,rfl,hM⟩ j1 hj1;refine gai ?_;refine zoC rfl (λhc=>?_) (λhc=>?_);have hlt:i<l.length:=by have:=zt hc;omega
 have kr:=qgr (B0:=B0) (w0:=w0) l[i] (by have:=hv.2 _ (List.getElem_mem hlt);omega);have hU:qaN (l.take (i+1))=λs=>qaN (l.take i) s || decide (refW l[i]=some s):=funext λs=>qqE l i hlt s;refine gak ?_;refine oP (xR (el':=str l[i]) (cs:=[str l[i]]) rfl rfl zo (qbj _ _ _ hlt) rfl rfl) rfl<|gaa ?_;refine oS (S.fnIf [_] rfl kr ?_) rfl;rintro lv ⟨s,rfl,hs⟩;refine gac ?_;refine zoC rfl (λh=>?_) (λh=>?_);obtain⟨d,hd⟩:=Option.isSome_iff_exists.1 h;obtain rfl:=hs d hd;refine gag ?_;refine oS (S.setPut (t:=123) (kt:=9) (el:=4) zk zk rfl rfl rfl pH hM λes' clock' hM'=>?_) rfl;refine gaq ?_
 exact⟨_,_,_,by omega,⟨i+1,es',clock',by omega,rfl,rfl,rfl,by
  rw[hU,hd]
  exact cast (by congr;funext x;simp[eq_comm]) hM'⟩,⟨rfl,rfl,rfl,rfl,qap zo,trivial⟩,zhR _,hj1⟩
 have hn:refW l[i]=none:=by
  cases ho:refW l[i] with
  |none=>rfl
  |some d=>rw[ho] at h;cases h
 refine gac ?_
 exact⟨_,_,_,by omega,⟨i+1,es,clock,by omega,rfl,rfl,rfl,by
  rw[hU,hn]
  exact cast (by congr;funext x;simp) hM⟩,⟨rfl,rfl,rfl,rfl,qap zo,trivial⟩,zhR _,hj1⟩
 have hi':i=l.length:=by have:=zf hc;omega
 subst hi';rw[take_length] at hM;refine gac ?_;refine oS (sL [.func 145,.func 146,.func 147,.func 148,.func 149,.func 150,.func 151,.func 152,.func 153] rfl (eC rfl rfl (eC rfl rfl (eC rfl rfl (eC rfl rfl (eC rfl rfl (eC rfl rfl (eC rfl rfl (eC rfl rfl (eC rfl rfl eN))))))))) rfl rfl rfl ?_) rfl;refine gaa ?_
 refine zoL (λk ls H=>∃ (i f:Nat) (out:List Wd) (v:LV),i<=l.length/\k=l.length-i/\ls=[(0,.list (l.map str)),(3,.atom (.map (some m))),(8,.list ((List.range 9).map fnLV)),(9,v),(10,int .i64 (i:Nat))]/\Acc 1 v (out.map str) H [(m,.obj (.map es clock))]/\l.length-i<=f/\out.length<=i/\out++qcC (qaN l) f (l.drop i)=qei l)
  ⟨_,_,_,⟨0,l.length,[],qab,zero_le _,rfl,rfl,Acc.nil,by omega,zero_le _,rfl⟩,⟨rfl,rfl,rfl,rfl,rfl,trivial⟩,zhR _⟩ ?_
 rintro k ls H ⟨i,f,out,v,hi,rfl,rfl,hacc,hf,hlen,hE⟩ j2 hj2;have hol:(out.map str).length=out.length:=zLm _;refine gaa ?_;refine zoC rfl (λhc=>?_) (λhc=>?_)
 ·have hlt:i<l.length:=by have:=zt hc;omega
  obtain⟨f,rfl⟩:∃ g,f=g+1:=⟨f-1,by omega⟩;have hR:(qa3 (qaN l) (l.drop i)).1≠0->(qa3 (qaN l) (l.drop i)).1<=(l.drop i).length/\(qa3 (qaN l) (l.drop i)).2.length<(qa3 (qaN l) (l.drop i)).1:=qft (qaN l) (l.drop i);have hF:=qn1 (qaN l) (l.drop i);have hl9:=qsj (qaN l) (l.drop i);rw[drop_eq_getElem_cons hlt,qqK,<-drop_eq_getElem_cons hlt,List.drop_drop] at hE;have hdl:(l.drop i).length=l.length-i:=List.length_drop
  repeat (first|refine LOps.nil ?_|refine qN ?_|refine qag.skip ?_|refine qag.block ?_)
  refine qag.seq ?_
  repeat (first|refine LOps.nil ?_|refine qN ?_|refine qag.region ?_|refine oP (pA (lv:=.atom _) rfl) rfl ?_)
  refine qag.seq ?_
  refine cM (A:=Nat×List Wd×LV×Heap) (λa=>[(0,.list (l.map str)),(3,.atom (.map (some m))),(8,.list ((List.range 9).map fnLV)),(9,a.2.2.1),(10,int .i64 (i:Nat)),(11,int .i64 a.1)]) (λa=>a.2.2.2)
   (λa=>a.1=(qa3 (qaN l) (l.drop i)).1/\a.2.1=(if (qa3 (qaN l) (l.drop i)).1=0 then out else out++(qa3 (qaN l) (l.drop i)).2)/\Acc 1 a.2.2.1 (a.2.1.map str) a.2.2.2 [(m,.obj (.map es clock))]) ?_ ?_
  refine gaa ?_;refine zoL (λk ls H1=>∃ x:Nat,x<=9/\k=9-x/\ls=[(0,.list (l.map str)),(3,.atom (.map (some m))),(8,.list ((List.range 9).map fnLV)),(9,v),(10,int .i64 (i:Nat)),(11,int .i64 0),(37,.list ((List.range 9).map fnLV)),(38,int .i64 9),(39,int .i64 (x:Nat))]/\H1=H/\qa3 (qaN l) (l.drop i)=qik ((qp1 (qaN l) (l.drop i)).drop x)) ?_ ?_;exact⟨_,_,_,⟨0,zero_le _,rfl,rfl,rfl,hF⟩,⟨rfl,rfl,rfl,rfl,rfl,rfl,rfl,rfl,rfl,trivial⟩,zhR _⟩;rintro k ls H1 ⟨x,hx,rfl,rfl,rfl,hX⟩ j3 hj3;refine gai ?_;refine zoC rfl (λhc=>?_) (λhc=>?_);have hx9:x<9:=by have:=zt hc;omega
  rw[qop zo] at hX;refine gak ?_
  refine oP (xR (el':=fnLV x) (cs:=[fnLV x]) rfl rfl zo (by
   have:=qbj fnLV (List.range 9) x (by simpa using hx9);rw[List.getElem_range] at this
   exact this) rfl rfl) rfl ?_
  refine gaa ?_;refine oP (show Go.GL.Pure _ _ _ _ (.list ((l.drop i).map str)) from qsd l i▸Pure.lslice (es:=l.map str) (i:=((i:Nat):Int)) (j:=(((l.map str).length:Nat):Int)) rfl ⟨_,rfl⟩ rfl zo zo zo (qey l)) rfl<|gad ?_;have hv':=hv.drop i;have hxl:x<(qp1 (qaN l) (l.drop i)).length:=by omega
  generalize hr:(qp1 (qaN l) (l.drop i))[x]=r at hX;refine LOps.cut [(0,.list (l.map str)),(3,.atom (.map (some m))),(8,.list ((List.range 9).map fnLV)),(9,v),(10,int .i64 (i:Nat)),(11,int .i64 0),(14,int .i64 (r.1:Nat)),(15,.list (r.2.map str)),(37,.list ((List.range 9).map fnLV)),(38,int .i64 9),(39,int .i64 (x:Nat))] ?_ (λj4 hj4=>?_);clear hX;have h9:x=0∨x=1∨x=2∨x=3∨x=4∨x=5∨x=6∨x=7∨x=8:=by omega
  rcases h9 with rfl|rfl|rfl|rfl|rfl|rfl|rfl|rfl|rfl;obtain rfl:qhE (l.drop i)=r:=hr;refine oS (S.fnV (f:=145) [_] rfl rfl (qrQ hG (l.drop i) m hv') ?_) rfl;refine gad ?_;exact⟨⟨rfl,rfl,rfl,rfl,rfl,rfl,rfl,rfl,rfl,rfl,rfl,trivial⟩,rfl,rfl⟩;obtain rfl:qcV (l.drop i)=r:=hr;refine oS (S.fnV (f:=146) [_] rfl rfl (qmO (B0:=B0) (w0:=w0) (l.drop i) m hv') ?_) rfl;refine gad ?_;exact⟨⟨rfl,rfl,rfl,rfl,rfl,rfl,rfl,rfl,rfl,rfl,rfl,trivial⟩,rfl,rfl⟩;obtain rfl:qcy (l.drop i)=r:=hr;refine oS (S.fnV (f:=147) [_] rfl rfl (qmy hG (l.drop i) m hv') ?_) rfl;refine gad ?_;exact⟨⟨rfl,rfl,rfl,rfl,rfl,rfl,rfl,rfl,rfl,rfl,rfl,trivial⟩,rfl,rfl⟩;obtain rfl:qiE (l.drop i)=r:=hr;refine oS (S.fnV (f:=148) [_] rfl rfl (qta hG (l.drop i) m hv') ?_) rfl;refine gad ?_;exact⟨⟨rfl,rfl,rfl,rfl,rfl,rfl,rfl,rfl,rfl,rfl,rfl,trivial⟩,rfl,rfl⟩;obtain rfl:qdx (l.drop i)=r:=hr;refine oS (S.fnV (f:=149) [_] rfl rfl (qn2 (B0:=B0) (w0:=w0) (l.drop i) m hv') ?_) rfl;refine gad ?_;exact⟨⟨rfl,rfl,rfl,rfl,rfl,rfl,rfl,rfl,rfl,rfl,rfl,trivial⟩,rfl,rfl⟩;obtain rfl:qeV (l.drop i)=r:=hr;refine oS (S.fnV (f:=150) [_] rfl rfl (qqU hG (l.drop i) m hv') ?_) rfl;refine gad ?_;exact⟨⟨rfl,rfl,rfl,rfl,rfl,rfl,rfl,rfl,rfl,rfl,rfl,trivial⟩,rfl,rfl⟩;obtain rfl:qhN (l.drop i)=r:=hr;refine oS (S.fnV (f:=151) [_] rfl rfl (qs1 (B0:=B0) (w0:=w0) (l.drop i) m hv') ?_) rfl;refine gad ?_;exact⟨⟨rfl,rfl,rfl,rfl,rfl,rfl,rfl,rfl,rfl,rfl,rfl,trivial⟩,rfl,rfl⟩;obtain rfl:qiB (l.drop i)=r:=hr;refine oS (S.fnV (f:=152) [_] rfl rfl (qrT (B0:=B0) (w0:=w0) (l.drop i) m hv') ?_) rfl;refine gad ?_;exact⟨⟨rfl,rfl,rfl,rfl,rfl,rfl,rfl,rfl,rfl,rfl,rfl,trivial⟩,rfl,rfl⟩;obtain rfl:qcB (qaN l) (l.drop i)=r:=hr;obtain⟨F,hp⟩:=qtt hacc;refine oS (S.callV (f:=153) (H1:=[(m,.obj (.map es clock))]) (F:=F) [_] rfl rfl hp (qog (B0:=B0) (w0:=w0) (l.drop i) m hv' hM) (λv' H' hh=>?_) (by rintro ch H' ⟨h,_⟩;cases h)) rfl;obtain⟨hv1,rfl⟩:=hh;cases hv1;refine LOps.weak ⟨[],by simpa using hp.symm⟩ ?_;refine gad ?_;exact⟨⟨rfl,rfl,rfl,rfl,rfl,rfl,rfl,rfl,rfl,rfl,rfl,trivial⟩,rfl,rfl⟩;refine gaa ?_;refine zoC rfl (λhn=>?_) (λhn=>?_);have hn0:r.1≠0:=by have:=zt hn;omega
  rw[zp hn0] at hX;rw[hX] at hR;obtain⟨hR1,hR2⟩:=hR hn0;have hrl:(r.2.map str).length=r.2.length:=zLm _;refine gao ?_;refine zQ14 ?_;refine gab ?_;refine oS (S.acc rfl hacc rfl (qey _) (qgB _) zo λv' H' hacc'=>?_) rfl;refine zQ19 ?_;refine gad ?_;exact⟨(r.1,out++r.2,v',H'),⟨by rw[hX],by rw[hX,zn hn0],by rw[zMa];exact hacc'⟩,⟨rfl,rfl,rfl,rfl,rfl,rfl,trivial⟩,zhR _,hj4.trans hj3⟩;have hn0:r.1=0:=by have:=zf hn;omega
  rw[zn zo] at hX;refine gac ?_;exact⟨_,_,_,by omega,⟨x+1,by omega,rfl,rfl,rfl,hX⟩,⟨rfl,rfl,rfl,rfl,rfl,rfl,rfl,rfl,qap zo,trivial⟩,zhR _,hj4.trans hj3⟩;have hx9:x=9:=by have:=zf hc;omega
  subst hx9;rw[qqk zo] at hX;refine gab ?_;exact⟨(0,out,v,H1),⟨by rw[hX],by rw[hX];rfl,hacc⟩,⟨rfl,rfl,rfl,rfl,rfl,rfl,trivial⟩,zhR _,hj3⟩;rintro⟨n,out',v',H'⟩ ⟨hn1,ho1,hacc'⟩ j5 hj5;simp only at hn1 ho1 hacc';have hol':(out'.map str).length=out'.length:=zLm _;rw[<-hn1] at hR ho1 hE;refine gac ?_;refine zoC rfl (λhn=>?_) (λhn=>?_);have hn0:n=0:=by have:=zt hn;omega
  rw[zp hn0] at ho1 hE;subst ho1;refine gar ?_;refine oP (pM (lv:=v') rfl) rfl<|gab ?_;refine oP (xR (el':=str l[i]) (cs:=[str l[i]]) rfl rfl zo (qbj _ _ _ hlt) rfl rfl) rfl<|gad ?_;refine zQ0 ?_;refine oS (S.acc rfl hacc' rfl (by simp;rfl) rfl (by simp;omega) λv2 H2 hacc2=>oP (pA (lv:=v2) rfl) rfl ?_) rfl;refine gac ?_;exact⟨_,_,_,by omega,⟨i+1,f,out'++[l[i]],v2,by omega,rfl,rfl,by rw[zMa];exact hacc2,by omega,by simp;omega,by rw[zAs];exact hE⟩,⟨rfl,rfl,rfl,rfl,qap zo,trivial⟩,zhR _,hj5.trans hj2⟩;have hn0:n≠0:=by have:=zf hn;omega
  rw[zn hn0] at ho1 hE;obtain⟨hR1,hR2⟩:=hR hn0;have hlo:out'.length=out.length+(qa3 (qaN l) (l.drop i)).2.length:=by rw[ho1,zLa]
  refine gac ?_;exact⟨_,_,_,by omega,⟨i+n,f,out',v',by omega,rfl,rfl,hacc',by omega,by omega,by rw[ho1,zAs];exact hE⟩,⟨rfl,rfl,rfl,rfl,qap zo,trivial⟩,zhR _,hj5.trans hj2⟩
 have hi':i=l.length:=by have:=zf hc;omega
 subst hi';rw[List.drop_length,qsS,zLz] at hE;subst hE;refine qag.sub (d:=9) (v:=v) rfl hacc.sub ?_;refine cW zhn ?_;refine gaa ?_;exact qac (hj2.trans hj1) (rC (rT (v:=.list _) rfl zsr) rN) rfl
end
open Asm (qbt qbt.mk qbH qcn)
section
variable{B0:Nat}{w0:World}
theorem joinS_spec(sep:List UInt8)(ws:List (List UInt8))(hn:ws.length<=1000000000)(hl:(Go.Lib.join ws sep).length<=1000000000):LCalls (KC B0 w0) 83 [.list (ws.map str),str sep] [] (Ret (str (Go.Lib.join ws sep))):=Asm.joinS_spec sep ws hn hl
theorem qqS(hG:GW B0 w0)(s:List UInt8)(hs:s.length<=1000000):LCalls (KC B0 w0) 84 [str s] [] (Ret (.list ((qbi s).map str))):=by
 have ht:=Asm.tokens_spec hG.base hG.mx s zo;have hla:((qgo s).map qcn).length=(qgo s).length:=zLm _
 have htl:(qgo s).length<=s.length+1:=by
  have h1:=qie s;rw[<-qd6,zLm] at h1;exact h1
 rw[<-qd6];generalize qgo s=l at ht hla htl;refine zcI Tryz.func84 rfl (n:=20) rfl rfl rfl ?_;refine gao ?_;refine oS (sF [_] rfl ht ?_) rfl;refine gad ?_
 refine zoL (λk ls H=>∃ (v:LV) (i:Nat),i<=l.length/\k=l.length-i/\ls=[(3,v),(7,.list (l.map qcn)),(8,int .i64 l.length),(9,int .i64 (i:Nat))]/\Acc 1 v (((l.take i).map (·.1)).map str) H [])
  ⟨_,_,_,⟨qab,0,zero_le _,rfl,rfl,by simpa using Acc.nil⟩,⟨rfl,rfl,qap zo,rfl,trivial⟩,zhR _⟩ ?_
 rintro k ls H ⟨v,i,hi,rfl,rfl,hacc⟩ j hj;refine gai ?_;refine zoC rfl (λhc=>?_) (λhc=>?_);have hlt:i<l.length:=by have:=zt hc;omega
 refine zQ18 ?_;refine oS (zsA λb5=>?_) rfl;refine gaa ?_;refine zQ14 ?_;refine gab ?_;refine zQ0 ?_;refine oS (S.acc1 rfl hacc rfl (by simp;rfl) rfl (by simp;omega) λv' H' hacc'=>?_) rfl;refine zQ19 ?_;refine gaq ?_
 exact⟨_,_,_,by omega,⟨v',i+1,by omega,rfl,rfl,by
  rw[List.take_succ_eq_append_getElem hlt,zMa,zMa]
  exact hacc'⟩,⟨rfl,rfl,rfl,qap zo,trivial⟩,zhD zhr,hj⟩
 have hi':i=l.length:=by have:=zf hc;omega
 subst hi';rw[take_length] at hacc;refine qag.sub (d:=3) (v:=v) rfl hacc.sub ?_;refine cW zhn ?_;refine gaa ?_;exact qac hj (rC (rT (v:=.list _) rfl zsr) rN) rfl
end
theorem qth{l:List Wd}(h:tot l<=1000000):Small l:=⟨by have:=qlG l;omega,λw hw=>by have:=qrc hw;omega⟩
section
variable{B0:Nat}{w0:World}
theorem optimize_spec(hG:GW B0 w0)(s:List UInt8)(hs:s.length<=1000000):LCalls (KC B0 w0) 38 [str s] [] (Ret (.tuple [str (qcc s).1,int .i64 (qcc s).2])):=by
 refine zcI Tryz.func38 rfl (n:=21) rfl rfl rfl ?_;refine gaa ?_;refine zoC rfl (λh1=>?_) (λh1=>?_);have hlt:400000<s.length:=by have:=zt h1;omega
 have hO:qcc s=([],6):=by unfold qcc;rw[zp hlt]
 refine gap ?_;exact qac rfl (rC (zrt rfl) (zra rfl)) (by rw[hO];rfl);have hlt:¬ 400000<s.length:=by have:=zf h1;omega
 have hO:qcc s=(Go.Lib.join (optP (qbi s)) [32],0):=by unfold qcc;rw[zn hlt]
 have ht:=qhf s;have hc:=qii s;refine gac ?_;refine oS (sF [_] rfl (qqS hG s hs) ?_) rfl;refine gad ?_
 refine zoL (λk ls H=>∃ l:List Wd,k=l.length/\ls=[(4,.list (l.map str))]/\H=[]/\tot l<=400001/\(∀ w∈l,qbr w)/\optP (qbi s)=optP l)
  ⟨_,_,_,⟨_,rfl,rfl,rfl,by omega,hc,rfl⟩,⟨rfl,trivial⟩,zhR _⟩ ?_
 rintro k ls H ⟨l,rfl,rfl,rfl,htl,hcl,hE⟩ j hj;have h1:=qra hG l (qth zo);have h2:=qtc l;have hcl2:=qqs hcl;have hjt:=qgh l;have hjt2:=qgh (qei l);have hln:=qlG l;have hln2:=qlG (qei l);have hor:=qlt l;have j1:=joinS_spec (B0:=B0) (w0:=w0) [32] l zo zo;have j2:=joinS_spec (B0:=B0) (w0:=w0) [32] (qei l) zo zo;refine gac ?_;refine oS (sF [_] rfl h1 ?_) rfl;refine gaa ?_;refine oS (sF [_,_] rfl j2 ?_) rfl;refine gab ?_;refine oS (sF [_,_] rfl j1 ?_) rfl;refine gab ?_;refine zoC rfl (λh3=>?_) (λh3=>?_);have he:=qtL hcl2 hcl (zt h3);rw[qvJ he] at hE;rw[hE] at hO;refine gac ?_;refine oS (sF [_,_] rfl j1 ?_) rfl;refine gab ?_;exact qac hj (rC (zrt rfl) (zra rfl)) (by rw[hO];rfl);have hne:¬ qei l=l:=λh=>zf h3 (by rw[h]);rw[qsW hne] at hE;refine gaa ?_;exact⟨_,_,_,by rcases hor with h|h;exact absurd h hne;exact h,⟨qei l,rfl,rfl,rfl,by omega,hcl2,hE⟩,⟨rfl,trivial⟩,zhR _,hj⟩
end
end Go.Proofs.YtkihibnffkpnkaaGreatDoor.Pp
namespace Go.Proofs.YtkihibnffkpnkaaGreatDoor.Inp
open Go.GL Go.RowKit Go.Stele
@[reducible] def u32(n:Nat):LV:=int .u32 (n:Int)
theorem swap1{x:Nat×LObj}{H:Heap}:(x::H).Perm (H++[x]):=zPc (l₁:=[x])
theorem form_value{kind:Int}{name:List UInt8}{index value:List Ex}{thn els:List Sm}(h:qbR (.mk kind name index value thn els)=true)(h7:¬ kind=7):∃ x,value=[x]:=by
 have h1:value.length=1:=by
  simp only[qbR] at h
  repeat' (split at h)
  all_goals first
   |(simp only[zDe] at h;omega)
   |cases h
   |contradiction
 cases value with
 |nil=>cases h1
 |cons x l=>
  cases l with
  |nil=>exact⟨x,rfl⟩
  |cons y l=>simp at h1
theorem form_index{name:List UInt8}{index value:List Ex}{thn els:List Sm}(h:qbR (.mk 2 name index value thn els)=true):∃ x,index=[x]:=by
 have h1:index.length=1:=by
  simp only[qbR] at h;simp only[show ¬ ((2:Int)=1) by decide,if_false,if_true,zDe] at h;exact h.2.1
 cases index with
 |nil=>cases h1
 |cons x l=>
  cases l with
  |nil=>exact⟨x,rfl⟩
  |cons y l=>simp at h1
end Go.Proofs.YtkihibnffkpnkaaGreatDoor.Inp
namespace Go.Proofs.YtkihibnffkpnkaaGreatDoor.Chk
open Go.GL Go.RowKit Go.Stele
variable{A:Heap}
theorem qkk{kind:Int}{name:List UInt8}{index value:List Ex}{thn els:List Sm}(h:qbR (.mk kind name index value thn els)=true)(h2:¬ kind=2):index=[]:=by
 have h1:index.length=0:=by
  simp only[qbR] at h
  repeat' (split at h)
  all_goals first
   |(simp only[zDe] at h;omega)
   |cases h
   |contradiction
 exact List.length_eq_zero_iff.1 h1
theorem qfN{kind:Int}{name:List UInt8}{index value:List Ex}{thn els:List Sm}(h:qbR (.mk kind name index value thn els)=true)(h3:¬ kind=3)(h4:¬ kind=4):thn=[]/\els=[]:=by
 have h1:thn.length=0/\els.length=0:=by
  simp only[qbR] at h
  repeat' (split at h)
  all_goals first
   |(simp only[zDe] at h;constructor <;> omega)
   |cases h
   |contradiction
 exact⟨List.length_eq_zero_iff.1 h1.1,List.length_eq_zero_iff.1 h1.2⟩
theorem qpQ{name:List UInt8}{index value:List Ex}{thn els:List Sm}(h:qbR (.mk 7 name index value thn els)=true):value=[]:=by
 have h1:value.length=0:=by
  simp only[qbR] at h
  repeat' (split at h)
  all_goals first
   |(simp only[zDe] at h;omega)
   |cases h
   |contradiction
 exact List.length_eq_zero_iff.1 h1
attribute [local irreducible] LOps qag qae LCalls Go.GL.Pure qaz qam qad LQ LAny qaI qan LS
section
variable{B0:Nat}{w0:World}
def qye(B0:Nat)(w0:World)(k:KB)(c:CEnv)(n:Nat):Prop:=∀ (x:Sm) (d:Nat),ndS x<=n->d<=200000000->LCalls (KC B0 w0) 204 [ptr k.cb 0,encS x] (ckH k d) (qhY (errS c x) (iv (qks c x)) (ckH k (max d (depS c x))))
def qw9(B0:Nat)(w0:World)(k:KB)(c:CEnv)(n:Nat):Prop:=∀ (l:List Sm) (d:Nat),ndSs l<=n->d<=200000000->LCalls (KC B0 w0) 176 [ptr k.cb 0,.list (l.map encS)] (ckH k d) (qhY (qb1 c l) (iv (qbN c l)) (ckH k (max d (qcm c l))))
theorem qeF{k:KB}{c:CEnv}{B D:Nat}(hB:KnB B D c.funcs)(hD8:D<=100000000){n:Nat}(hn6:n<=2000000)(ih:qye B0 w0 k c n):qw9 B0 w0 k c n:=by
 intro l d hnd hd;have hal:=qfa l;generalize hN:qbN c l=N;generalize hDD:max d (qcm c l)=DD;refine zcI Tryz.func176 rfl (n:=21) rfl rfl rfl ?_;refine gaa ?_
 refine zoL (λkk ls H'=>∃ (pre l1:List Sm) (m d1:Nat),l=pre++l1/\kk=l1.length/\ls=[(0,ptr k.cb 0),(5,iv m),(8,.list (l.map encS)),(9,int .i64 ((l.map encS).length:Int)),(10,iv pre.length)]/\H'=ckH k d1/\d1<=200000000/\qb1 c l1=qb1 c l/\max m (qbN c l1)=N/\max d1 (qcm c l1)=DD)
  ⟨l.length,_,_,⟨[],l,0,d,rfl,rfl,rfl,rfl,hd,rfl,by omega,hDD⟩,⟨rfl,rfl,rfl,rfl,rfl,trivial⟩,zhR _⟩ ?_
 rintro kk ls H' ⟨pre,l1,m,d1,hLe,rfl,rfl,rfl,hd1,hE,hM,hD1⟩ j hj
 have hb2:pre.length<=2000000:=by
  have:=congrArg List.length hLe;rw[zLa] at this;omega
 refine gai ?_;refine zoC rfl (λhc=>?_) (λhc=>?_);have hlen:=zt hc;rw[zLm,hLe,zLa] at hlen
 obtain⟨a,l2,rfl⟩:∃ a l2,l1=a::l2:=by
  cases l1 with
  |nil=>simp at hlen
  |cons a l2=>exact⟨a,l2,rfl⟩
 have ham:ndS a<=n:=by
  have h1:∀ (p:List Sm) (x:Sm) (r:List Sm),ndS x<=ndSs (p++x::r):=λp=>by
   induction p with
   |nil=>intro x r;show ndS x<=ndSs (x::r);rw[ndSs];omega
   |cons y p ih2=>intro x r;show ndS x<=ndSs (y::(p++x::r));rw[ndSs];have:=ih2 x r;omega
  have:=h1 pre a l2;rw[<-hLe] at this;omega
 rw[qb1] at hE;rw[qbN] at hM;rw[qcm] at hD1;have hda:=qrg B D c hB a;refine gak ?_;refine oP (xR (el':=encS a) (cs:=[_,_,_,_,_,_]) rfl rfl zo (by rw[hLe];exact get_mid encS pre a l2) rfl rfl) rfl<|gad ?_;refine oS (zsA λb7=>?_) rfl;refine gaa ?_;refine oS (zsK [_,_] rfl (Inp.swap1) (ih a d1 ham hd1) (λh0=>?_) (λnm h0 e' he'=>?_)) rfl;rw[h0] at hE;refine oP (Pure.max2e m (qks c a) rfl rfl rfl rfl) rfl<|gac ?_;exact⟨l2.length,_,_,lt_succ_self _,⟨pre++[a],l2,max m (qks c a),max d1 (depS c a),by rw[hLe];simp,rfl,rfl,rfl,by omega,hE,by omega,by omega⟩,⟨rfl,rfl,rfl,rfl,qap (by simp),trivial⟩,qc0,hj⟩;refine gae ?_;exact panK (he'.trans hj) (by rw[<-hE];unfold orE;rw[zp h0]) h0;have hlen:=zf hc;rw[zLm,hLe,zLa] at hlen
 obtain rfl:l1=[]:=by
  cases l1 with
  |nil=>rfl
  |cons a l2=>simp at hlen;omega
 rw[qbN] at hM;rw[qcm] at hD1;have e1:m=N:=by omega
 have e2:d1=DD:=by omega
 subst e1 e2;refine gac ?_;exact retK hj (zra rfl) (hE.symm.trans rfl) rfl zhr
theorem qhw{k:KB}{c:CEnv}(hk:KBok k c){B D:Nat}(hB:KnB B D c.funcs)(hB8:B<=50000000)(hD8:D<=100000000):∀ n:Nat,n<=2000000->qye B0 w0 k c n
 |0,_=>λx d h _=>by have:=qnR x;omega
 |n+1,hn6=>by
  have ihs:=qeF (B0:=B0) (w0:=w0) hB hD8 (n:=n) zo (qhw hk hB hB8 hD8 n zo);have hX:qxF B0 w0 k c n:=qec hk hB zo hD8 n zo;intro x d hnd hd;obtain⟨kind,name,index,value,thn,els⟩:=x;rw[ndS] at hnd;generalize hI:errS c (Sm.mk kind name index value thn els)=E;rw[errS] at hI;generalize hN:qks c (Sm.mk kind name index value thn els)=N;rw[qks] at hN;generalize hDD:max d (depS c (Sm.mk kind name index value thn els))=DD;rw[depS] at hDD;have hfs:=qnJ (B0:=B0) (w0:=w0) (Sm.mk kind name index value thn els);rw[qcJ] at hfs ⊢;refine zcI Tryz.func204 rfl (n:=65) rfl rfl rfl ?_;refine gah ?_;refine oS (zsB rfl λb3=>?_) rfl;refine gab ?_;refine cM (A:=Unit) (λ_=>[(0,ptr k.cb 0),(3,ptr b3 0)]) (λ_=>(b3,.cells 193 [int .i64 kind,str name,.list (index.map encE),.list (value.map encE),.list (thn.map encS),.list (els.map encS)])::ckH k d) (λ_=>qbR (Sm.mk kind name index value thn els)=true) ?_ (λ_ hform j hj=>?_);refine cD (m:=7) rfl [(b3,.cells 193 [int .i64 kind,str name,.list (index.map encE),.list (value.map encE),.list (thn.map encS),.list (els.map encS)]),(k.cb,.cells 126 [.atom (.map (some k.gm)),.atom (.map (some k.vm)),.atom (.map (some k.am)),.atom (.map (some k.fm)),str k.name,.atom (.map (some k.om)),int .i64 (d:Int)])]<|aT 0 rfl rfl (pG (cs':=[_,_,_,_,_,_]) rfl zm0 rfl rfl)<|zQ35 ?_;refine aT 3 rfl rfl (pN rfl)<|aT 4 rfl rfl (pF rfl)<|aT 5 rfl rfl (pL (c:=.atom _) rfl zm1 rfl)<|aL ?_ (zhP pH zhp);refine lO 1 (lS (H1:=[]) rfl (.inl rfl) rfl zpr (zhP pH zhp) (sF [_] rfl hfs ?_))
  cases hf:qbR (Sm.mk kind name index value thn els) with
  |true=>
   refine lO 6 (lS (H1:=[]) rfl (.inl rfl) rfl zpr (zhP pH zhp) (qae.callK [_,_,_] rfl (qav true k.name 3 zDd) (λ_=>?_) (λnm h=>absurd rfl h)));refine lD zk ?_;refine qN ?_
   exact⟨(),rfl,⟨rfl,rfl,trivial⟩,zhR _,rfl⟩
  |false=>
   rw[hf,zp rfl] at hI;refine lO 6 (lS (H1:=[]) rfl (.inl rfl) rfl zpr (zhP pH zhp) (qae.callK [_,_,_] rfl (qav false k.name 3 zDd) (λh=>absurd h zDd) (λnm _ e' he'=>?_)));refine gal ?_;exact panK (he'.trans rfl) (by rw[<-hI];rfl) zDd
  rw[hform,zn zDd] at hI;refine gac ?_
  by_cases h7:kind=7
  subst h7;obtain rfl:=qpQ hform;obtain rfl:=qkk hform zDd;obtain⟨rfl,rfl⟩:=qfN hform zDd zDd;refine zoC rfl (λ_=>?_) (λhc=>by cases hc);refine gap ?_
  have e2:d=DD:=by
   rw[<-hDD];simp only[qb0,qcm];omega
  subst e2;exact retK hj (zra rfl) (by rw[<-hI];rfl) (by rw[<-hN];rfl) (zhD zhr);refine zoC rfl (λhc=>absurd (zt hc) h7) (λ_=>?_);obtain⟨x0,rfl⟩:=Inp.form_value hform h7;rw[zn h7] at hN
  have hnx:ndE x0<=n:=by
   rw[ndEs,ndEs] at hnd;omega
  have hdx:=qnZ B D c hB x0;have hnx0:=qf8 B D c hB x0
  have hEv:∀ E2,orE (qbs c [x0]) E2=orE (errE c x0) E2:=λE2=>by
   rw[qbs,qbs];unfold orE
   by_cases h:errE c x0≠0
   rw[zp h,zp h];rw[zn h,zn zDd,zn h]
  rw[hEv] at hI;rw[show([x0]:List Ex).headD default=x0 from rfl] at hN
  have hDx:qb0 c [x0]=depE c x0:=by
   rw[qb0,qb0];omega
  rw[hDx] at hDD;refine gaa ?_;refine oP (xR (el':=encE x0) (cs:=[_,_,_,_]) rfl rfl zo rfl rfl rfl) rfl<|gad ?_;refine oS (zsK [_,_] rfl (Inp.swap1) (hX x0 d hnx hd) (λh0=>?_) (λnm h0 e' he'=>?_)) rfl;rotate_left;refine gal ?_;exact panK (he'.trans hj) (by rw[<-hI];unfold orE;rw[zp h0]) h0;rw[h0,show ∀ E2,orE 0 E2=E2 from λE2=>rfl] at hI;generalize hd1:max d (depE c x0)=d1;refine LOps.perm (Inp.swap1 (H:=ckH k d1)).symm ?_;refine gac ?_
  by_cases hk1:kind=1
  subst hk1;obtain rfl:=qkk hform zDd;obtain⟨rfl,rfl⟩:=qfN hform zDd zDd
  have hI4:qcg c name=E:=by
   rw[<-hI];simp only[qbs,qb1];unfold orE
   by_cases ha:qcg c name=0 <;> simp[ha]
  refine zoC rfl (λ_=>?_) (λhc=>by cases hc);refine gac ?_;refine oS (zsK [_,_] rfl (Inp.swap1) (qde hk d1 name) (λh1=>?_) (λnm h1 e' he'=>?_)) rfl;rw[hI4] at h1;refine gac ?_;refine oP (Pure.max2e 2 (qba c x0) rfl rfl rfl rfl) rfl<|gaf ?_
  have e2:d1=DD:=by
   rw[<-hDD,<-hd1];simp only[qb0,qcm];omega
  subst e2;refine retK hj (zra rfl) h1 ?_ qc0;rw[<-hN];simp only[qbN];exact qap (by simp);refine gae ?_;exact panK (he'.trans hj) hI4.symm h1;refine zoC rfl (λhc=>absurd (zt hc) hk1) (λ_=>?_);rw[zn hk1] at hI;refine gan ?_
  by_cases hk2:kind=2
  ·subst hk2;obtain⟨i0,rfl⟩:=Inp.form_index hform;obtain⟨rfl,rfl⟩:=qfN hform zDd zDd
   have hni:ndE i0<=n:=by
    rw[ndEs,ndEs,ndEs,ndEs] at hnd;omega
   have hdi:=qnZ B D c hB i0;have hni0:=qf8 B D c hB i0
   have hI4:orE (errE c i0) (qeU c name)=E:=by
    rw[<-hI];simp only[qbs,qb1];unfold orE
    by_cases ha:errE c i0=0 <;> by_cases hb:qeU c name=0 <;> simp[ha,hb]
   refine zoC rfl (λ_=>?_) (λhc=>by cases hc);refine gaa ?_;refine oP (xR (el':=encE i0) (cs:=[_,_,_,_]) rfl rfl zo rfl rfl rfl) rfl<|gad ?_;refine oS (zsK [_,_] rfl (Inp.swap1) (hX i0 d1 hni zo) (λh1=>?_) (λnm h1 e' he'=>?_)) rfl;rotate_left;refine gae ?_;exact panK (he'.trans hj) (by rw[<-hI4];unfold orE;rw[zp h1]) h1;rw[h1] at hI4;refine LOps.perm (Inp.swap1 (H:=ckH k (max d1 (depE c i0)))).symm ?_;refine gac ?_;refine oS (zsK [_,_] rfl (Inp.swap1) (qeP hk (max d1 (depE c i0)) name) (λh2=>?_) (λnm h2 e' he'=>?_)) rfl;refine gac ?_;refine oP (Pure.max2e (qba c x0) (2+qba c i0) rfl rfl rfl zo) rfl<|gab ?_
   have e2:max d1 (depE c i0)=DD:=by
    rw[<-hDD,<-hd1];simp only[qb0,qcm];omega
   rw[<-e2];exact retK hj (zra rfl) (hI4.symm.trans h2) (by rw[<-hN];rfl) qc0;refine gae ?_;exact panK (he'.trans hj) hI4.symm h2
  refine zoC rfl (λhc=>absurd (zt hc) hk2) (λ_=>?_);obtain rfl:=qkk hform hk2;rw[zn hk2] at hI hN;refine gan ?_
  by_cases hk5:kind=5
  subst hk5;obtain⟨rfl,rfl⟩:=qfN hform zDd zDd;refine zoC rfl (λ_=>?_) (λhc=>by cases hc);refine gac ?_
  have e2:d1=DD:=by
   rw[<-hDD,<-hd1];simp only[qb0,qcm];omega
  subst e2;exact retK hj (zra rfl) (by rw[<-hI];rfl) (by rw[<-hN];rfl) (zhD zhr);refine zoC rfl (λhc=>absurd (zt hc) hk5) (λ_=>?_);rw[zn hk5] at hN
  have hI5:orE (qb1 c thn) (qb1 c els)=E:=by
   rw[<-hI];simp only[qbs];rfl
  refine gan ?_
  by_cases hk3:kind=3
  ·refine zoC rfl (λ_=>?_) (λhc=>absurd hk3 (zf hc));refine gab ?_;refine zoC rfl (λ_=>?_) (λhc=>absurd hk3 (zf hc));refine zQ13 ?_;refine aL ?_ zhp;refine lO 4 (lS (H1:=ckH k d1) rfl (.inl rfl) rfl Inp.swap1 zhr (qae.callK [_,_] rfl (ihs thn d1 (by rw[ndEs,ndEs,ndEs] at hnd;omega) zo) (λh1=>?_) (λnm h1 e' he'=>?_)));rotate_left;refine gae ?_;exact panK (he'.trans hj) (by rw[<-hI5];unfold orE;rw[zp h1]) h1;rw[h1] at hI5;have hdt:=qfb B D c hB thn;refine lO 8 (lS (H1:=ckH k (max d1 (qcm c thn))) rfl (.inl rfl) rfl zpr zhr (qae.callK [_,_] rfl (ihs els (max d1 (qcm c thn)) (by rw[ndEs,ndEs,ndEs] at hnd;omega) zo) (λh2=>?_) (λnm h2 e' he'=>?_)));rotate_left;refine gae ?_;exact panK (he'.trans hj) hI5.symm h2;refine zQ21 ?_
   have e2:max (max d1 (qcm c thn)) (qcm c els)=DD:=by
    rw[<-hDD,<-hd1];simp only[qb0];omega
   rw[<-e2];exact retK hj (zra rfl) (hI5.symm.trans h2) (by rw[<-hN];rfl) qc0
  refine zoC rfl (λhc=>absurd (zt hc) hk3) (λ_=>?_);refine gan ?_
  by_cases hk4:kind=4
  ·refine zoC rfl (λ_=>?_) (λhc=>absurd hk4 (zf hc));refine zQ13 ?_;refine aL ?_ zhp;refine lO 4 (lS (H1:=ckH k d1) rfl (.inl rfl) rfl Inp.swap1 zhr (qae.callK [_,_] rfl (ihs thn d1 (by rw[ndEs,ndEs,ndEs] at hnd;omega) zo) (λh1=>?_) (λnm h1 e' he'=>?_)));rotate_left;refine gae ?_;exact panK (he'.trans hj) (by rw[<-hI5];unfold orE;rw[zp h1]) h1;rw[h1] at hI5;have hdt:=qfb B D c hB thn;refine lO 8 (lS (H1:=ckH k (max d1 (qcm c thn))) rfl (.inl rfl) rfl zpr zhr (qae.callK [_,_] rfl (ihs els (max d1 (qcm c thn)) (by rw[ndEs,ndEs,ndEs] at hnd;omega) zo) (λh2=>?_) (λnm h2 e' he'=>?_)));rotate_left;refine gae ?_;exact panK (he'.trans hj) hI5.symm h2;refine zQ21 ?_
   have e2:max (max d1 (qcm c thn)) (qcm c els)=DD:=by
    rw[<-hDD,<-hd1];simp only[qb0];omega
   rw[<-e2];exact retK hj (zra rfl) (hI5.symm.trans h2) (by rw[<-hN];rfl) qc0
  refine zoC rfl (λhc=>absurd (zt hc) hk4) (λ_=>?_);obtain⟨rfl,rfl⟩:=qfN hform hk3 hk4;refine gac ?_;refine oP (Pure.max2e 2 (qba c x0) rfl rfl rfl rfl) rfl<|gaf ?_
  have e2:d1=DD:=by
   rw[<-hDD,<-hd1];simp only[qb0,qcm];omega
  subst e2;refine retK hj (zra rfl) (by rw[<-hI5];rfl) ?_ (zhD zhr);rw[<-hN];simp only[qbN];exact qap (by simp)
end
theorem qqf{X L:Heap}(h:HSub X L):HSub X (A++L):=
 let ⟨G,hG⟩:=h
 ⟨A++G,(List.Perm.append_left A hG).trans (by
  rw[<-zAs,<-zAs]
  exact zPc.append_right G)⟩
def pgH(k:KB)(o:Value)(d:Nat):Heap:=[(k.cb,.cells 126 [.atom (.map (some k.gm)),.atom (.map (some k.vm)),.atom (.map (some k.am)),.atom (.map (some k.fm)),str k.name,.atom o,int .i64 (d:Int)]),(k.gm,.map (kvs k.G) k.g1),(k.vm,.map (kvs k.V) k.g2),(k.am,.map (kvs k.A) k.g3),(k.fm,.map (kvs k.F) k.g4)]
def qkr(err:Int)(P:Heap->Prop)(r:LRes)(H:Heap):Prop:=(err=0/\r=.ret (.tuple [])/\P H)∨(err≠0/\(∃ nm,r=.panic (vio nm err))/\H=[])
section
variable{C:Ctx}{n:Nat}{e:Env}{H:Heap}{dst:Option Nat}{ty:TypeId}{pos:String}{aft:Array Edge}{g:Option (Nat×Bool)}{K:LV->Heap->Prop}{X:List PanicEntry->Heap->Prop}
theorem S.callE{err:Int}{P:Heap->Prop}{H1 F:Heap}{f:FuncId} [TEnter C.P f](args:List Operand){ats:Array TypeId}{av:List LV}(has:args.map e.ev=av)(hp:H.Perm (H1++F))
  (hc:LCalls C f av H1 (qkr err P)) (hk:∀ H',err=0->P H'->K (.tuple []) (H'++F)) (hx:∀ nm,err≠0->X (vio nm err) F):qae C ⟨dst,.call { callee:=.value (.func f),args:=args.toArray,argTypes:=ats },ty,pos,aft,g⟩ e H K X:=by
 refine S.callH args has hp hc ?_ ?_;rintro v H2 (⟨h1,h2,h3⟩|⟨_,⟨nm,h2⟩,_⟩);cases h2;exact hk _ h1 h3;cases h2;rintro ch H2 (⟨_,h2,_⟩|⟨h1,⟨nm,h2⟩,rfl⟩);cases h2;cases h2;exact hx nm h1
theorem qw0{err:Int}{P:Heap->Prop}{H':Heap}{rs:List ResultVar}{vs:List LV}(hd:e.ds=[])(h:qbX C n e H rs vs)(he:err=0)(hv:qbJ vs=.tuple [])(hH:HSub H' H)(hP:P H'):qad C n rs (qkr err P) .normal e H:=
 rO hd h hH (.inl ⟨he,by rw[hv],hP⟩)
theorem panE{err er:Int}{P:Heap->Prop}{rs:List ResultVar}{nm:List UInt8}(hd:e.ds=[])(he:err=er)(h0:er≠0):qad C n rs (qkr err P) (.panic (vio nm er)) e H:=
 qad.panic hd zhn (.inr ⟨by rw[he];exact h0,⟨nm,by rw[he]⟩,rfl⟩)
end
def newE(known:List Nm)(s:Nm):Int:=if isNm s=false then 7 else if s∈known then 8 else 0
theorem qeb(known:List Nm)(s:Nm)(l:List Nm):qcj known (s::l)=orE (newE known s) (qcj (s::known) l):=by
 rw[qcj];unfold newE;split;rfl;split;rfl;rfl
theorem qhL:∀ (l k k':List Nm),(∀ s,s∈k ↔ s∈k')->qcj k l=qcj k' l
 |[],_,_,_=>rfl
 |s::l,k,k',h=>by
  have h2:newE k s=newE k' s:=by
   unfold newE;simp only[h s]
  rw[qeb,qeb,h2,qhL l (s::k) (s::k') (λx=>by simp[h x])]
section
variable{B0:Nat}{w0:World}
theorem qgv{k:KB}{o:Value}{d:Nat}{known:List Nm}(hG:qdR k.G known)(s:Nm):LCalls (KC B0 w0) 132 [ptr k.cb 0,str s] (pgH k o d)
  (qkr (newE known s) (λH=>∃ g1,H=pgH { k with G:=GL.kvPut k.G s (bool true),g1:=g1 } o d)):=by
 generalize hI:newE known s=E;unfold newE at hI;refine zcI Tryz.func132 rfl (n:=22) rfl rfl rfl ?_;refine gag ?_;refine oS (sF [_] rfl (qe5 s) ?_) rfl;refine gaj ?_
 cases hn:isNm s with
 |false=>
  rw[zp hn] at hI;refine oS (zsK (H1:=[]) (F:=pgH k o d) [_,_,_] rfl zpr (qav false s 7 zDd) (λh=>absurd h zDd) (λnm _ e' he'=>?_)) rfl;refine gal ?_
  exact panE (he'.trans rfl) hI.symm zDd
 |true=>
  rw[zn (by rw[hn];decide)] at hI;refine oS (zsK (H1:=[]) (F:=pgH k o d) [_,_,_] rfl zpr (qav true s 7 zDd) (λ_=>?_) (λnm h=>absurd rfl h)) rfl;refine gac ?_;refine oP (Pure.setHas rfl rfl zm1 hG) rfl<|zoB 13 rfl (λh1=>?_) (λh1=>?_);rw[zp (zt h1)] at hI;refine gad ?_;refine oS (zsK (H1:=[]) (F:=pgH k o d) [_,_,_] rfl zpr (qav false s 8 zDd) (λh=>absurd h zDd) (λnm _ e' he'=>?_)) rfl;refine gal ?_;exact panE (he'.trans rfl) hI.symm zDd;rw[zn (zf h1)] at hI;refine gad ?_;refine oS (zsK (H1:=[]) (F:=pgH k o d) [_,_,_] rfl zpr (qav true s 8 zDd) (λ_=>?_) (λnm h=>absurd rfl h)) rfl;refine gac ?_;refine oS (S.kvSet (k:=s) (lv:=bool true) rfl rfl rfl zp1 λg1=>?_) rfl;refine gaf ?_;exact qw0 rfl rN hI.symm rfl ⟨[],by rw[zLz];exact List.Perm.swap _ _ _⟩ ⟨g1,rfl⟩
theorem qlO{vars arrays later:List Nm}{known:List FSum}{k:KB}{o:Value}{d:Nat}(f:FnD)(hG:qdR k.G (vars++arrays++later))(hV:qdR k.V vars)(hA:qdR k.A arrays)(hF:∀ n,GL.kvGet k.F n=(known.find? λg=>decide (g.name=n)).map qjs)(hnew:f.name ∉ known.map (·.name))
  {B D:Nat} (hB:KnB B D known) (hB8:B<=50000000) (hD8:D<=100000000) (hnd:ndF f<=2000000) :
  LCalls (KC B0 w0) 134 [ptr k.cb 0,qbm f] (pgH k o d)
  (qkr (errF vars arrays later known f) (λH=>∃ nm o' d' F' g4,(∀ n,GL.kvGet F' n=((known++[sumF vars arrays later known f]).find? λg=>decide (g.name=n)).map qjs)/\H=pgH { k with name:=nm,F:=F',g4:=g4 } o' d')):=by
 have hsm:=qsu hnd;have hp6:f.params.length<=2000000:=hsm.params;have hl6:f.locals.length<=2000000:=hsm.locals
 have hbn:ndSs f.body<=2000000:=by
  unfold ndF at hnd;omega
 generalize hI:errF vars arrays later known f=E;unfold errF at hI;refine zcI Tryz.func134 rfl (n:=82) rfl rfl rfl ?_;refine gah ?_;refine oS (zsB rfl λb3=>?_) rfl;refine gac ?_;refine oS (S.kvNew λom=>?_) rfl;refine gaa ?_;refine oS (sL (es:=[qef f.params,qef f.locals]) [_,_] rfl (eC rfl rfl (eC rfl rfl eN)) rfl rfl rfl ?_) rfl
 refine oS (S.callH (H1:=[]) (F:=_) [_] rfl zpr (qjE [f.params,f.locals] (by simp) (by
  intro l hl;rcases zMi.1 hl with rfl|hl;exact hp6;rw[List.mem_singleton.1 hl]
  exact hl6)) ?_ (by rintro ch H' ⟨v,h,_⟩;cases h)) rfl
 rintro v2 Ha2 ⟨_,h,hacc2⟩;cases h;have hfl:[f.params,f.locals].flatten=f.params++f.locals:=by simp
 rw[hfl] at hacc2;refine LOps.sub 24 rfl hacc2.sub ?_;refine LOps.weak (H':=(b3,.cells 110 [str f.name,.list (f.params.map str),.list (f.locals.map str),.list (f.body.map encS)])::ckH { k with name:=f.name,om:=om,O:=[],g5:=0 } 1) ?_ ?_
 ·refine qqf ?_
  repeat first
   |exact HSub.nil _
   |refine zhP zb1 ?_
 refine gad ?_
 refine zoL (λkk ls H'=>∃ (pre l1:List Nm) (OO:KV) (gg:Nat),f.params++f.locals=pre++l1/\kk=l1.length/\ls=[(0,ptr k.cb 0),(3,ptr b3 0),(24,.list ((f.params++f.locals).map str)),(25,int .i64 (((f.params++f.locals).map str).length:Int)),(26,iv pre.length)] /\
   H'=(b3,.cells 110 [str f.name,.list (f.params.map str),.list (f.locals.map str),.list (f.body.map encS)])::ckH { k with name:=f.name,om:=om,O:=OO,g5:=gg } 1/\qdR OO pre/\orE (qcj (pre.reverse++(vars++arrays++later)) l1) (qb1 (envF vars arrays later known f) f.body)=E)
  ⟨_,_,_,⟨[],f.params++f.locals,[],0,rfl,rfl,rfl,rfl,qdR.nil,hI⟩,⟨rfl,rfl,rfl,rfl,rfl,trivial⟩,zhR _⟩ ?_
 rintro kk ls H' ⟨pre,l1,OO,gg,hLe,rfl,rfl,rfl,hO,hE⟩ j hj
 have hb2:pre.length<=4000000:=by
  have:=congrArg List.length hLe;rw[zLa,zLa] at this;omega
 refine gai ?_;refine zoC rfl (λhc=>?_) (λhc=>?_)
 ·have hlen:=zt hc;rw[zLm,hLe,zLa] at hlen
  obtain⟨s,l2,rfl⟩:∃ a l2,l1=a::l2:=by
   cases l1 with
   |nil=>simp at hlen
   |cons a l2=>exact⟨a,l2,rfl⟩
  rw[qeb] at hE;generalize hEn:newE (pre.reverse++(vars++arrays++later)) s=En at hE;unfold newE at hEn;refine gak ?_;refine oP (xR (el':=str s) (cs:=[str s]) rfl rfl zo (by rw[hLe];exact get_mid str pre s l2) rfl rfl) rfl<|gaa ?_;refine oS (sF [_] rfl (qe5 s) ?_) rfl;refine gaj ?_
  cases hn:isNm s with
  |false=>
   rw[zp hn] at hEn;refine oS (zsK (H1:=[]) (F:=_) [_,_,_] rfl zpr (qav false s 7 zDd) (λh=>absurd h zDd) (λnm _ e' he'=>?_)) rfl;refine gae ?_
   exact panE (he'.trans hj) (by rw[<-hE,<-hEn];rfl) zDd
  |true=>
   rw[zn (by rw[hn];decide)] at hEn;refine oS (zsK (H1:=[]) (F:=_) [_,_,_] rfl zpr (qav true s 7 zDd) (λ_=>?_) (λnm h=>absurd rfl h)) rfl;refine gaa ?_;refine oP (Pure.setHas rfl rfl zm2 hG) rfl<|zoB 39 rfl (λh1=>?_) (λh1=>?_);have hin:s∈pre.reverse++(vars++arrays++later):=mem_append_right _ (zt h1);rw[zp hin] at hEn;refine gad ?_;refine oS (zsK (H1:=[]) (F:=_) [_,_,_] rfl zpr (qav false s 8 zDd) (λh=>absurd h zDd) (λnm _ e' he'=>?_)) rfl;refine gae ?_;exact panE (he'.trans hj) (by rw[<-hE,<-hEn];rfl) zDd;refine gad ?_;refine oP (Pure.setHas rfl rfl zm6 hO) rfl<|zoB 47 rfl (λh2=>?_) (λh2=>?_);have hin:s∈pre.reverse++(vars++arrays++later):=List.mem_append_left _ (List.mem_reverse.2 (zt h2));rw[zp hin] at hEn;refine gad ?_;refine oS (zsK (H1:=[]) (F:=_) [_,_,_] rfl zpr (qav false s 8 zDd) (λh=>absurd h zDd) (λnm _ e' he'=>?_)) rfl;refine gae ?_;exact panE (he'.trans hj) (by rw[<-hE,<-hEn];rfl) zDd;rw[zn (λh=>(List.mem_append.1 h).elim (λh=>zf h2 (List.mem_reverse.1 h)) (zf h1))] at hEn;subst hEn;refine gad ?_;refine oS (zsK (H1:=[]) (F:=_) [_,_,_] rfl zpr (qav true s 8 zDd) (λ_=>?_) (λnm h=>absurd rfl h)) rfl;refine gaa ?_;refine oS (S.kvSet (k:=s) (lv:=bool true) rfl rfl rfl zp6 λgg2=>?_) rfl;refine gaq ?_
   exact⟨l2.length,_,_,lt_succ_self _,⟨pre++[s],l2,GL.kvPut OO s (bool true),gg2,by rw[hLe];simp,rfl,rfl,rfl,hO.add s,by
    rw[<-hE];rw[qhL l2 ((pre++[s]).reverse++(vars++arrays++later)) (s::(pre.reverse++(vars++arrays++later))) (λx=>by simp)]
    rfl⟩,⟨rfl,rfl,rfl,rfl,qap (by simp),trivial⟩,by
    repeat first
     |exact HSub.nil _
     |refine zhP zb1 ?_,hj⟩
 have hlen:=zf hc;rw[zLm,hLe,zLa] at hlen
 obtain rfl:l1=[]:=by
  cases l1 with
  |nil=>rfl
  |cons a l2=>simp at hlen;omega
 rw[zLz] at hLe;rw[<-hLe] at hO;have hE2:qb1 (envF vars arrays later known f) f.body=E:=by rw[<-hE];rfl
 have hkb:KBok { k with name:=f.name,om:=om,O:=OO,g5:=gg } (envF vars arrays later known f):=⟨hG,hV,hA,hO,hF⟩;have hss:=qeF (B0:=B0) (w0:=w0) (k:={ k with name:=f.name,om:=om,O:=OO,g5:=gg }) (c:=envF vars arrays later known f) hB hD8 (n:=2000000) (zNr _) (qhw hkb hB hB8 hD8 2000000 (zNr _)) f.body 1 hbn zDd;have hnb:=qfy B D (envF vars arrays later known f) hB f.body;have hdb:=qfb B D (envF vars arrays later known f) hB f.body;refine gaa ?_;refine oS (zsK [_,_] rfl (Inp.swap1) hss (λh0=>?_) (λnm h0 e' he'=>?_)) rfl;rotate_left;refine gal ?_;exact panE (he'.trans hj) hE2.symm h0;refine LOps.perm (Inp.swap1 (H:=ckH _ _)).symm ?_;refine gaf ?_;have hpl:(f.params.map str).length<=2000000:=by rw[zLm];exact hp6
 refine qag.tail 20 zk ?_;refine gad ?_;refine lP (Pure.max3e 2 (f.params.length+1) (qbN (envF vars arrays later known f) f.body) rfl rfl rfl rfl (by rw[zLm];omega) rfl) rfl ?_;refine gad ?_;refine oS (S.kvSet (k:=f.name) (lv:=.agg [int .i64 ((f.params.map str).length:Int),int .i64 (max (max 2 (f.params.length+1)) (qbN (envF vars arrays later known f) f.body):Nat),int .i64 (max 1 (qcm (envF vars arrays later known f) f.body):Nat)]) rfl rfl rfl zp5 λg4=>?_) rfl;refine gaf ?_;refine qw0 hj rN (hE2.symm.trans h0) rfl (H':=pgH { k with name:=f.name,F:=GL.kvPut k.F f.name (.agg [int .i64 ((f.params.map str).length:Int),int .i64 (max (max 2 (f.params.length+1)) (qbN (envF vars arrays later known f) f.body):Nat),int .i64 (max 1 (qcm (envF vars arrays later known f) f.body):Nat)]),g4:=g4 } (.map (some om)) (max 1 (qcm (envF vars arrays later known f) f.body))) ?hs ⟨f.name,_,_,_,g4,λn=>?kv,rfl⟩
 case hs=>
  repeat first
   |exact HSub.nil _
   |refine zhP zb1 ?_
 case kv=>
  rw[GL.kvGet_put,hF n,List.find?_append]
  by_cases h1:f.name=n
  rw[zp h1]
  have h2:(known.find? λg=>decide (g.name=n))=none:=by
   rw[List.find?_eq_none];intro g hg;simp only[zDe];intro h3;exact hnew (by rw[h1,<-h3];exact mem_map_of_mem hg)
  rw[h2,none_or]
  have h4:([sumF vars arrays later known f].find? λg=>decide (g.name=n))=some (sumF vars arrays later known f):=by
   rw[List.find?_cons_of_pos];exact decide_eq_true h1
  rw[h4];show some _=some (qjs _);unfold qjs sumF;rw[<-zLm (f:=str)];rw[zn h1]
  have h4:([sumF vars arrays later known f].find? λg=>decide (g.name=n))=none:=by
   rw[List.find?_eq_none];intro g hg;rw[List.mem_singleton.1 hg];simp only[zDe];exact h1
  rw[h4,Option.or_none]
end
def encArG(a:Nm×Int):LV:=.agg [str a.1,int .i64 a.2]
def encPrG(vars:List Nm)(arrays:List (Nm×Int))(fs:List FnD):LV:=.agg [.list (vars.map str),.list (arrays.map encArG),.list (fs.map qbm)]
theorem qe0:∀ (l known:List Nm),qcj known l=0->l.Nodup/\(∀ s∈l,s ∉ known)/\∀ s∈l,isNm s=true
 |[],known,_=>⟨List.nodup_nil,λs h=>(not_mem_nil h).elim,λs h=>(not_mem_nil h).elim⟩
 |s::l,known,h=>by
  rw[qcj] at h;split at h;cases h
  rename_i h1
  split at h;cases h
  rename_i h2
  obtain⟨h3,h4,h5⟩:=qe0 l _ h;refine⟨List.nodup_cons.2 ⟨λhm=>h4 s hm zMs,h3⟩,?_,?_⟩;intro x hx;rcases zMi.1 hx with rfl|hx;exact h2;exact λhk=>h4 x hx (zMo _ hk);intro x hx;rcases zMi.1 hx with rfl|hx;simpa using h1;exact h5 x hx
theorem qk1{s:Nm}(h:isNm s=true):s.length<=1000:=by
 unfold isNm at h;simp only[zBa,zDe] at h;omega
theorem qkC{a b:Int}(h:a≠0):orE a b=a:=by
 unfold orE;exact zp h
theorem qgM:∀ a b:List FnD,ndFs (a++b)=ndFs a+ndFs b
 |[],b=>by rw[nil_append,ndFs,Nat.zero_add]
 |x::a,b=>by rw[cons_append,ndFs,ndFs,qgM a b];omega
theorem qkG{vars arrays later:List Nm}:∀ (l:List FnD) (known:List FSum),qfO vars arrays later known l=0->∀ f∈l,∃ k,errF vars arrays later k f=0
 |[],_,_,f,h=>(not_mem_nil h).elim
 |g::l,known,h,f,hf=>by
  rw[qfO,qah] at h;rcases zMi.1 hf with rfl|hf;exact⟨known,h.1⟩;exact qkG l _ h.2 f hf
theorem qqR{vars arrays later:List Nm}{k:List FSum}{f:FnD}(h:errF vars arrays later k f=0):∀ x∈f.params++f.locals,x.length<=1000:=by
 unfold errF at h;rw[qah] at h;intro x hx;exact qk1 ((qe0 _ _ h.1).2.2 x hx)
theorem qr8{l:List FSum}{m:FSum}(hn:(l.map (·.name)).Nodup)(hm:l.getLast? = some m):(l.find? λg=>decide (g.name=m.name))=some m:=by
 obtain⟨ys,rfl⟩:=List.getLast?_eq_some_iff.1 hm;rw[List.find?_append]
 have h1:(ys.find? λg=>decide (g.name=m.name))=none:=by
  rw[List.find?_eq_none];intro g hg;simp only[zDe];intro h2;rw[zMa] at hn;exact(List.nodup_append.1 hn).2.2 _ (mem_map_of_mem hg) _ (mem_map_of_mem (List.mem_singleton_self m)) h2
 rw[h1,none_or,List.find?_cons_of_pos];exact decide_eq_true rfl
theorem qju{vars arrays later:List Nm}:∀ (l:List FnD) (known:List FSum),(qjL vars arrays later known l).map (·.name)=known.map (·.name)++l.map (·.name)
 |[],known=>by rw[qjL];simp
 |f::l,known=>by
  rw[qjL,qju l];simp[sumF]
theorem qhU{pre l:List Nm}{s:Nm}{FR:Int}(h:qcj pre (s::l)=FR)(h0:newE pre s=0):qcj (pre++[s]) l=FR:=by
 rw[<-h,qeb,h0,qhL l (pre++[s]) (s::pre) (λx=>by simp[or_comm])];rfl
theorem qjp{pre l:List Nm}{s:Nm}{FR RA E:Int}(hI:orE FR RA=E)(h:qcj pre (s::l)=FR)(h0:newE pre s≠0):E=newE pre s:=by
 rw[<-hI,<-h,qeb,qkC (a:=orE _ _) (by rw[qkC h0];exact h0),qkC h0]
section
variable{B0:Nat}{w0:World}
theorem qb4{k:KB}{o:Value}{d:Nat}(vars:List Nm)(arrays:List (Nm×Int))(fs:List FnD)(hk1:k.G=[])(hk2:k.V=[])(hk3:k.A=[])(hk4:k.F=[])(hv6:vars.length<=2000000)(ha6:arrays.length<=2000000)(har:∀ a∈arrays,-9223372036854775808<=a.2/\a.2<9223372036854775808)(hnd:ndFs fs<=2000000) :
  LCalls (KC B0 w0) 78 [ptr k.cb 0,encPrG vars arrays fs] (pgH k o d) (qkr (qc3 vars arrays fs) (λH=>H=[])):=by
 have hf6:fs.length<=2000000:=zNt (qiX fs) hnd;generalize hI:qc3 vars arrays fs=E;unfold qc3 at hI;generalize hFR:qcj [] (vars++arrays.map (·.1)++fs.map (·.name))=FR at hI;generalize hSZ:qg3 0 (arrays.map (·.2))=SZ at hI;generalize hFS:qfO vars (arrays.map (·.1)) (fs.map (·.name)) [] fs=FS at hI;generalize hSS:qjL vars (arrays.map (·.1)) (fs.map (·.name)) [] fs=SS at hI;generalize hMN:qtr vars fs SS=MN at hI;generalize hRA:orE SZ (orE FS MN)=RA at hI;refine zcI Tryz.func78 rfl (n:=147) rfl rfl rfl ?_;refine gah ?_;refine oS (zsB rfl λb3=>?_) rfl;refine gaa ?_
 refine zoL (λkk ls H'=>∃ (pre l1:List Nm) (G1 V1:KV) (g1 g2:Nat),vars=pre++l1/\kk=l1.length/\ls=[(0,ptr k.cb 0),(3,ptr b3 0),(18,.list (vars.map str)),(19,int .i64 ((vars.map str).length:Int)),(20,iv pre.length)] /\
   H'=(b3,.cells 43 [.list (vars.map str),.list (arrays.map encArG),.list (fs.map qbm)])::pgH { k with G:=G1,g1:=g1,V:=V1,g2:=g2 } o d/\qdR G1 pre/\qdR V1 pre/\qcj pre (l1++arrays.map (·.1)++fs.map (·.name))=FR)
  ⟨_,_,_,⟨[],vars,k.G,k.V,k.g1,k.g2,rfl,rfl,rfl,rfl,by rw[hk1];exact qdR.nil,by rw[hk2];exact qdR.nil,hFR⟩,⟨rfl,rfl,rfl,rfl,rfl,trivial⟩,zhR _⟩ ?_
 rintro kk ls H' ⟨pre,l1,G1,V1,g1,g2,hLe,rfl,rfl,rfl,hG1,hV1,hE⟩ j hj
 have hb2:pre.length<=2000000:=by
  have:=congrArg List.length hLe;rw[zLa] at this;omega
 refine gai ?_;refine zoC rfl (λhc=>?_) (λhc=>?_)
 ·have hlen:=zt hc;rw[zLm,hLe,zLa] at hlen
  obtain⟨s,l2,rfl⟩:∃ a l2,l1=a::l2:=by
   cases l1 with
   |nil=>simp at hlen
   |cons a l2=>exact⟨a,l2,rfl⟩
  rw[cons_append,cons_append] at hE;refine gak ?_;refine oP (xR (el':=str s) (cs:=[str s]) rfl rfl zo (by rw[hLe];exact get_mid str pre s l2) rfl rfl) rfl<|gaa ?_;refine oS (S.callE (F:=[_]) [_,_] rfl (Inp.swap1) (qgv (k:={ k with G:=G1,g1:=g1,V:=V1,g2:=g2 }) (o:=o) (d:=d) hG1 s) (λH2 h0 hP=>?_) (λnm h0 e' he'=>?_)) rfl;rotate_left;refine gae ?_;exact panE (he'.trans hj) (qjp hI hE h0) h0;obtain⟨g1',rfl⟩:=hP;refine LOps.perm (Inp.swap1 (H:=pgH _ _ _)).symm ?_;refine gaa ?_;refine oS (S.kvSet (k:=s) (lv:=bool true) rfl rfl rfl zp3 λg2'=>?_) rfl;refine gaq ?_;refine⟨l2.length,_,_,lt_succ_self _,⟨pre++[s],l2,GL.kvPut G1 s (bool true),GL.kvPut V1 s (bool true),g1',g2',by rw[hLe];simp,rfl,rfl,rfl,hG1.add s,hV1.add s,qhU hE h0⟩,⟨rfl,rfl,rfl,rfl,qap (by simp),trivial⟩,?_,hj⟩
  repeat first
   |exact HSub.nil _
   |refine zhP zb1 ?_
 have hlen:=zf hc;rw[zLm,hLe,zLa] at hlen
 obtain rfl:l1=[]:=by
  cases l1 with
  |nil=>rfl
  |cons a l2=>simp at hlen;omega
 rw[zLz] at hLe;subst hLe;rw[nil_append] at hE;clear hlen hc hb2;refine gaa ?_
 refine zoL (λkk ls H'=>∃ (pre l1:List (Nm×Int)) (G1 A1:KV) (g1 g3:Nat),arrays=pre++l1/\kk=l1.length/\ls=[(0,ptr k.cb 0),(3,ptr b3 0),(34,.list (arrays.map encArG)),(35,int .i64 ((arrays.map encArG).length:Int)),(36,iv pre.length)] /\
   H'=(b3,.cells 43 [.list (vars.map str),.list (arrays.map encArG),.list (fs.map qbm)])::pgH { k with G:=G1,g1:=g1,V:=V1,g2:=g2,A:=A1,g3:=g3 } o d/\qdR G1 (vars++pre.map (·.1))/\qdR A1 (pre.map (·.1))/\qcj (vars++pre.map (·.1)) (l1.map (·.1)++fs.map (·.name))=FR)
  ⟨_,_,_,⟨[],arrays,G1,k.A,g1,k.g3,rfl,rfl,rfl,rfl,by simpa using hG1,by rw[hk3];exact qdR.nil,by simpa using hE⟩,⟨rfl,rfl,rfl,rfl,rfl,trivial⟩,zhR _⟩ ?_
 clear hG1 hE G1 g1;rintro kk ls H' ⟨pre,l1,G1,A1,g1,g3,hLe,rfl,rfl,rfl,hG1,hA1,hE⟩ j hj2
 have hb2:pre.length<=2000000:=by
  have:=congrArg List.length hLe;rw[zLa] at this;omega
 refine gai ?_;refine zoC rfl (λhc=>?_) (λhc=>?_)
 ·have hlen:=zt hc;rw[zLm,hLe,zLa] at hlen
  obtain⟨s,l2,rfl⟩:∃ a l2,l1=a::l2:=by
   cases l1 with
   |nil=>simp at hlen
   |cons a l2=>exact⟨a,l2,rfl⟩
  rw[zMc,cons_append] at hE;refine zQ48 ?_;refine oS (zsA λb7=>?_) rfl;refine gaa ?_;refine oS (S.callE (F:=[_,_]) [_,_] rfl (zPc (l₁:=[_,_])) (qgv (k:={ k with G:=G1,g1:=g1,V:=V1,g2:=g2,A:=A1,g3:=g3 }) (o:=o) (d:=d) hG1 s.1) (λH2 h0 hP=>?_) (λnm h0 e' he'=>?_)) rfl;rotate_left;refine gae ?_;exact panE (he'.trans (hj2.trans hj)) (qjp hI hE h0) h0;obtain⟨g1',rfl⟩:=hP
  refine LOps.weak (H':=[(b7,.cells 106 [str s.1,int .i64 s.2]),(k.cb,.cells 126 [.atom (.map (some k.gm)),.atom (.map (some k.vm)),.atom (.map (some k.am)),.atom (.map (some k.fm)),str k.name,.atom o,int .i64 (d:Int)]),(b3,.cells 43 [.list (vars.map str),.list (arrays.map encArG),.list (fs.map qbm)]),
   (k.gm,.map (kvs (GL.kvPut G1 s.1 (bool true))) g1'),(k.vm,.map (kvs V1) g2),(k.am,.map (kvs A1) g3),(k.fm,.map (kvs k.F) k.g4)]) ?_ ?_
  ·repeat first
    |exact HSub.nil _
    |refine zhP zb1 ?_
  refine gaf ?_;refine cD (m:=7) rfl [(b7,.cells 106 [str s.1,int .i64 s.2]),(k.cb,.cells 126 [.atom (.map (some k.gm)),.atom (.map (some k.vm)),.atom (.map (some k.am)),.atom (.map (some k.fm)),str k.name,.atom o,int .i64 (d:Int)])]<|zQ51 ?_;refine aL ?_ (zhP pH zhp);refine lO 6 (lS (H1:=[(k.am,.map (kvs A1) g3)]) rfl (.inl rfl) rfl (show Pick _ _ _ from pT zp4) (zhP pH zhp) (S.kvSet (k:=s.1) (lv:=bool true) rfl rfl rfl pH λg3'=>?_));refine lD zk ?_;refine gaq ?_;refine⟨l2.length,_,_,lt_succ_self _,⟨pre++[s],l2,GL.kvPut G1 s.1 (bool true),GL.kvPut A1 s.1 (bool true),g1',g3',by rw[hLe];simp,rfl,rfl,rfl,by simpa using hG1.add s.1,by simpa using hA1.add s.1,by simpa using qhU hE h0⟩,⟨rfl,rfl,rfl,rfl,qap (by simp),trivial⟩,?_,hj2⟩
  repeat first
   |exact HSub.nil _
   |refine zhP zb1 ?_
 have hlen:=zf hc;rw[zLm,hLe,zLa] at hlen
 obtain rfl:l1=[]:=by
  cases l1 with
  |nil=>rfl
  |cons a l2=>simp at hlen;omega
 rw[zLz] at hLe;subst hLe;rw[List.map_nil,nil_append] at hE;clear hlen hc hb2;refine gaa ?_
 refine zoL (λkk ls H'=>∃ (pre l1:List FnD) (G1:KV) (g1:Nat),fs=pre++l1/\kk=l1.length/\ls=[(0,ptr k.cb 0),(3,ptr b3 0),(52,.list (fs.map qbm)),(53,int .i64 ((fs.map qbm).length:Int)),(54,iv pre.length)] /\
   H'=(b3,.cells 43 [.list (vars.map str),.list (arrays.map encArG),.list (fs.map qbm)])::pgH { k with G:=G1,g1:=g1,V:=V1,g2:=g2,A:=A1,g3:=g3 } o d/\qdR G1 (vars++arrays.map (·.1)++pre.map (·.name))/\qcj (vars++arrays.map (·.1)++pre.map (·.name)) (l1.map (·.name))=FR)
  ⟨_,_,_,⟨[],fs,G1,g1,rfl,rfl,rfl,rfl,by simpa using hG1,by simpa using hE⟩,⟨rfl,rfl,rfl,rfl,rfl,trivial⟩,zhR _⟩ ?_
 clear hG1 hE G1 g1;rintro kk ls H' ⟨pre,l1,G1,g1,hLe,rfl,rfl,rfl,hG1,hE⟩ j hj3
 have hb2:pre.length<=2000000:=by
  have:=congrArg List.length hLe;rw[zLa] at this;omega
 refine gai ?_;refine zoC rfl (λhc=>?_) (λhc=>?_)
 ·have hlen:=zt hc;rw[zLm,hLe,zLa] at hlen
  obtain⟨s,l2,rfl⟩:∃ a l2,l1=a::l2:=by
   cases l1 with
   |nil=>simp at hlen
   |cons a l2=>exact⟨a,l2,rfl⟩
  rw[zMc] at hE;refine gak ?_;refine oP (xR (el':=qbm s) (cs:=[_,_,_,_]) rfl rfl zo (by rw[hLe];exact get_mid qbm pre s l2) rfl rfl) rfl<|gad ?_;refine oS (zsA λb7=>?_) rfl;refine gaa ?_;refine oS (S.callE (F:=[_,_]) [_,_] rfl (zPc (l₁:=[_,_])) (qgv (k:={ k with G:=G1,g1:=g1,V:=V1,g2:=g2,A:=A1,g3:=g3 }) (o:=o) (d:=d) hG1 s.name) (λH2 h0 hP=>?_) (λnm h0 e' he'=>?_)) rfl;rotate_left;refine gae ?_;exact panE (he'.trans (hj3.trans (hj2.trans hj))) (qjp hI hE h0) h0;obtain⟨g1',rfl⟩:=hP;refine LOps.perm (zPc (l₂:=[_,_])) ?_;refine gaq ?_;refine⟨l2.length,_,_,lt_succ_self _,⟨pre++[s],l2,GL.kvPut G1 s.name (bool true),g1',by rw[hLe];simp,rfl,rfl,rfl,by simpa using hG1.add s.name,by simpa using qhU hE h0⟩,⟨rfl,rfl,rfl,rfl,qap (by simp),trivial⟩,zhD zhr,hj3⟩
 have hlen:=zf hc;rw[zLm,hLe,zLa] at hlen
 obtain rfl:l1=[]:=by
  cases l1 with
  |nil=>rfl
  |cons a l2=>simp at hlen;omega
 rw[zLz] at hLe;subst hLe;have hFR0:FR=0:=hE.symm;clear hlen hc hb2 hE;rw[hFR0] at hI;have hnod:=(qe0 _ _ (hFR.trans hFR0)).1;have hnmok:=(qe0 _ _ (hFR.trans hFR0)).2.2;have hI1:RA=E:=by rw[<-hI];rfl
 rw[<-hRA] at hI1;clear hI hRA hFR;have hPr:0<=(0:Int)/\(0:Int)<=150000:=⟨by decide,by decide⟩;refine gaa ?_
 refine zoL (λkk ls H'=>∃ (pre l1:List (Nm×Int)) (T:Int),arrays=pre++l1/\kk=l1.length/\ls=[(0,ptr k.cb 0),(3,ptr b3 0),(10,int .i64 T),(64,.list (arrays.map encArG)),(65,int .i64 ((arrays.map encArG).length:Int)),(66,iv pre.length)] /\
   H'=(b3,.cells 43 [.list (vars.map str),.list (arrays.map encArG),.list (fs.map qbm)])::pgH { k with G:=G1,g1:=g1,V:=V1,g2:=g2,A:=A1,g3:=g3 } o d/\(0<=T/\T<=150000)/\qg3 T (l1.map (·.2))=SZ)
  ⟨_,_,_,⟨[],arrays,0,rfl,rfl,rfl,rfl,hPr,hSZ⟩,⟨rfl,rfl,rfl,rfl,rfl,rfl,trivial⟩,zhR _⟩ ?_
 clear hSZ;rintro kk ls H' ⟨pre,l1,T,hLe,rfl,rfl,rfl,⟨hT1,hT2⟩,hE⟩ j hj4
 have hb2:pre.length<=2000000:=by
  have:=congrArg List.length hLe;rw[zLa] at this;omega
 refine gai ?_;refine zoC rfl (λhc=>?_) (λhc=>?_)
 ·have hlen:=zt hc;rw[zLm,hLe,zLa] at hlen
  obtain⟨s,l2,rfl⟩:∃ a l2,l1=a::l2:=by
   cases l1 with
   |nil=>simp at hlen
   |cons a l2=>exact⟨a,l2,rfl⟩
  obtain⟨hs1,hs2⟩:=har s (by rw[hLe];exact mem_append_right _ zMs);rw[zMc,qg3] at hE;refine zQ48 ?_;refine oS (zsA λb7=>?_) rfl;refine gaa ?_;refine zoB 72 rfl (λh1=>?_) (λh1=>?_);rotate_left;have h2:s.2<=0:=by have:=zf h1;omega
  rw[zp h2] at hE;refine oS (zsK (H1:=[]) (F:=_) [_,_,_] rfl zpr (qav false s.1 2 zDd) (λh=>absurd h zDd) (λnm _ e' he'=>?_)) rfl;refine gae ?_;exact panE (he'.trans (hj4.trans (hj3.trans (hj2.trans hj)))) (by rw[<-hI1,<-hE];rfl) zDd;have h2:¬ s.2<=0:=by have:=zt h1;omega
  rw[zn h2] at hE;refine oS (zsK (H1:=[]) (F:=_) [_,_,_] rfl zpr (qav true s.1 2 zDd) (λ_=>?_) (λnm h=>absurd rfl h)) rfl;refine gaa ?_;refine zoB 80 rfl (λh3=>?_) (λh3=>?_);rotate_left;have h4:150000-T<s.2:=by have:=zf h3;omega
  rw[zp h4] at hE;refine oS (zsK (H1:=[]) (F:=_) [_,_,_] rfl zpr (qav false s.1 6 zDd) (λh=>absurd h zDd) (λnm _ e' he'=>?_)) rfl;refine gae ?_;exact panE (he'.trans (hj4.trans (hj3.trans (hj2.trans hj)))) (by rw[<-hI1,<-hE];rfl) zDd;have h4:¬ 150000-T<s.2:=by have:=zt h3;omega
  rw[zn h4] at hE;refine oS (zsK (H1:=[]) (F:=_) [_,_,_] rfl zpr (qav true s.1 6 zDd) (λ_=>?_) (λnm h=>absurd rfl h)) rfl;refine gac ?_;exact⟨l2.length,_,_,lt_succ_self _,⟨pre++[s],l2,T+s.2,by rw[hLe];simp,rfl,rfl,rfl,⟨by omega,by omega⟩,hE⟩,⟨rfl,rfl,rfl,rfl,rfl,qap (by simp),trivial⟩,zhD zhr,hj4⟩
 have hlen:=zf hc;rw[zLm,hLe,zLa] at hlen
 obtain rfl:l1=[]:=by
  cases l1 with
  |nil=>rfl
  |cons a l2=>simp at hlen;omega
 have hSZ0:SZ=0:=by rw[<-hE];rfl
 rw[hSZ0] at hI1;have hI2:orE FS MN=E:=by rw[<-hI1];rfl
 clear hI1 hlen hc hb2 hLe hE;have hnf:(fs.map (·.name)).Nodup:=(List.nodup_append.1 hnod).2.1;have hds:j.ds=[]:=hj4.trans (hj3.trans (hj2.trans hj));clear hj hj2 hj3 hj4;refine gaa ?_
 refine zoL (λkk ls H'=>∃ (pre l1:List FnD) (known:List FSum) (F1:KV) (g4:Nat) (nm:Nm) (o1:Value) (d1:Nat),fs=pre++l1/\kk=l1.length/\ls=[(0,ptr k.cb 0),(3,ptr b3 0),(90,.list (fs.map qbm)),(91,int .i64 ((fs.map qbm).length:Int)),(92,iv pre.length)] /\
   H'=(b3,.cells 43 [.list (vars.map str),.list (arrays.map encArG),.list (fs.map qbm)])::pgH { k with name:=nm,G:=G1,g1:=g1,V:=V1,g2:=g2,A:=A1,g3:=g3,F:=F1,g4:=g4 } o1 d1/\(∀ n,GL.kvGet F1 n=(known.find? λg=>decide (g.name=n)).map qjs)/\known.map (·.name)=pre.map (·.name) /\
   qfO vars (arrays.map (·.1)) (fs.map (·.name)) known l1=FS/\qjL vars (arrays.map (·.1)) (fs.map (·.name)) known l1=SS/\KnB (8 * ndFs pre) pre.length known)
  ⟨_,_,_,⟨[],fs,[],k.F,k.g4,k.name,o,d,rfl,rfl,rfl,rfl,λn=>by rw[hk4];rfl,rfl,hFS,hSS,λx hx=>(not_mem_nil hx).elim⟩,⟨rfl,rfl,rfl,rfl,rfl,trivial⟩,zhR _⟩ ?_
 rintro kk ls H' ⟨pre,l1,known,F1,g4,nm,o1,d1,hLe,rfl,rfl,rfl,hF,hkn,hE,hS,hB⟩ j2 hj2
 have hb2:pre.length<=2000000:=by
  have:=congrArg List.length hLe;rw[zLa] at this;omega
 refine gai ?_;refine zoC rfl (λhc=>?_) (λhc=>?_)
 ·have hlen:=zt hc;rw[zLm,hLe,zLa] at hlen
  obtain⟨s,l2,rfl⟩:∃ a l2,l1=a::l2:=by
   cases l1 with
   |nil=>simp at hlen
   |cons a l2=>exact⟨a,l2,rfl⟩
  have hsz:ndFs pre+ndF s<=2000000:=by
   have:=hnd;rw[hLe,qgM,ndFs] at this;omega
  have hnew:s.name ∉ known.map (·.name):=by
   rw[hkn];have:=hnf;rw[hLe,zMa,zMc] at this;intro hm;exact(List.nodup_append.1 this).2.2 _ hm _ zMs rfl
  rw[qfO] at hE;rw[qjL] at hS;refine gak ?_;refine oP (xR (el':=qbm s) (cs:=[_,_,_,_]) rfl rfl zo (by rw[hLe];exact get_mid qbm pre s l2) rfl rfl) rfl<|gad ?_;refine oS (zsA λb7=>?_) rfl;refine gaa ?_;refine oS (S.callE (F:=[_,_]) [_,_] rfl (zPc (l₁:=[_,_])) (qlO (vars:=vars) (arrays:=arrays.map (·.1)) (later:=fs.map (·.name)) (known:=known) (k:={ k with name:=nm,G:=G1,g1:=g1,V:=V1,g2:=g2,A:=A1,g3:=g3,F:=F1,g4:=g4 }) (o:=o1) (d:=d1) s hG1 hV1 hA1 hF hnew hB zo zo zo) (λH2 h0 hP=>?_) (λnm h0 e' he'=>?_)) rfl;rotate_left;refine gae ?_;exact panE (he'.trans (hj2.trans hds)) (by rw[<-hI2,<-hE,qkC (a:=orE _ _) (by rw[qkC h0];exact h0),qkC h0]) h0;obtain⟨nm',o',d',F',g4',hF',rfl⟩:=hP;refine LOps.perm (zPc (l₂:=[_,_])) ?_;refine gaq ?_;refine⟨l2.length,_,_,lt_succ_self _,⟨pre++[s],l2,known++[sumF vars (arrays.map (·.1)) (fs.map (·.name)) known s],F',g4',nm',o',d',by rw[hLe];simp,rfl,rfl,rfl,hF',?_,by rw[<-hE,h0];rfl,hS,?_⟩,⟨rfl,rfl,rfl,rfl,qap (by simp),trivial⟩,zhD zhr,hj2⟩;rw[zMa,zMa,hkn];rfl;have h1:=qvS (vars:=vars) (arrays:=arrays.map (·.1)) (later:=fs.map (·.name)) (f:=s) hB;have h2:ndFs (pre++[s])=ndFs pre+ndF s:=by rw[qgM,ndFs,ndFs];rfl
  intro g hg;rw[h2,zLa,List.length_singleton];rcases List.mem_append.1 hg with hg|hg;obtain⟨a1,a2,a3⟩:=hB g hg;exact⟨by omega,by omega,by omega⟩;obtain rfl:=List.mem_singleton.1 hg;obtain⟨a1,a2,a3⟩:=h1;exact⟨by omega,by omega,by omega⟩
 have hlen:=zf hc;rw[zLm,hLe,zLa] at hlen
 obtain rfl:l1=[]:=by
  cases l1 with
  |nil=>rfl
  |cons a l2=>simp at hlen;omega
 have hFS0:FS=0:=by rw[<-hE];rfl
 have hknS:known=SS:=by rw[<-hS];rfl
 rw[hFS0] at hI2;have hI3:MN=E:=by rw[<-hI2];rfl
 clear hlen hc hb2 hLe hE;subst hknS;have hall:=qkG fs [] (hFS.trans hFS0)
 have hnn:∀ f∈fs,f.name.length<=1000/\∀ x∈f.params++f.locals,x.length<=1000:=λf hf=>by
  obtain⟨kk,hk⟩:=hall f hf;exact⟨qk1 (hnmok f.name (mem_append_right _ (mem_map_of_mem hf))),qqR hk⟩
 have hsm:∀ f∈fs,SmF f:=λf hf=>qsu (zNt (qiK hf) hnd);have hds2:=hj2.trans hds;unfold qtr at hMN;refine gaa ?_
 cases hfl:fs.getLast? with
 |none=>
  have hf0:fs=[]:=List.getLast?_eq_none_iff.1 hfl;rw[hfl] at hMN;refine zoB 105 rfl (λh=>absurd (zt h) (by rw[hf0];decide)) (λ_=>?_);refine gab ?_;refine oS (zsK (H1:=[]) (F:=_) [_,_,_] rfl zpr (qav false [109,97,105,110] 9 zDd) (λh=>absurd h zDd) (λnm _ e' he'=>?_)) rfl;refine gal ?_
  exact panE (he'.trans hds2) (hI3.symm.trans hMN.symm) zDd
 |some f=>
  obtain⟨ys,hys⟩:=List.getLast?_eq_some_iff.1 hfl;have hln:(fs.map qbm).length=ys.length+1:=by rw[zLm,hys,zLa];rfl
  have hl6:(fs.map qbm).length<=2000000:=by rw[zLm];exact hf6
  have hn0:(0:Int)<=((fs.map qbm).length:Int)-1:=by omega
  have hget:(fs.map qbm)[(((fs.map qbm).length:Int)-1).toNat]? = some (qbm f):=by
   rw[show(((fs.map qbm).length:Int)-1).toNat=ys.length by omega,hys,zMa];rw[List.getElem?_append_right (by rw[zLm];exact zNr _),zLm,Nat.sub_self];rfl
  have hnms:known.map (·.name)=fs.map (·.name):=by
   rw[<-hSS,qju];rfl
  obtain⟨m,hm⟩:∃ m,known.getLast? = some m:=by
   cases hx:known.getLast? with
   |some m=>exact⟨m,rfl⟩
   |none=>
    rw[List.getLast?_eq_none_iff.1 hx,hys] at hnms;simp at hnms
  have hmf:m.name=f.name:=by
   have h1:=congrArg List.getLast? hnms;rw[List.getLast?_map,List.getLast?_map,hm,hfl] at h1;exact Option.some.inj h1
  have hfind:=qr8 (by rw[hnms];exact hnf) hm;rw[hfl,hm] at hMN
  replace hMN:(if f.name=[109,97,105,110]/\f.params=[] then (if (qai vars fs).length<=8000/\m.need<=200/\m.depth<=60 then 0 else 6) else 9)=MN:=hMN
  rw[hI3] at hMN;refine zoB 105 rfl (λ_=>?_) (λh=>absurd (show((fs.map qbm).length:Int) > 0 by omega) (zf h));refine gad ?_
  first|refine LOps.want rfl rfl ?_|skip
  refine zQ34 ?_;refine zoB 115 rfl (λh1=>?_) (λh1=>?_);rotate_left;rw[zn (λh=>zf h1 h.1)] at hMN;refine gab ?_;refine oS (zsK (H1:=[]) (F:=_) [_,_,_] rfl zpr (qav false [109,97,105,110] 9 zDd) (λh=>absurd h zDd) (λnm _ e' he'=>?_)) rfl;refine gal ?_;exact panE (he'.trans hds2) hMN.symm zDd;have hmain:f.name=[109,97,105,110]:=zt h1;refine gad ?_
  first|refine LOps.want rfl rfl ?_|skip
  refine zQ34 ?_;refine zoB 125 rfl (λh2=>?_) (λh2=>?_);rotate_left;rw[zn (λh=>zf h2 (by rw[h.2];rfl))] at hMN;refine oS (zsK (H1:=[]) (F:=_) [_,_,_] rfl zpr (qav false [109,97,105,110] 9 zDd) (λh=>absurd h zDd) (λnm _ e' he'=>?_)) rfl;refine gal ?_;exact panE (he'.trans hds2) hMN.symm zDd
  have hpar:f.params=[]:=by
   have h3:=zt h2;rw[zLm] at h3;exact List.length_eq_zero_iff.1 zo
  rw[zp ⟨hmain,hpar⟩] at hMN;refine oS (zsK (H1:=[]) (F:=_) [_,_,_] rfl zpr (qav true [109,97,105,110] 9 zDd) (λ_=>?_) (λnm h=>absurd rfl h)) rfl
  have hgF:GL.kvGet F1 [109,97,105,110]=some (qjs m):=by
   rw[hF,<-hmain,<-hmf,hfind];rfl
  refine gaa ?_;refine oP (Pure.kvHit rfl rfl zm5 hgF) rfl<|oS (zsA λb16=>?_) rfl;refine gaa ?_;refine oS (sF [_] rfl (scalars_specG (.list (arrays.map encArG)) hv6 hf6 hsm hnn) ?_) rfl;refine gad ?_;refine zoB 136 rfl (λh3=>?_) (λh3=>?_);rotate_left;have hbad:¬ ((qai vars fs).length<=8000/\m.need<=200/\m.depth<=60):=λh=>zf h3 (by rw[zLm];have:=h.1;omega);rw[zn hbad] at hMN;refine gab ?_;refine oS (zsK (H1:=[]) (F:=_) [_,_,_] rfl zpr (qav false [109,97,105,110] 6 zDd) (λh=>absurd h zDd) (λnm _ e' he'=>?_)) rfl;exact panE (he'.trans hds2) hMN.symm zDd
  have h3':(qai vars fs).length<=8000:=by
   have:=zt h3;rw[zLm] at this;omega
  refine gad ?_;refine zoB 141 rfl (λh4=>?_) (λh4=>?_);rotate_left;have hbad:¬ ((qai vars fs).length<=8000/\m.need<=200/\m.depth<=60):=λh=>zf h4 (by have:=h.2.1;omega);rw[zn hbad] at hMN;refine gab ?_;refine oS (zsK (H1:=[]) (F:=_) [_,_,_] rfl zpr (qav false [109,97,105,110] 6 zDd) (λh=>absurd h zDd) (λnm _ e' he'=>?_)) rfl;exact panE (he'.trans hds2) hMN.symm zDd
  have h4':m.need<=200:=by
   have:=zt h4;omega
  refine gad ?_;refine zoB 145 rfl (λh5=>?_) (λh5=>?_);rotate_left;have hbad:¬ ((qai vars fs).length<=8000/\m.need<=200/\m.depth<=60):=λh=>zf h5 (by have:=h.2.2;omega);rw[zn hbad] at hMN;refine oS (zsK (H1:=[]) (F:=_) [_,_,_] rfl zpr (qav false [109,97,105,110] 6 zDd) (λh=>absurd h zDd) (λnm _ e' he'=>?_)) rfl;exact panE (he'.trans hds2) hMN.symm zDd
  have h5':m.depth<=60:=by
   have:=zt h5;omega
  rw[zp ⟨h3',h4',h5'⟩] at hMN;refine oS (zsK (H1:=[]) (F:=_) [_,_,_] rfl zpr (qav true [109,97,105,110] 6 zDd) (λ_=>?_) (λnm h=>absurd rfl h)) rfl;refine gaf ?_;exact qw0 hds2 rN hMN.symm rfl zhn rfl
end
section
variable{C:Ctx}{e:Env}{H:Heap}{dst:Option Nat}{ty:TypeId}{pos:String}{aft:Array Edge}{g:Option (Nat×Bool)}{x:Operand}
theorem Pure.assertNil{t xT:TypeId} [ht:TConcrete C.P t]{zs:List Value}(hz:∀ w,(zeroValue t).run C.P w=.ok (.agg zs.toArray) w)(hx:e.ev x=.atom .nilIface):Go.GL.Pure C ⟨dst,.typeAssert x xT t true,ty,pos,aft,g⟩ e H (.tuple [.agg (zs.map .atom),bool false]):=
 .of_any λρ w L h=>⟨.tuple #[.agg zs.toArray,.bool false],by
  simp only[Rep];exact⟨[.agg zs.toArray,.bool false],rfl,by simp only[RepL,Rep];exact⟨_,_,rfl,⟨zs,rfl,qa4 zs⟩,_,_,rfl,rfl,rfl⟩⟩,λw'=>by
  obtain⟨d,hd,hm⟩:=ht.out;have h3:execOp ρ ⟨dst,.typeAssert x xT t true,ty,pos,aft,g⟩=(do Pure.pure (.value (<-Instr.typeAssert (ρ x) xT t true))):=rfl;rw[h3,qaf h hx];simp only[Instr.typeAssert,zRB,qaa hd,zRO]
  cases d <;> simp_all [zRB]⟩
end
theorem qur(w:World):(zeroValue 120).run Tryz.prog w=.ok (.agg [.string ⟨#[]⟩,.int .i64 0].toArray) w:=
 (Go.zero_of_info (P:=Tryz.prog) (n:=2) zk).1 w
attribute [local irreducible] qcf qaU qea qbq
section
variable{B0:Nat}{w0:World}
theorem qup(b2 b3:Nat)(c d:LV):qbq (KC B0 w0) 77 [ptr b2 0,ptr b3 0] .returning [(b2,.cells 9 [c]),(b3,.cells 23 [d])]
  (λu H=>u=.returning/\H=[(b2,.cells 9 [c]),(b3,.cells 23 [d])]):=by
 refine qbq.intro Tryz.func77 rfl (n:=19) rfl rfl rfl ?_;refine zQ23 ?_;refine gag ?_;refine oP (Pure.assertNil qur rfl) rfl<|gad ?_;refine oS (zsA λb5=>?_) rfl;refine gaa ?_;refine zoC rfl (λhc=>?_) (λhc=>?_);cases hc;refine gaa ?_;refine zoC rfl (λhc=>?_) (λhc=>?_);cases hc;refine gab ?_;exact⟨rfl,_,zhD zhr,rfl,rfl⟩
theorem qtP(b2 b3:Nat)(c d:LV)(nm:List UInt8)(er:Int):qbq (KC B0 w0) 77 [ptr b2 0,ptr b3 0] (.panicking (vio nm er)) [(b2,.cells 9 [c]),(b3,.cells 23 [d])]
  (λu H=>settle u=.returning/\H=[(b2,.cells 9 [str nm]),(b3,.cells 23 [int .i64 er])]):=by
 refine qbq.intro Tryz.func77 rfl (n:=19) rfl rfl rfl ?_;refine zQ23 ?_;refine gag ?_;refine oP (Pure.assertOk (vs:=[.string ⟨nm.toArray⟩,.int .i64 er]) rfl) rfl<|gad ?_;refine oS (zsA λb5=>?_) rfl;refine gaa ?_;refine zoC rfl (λhc=>?_) (λhc=>?_)
 ·skip
  refine cD (m:=6) rfl [(b5,.cells 120 [str nm,int .i64 er])]<|aT 0 rfl rfl (pF rfl)<|aT 1 rfl rfl (pL (c:=.atom _) rfl zm0 rfl)<|aT 2 rfl rfl (pF rfl)<|aT 3 rfl rfl (pL (c:=.atom _) rfl zm0 rfl)<|aL ?_ zhp;refine lO 4 (lS (H1:=[(b2,.cells 9 [c])]) (F:=[(b5,.cells 120 [str nm,int .i64 er]),(b3,.cells 23 [d])]) rfl (.inl rfl) rfl zp1 zhp (sS (cs':=[_]) rfl pH rfl rfl rfl rfl rfl ?_));refine lO 5 (lS (H1:=[(b3,.cells 23 [d])]) (F:=[(b2,.cells 9 [str nm]),(b5,.cells 120 [str nm,int .i64 er])]) rfl (.inl rfl) rfl zp2 (zhP zp1 zhn) (sS (cs':=[_]) rfl pH rfl rfl rfl rfl rfl ?_));refine lD zk ?_;exact⟨rfl,_,zhP zp1 zhp,rfl,rfl⟩
 cases hc
theorem check_spec(vars:List Nm)(arrays:List (Nm×Int))(fs:List FnD)(hv6:vars.length<=2000000)(ha6:arrays.length<=2000000)(har:∀ a∈arrays,-9223372036854775808<=a.2/\a.2<9223372036854775808)(hnd:ndFs fs<=2000000) :
  LCalls (KC B0 w0) 36 [encPrG vars arrays fs] [] (λr H=>H=[]/\∃ nm,r=.ret (.tuple [str nm,int .i64 (qc3 vars arrays fs)])):=by
 generalize hE:qc3 vars arrays fs=E;refine LCalls.introD Tryz.func36 rfl (n:=15) rfl rfl rfl ?_;refine zQ32 ?_;refine gah ?_;refine oS (zsB rfl λb1=>oS (zsA λb2=>?_) rfl) rfl;refine oS (zsA λb3=>?_) rfl;refine gaf ?_;refine zQ25 ?_;refine qcf.defer rfl rfl ?_;refine zQ41 ?_;refine zQ32 ?_;refine gah ?_;refine oS (S.kvNew λgm=>oS (S.kvNew λvm=>?_) rfl) rfl;refine oS (S.kvNew λam=>oS (S.kvNew λfm=>?_) rfl) rfl;refine gad ?_;refine oS (zsB rfl λcb=>?_) rfl;refine LOps.weak (H':=pgH ⟨cb,gm,vm,am,fm,0,[],[],[],[],[],0,0,0,0,0,[]⟩ (.map none) 0++[(b3,.cells 23 [int .i64 0]),(b2,.cells 9 [str []]),(b1,.cells 43 [.list (vars.map str),.list (arrays.map encArG),.list (fs.map qbm)])]) ?_ ?_
 ·repeat first
   |exact HSub.nil _
   |refine zhP zb1 ?_
 refine gaf ?_;refine zQ25 ?_;refine qcf.step (S.callE (F:=[_,_,_]) [_,_] rfl zpr (qb4 (k:=⟨cb,gm,vm,am,fm,0,[],[],[],[],[],0,0,0,0,0,[]⟩) (o:=.map none) (d:=0) vars arrays fs rfl rfl rfl rfl hv6 ha6 har hnd) (λH2 h0 hP=>?_) (λnm h0=>?_)) rfl
 ·subst hP;rw[hE] at h0;subst h0;refine zQ41 ?_;refine qaU.seq (qaU.region ?_);refine qcf.step (sS (cs':=[_]) rfl zp1 rfl rfl rfl rfl rfl ?_) rfl;refine qcf.step (sS (cs':=[_]) rfl zp1 rfl rfl rfl rfl rfl ?_) rfl;refine zQ41 ?_;refine qaU.ret ?_
  exact qb8.ret1 (vs:=[str [],int .i64 0]) (H1:=[(b2,.cells 9 [str []]),(b3,.cells 23 [int .i64 0])]) (F:=[_]) (H2:=[(b2,.cells 9 [str []]),(b3,.cells 23 [int .i64 0])]) rfl (List.Perm.swap _ _ _) (qup b2 b3 _ _)
   (rC (qdb.cellOne rfl zm0 rfl zsr) (rC (qdb.cellOne rfl zm1 rfl zsr) rN)) zhn ⟨rfl,[],rfl⟩
 rw[hE] at h0 ⊢;refine qaz.panic ?_
 exact qb8.panic1 (vs:=[str nm,int .i64 E]) (H1:=[(b2,.cells 9 [str []]),(b3,.cells 23 [int .i64 0])]) (F:=[_]) (H2:=[(b2,.cells 9 [str nm]),(b3,.cells 23 [int .i64 E])]) rfl (List.Perm.swap _ _ _) (qtP b2 b3 _ _ nm E)
  (rC (qdb.cellOne rfl zm0 rfl zsr) (rC (qdb.cellOne rfl zm1 rfl zsr) rN)) zhn ⟨rfl,nm,rfl⟩
end
end Go.Proofs.YtkihibnffkpnkaaGreatDoor.Chk
namespace Go.Proofs.YtkihibnffkpnkaaGreatDoor.Cmp
open Go.GL Go.RowKit Go.Stele
open Go.Lib (decDigits itoa join)
variable{A:Heap}
structure TB where
 tb:Nat
 sm:Nat
 am:Nat
 S:KV
 A:KV
 g1:Nat
 g2:Nat
 sc:Nat
def TrH(k:TB)(own:Nm)(ws:List Wd)(n:Nat)(H:Heap):Prop:=∃ v Hv,GL.Acc 1 v (ws.map str) Hv []/\H=(k.tb,.cells 132 [v,int .i64 (n:Nat),int .i64 (k.sc:Nat),.atom (.map (some k.sm)),.atom (.map (some k.am)),str own])::(k.sm,.map (kvs k.S) k.g1)::(k.am,.map (kvs k.A) k.g2)::Hv
def qhV(P:Heap->Prop):LRes->Heap->Prop:=λr H=>r=.ret (.tuple [])/\P H
def qmJ(s:List UInt8)(P:Heap->Prop):LRes->Heap->Prop:=λr H=>r=.ret (str s)/\P H
structure TBok(k:TB)(c:CC)(own:Nm):Prop where
 sc:∀ name,∃ a:Nat,a<=1000000000/\c.sc name=decDigits a/\((∃ v,GL.kvGet k.S (own++[46]++name)=some v/\v=int .i64 (a:Nat))∨(GL.kvGet k.S (own++[46]++name)=none/\(GL.kvGet k.S name).getD (int .i64 0)=int .i64 (a:Nat)))
 ar:∀ name,∃ a:Nat,a<=1000000000/\c.ar name=decDigits a/\(GL.kvGet k.A name).getD (int .i64 0)=int .i64 (a:Nat)
 t0:c.t0=decDigits k.sc
 t1:c.t1=decDigits (k.sc+1)
 t2:c.t2=decDigits (k.sc+2)
 small:k.sc<=1000000000
 own:own.length<=1000000
theorem perm3{x y z:Nat×LObj}:(x::y::z::A).Perm (A++[x,y,z]):=zPc (l₁:=[x,y,z])
theorem qa7{x:Nat×LObj}:(x::A).Perm (A++[x]):=(List.perm_append_singleton _ _).symm
theorem qew{x y:Nat×LObj}:(x::y::A).Perm (A++[x,y]):=zPc (l₁:=[x,y])
theorem qnB:A.Perm (A++[]):=by rw[zLz]
theorem qcz{x:Nat×LObj}:HSub A (x::A):=zhD zhr
theorem qiw{x y:Nat×LObj}:HSub A (x::y::A):=zhD (zhD zhr)
theorem qsR{x:Nat×LObj}:HSub [x] (x::A):=zhP pH zhn
theorem qiy{x y:Nat×LObj}:HSub [x,y] (x::y::A):=zhP pH zhp
theorem qoA{x:Nat×LObj}:HSub (x::A) (A++[x]):=⟨[],by rw[zLz];exact qa7.symm⟩
theorem qpN{x y:Nat×LObj}:HSub (x::y::A) (A++[x,y]):=⟨[],by rw[zLz];exact qew.symm⟩
theorem qsF{m:Nat}(h:m<4294967296):IntKind.u64.wrap (m:Int)=m:=by
 simp only[IntKind.wrap,IntKind.bits,IntKind.signed,Bool.false_and]
 simp
 omega
section
variable{C:Ctx}{e:Env}{H:Heap}{dst:Option Nat}{ty:TypeId}{pos:String}{aft:Array Edge}{g:Option (Nat×Bool)}{K:LV->Heap->Prop}{X:List PanicEntry->Heap->Prop}
theorem zsT{f:FuncId} [TEnter C.P f](args:List Operand){ats:Array TypeId}{avs:List LV}{P:Heap->Prop}{H1 F:Heap}(has:args.map e.ev=avs)(hp:H.Perm (H1++F))(hc:LCalls C f avs H1 (qhV P))(hk:∀ H',P H'->K (.tuple []) (F++H')) :
  qae C ⟨dst,.call { callee:=.value (.func f),args:=args.toArray,argTypes:=ats },ty,pos,aft,g⟩ e H K X:=
 qae.conseq (K:=λlv H''=>∃ H',H''=H'++F/\P H'/\lv=.tuple []) (S.callH args has hp hc (by rintro v H' ⟨h,h2⟩;cases h;exact⟨H',rfl,h2,rfl⟩) (by rintro ch H' ⟨h,_⟩;cases h))
  (by rintro lv H'' ⟨H',rfl,hP,rfl⟩;exact⟨_,F++H',vR _,⟨[],by rw[zLz];exact zPc⟩,hk H' hP⟩)
theorem Pure.kvOr{t el:TypeId}{zv:Value}{zl lv:LV} [h:TMap C.P t el zv zl]{x y:Operand}{b clock:Nat}{m:KV}{s:List UInt8}(hm:e.ev x=.atom (.map (some b)))(hx:e.ev y=str s)(hb:(b,.map (kvs m) clock)∈H)(hg:(GL.kvGet m s).getD zl=lv) :
  GL.Pure C ⟨dst,.lookup t x y false,ty,pos,aft,g⟩ e H lv:=by
 obtain⟨kt,h1,h2⟩:=h.und;exact hg▸GL.Pure.kvGet h1 h2 h.zero h.rep hm hx hb
theorem S.callS{f:FuncId} [TEnter C.P f](args:List Operand){ats:Array TypeId}{avs:List LV}{P:Heap->Prop}{s:List UInt8}{H1 F:Heap}(has:args.map e.ev=avs)(hp:H.Perm (H1++F))(hc:LCalls C f avs H1 (qmJ s P))(hk:∀ H',P H'->K (str s) (F++H')) :
  qae C ⟨dst,.call { callee:=.value (.func f),args:=args.toArray,argTypes:=ats },ty,pos,aft,g⟩ e H K X:=
 qae.conseq (K:=λlv H''=>∃ H',H''=H'++F/\P H'/\lv=str s) (S.callH args has hp hc (by rintro v H' ⟨h,h2⟩;cases h;exact⟨H',rfl,h2,rfl⟩) (by rintro ch H' ⟨h,_⟩;cases h))
  (by rintro lv H'' ⟨H',rfl,hP,rfl⟩;exact⟨_,F++H',vR _,⟨[],by rw[zLz];exact zPc⟩,hk H' hP⟩)
theorem S.callTV{fo:Operand}{f:FuncId} [TEnter C.P f]{first caps:Array Value}(args:List Operand){ats:Array TypeId}{avs:List LV}{P:Heap->Prop}{H1 F:Heap}(hf:e.ev fo=.atom (.func (.func f) first caps))
  (has:first.toList.map .atom++args.map e.ev++caps.toList.map .atom=avs) (hp:H.Perm (H1++F)) (hc:LCalls C f avs H1 (qhV P)) (hk:∀ H',P H'->K (.tuple []) (F++H')) :
  qae C ⟨dst,.call { callee:=.value fo,args:=args.toArray,argTypes:=ats },ty,pos,aft,g⟩ e H K X:=
 qae.conseq (K:=λlv H''=>∃ H',H''=H'++F/\P H'/\lv=.tuple []) (S.callV args hf has hp hc (by rintro v H' ⟨h,h2⟩;cases h;exact⟨H',rfl,h2,rfl⟩) (by rintro ch H' ⟨h,_⟩;cases h))
  (by rintro lv H'' ⟨H',rfl,hP,rfl⟩;exact⟨_,F++H',vR _,⟨[],by rw[zLz];exact zPc⟩,hk H' hP⟩)
end
attribute [local irreducible] LOps qag qae LCalls Go.GL.Pure qaz qam qad LQ LAny qaI qan LS
section
variable{B0:Nat}{w0:World}{k:TB}{own:Nm}{c:CC}{ws:List Wd}{n:Nat}{H:Heap}
theorem qaC(h:TrH k own ws n H)(W:List Wd){a:LV}(ha:GL.elems a=some (W.map str))(hr:ws.length+W.length<=1000000000):LCalls (KC B0 w0) 139 [ptr k.tb 0,a] H (qhV (TrH k own (ws++W) n)):=by
 obtain⟨v,Hv,hacc,rfl⟩:=h;have h1:(ws.map str).length=ws.length:=zLm _;have h2:(W.map str).length=W.length:=zLm _;refine zcI Tryz.func139 rfl (n:=13) rfl rfl rfl ?_;refine gac ?_;refine oP (pL (c:=v) rfl zm0 rfl) rfl<|oP (pM (lv:=a) rfl) rfl<|oS (sG perm3 rfl hacc ha (qey W) (qgB W) zo λv' H' hacc'=>?_) rfl;refine gab ?_;refine oS (sS (cs':=[v',int .i64 (n:Nat),int .i64 (k.sc:Nat),.atom (.map (some k.sm)),.atom (.map (some k.am)),str own]) rfl pH (Acc.cell hacc').1 rfl rfl (Acc.cell hacc').2 rfl ?_) rfl;refine gaf ?_;exact rO rfl rN zhr ⟨rfl,v',H',by rw[zMa];exact hacc',rfl⟩
theorem qf6(hG:GW B0 w0)(h:TrH k own ws n H)(hn:n<=1000000000000):LCalls (KC B0 w0) 207 [ptr k.tb 0] H (qmJ (labW n) (TrH k own ws (n+1))):=by
 obtain⟨v,Hv,hacc,rfl⟩:=h
 have hd:(Go.Lib.decDigits n).length<=20:=by
  rw[Go.Lib.decDigits_length];exact zNt (qf1 12 n zo) zDd
 refine zcI Tryz.func207 rfl (n:=18) rfl rfl rfl ?_;refine gac ?_;refine oS (sF [_] rfl (qdr hG n zo) ?_) rfl;refine gaa ?_
 first|(refine oS (sS (cs':=[_,_,_,_,_,_]) rfl pH rfl rfl rfl rfl rfl ?_) rfl)|skip
 refine gac ?_;exact rR rfl (zra rfl) zhr ⟨rfl,v,Hv,hacc,rfl⟩
theorem qde(hG:GW B0 w0)(hk:TBok k c own)(h:TrH k own ws n H)(name:List UInt8)(hn:name.length<=1000000):LCalls (KC B0 w0) 141 [ptr k.tb 0,str name] H (qmJ (c.sc name) (TrH k own ws n)):=by
 obtain⟨a,ha1,ha2,ha3⟩:=hk.sc name;have ho:=hk.own;have h0:=h;obtain⟨v,Hv,hacc,rfl⟩:=h;rw[ha2];refine zcI Tryz.func141 rfl (n:=32) rfl rfl rfl ?_;refine gar ?_;refine zQ29 ?_;rcases ha3 with⟨v3,hv3,rfl⟩|⟨hv3,hv4⟩;refine qP (Pure.kvHit2 rfl rfl zm1 hv3) rfl ?_;refine gaa ?_;refine zoC rfl (λhc=>?_) (λhc=>?_);refine gag ?_;refine oS (sF [_] rfl (qdr hG a zo) ?_) rfl;refine gab ?_;exact rR rfl (zra rfl) zhr ⟨rfl,h0⟩;cases hc;refine qP (Pure.kvMiss2 rfl rfl zm1 hv3) rfl ?_;refine gaa ?_;refine zoC rfl (λhc=>?_) (λhc=>?_);cases hc;refine gac ?_;refine oP (Pure.kvOr rfl rfl zm1 hv4) rfl<|oS (sF [_] rfl (qdr hG a zo) ?_) rfl;refine gaf ?_;exact rR rfl (zra rfl) zhr ⟨rfl,h0⟩
theorem qdl(hG:GW B0 w0)(hk:TBok k c own)(h:TrH k own ws n H)(i:Nat)(hi:i<=2):LCalls (KC B0 w0) 140 [ptr k.tb 0,int .i64 (i:Nat)] H (qmJ (decDigits (k.sc+i)) (TrH k own ws n)):=by
 have h0:=h;obtain⟨v,Hv,hacc,rfl⟩:=h;have hs:=hk.small;have e1:int .i64 ((k.sc:Int)+(i:Int))=int .i64 ((k.sc+i:Nat):Int):=qap zo;refine zcI Tryz.func140 rfl (n:=12) rfl rfl rfl ?_;refine gac ?_;refine oS (sF [_] (by show [_]=_;exact congrArg (λx=>[x]) e1) (qdr hG (k.sc+i) zo) ?_) rfl;refine gaf ?_;exact rR rfl (zra rfl) zhr ⟨rfl,h0⟩
theorem qig(hG:GW B0 w0)(hk:TBok k c own)(h:TrH k own ws n H)(hr:ws.length+(qa0 c).length<=1000000000):LCalls (KC B0 w0) 242 [ptr k.tb 0] H (qhV (TrH k own (ws++qa0 c) n)):=by
 have e:qa0 c=[c.t2,[33],c.t1,[33],c.t2,[64],c.t1,[64],[60]]:=rfl;rw[e] at hr ⊢;rw[hk.t1,hk.t2];rw[hk.t1,hk.t2] at hr;refine zcI Tryz.func242 rfl (n:=15) rfl rfl rfl ?_;refine gag ?_;refine oS (S.callS (F:=[]) [_,_] rfl qnB (qdl hG hk h 1 zDd) λH1 h1=>?_) rfl;refine gaj ?_;refine oS (S.callS (H1:=H1) (F:=[]) [_,_] rfl qnB (qdl hG hk h1 2 zDd) λH2 h2=>?_) rfl;refine gao ?_;refine oS (sL [_,_,_,_,_,_,_,_,_] rfl (qaY [_,_,_,_,_,_,_,_,_]) rfl rfl rfl<|oS (zsT (H1:=H2) (F:=[]) [_,_] rfl qnB (qaC h2 [_,_,_,_,_,_,_,_,_] rfl hr) λH3 h3=>?_) rfl) rfl;refine gaf ?_;exact rO rfl rN zhr ⟨rfl,h3⟩
end
structure EnvOk(env:CEnv):Prop where
 sc:∀ s,qcg env s=0->s.length<=24
 fn:∀ k∈env.funcs,k.name.length<=24
theorem EnvOk.call{env:CEnv}(h:EnvOk env){name:Nm}{m:Nat}(hc:callE env name m=0):name.length<=24:=by
 unfold callE at hc;split at hc
 rename_i e;rw[e];decide
 split at hc
 rename_i e;rw[e];decide
 unfold CEnv.fn at hc
 cases hf:env.funcs.find? λf=>decide (f.name=name) with
 |none=>
  rw[hf] at hc;simp only at hc
  split at hc <;> cases hc
 |some k=>
  have e:k.name=name:=zt (List.find?_some (p:=λg:FSum=>decide (g.name=name)) hf);rw[<-e];exact h.fn k (List.mem_of_find?_eq_some hf)
section
variable{C:Ctx}{e:Env}{H:Heap}{dst:Option Nat}{ty:TypeId}{pos:String}{aft:Array Edge}{g:Option (Nat×Bool)}{K:LV->Heap->Prop}{X:List PanicEntry->Heap->Prop}
theorem qae.callT{f:FuncId} [TEnter C.P f](args:List Operand){ats:Array TypeId}{avs:List LV}{P:Heap->Prop}(has:args.map e.ev=avs)(hc:LCalls C f avs H (qhV P))(hk:∀ H',P H'->K (.tuple []) H') :
  qae C ⟨dst,.call { callee:=.value (.func f),args:=args.toArray,argTypes:=ats },ty,pos,aft,g⟩ e H K X:=
 qae.conseq (zsT (F:=[]) (K:=λlv H'=>K lv H') (X:=X) args has (by rw[zLz]) hc (λH' h=>hk H' h)) (λlv H' h=>⟨lv,H',vR _,zhR _,h⟩)
end
section
variable{B0:Nat}{w0:World}
abbrev exB(b:Nat)(op:Nm)(num:Nat)(name:Nm)(args:List Ex):Nat×LObj:=(b,.cells 202 [str op,int .u32 (num:Int),str name,.list (args.map encE)])
def qnv(B0:Nat)(w0:World)(k:TB)(own:Nm)(c:CC)(env:CEnv)(m:Nat):Prop:=∀ (x:Ex) (ws:List Wd) (n:Nat) (H:Heap),ndE x<=m->numE x->errE env x=0->TrH k own ws n H->ws.length+(exW c x).length<=1000000000->LCalls (KC B0 w0) 178 [ptr k.tb 0,encE x] H (qhV (TrH k own (ws++exW c x) n))
theorem qln{k:TB}{own:Nm}{c:CC}{env:CEnv}{m:Nat}(ih:qnv B0 w0 k own c env m)(l:List Ex)(ws:List Wd)(n:Nat)(H:Heap)(hm:ndEs l<=m)(hl:l.length<=2000000)(hnum:qcX l)(he:qbs env l=0)(h:TrH k own ws n H)(hr:ws.length+(exWl c l).flatten.length<=1000000000) :
  LCalls (KC B0 w0) 205 [ptr k.tb 0,.list (l.map encE)] H (qhV (TrH k own (ws++(exWl c l).flatten) n)):=by
 have hall:(l.map encE).length=l.length:=zLm _;refine zcI Tryz.func205 rfl (n:=16) rfl rfl rfl ?_;refine gaa ?_
 refine zoL (λkk ls H'=>∃ (pre l1:List Ex) (ws':List Wd),l=pre++l1/\kk=l1.length/\ls=[(0,ptr k.tb 0),(6,.list (l.map encE)),(7,int .i64 ((l.map encE).length:Int)),(8,int .i64 (pre.length:Int))]/\TrH k own ws' n H'/\ws'++(exWl c l1).flatten=ws++(exWl c l).flatten/\qbs env l1=0/\qcX l1)
  ⟨l.length,_,_,⟨[],l,ws,rfl,rfl,rfl,h,rfl,he,hnum⟩,⟨rfl,rfl,rfl,rfl,trivial⟩,zhR _⟩ ?_
 rintro kk ls H' ⟨pre,l1,ws',hLe,rfl,rfl,hT,hW,he1,hn1⟩ j hj
 have hb2:pre.length<=2000000:=by
  have:=congrArg List.length hLe;rw[zLa] at this;omega
 refine gai ?_;refine zoC rfl (λhc=>?_) (λhc=>?_);have hlen:=zt hc;rw[zLm,hLe,zLa] at hlen
 obtain⟨a,l2,rfl⟩:∃ a l2,l1=a::l2:=by
  cases l1 with
  |nil=>simp at hlen
  |cons a l2=>exact⟨a,l2,rfl⟩
 have ham:ndE a<=ndEs l:=qlm (by rw[hLe];exact mem_append_right _ zMs);rw[qbs] at he1;rw[qcX] at hn1;rw[exWl,List.flatten_cons,<-zAs] at hW;obtain⟨h1,h2⟩:=qah.1 he1;have hlw:=congrArg List.length hW;rw[zLa,zLa,zLa] at hlw;refine gak ?_;refine oP (xR (el':=encE a) (cs:=[_,_,_,_]) rfl rfl zo (by rw[hLe];exact Chk.get_mid encE pre a l2) rfl rfl) rfl<|gad ?_;refine oS (zsA λb8=>?_) rfl;refine gaa ?_;refine oS (zsT (H1:=H') (F:=[_]) [_,_] rfl qa7 (ih a ws' n H' zo hn1.1 h1 hT zo) λH2 hT2=>?_) rfl;refine gaq ?_;exact⟨l2.length,_,_,lt_succ_self _,⟨pre++[a],l2,ws'++exW c a,by rw[hLe];simp,rfl,rfl,hT2,hW,h2,hn1.2⟩,⟨rfl,rfl,rfl,qap (by simp),trivial⟩,qcz,hj⟩;have hlen:=zf hc;rw[zLm,hLe,zLa] at hlen
 obtain rfl:l1=[]:=by
  cases l1 with
  |nil=>rfl
  |cons a l2=>simp at hlen;omega
 rw[exWl,List.flatten_nil,zLz] at hW;refine gab ?_;exact rO hj rN zhr ⟨rfl,by rw[<-hW];exact hT⟩
theorem qm2{k:TB}{own:Nm}{c:CC}{env:CEnv}{m:Nat}(ih:qnv B0 w0 k own c env m)(b2 b3:Nat)(op:Nm)(num:Nat)(name:Nm)(x y:Ex)(ws:List Wd)(n:Nat)(H:Heap)(hx:ndE x<=m)(hy:ndE y<=m)(nx:numE x)(ny:numE y)(ex:errE env x=0)(ey:errE env y=0)(h:TrH k own ws n H)
  (A B:List Wd) {a b:LV} (ha:GL.elems a=some (A.map str)) (hb:GL.elems b=some (B.map str)) (hr:ws.length+(A++exW c x++B++exW c y).length<=1000000000) :
  LCalls (KC B0 w0) 241 [a,b,ptr b2 0,ptr b3 0] ((b2,.cells 129 [ptr k.tb 0])::exB b3 op num name [x,y]::H)
   (qhV (λH'=>∃ H2,H'=(b2,.cells 129 [ptr k.tb 0])::exB b3 op num name [x,y]::H2/\TrH k own (ws++(A++exW c x++B++exW c y)) n H2)):=by
 simp only[zLa] at hr;refine zcI Tryz.func241 rfl (n:=24) rfl rfl rfl ?_;refine gac ?_;refine oP (pM (lv:=a) rfl) rfl<|oS (zsT (H1:=H) (F:=[_,_]) [_,_] rfl qew (qaC h A ha zo) λH2 h2=>?_) rfl;refine gab ?_;refine zQ31 ?_;refine LAny.take (i:=3) qiy rfl zk zk zk rfl (xR (el':=encE x) (cs:=[_,_,_,_]) rfl rfl zDd rfl rfl rfl)<|aT 4 rfl rfl (pR (cs':=[_,_,_,_]) rfl rfl rfl)<|aL ?_ qiy;refine lO 5 (lS (H1:=H2) (F:=[_,_]) rfl (.inl rfl) rfl qew zhr (qae.callT [_,_] rfl (ih x _ n H2 hx nx ex h2 (by rw[zLa];omega)) λH3 h3=>?_));refine lD zk ?_;refine qN ?_;refine cW qpN ?_;refine gac ?_;refine oP (pM (lv:=b) rfl) rfl<|oS (zsT (H1:=H3) (F:=[_,_]) [_,_] rfl qew (qaC h3 B hb (by simp only[zLa];omega)) λH4 h4=>?_) rfl;refine gaf ?_;refine zQ31 ?_;refine LAny.take (i:=3) qiy rfl zk zk zk rfl (xR (el':=encE y) (cs:=[_,_,_,_]) rfl rfl zDd rfl rfl rfl)<|aT 4 rfl rfl (pR (cs':=[_,_,_,_]) rfl rfl rfl)<|aL ?_ qiy;refine lO 5 (lS (H1:=H4) (F:=[_,_]) rfl (.inl rfl) rfl qew zhr (qae.callT [_,_] rfl (ih y _ n H4 hy ny ey h4 (by simp only[zLa];omega)) λH5 h5=>?_));refine lD zk ?_
 exact rO rfl rN qpN ⟨rfl,H5,rfl,by
  simp only[zAs] at h5 ⊢
  exact h5⟩
end
end Go.Proofs.YtkihibnffkpnkaaGreatDoor.Cmp
