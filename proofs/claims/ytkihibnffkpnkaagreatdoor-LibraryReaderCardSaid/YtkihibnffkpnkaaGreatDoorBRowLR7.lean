import Derived.Test.YtkihibnffkpnkaaGreatDoorBRowLR6
set_option linter.unusedVariables false
set_option linter.unusedSimpArgs false
set_option maxRecDepth 100000
set_option maxHeartbeats 4000000
open List (not_mem_nil cons_append nil_append)
open Nat (add_assoc)
open Option (getD_some)
namespace Go.Stele.Wi
open Go.Lib
abbrev PM:=Go.Stele.PW
abbrev SM:=Go.Stele.MS
structure Lk(C:PM)(D:Nat->Bool):Prop where
 label:∀ (j:Nat) (w x:Wd),C.W[j]? = some w->defW w=some x->C.known x=C.plc j
 nb:∀ (j:Nat) (w x:Wd),C.W[j]? = some w->defW w=some x->qbb (C.pre j)=false
 data:∀ a,D a=true->a<262144/\(a<C.og∨C.og+(qcZ C.known C.W).length<=a)
def Spot(C:PM)(k:List Wd)(t:Nat)(f:Bool):Prop:=∃ i,k=C.W.drop i/\t=C.plc i/\qbb (C.pre i)=f
inductive All2 {A B:Type} (R:A->B->Prop):List A->List B->Prop
 |nil:All2 R [] []
 |cons {a:A} {b:B} {l:List A} {m:List B}:R a b->All2 R l m->All2 R (a::l) (b::m)
theorem All2.len{A B:Type}{R:A->B->Prop}{l:List A}{m:List B}(h:All2 R l m):l.length=m.length:=by
 induction h with
 |nil=>rfl
 |cons _ _ ih=>rw[zLc,zLc,ih]
structure Lnk(C:PM)(D:Nat->Bool)(s:MS)(m:SM):Prop where
 ok:C.Ok m.mem
 here:Spot C s.pc m.pc s.digit
 digit:m.digit=s.digit
 data:m.data=s.data
 calls:All2 (λk t=>Spot C k t false) s.calls m.calls
 mem:∀ a,D a=true->m.mem a=s.mem a
 inp:m.inp=s.inp
 out:m.out=s.out
section
variable{C:PM}{D:Nat->Bool}{s:MS}{m:SM}{i:Nat}{w x:Wd}{r:List Wd}
theorem qsn(h:w::r=C.W.drop i):C.W[i]? = some w/\r=C.W.drop (i+1):=by
 have h1:=congrArg (λl=>l[0]?) h;simp only[List.getElem?_cons_zero,List.getElem?_drop,Nat.add_zero] at h1;refine⟨h1.symm,?_⟩;rw[<-List.drop_drop,<-h]
 try rfl
theorem qpt(hw:C.W[i]? = some w)(hd:defW w=some x):C.plc (i+1)=C.plc i/\C.pre (i+1)=C.pre i:=by
 have h1:=C.pre_succ hw;have h2:addT C.known (C.pre i) w=C.pre i:=by unfold addT;rw[hd]
 rw[h2] at h1;refine⟨?_,h1⟩;unfold Go.Stele.PW.plc;rw[h1]
theorem qpW(hL:Lk C D){k:List Wd}(h:qby x C.W=some k):Spot C k (C.known x) false:=by
 obtain⟨p,w,h1,h2⟩:=qet h;have hw:C.W[p.length]? = some w:=by rw[h1,List.getElem?_append_right (zNr _)];simp
 obtain⟨e1,e2⟩:=qpt hw h2;refine⟨p.length+1,?_,?_,?_⟩
 ·conv=>rhs;rw[h1]
  rw[<-List.drop_drop,List.drop_left]
  try rfl
 rw[e1];exact hL.label _ _ _ hw h2;rw[e2];exact hL.nb _ _ _ hw h2
theorem qo8(hk:C.Ok m.mem)(hpc:m.pc=C.plc i)(hdg:qbb (C.pre i)=m.digit)(hw:C.W[i]? = some w)(hd:defW w=none)(hne:qaG C.known w≠[])(hg:∀ c∈qaG C.known w,qao c=true)(hv:valD 0 (qaG C.known w)<4294967296)(hroom:m.data.length<256) :
  Go.Stele.Stp ((qaG C.known w).length+one m.digit) m { m with pc:=C.plc (i+1),data:=valD 0 (qaG C.known w)::m.data,digit:=true }/\qbb (C.pre (i+1))=true:=by
 obtain⟨⟨h1,h2⟩,h3⟩:=C.digsX hk ⟨hpc,λh=>by rw[hdg];exact h⟩ hw hd hne hg hv hroom;refine⟨?_,h3⟩
 have hf:qbP (qaG C.known w)=true:=by
  cases hp:qaG C.known w with
  |nil=>exact absurd hp hne
  |cons c r=>exact hg c (by rw[hp];simp)
 have h4:=(C.piece hk hw hd).1
 have hplc:C.plc (i+1)=C.plc i+((qaG C.known w).length+one m.digit):=by
  unfold Go.Stele.PW.plc;rw[h4,zLa,zLa,hf,Bool.and_true,hdg];unfold one;cases m.digit <;> simp <;> omega
 rw[hplc,Nat.add_sub_cancel_left,<-hplc] at h2;exact h2
theorem qfT{m':SM}(h:Go.Stele.Stx 1 m m')(hne:m≠m'):Go.Stele.Stp 1 m m':=by
 obtain⟨k,h1,h2⟩:=h;rcases Nat.lt_or_ge k 1 with h0|h0;obtain rfl:k=0:=by omega
 cases h2;exact absurd rfl hne;obtain rfl:k=1:=by omega
 exact h2
theorem qiW{c:UInt8}(hk:C.Ok m.mem)(hc:c∈qcO)(hw:C.W[i]? = some [c]):C.plc (i+1)=C.plc i+1/\qbb (C.pre (i+1))=false:=by
 obtain⟨e1,e2,e3⟩:=qbo hc;refine⟨C.sign_plc hk hw e1 e2 e3,?_⟩;have h1:=(C.piece hk hw e1).1;have hp:qaG C.known [c]=[c]:=by unfold qaG;rw[e2]
 rw[h1,hp,qjQ (by simp)];unfold qbb;simp[e3]
theorem ok_store(hL:Lk C D){mem:Nat->Nat}(hk:C.Ok mem){a v:Nat}(ha:D a=true):C.Ok λi=>if i=a then v else mem i:=by
 refine⟨λk h=>?_,hk.fits⟩;have h1:=hk.here k h;have h2:=(hL.data a ha).2;rw[zn (by omega)];exact h1
theorem qmP(hL:Lk C D)(h:Lnk C D s m):match stepM ⟨C.W,D⟩ s with
  |.run s'=>∃ m',Go.Stele.Stp (qbZ s) m m'/\Lnk C D s' m'
  |.stop e o=>e≠99->Go.Stele.stepM m=.stop e o:=by
 obtain⟨hk,⟨i,h1,h2,h3⟩,hdg,hdat,hcal,hmem,hinp,hout⟩:=h;have hAt:C.At m i:=⟨h2,λh=>by rw[h3,<-hdg];exact h⟩;have hfits:C.plc i<=262144:=zNt (C.pre_le i) hk.fits
 cases hv:s.pc with
 |nil=>
  have:stepM ⟨C.W,D⟩ s=lost s:=by unfold stepM;rw[hv]
  rw[this]
  exact λh=>absurd rfl h
 |cons w r=>
  rw[hv] at h1;obtain⟨hw,hr⟩:=qsn h1;rw[qa5 hv]
  cases hd:defW w with
  |some x=>
   have hs:qhF ⟨C.W,D⟩ s w r=.run { s with pc:=r }:=by unfold qhF;rw[hd]
   obtain⟨e1,e2⟩:=qpt hw hd;rw[hs];refine⟨m,?_,⟨hk,⟨i+1,hr,h2.trans e1.symm,by rw[e2];exact h3⟩,hdg,hdat,hcal,hmem,hinp,hout⟩⟩;rw[qgU hv hd]
   exact .zero m
  |none=>
   cases hn:numW w with
   |some n=>
    rw[qfe hn];obtain⟨n1,n2⟩:=(qcP w n).1 hn;have hrf:=(qbu hn).2;have hp:qaG C.known w=w:=by unfold qaG;rw[hrf]
    unfold qdg
    by_cases hl:s.data.length<256
    rw[zp hl];have hval:valD 0 w=n:=by rw[<-n2,ql1]
    obtain⟨k1,k2⟩:=qo8 hk h2 (by rw[h3,hdg]) hw hd (by rw[hp];exact(qjq hn).1) (by rw[hp];exact(qjq hn).2) (by rw[hp,hval];exact n1) (by rw[hdat];exact hl);rw[hp,hval] at k1;have hc:qbZ s=w.length+one s.digit:=by unfold qbZ;rw[hv];exact qfg hn
    rw[hc,<-hdg];exact⟨_,k1,⟨hk,⟨i+1,hr,rfl,k2⟩,rfl,by simp only;rw[hdat],hcal,hmem,hinp,hout⟩⟩;rw[zn hl]
    exact λh=>absurd rfl h
   |none=>
    cases hrf:refW w with
    |some x=>
     rw[qdN hrf];have hc:qbZ s=7+one s.digit:=by unfold qbZ;rw[hv];exact qep hrf
     unfold qhQ
     cases hka:qby x C.W with
     |none=>exact λh=>absurd rfl h
     |some k=>
      have hsp:=qpW hL hka
      have hknow:C.known x<1000000:=by
       obtain⟨j,_,j2,_⟩:=hsp;have:=zNt (C.pre_le j) hk.fits;omega
      cases r with
      |nil=>exact λh=>absurd rfl h
      |cons y r=>
       simp only;obtain⟨hw1,hr1⟩:=qsn hr
       by_cases hl:s.data.length<256
       rotate_left;rw[zn hl];exact λh=>absurd rfl h;rw[zp hl];obtain⟨b1,b2⟩:=qfY (C.known x);have hp:qaG C.known w=qeg (C.known x):=by unfold qaG;rw[hrf]
       obtain⟨k1,k2⟩:=qo8 hk h2 (by rw[h3,hdg]) hw hd (by rw[hp];intro h;rw[h] at b1;cases b1) (by rw[hp];exact b2) (by rw[hp,qnl hknow];omega) (by rw[hdat];exact hl);rw[hp,qnl hknow,b1] at k1;generalize hm1:({ m with pc:=C.plc (i+1),data:=C.known x::m.data,digit:=true }:SM)=m1 at k1;have q1:m1.mem=m.mem:=by rw[<-hm1]
       have q2:m1.data=C.known x::m.data:=by rw[<-hm1]
       have q3:m1.calls=m.calls:=by rw[<-hm1]
       have q4:m1.inp=m.inp:=by rw[<-hm1]
       have q5:m1.out=m.out:=by rw[<-hm1]
       have hAt1:C.At m1 (i+1):=by rw[<-hm1];exact⟨rfl,λ_=>k2⟩
       have hk1:C.Ok m1.mem:=by rw[q1];exact hk
       have hcs:6+one m.digit+1=qbZ s:=by rw[hc,hdg];omega
       by_cases hy:y=[63]
       subst hy;rw[zp rfl];unfold qnk
       cases hsd:s.data with
       |nil=>exact λh=>absurd rfl h
       |cons a d=>
        simp only;have t1:=C.jump hk1 hAt1 hw1 (t:=C.known x) (v:=a) (r:=d) (by rw[q2,hdat,hsd])
        have t2:=qfT t1 (by
         intro he;have:=congrArg (λz:SM=>z.data.length) he;simp only[Go.Stele.PW.put,q2,hdat,hsd,zLc] at this
         omega)
        have t3:=k1.trans t2;rw[hcs] at t3;refine⟨_,t3,⟨hk1,?_,rfl,rfl,by show All2 _ s.calls m1.calls;rw[q3];exact hcal,by show ∀ a,D a=true->m1.mem a=s.mem a;rw[q1];exact hmem,by show m1.inp=_;rw[q4];exact hinp,by show m1.out=_;rw[q5];exact hout⟩⟩
        by_cases ha:a=0
        subst ha;simp only[if_true];exact hsp;simp only[zn ha];exact⟨i+1+1,hr1,rfl,(qiW hk zDd hw1).2⟩
       rw[zn hy]
       by_cases hy2:y=[58]
       rotate_left;rw[zn hy2];exact λh=>absurd rfl h;subst hy2;rw[zp rfl];have hcl:m.calls.length=s.calls.length:=(hcal.len).symm
       by_cases hl2:s.calls.length<64
       rotate_left;rw[zn hl2];exact λh=>absurd rfl h;rw[zp hl2];have t1:=C.call hk1 hAt1 hw1 (t:=C.known x) (r:=m.data) q2 (by rw[q3,hcl];exact hl2)
       have t2:=qfT t1 (by
        intro he;have:=congrArg (λz:SM=>z.calls.length) he;simp only[zLc] at this
        omega)
       have t3:=k1.trans t2;rw[hcs] at t3
       exact⟨_,t3,⟨hk1,hsp,rfl,hdat,.cons ⟨i+1+1,hr1,rfl,(qiW hk zDd hw1).2⟩ (by rw[q3];exact hcal),by show ∀ a,D a=true->m1.mem a=s.mem a;rw[q1];exact hmem,by show m1.inp=_;rw[q4];exact hinp,by show m1.out=_;rw[q5];exact hout⟩⟩
    |none=>
     rw[qhT hd hn hrf]
     have hc:qbZ s=1:=by
      unfold qbZ qjI;rw[hv];simp[hd,hn,hrf]
     rw[hc];rcases w with _|⟨c,_|⟨c2,w2⟩⟩;exact λh=>absurd rfl h;rotate_left;exact λh=>absurd rfl h;have hone:oneW ⟨C.W,D⟩ s [c] r=qeB D s c r:=rfl;rw[hone];have spot:c∈qcO->Spot C r (C.plc (i+1)) false:=λhcs=>⟨i+1,hr,rfl,(qiW hk hcs hw).2⟩
     have pcne:c∈qcO->∀ {m':SM},m'.pc=C.plc (i+1)->m≠m':=λhcs m' hp he=>by
      have h4:=(qiW hk hcs hw).1;rw[<-he,h2] at hp;omega
     unfold qeB
     by_cases c1:c=64
     ·subst c1;rw[zp rfl];unfold qos
      cases hsd:s.data with
      |nil=>exact λh=>absurd rfl h
      |cons a d=>
       simp only
       by_cases hD:D a=true
       rotate_left;rw[zn hD];exact λh=>absurd rfl h;rw[zp hD];unfold qdg
       by_cases hl:d.length<256
       rotate_left;rw[zn hl];exact λh=>absurd rfl h;rw[zp hl];have t1:=C.load hk hAt hw (by rw[hdat,hsd]) (hL.data a hD).1 hl;exact⟨_,qfT t1 (pcne zDd rfl),⟨hk,spot zDd,rfl,by simp only[Go.Stele.PW.put];rw[hmem a hD],hcal,hmem,hinp,hout⟩⟩
     rw[zn c1]
     by_cases c2:c=33
     ·subst c2;rw[zp rfl];unfold qi7
      match hsd:s.data with
      |[]=>exact λh=>absurd rfl h
      |[_]=>exact λh=>absurd rfl h
      |a::v::d=>
       simp only
       by_cases hD:D a=true
       rotate_left;rw[zn hD];exact λh=>absurd rfl h;rw[zp hD];have t1:=C.store hk hAt hw (by rw[hdat,hsd]) (hL.data a hD).1;refine⟨_,qfT t1 (pcne zDd rfl),⟨ok_store hL hk hD,spot zDd,rfl,rfl,hcal,λb hb=>?_,hinp,hout⟩⟩;simp only;split;rfl;exact hmem b hb
     rw[zn c2]
     by_cases c3:c=59
     subst c3;rw[zp rfl];unfold qmF
     cases hcl:s.calls with
     |nil=>exact λh=>absurd rfl h
     |cons kk l=>
      rw[hcl] at hcal;simp only
      cases hmc:m.calls with
      |nil=>rw[hmc] at hcal;cases hcal
      |cons tt l2=>
       rw[hmc] at hcal
       cases hcal with
       |cons g1 g2=>
        have t1:=C.back hk hAt hw hmc
        exact⟨_,qfT t1 (by
         intro he;have:=congrArg (λz:SM=>z.calls.length) he;simp only[hmc,zLc] at this
         omega),⟨hk,g1,rfl,hdat,g2,hmem,hinp,hout⟩⟩
     rw[zn c3]
     by_cases c4:c=44
     ·subst c4;rw[zp rfl];unfold qdg
      by_cases hl:s.data.length<256
      rotate_left;rw[zn hl];exact λh=>absurd rfl h;rw[zp hl];have t1:=C.read hk hAt hw (by rw[hdat];exact hl);exact⟨_,qfT t1 (pcne zDd rfl),⟨hk,spot zDd,rfl,by simp only[Go.Stele.PW.put];rw[hinp,hdat],hcal,hmem,by simp only;rw[hinp],hout⟩⟩
     rw[zn c4]
     by_cases c5:c=46
     subst c5;rw[zp rfl];unfold qmt
     cases hsd:s.data with
     |nil=>exact λh=>absurd rfl h
     |cons v d=>
      have t1:=C.write hk hAt hw (v:=v) (r:=d) (by rw[hdat,hsd]);exact⟨_,qfT t1 (pcne zDd rfl),⟨hk,spot zDd,rfl,rfl,hcal,hmem,hinp,by simp only;rw[hout]⟩⟩
     rw[zn c5]
     by_cases c6:c=36
     subst c6;rw[zp rfl];intro _;rw[C.halt hk hAt hw,hout];rw[zn c6]
     by_cases c7:c=43∨c=45∨c=42∨c=47∨c=37∨c=94∨c=60
     rotate_left;rw[zn c7];exact λh=>absurd rfl h;rw[zp c7]
     have hop:isOp c:=by
      unfold isOp;rcases c7 with h|h|h|h|h|h|h <;> simp[h]
     unfold binW
     match hsd:s.data with
     |[]=>exact λh=>absurd rfl h
     |[_]=>exact λh=>absurd rfl h
     |b::a::d=>
      simp only
      cases hb:binM c.toNat a b with
      |none=>
       intro _
       rw[C.opTrap hk hAt hop hw (by rw[hdat,hsd]) hb,hout]
      |some v=>
       simp only;unfold qdg
       by_cases hl:d.length<256
       rotate_left;rw[zn hl];exact λh=>absurd rfl h;rw[zp hl];have t1:=C.op hk hAt hop hw (by rw[hdat,hsd]) hb hl;exact⟨_,qfT t1 (pcne (qcS hop) rfl),⟨hk,spot (qcS hop),rfl,rfl,hcal,hmem,hinp,hout⟩⟩
theorem qtD(hL:Lk C D):∀ {n e k:Nat} {o:Wd} {s:MS} {m:SM},Ends ⟨C.W,D⟩ n s e o k->Lnk C D s m->∀ N,k<=N->runM N m=(e,o,k):=by
 intro n e k o s m h
 induction h generalizing m with
 |@stop s e o h1 h2=>
  intro hl N hN;have key:=qmP hL hl;rw[h1] at key;have key:=key h2;obtain⟨n,rfl⟩:∃ n,N=n+1:=⟨N-1,by omega⟩
  rw[runM,key]
 |@step n k e o s s' h1 _ ih=>
  intro hl N hN;have key:=qmP hL hl;rw[h1] at key;obtain⟨m',k1,k2⟩:=key;obtain⟨n,rfl⟩:∃ n,N=qbZ s+n:=⟨N-qbZ s,by omega⟩;rw[qws k1,ih k2 n (by omega)];simp only[Nat.add_comm]
end
theorem qkU{W:List Wd}{L:Wd->Nat}{og:Nat}(hA:qgn W)(hne:∀ w∈W,w≠[])(hT:Ty L (some 0) W){known:Wd->Nat}(hkn:known=qdL (qek (λ_=>0) og W))(hlen:(qcZ known W).length<=40000)(hog:og+40000<=262144){inp:List Nat}{n e k:Nat}{o:Wd}
  (h:Ends ⟨W,λx=>decide (x<262144/\(x<og∨og+40000<=x))⟩ n ⟨λ_=>0,W,[],[],inp,[],false⟩ e o k) (N:Nat) (hN:k<=N):runM N (qdD (qcZ known W) og inp)=(e,o,k):=by
 subst hkn;generalize hk:qdL (qek (λ_=>0) og W)=known at *
 have hL:Lk ⟨W,og,known⟩ λx=>decide (x<262144/\(x<og∨og+40000<=x)):=by
  refine⟨λj w x hw hd=>?_,λj w x hw hd=>?_,λa ha=>?_⟩;have:=qnj og hA.1 hne hw hd;rw[hk] at this;exact this;exact ty_nb known hT [] (λh=>by cases h) j w x hw hd;have:=of_decide_eq_true ha;show _/\(a<og∨og+(qcZ known W).length<=a);omega
 refine qtD hL h (C:=⟨W,og,known⟩) ⟨⟨qv6 _ _,by show og+(qcZ known W).length<=262144;omega⟩,⟨0,rfl,rfl,rfl⟩,rfl,rfl,.nil,λa ha=>?_,rfl,rfl⟩ N hN;have:=of_decide_eq_true ha;show qfq (qcZ known W) og a=0;unfold qfq;split;rw[List.getElem?_eq_none (by omega)];rfl
def qt9(C:PW)(inp:List Nat):MS:=⟨λ_=>0,C.plc 0,[],[],inp,[],false⟩
section
variable{X:Trn}
theorem qrF(hX:TrnOk X)(inp:List Nat)(limit:Nat):X.Rel (qdE X.P inp limit) (qt9 X.C inp):=by
 refine⟨trivial,λk hk=>rfl,λa ha=>?_,rfl,rfl⟩
 have har:(qdE X.P inp limit).ar a.name=List.replicate a.size 0:=by
  show(match X.P.arrays.find? λb=>decide (b.name=a.name) with
   |some b=>List.replicate b.size 0
   |none=>[])=_
  cases hf:X.P.arrays.find? λb=>decide (b.name=a.name) with
  |none=>exact absurd (List.find?_eq_none.1 hf a ha) (by simp)
  |some b=>
   have h1:=List.mem_of_find?_eq_some hf;have h2:b.name=a.name:=of_decide_eq_true (List.find?_some (p:=λb:Ar=>decide (b.name=a.name)) hf);simp only;rw[hX.arName b h1 a ha h2]
 rw[har];refine⟨List.length_replicate,λi hi=>?_⟩;rw[List.length_replicate] at hi;rw[List.getElem_replicate]
 try rfl
end
theorem qoD{x w:Wd}:∀ (W:List Wd) (j:Nat),(defs W).Nodup->W[j]? = some w->defW w=some x->qby x W=some (W.drop (j+1))
 |[],j,_,h,_=>by simp at h
 |v::W,0,hn,h,hd=>by
  simp only[List.getElem?_cons_zero,Option.some.injEq] at h;subst h;rw[qby,zp hd]
  try rfl
 |v::W,j+1,hn,h,hd=>by
  rw[List.getElem?_cons_succ] at h;have hm:x∈defs W:=List.mem_filterMap.2 ⟨w,List.mem_of_getElem? h,hd⟩;rw[qcT] at hn;have hn2:=List.nodup_append.1 hn
  have hne:¬ defW v=some x:=λe=>by
   rw[e] at hn2;exact hn2.2.2 x (List.mem_singleton.2 rfl) x hm rfl
  rw[qby,zn hne,List.drop_succ_cons];exact qoD W j hn2.2.1 h hd
def qxO(X:Go.Stele.Trn)(D:Nat->Bool):Trn:=⟨⟨X.C.W,D⟩,X.P,X.cc,X.cenv,X.sa,X.aa,X.S,X.fst⟩
theorem qtI{X:Go.Stele.Trn}{D:Nat->Bool}(h:Go.Stele.TrnOk X)(hD:∀ x,X.Data x->D x=true)(hn:(defs X.C.W).Nodup):TrnOk (qxO X D):=
 ⟨h.sc,h.ar,h.temps,h.low,hD,h.keyLow,h.inj,h.apart,h.arInj,h.arLow,h.arName,h.body,h.fn,h.par,h.code,h.ldef,h.lref,h.fdef,h.fref,λj w x hw hd=>qoD _ _ hn hw hd⟩
def qp3(og:Nat):Nat->Bool:=λx=>decide (x<262144/\(x<og∨og+40000<=x))
theorem quz{P:Pr}{o:Org}(hc:qb9 P=0)(hfit:qfr P.vars (qbd P) P.funcs o=true):∀ x,(trnP P o).Data x->qp3 o.code.toNat x=true:=λx hx=>by
 have hv:=qfi hc;have hF:=qhd hfit;have hnames:=(qbA _ _ hv.names).1;have han:(P.arrays.map (·.name)).Nodup:=(List.nodup_append.1 (List.nodup_append.1 hnames).1).2.1;obtain⟨s0,c0,a0,s1,c1,a1,cs,as',ac⟩:=hF;refine decide_eq_true ?_;rcases hx with⟨k,hk,rfl⟩|hx|⟨a,ha,i,hi,rfl⟩;have h1:(qai P.vars P.funcs).idxOf k<_:=qi5 hk;show o.scalars.toNat+3+(qai P.vars P.funcs).idxOf k<262144/\(o.scalars.toNat+3+(qai P.vars P.funcs).idxOf k<_∨_<=o.scalars.toNat+3+(qai P.vars P.funcs).idxOf k);omega;have h1:o.scalars.toNat<=x/\x<=o.scalars.toNat+2:=hx;omega;have h1:=qkT _ han a ha;have h2:=ac (by have:i<a.size:=hi;omega);have h3:i<a.size:=hi;show o.arrays.toNat+offA P.arrays a.name+i<262144/\(o.arrays.toNat+offA P.arrays a.name+i<_∨_<=o.arrays.toNat+offA P.arrays a.name+i);omega
section
variable{L:Wd->Nat}
def Up(L:Wd->Nat)(ws:List Wd):Prop:=∀ d r,Ty L (some (d+1)) r->Ty L (some d) (ws++r)
def Flat(L:Wd->Nat)(ws:List Wd):Prop:=∀ r,Ty L (some 0) r->Ty L (some 0) (ws++r)
def NumW(w:Wd):Prop:=∃ k,numW w=some k
structure NumC(c:CC):Prop where
 sc:∀ n,NumW (c.sc n)
 ar:∀ n,NumW (c.ar n)
 t0:NumW c.t0
 t1:NumW c.t1
 t2:NumW c.t2
variable{d:Nat}{w:Wd}{r:List Wd}
theorem tnum(h:NumW w)(ht:Ty L (some (d+1)) r):Ty L (some d) (w::r):=by
 obtain⟨k,hk⟩:=h;exact .num hk ht
theorem n48:NumW [48]:=⟨0,qeI⟩
theorem n49:NumW [49]:=⟨1,qla⟩
theorem top{c:UInt8}(h:isOp c)(ht:Ty L (some (d+1)) r):Ty L (some (d+2)) ([c]::r):=.sign (qkN h) ht
theorem tst(ht:Ty L (some d) r):Ty L (some (d+2)) ([33]::r):=.sign (a:=2) (b:=0) zDd ht
theorem tld(ht:Ty L (some (d+1)) r):Ty L (some (d+1)) ([64]::r):=.sign (a:=1) (b:=1) zDd ht
theorem trd(ht:Ty L (some (d+1)) r):Ty L (some d) ([44]::r):=.sign (d:=d) (a:=0) (b:=1) zDd ht
theorem twr(ht:Ty L (some d) r):Ty L (some (d+1)) ([46]::r):=.sign (a:=1) (b:=0) zDd ht
theorem qds{c:UInt8}(h:c∈([43,45,42,47,37,94,60]:Wd)):isOp c:=by
 unfold isOp;simpa using h
theorem qkL{c:CC}(hc:NumC c)(ht:Ty L (some (d+1)) r):Ty L (some (d+2)) (qa0 c++r):=
 tnum hc.t2 (tst (tnum hc.t1 (tst (tnum hc.t2 (tld (tnum hc.t1 (tld (top (qds zDd) ht))))))))
theorem qw4{c:CC}(hc:NumC c){op:Nm}(hop:op∈qeQ)(h1:op≠[33,61])(h2:op≠[38,38])(h3:op≠[124,124])(ht:Ty L (some (d+1)) r) :
  Ty L (some (d+2)) ((if op=[62] then qa0 c else if op=[60,61] then qa0 c++[[49],[94]] else if op=[62,61] then [[60],[49],[94]] else if op=[61,61] then [[94],[49],[60]] else [op])++r):=by
 simp only[qeQ,zMi,not_mem_nil,or_false] at hop;rcases hop with rfl|rfl|rfl|rfl|rfl|rfl|rfl|rfl|rfl|rfl|rfl|rfl|rfl|rfl;exact absurd rfl h3;exact absurd rfl h2;exact top (qds zDd) (tnum n49 (top (qds zDd) ht));exact absurd rfl h1;exact top (qds zDd) ht;exact qkL hc ht;show Ty L (some (d+2)) ((qa0 c++[[49],[94]])++r);rw[zAs];exact qkL hc (tnum n49 (top (qds zDd) ht));exact top (qds zDd) (tnum n49 (top (qds zDd) ht));exact top (qds zDd) ht;exact top (qds zDd) ht;exact top (qds zDd) ht;exact top (qds zDd) ht;exact top (qds zDd) ht;exact top (qds zDd) ht
def FnOk(L:Wd->Nat)(env:CEnv):Prop:=∀ name g,env.fn name=some g->refW ([38,102,95]++name)=some ([102,95]++name)/\L ([102,95]++name)=g.params
mutual
theorem qu4{c:CC}(hc:NumC c){env:CEnv}(hfn:FnOk L env):∀ e,numE e->errE env e=0->Up L (exW c e)
 |.mk op num name args,hn,h=>λd r ht=>by
  rw[errE] at h;split at h
  case isFalse=>cases h
  rename_i hop
  obtain⟨h1,h2⟩:=qah.1 h;obtain⟨hnum,hn⟩:=hn;have ha:=qry hc hfn args hn h1;rw[exW]
  by_cases o1:op=nNum
  subst o1;exact tnum ⟨num,qgb hnum⟩ ht
  by_cases o2:op=nVar
  subst o2;exact tnum (hc.sc name) (tld ht)
  by_cases o3:op=qeh
  ·subst o3
   have hl:args.length=1:=by
    have e:qbw qeh=1:=rfl;rw[e] at hop;omega
   obtain⟨x,rfl⟩:=List.length_eq_one_iff.1 hl;have hx:=ha.2 (exW c x) (by rw[exWl];simp);show Ty L (some d) ((c.ar name::((exWl c [x]).headD []++[[43],[64]]))++r);have e:(exWl c [x]).headD []=exW c x:=by rw[exWl];try rfl
   rw[e,cons_append,zAs];exact tnum (hc.ar name) (hx _ _ (top (qds zDd) (tld ht)))
  by_cases o4:op=qbB
  subst o4;have he3:callE env name args.length=0:=h2;show Ty L (some d) (((exWl c args).flatten++(if name=[105,110] then [[44]] else if name=[111,117,116] then [[46],[48]] else [[38,102,95]++name,[58]]))++r);rw[zAs];refine ha.1 _ _ ?_
  by_cases k1:name=[105,110]
  rw[zp k1]
  have hl:args.length=0:=by
   unfold callE at he3;rw[zp k1] at he3;split at he3
   assumption
   cases he3
  rw[hl];exact trd ht
  by_cases k2:name=[111,117,116]
  rw[zn k1,zp k2]
  have hl:args.length=1:=by
   unfold callE at he3;rw[zn k1,zp k2] at he3;split at he3
   assumption
   cases he3
  rw[hl];exact twr (tnum n48 ht);rw[zn k1,zn k2];unfold callE at he3;rw[zn k1,zn k2] at he3
  cases hq:env.fn name with
  |none=>
   rw[hq] at he3;simp only at he3
   split at he3 <;> cases he3
  |some g=>
   rw[hq] at he3;simp only at he3;obtain⟨q1,q2⟩:=hfn name g hq;split at he3
   rename_i hl
   rw[hl,<-q2];exact .call q1 ht;cases he3
  have o5':qbw op=args.length:=by
   have:qbw op ≠ -1:=by
    unfold qbw;rw[zn (by simp[o1,o2])]
    by_cases q:op=qeh∨op=nNeg∨op=nNot
    rw[zp q];decide;rw[zn q,zn o4];split <;> decide
   rcases hop with h|h;exact absurd h this;exact h
  by_cases o5:op=nNeg
  ·subst o5
   have hl:args.length=1:=by
    have e:qbw nNeg=1:=rfl;rw[e] at o5';omega
   obtain⟨x,rfl⟩:=List.length_eq_one_iff.1 hl;have hx:=ha.2 (exW c x) (by rw[exWl];simp);show Ty L (some d) (([48]::((exWl c [x]).headD []++[[45]]))++r);have e:(exWl c [x]).headD []=exW c x:=by rw[exWl];try rfl
   rw[e,cons_append,zAs];exact tnum n48 (hx _ _ (top (qds zDd) ht))
  by_cases o6:op=nNot
  ·subst o6
   have hl:args.length=1:=by
    have e:qbw nNot=1:=rfl;rw[e] at o5';omega
   obtain⟨x,rfl⟩:=List.length_eq_one_iff.1 hl;have hx:=ha.2 (exW c x) (by rw[exWl];simp);show Ty L (some d) (((exWl c [x]).headD []++[[49],[60]])++r);have e:(exWl c [x]).headD []=exW c x:=by rw[exWl];try rfl
   rw[e,zAs];exact hx _ _ (tnum n49 (top (qds zDd) ht))
  have hb:op∈qeQ/\args.length=2:=by
   unfold qbw at o5';rw[zn (by simp[o1,o2]),zn (by simp[o3,o5,o6]),zn o4] at o5';split at o5'
   rename_i hm
   exact⟨hm,by omega⟩;omega
  obtain⟨hb,hl⟩:=hb
  obtain⟨x,y,rfl⟩:∃ x y,args=[x,y]:=by
   match args,hl with
   |[x,y],_=>exact⟨x,y,rfl⟩
  have hx:=ha.2 (exW c x) (by rw[exWl];simp);have hy:=ha.2 (exW c y) (by rw[exWl,exWl];simp);have e1:(exWl c [x,y]).headD []=exW c x:=by rw[exWl];try rfl
  have e2:((exWl c [x,y]).drop 1).headD []=exW c y:=by rw[exWl,exWl];try rfl
  unfold opW;rw[zn o1,zn o2,zn o3,zn o4,zn o5,zn o6,e1,e2]
  by_cases b1:op=[33,61]
  rw[zp b1,cons_append,zAs,zAs];exact tnum n48 (hx _ _ (hy _ _ (top (qds zDd) (top (qds zDd) ht))));rw[zn b1]
  by_cases b2:op=[38,38]
  rw[zp b2];simp only[cons_append,zAs,nil_append];exact tnum n48 (hx _ _ (top (qds zDd) (tnum n48 (hy _ _ (top (qds zDd) (top (qds zDd) ht))))));rw[zn b2]
  by_cases b3:op=[124,124]
  rw[zp b3];simp only[cons_append,zAs,nil_append];exact tnum n48 (tnum n48 (hx _ _ (top (qds zDd) (tnum n48 (hy _ _ (top (qds zDd) (top (qds zDd) (top (qds zDd) ht))))))));rw[zn b3,zAs,zAs];exact hx _ _ (hy _ _ (qw4 hc hb b1 b2 b3 ht))
theorem qry{c:CC}(hc:NumC c){env:CEnv}(hfn:FnOk L env):∀ l,qcX l->qbs env l=0->(∀ d r,Ty L (some (d+l.length)) r->Ty L (some d) ((exWl c l).flatten++r))/\∀ ws∈exWl c l,Up L ws
 |[],_,_=>by
  rw[exWl]
  exact⟨λd r h=>h,λws hw=>(not_mem_nil hw).elim⟩
 |x::l,hn,h=>by
  rw[qbs] at h;obtain⟨h1,h2⟩:=qah.1 h;have hx:=qu4 hc hfn x hn.1 h1;obtain⟨k1,k2⟩:=qry hc hfn l hn.2 h2;rw[exWl,List.flatten_cons];refine⟨λd r ht=>?_,λws hw=>?_⟩;rw[zAs];refine hx _ _ (k1 _ _ ?_);rw[zLc] at ht;rw[show d+1+l.length=d+(l.length+1) by omega];exact ht;rcases zMi.1 hw with rfl|hw;exact hx;exact k2 ws hw
end
theorem qhz{ds:List Wd}{n:Nat}(h:OkW ds (labW n++[58])):defW (labW n++[58])=some (labW n):=qrm (c:=106) (x:=decDigits n) h zDd zDd
mutual
theorem qxz{c:CC}(hc:NumC c){env:CEnv}(hfn:FnOk L env){ds:List Wd}(hL:∀ n,L (labW n)=0):∀ (s:Sm) (n:Nat),numS s->errS env s=0->(∀ w∈(stW c n s).1,OkW ds w)->Flat L (stW c n s).1
 |.mk kind name index value thn els,n,hn,h,hok=>λr ht=>by
  rw[errS] at h
  by_cases hf:qbR (.mk kind name index value thn els)=false
  rw[zp hf] at h;cases h;rw[zn hf] at h;obtain⟨h1,h⟩:=qah.1 h;obtain⟨h2,h⟩:=qah.1 h;obtain⟨h3,h⟩:=qah.1 h;obtain⟨h4,h5⟩:=qah.1 h;rw[Bool.not_eq_false] at hf;unfold qbR at hf;obtain⟨n1,n2,n3,n4⟩:=hn
  have one:∀ {l:List Ex},l.length=1->qcX l->qbs env l=0->Up L (exW c (l.headD default)):=λ{l} hl hnl hel=>by
   obtain⟨x,rfl⟩:=List.length_eq_one_iff.1 hl;rw[qbs] at hel;exact qu4 hc hfn x hnl.1 (qah.1 hel).1
  have lref:∀ {k:Nat},OkW ds (38::labW k)->refW (38::labW k)=some (labW k):=λh=>qvv h;rw[qto] at hok ⊢
  by_cases k1:kind=1
  rw[zp k1] at hok ⊢;have hv:value.length=1:=by subst k1;simp at hf;exact hf.2.2.1
  rw[zAs];exact one hv n2 h1 _ _ (tnum (hc.sc name) (tst ht));rw[zn k1] at hok ⊢
  by_cases k2:kind=2
  rw[zp k2] at hok ⊢;have hv:index.length=1/\value.length=1:=by subst k2;simp at hf;exact⟨hf.2.1,hf.2.2.1⟩
  simp only[zAs,cons_append,nil_append];exact one hv.2 n2 h1 _ _ (tnum (hc.ar name) (one hv.1 n1 h2 _ _ (top (qds zDd) (tst ht))));rw[zn k2] at hok ⊢
  by_cases k3:kind=3
  rw[zp k3] at hok ⊢;have hv:value.length=1:=by subst k3;simp at hf;exact hf.2.2
  cases els with
  |nil=>
   simp only at hok ⊢;have ht2:=qh0 hc hfn hL thn (n+1) n3 h4 (λw hw=>hok w (by simp[hw]));have d1:=qhz (hok (labW n++[58]) (by simp));have r1:=lref (hok (38::labW n) (by simp));simp only[zAs,cons_append,nil_append]
   exact one hv n2 h1 _ _ (.jump r1 (hL n) (ht2 _ (.defn d1 (hL n) ht)))
  |cons a q=>
   simp only at hok ⊢;have ht2:=qh0 hc hfn hL thn (n+2) n3 h4 (λw hw=>hok w (by simp[hw]));have ht3:=qh0 hc hfn hL (a::q) (stWs c (n+2) thn).2 n4 h5 (λw hw=>hok w (by simp[hw]));have d1:=qhz (hok (labW n++[58]) (by simp));have d2:=qhz (hok (labW (n+1)++[58]) (by simp));have r1:=lref (hok (38::labW n) (by simp));have r2:=lref (hok (38::labW (n+1)) (by simp));simp only[zAs,cons_append,nil_append];exact one hv n2 h1 _ _ (.jump r1 (hL n) (ht2 _ (.goto r2 (hL _) (.free (.defn d1 (hL n) (ht3 _ (.defn d2 (hL _) ht)))))))
  rw[zn k3] at hok ⊢
  by_cases k4:kind=4
  rw[zp k4] at hok ⊢;have hv:value.length=1:=by subst k4;simp at hf;exact hf.2.2.1
  have ht2:=qh0 hc hfn hL thn (n+2) n3 h4 (λw hw=>hok w (by simp[hw]));have d1:=qhz (hok (labW n++[58]) (by simp));have d2:=qhz (hok (labW (n+1)++[58]) (by simp));have r1:=lref (hok (38::labW n) (by simp));have r2:=lref (hok (38::labW (n+1)) (by simp));simp only[zAs,cons_append,nil_append];exact .defn d1 (hL n) (one hv n2 h1 _ _ (.jump r2 (hL _) (ht2 _ (.goto r1 (hL n) (.free (.defn d2 (hL _) ht))))));rw[zn k4] at hok ⊢
  by_cases k5:kind=5
  ·rw[zp k5] at hok ⊢;have hv:value.length=1:=by subst k5;simp at hf;exact hf.2.2.1
   simp only[zAs,cons_append,nil_append];exact one hv n2 h1 _ _ (.stop (.inl rfl) (.free ht))
  rw[zn k5] at hok ⊢
  by_cases k6:kind=6
  rw[zp k6] at hok ⊢;have hv:value.length=1:=by subst k6;simp at hf;exact hf.2.2.1
  simp only[zAs,cons_append,nil_append];exact one hv n2 h1 _ _ (tnum hc.t0 (tst ht));rw[zn k6] at hok ⊢
  by_cases k7:kind=7
  ·rw[zp k7] at hok ⊢;exact .stop (.inr rfl) (.free ht)
  rw[zn k7] at hok ⊢;exact ht
theorem qh0{c:CC}(hc:NumC c){env:CEnv}(hfn:FnOk L env){ds:List Wd}(hL:∀ n,L (labW n)=0):∀ (l:List Sm) (n:Nat),qcu l->qb1 env l=0->(∀ w∈(stWs c n l).1,OkW ds w)->Flat L (stWs c n l).1
 |[],n,_,_,_=>λr ht=>by rw[stWs];exact ht
 |s::l,n,hn,h,hok=>λr ht=>by
  rw[qb1] at h;obtain⟨h1,h2⟩:=qah.1 h;rw[stWs] at hok ⊢;simp only at hok ⊢;rw[zAs];exact qxz hc hfn hL s n hn.1 h1 (λw hw=>hok w (List.mem_append.2 (.inl hw))) _ (qh0 hc hfn hL l _ hn.2 h2 (λw hw=>hok w (List.mem_append.2 (.inr hw))) _ ht)
end
theorem qsh{c:CC}(hc:NumC c):∀ (ps:List Nm),Ty L (some 0) r->Ty L (some ps.length) ((ps.flatMap λp=>[c.sc p,[33]])++r)
 |[],h=>h
 |p::ps,h=>by
  rw[List.flatMap_cons,zLc];simp only[cons_append,nil_append];exact tnum (hc.sc p) (tst (qsh hc ps h))
theorem qx2{c:CC}(hc:NumC c){env:CEnv}(hfn:FnOk L env){ds:List Wd}(hL:∀ n,L (labW n)=0){f:FnD}{n:Nat}(hd:defW ([102,95]++f.name++[58])=some ([102,95]++f.name))(hp:L ([102,95]++f.name)=f.params.length)(hn:qcu f.body)(he:qb1 env f.body=0)
  (hok:∀ w∈(fnW c n f).1,OkW ds w) (ht:Ty L none r):Ty L none ((fnW c n f).1++r):=by
 unfold fnW at hok ⊢;simp only at hok ⊢;rw[zAs,zAs,zAs];have hb:=qh0 hc hfn hL f.body n hn he (λw hw=>hok w (by simp[hw]));have h1:Ty L (some 0) ((stWs c n f.body).1++([[48],[59]]++r)):=hb _ (tnum n48 (.stop (.inl rfl) ht));refine .fdef hd ?_;rw[hp,<-List.length_reverse];exact qsh hc f.params.reverse h1
theorem qq6{cc:Nm->CC}(hc:∀ n,NumC (cc n)){ds:List Wd}(hL:∀ n,L (labW n)=0):∀ (fs:List FnD) (n:Nat),(∀ f∈fs,∃ env,FnOk L env/\qb1 env f.body=0/\qcu f.body/\defW ([102,95]++f.name++[58])=some ([102,95]++f.name)/\L ([102,95]++f.name)=f.params.length) ->
  (∀ w∈(fnWs cc n fs).1,OkW ds w)->Ty L none (fnWs cc n fs).1
 |[],n,_,_=>by rw[fnWs];exact .nil
 |f::fs,n,h,hok=>by
  rw[fnWs] at hok ⊢;simp only at hok ⊢;obtain⟨env,h1,h2,h3,h4,h5⟩:=h f zMs;exact qx2 (hc f.name) h1 hL h4 h5 h3 h2 (λw hw=>hok w (List.mem_append.2 (.inl hw))) (qq6 hc hL fs _ (λg hg=>h g (zMo _ hg)) (λw hw=>hok w (List.mem_append.2 (.inr hw))))
end
theorem qe9{z:Int}(h0:0<=z)(h1:z<4294967296):NumW (itoa z):=by
 rw[qca h0];exact⟨z.toNat,qgb (by omega)⟩
theorem qhS:∀ (l:List (Nm×Int)) (a:Int),0<=a->(∀ p∈l,0<=p.2)->∀ n,arrA a l n<=a+(l.map (·.2)).sum
 |[],a,h,_,n=>by simp[arrA];exact h
 |(x,k)::l,a,h,hl,n=>by
  have hk:0<=k:=hl (x,k) zMs
  have hs:0<=(l.map (·.2)).sum:=by
   have:∀ (m:List (Nm×Int)),(∀ p∈m,0<=p.2)->0<=(m.map (·.2)).sum:=by
    intro m
    induction m with
    |nil=>intro _;simp
    |cons p m ih=>
     intro hm;have:=ih λq hq=>hm q (zMo _ hq);have:=hm p zMs;rw[zMc,List.sum_cons];omega
   exact this l λp hp=>hl p (zMo _ hp)
  rw[arrA,zMc,List.sum_cons];split;simp only;omega;have:=qhS l (a+k) (by omega) (λp hp=>hl p (zMo _ hp)) n;simp only;omega
theorem qxS{P:Pr}{o:Org}(hF:FitN P o)(own:Nm):NumC (ccF P.vars (qbd P) P.funcs o own):=by
 have s0:=hF.s0;have s1:=hF.s1;have a0:=hF.a0;have a1:=hF.a1
 have hnn:∀ p∈qbd P,0<=p.2:=λp hp=>by
  obtain⟨a,_,rfl⟩:=List.mem_map.1 hp;exact Int.natCast_nonneg _
 refine⟨λn=>?_,λn=>?_,?_,?_,?_⟩;show NumW (itoa (qeu (qai P.vars P.funcs) o.scalars (keyC (qai P.vars P.funcs) own n)));generalize keyC (qai P.vars P.funcs) own n=k;unfold qeu;split
 rename_i hk
 have:=qi5 hk;exact qe9 (by omega) (by omega);exact qe9 zDd zDd;show NumW (itoa (arrA o.arrays (qbd P) n));have h1:=qgQ _ _ a0 hnn n;have h2:=qhS _ _ a0 hnn n;have ht:((qbd P).map (·.2)).sum=((totA P.arrays:Nat):Int):=qg8 P.arrays;exact qe9 h1 (by omega);exact qe9 s0 (by omega);exact qe9 (z:=o.scalars+1) (by omega) (by omega);exact qe9 (z:=o.scalars+2) (by omega) (by omega)
def labL(P:Pr)(x:Wd):Nat:=match x with
 |a::b::nm=>if a=102/\b=95 then (fnI P nm).params.length else 0
 |_=>0
theorem quf(P:Pr)(n:Nat):labL P (labW n)=0:=by
 unfold labW labL
 cases h:decDigits n with
 |nil=>rfl
 |cons c r=>simp
theorem qny(P:Pr)(nm:Nm):labL P ([102,95]++nm)=(fnI P nm).params.length:=by
 show labL P (102::95::nm)=_;unfold labL
 simp
theorem qx8{P:Pr}{o:Org}(hc:qb9 P=0)(hfit:qfr P.vars (qbd P) P.funcs o=true)(hnum:∀ f∈P.funcs,qcu f.body)(hasm:qgn (qaT P o))(hX:Go.Stele.TrnOk (trnP P o)):Ty (labL P) (some 0) (qaT P o):=by
 have hv:=qfi hc;have hF:=qhd hfit;have hfn:(P.funcs.map (·.name)).Nodup:=(List.nodup_append.1 (qbA _ _ hv.names).1).2.1;have hm:=hv.main;have hfr:refW ([38,102,95]++(qbS P).name)=some ([102,95]++(qbS P).name):=hX.fref (qbS P) hm.1
 have hpar:labL P ([102,95]++(qbS P).name)=0:=by
  rw[qny,qnN hfn hm.1,hm.2.2]
  try rfl
 have hname:(qbS P).name=[109,97,105,110]:=hm.2.1;rw[hname] at hfr hpar
 have hbody:Ty (labL P) none (fnWs (ccF P.vars (qbd P) P.funcs o) 0 P.funcs).1:=by
  refine qq6 (ds:=defs (qaT P o)) (λn=>qxS hF n) (quf P) P.funcs 0 (λf hf=>⟨(trnP P o).cenv f,λname g hg=>?_,(hX.body f hf).1,hnum f hf,hX.fdef f hf,?_⟩) (λw hw=>hasm.2 w ?_);obtain⟨a1,a2,a3,_,_⟩:=hX.fn f hf name g hg;have h1:=hX.fref (fnI P name) a1;have a2:(fnI P name).name=name:=a2;rw[a2] at h1;exact⟨h1,by rw[qny];exact a3.symm⟩;rw[qny,qnN hfn hf];show w∈[[38,102,95,109,97,105,110],[58],itoa o.scalars,[33],[36]]++_;exact List.mem_append.2 (.inr hw)
 show Ty (labL P) (some 0) ([[38,102,95,109,97,105,110],[58],itoa o.scalars,[33],[36]]++_)
 have h3:Ty (labL P) (some (0+labL P [102,95,109,97,105,110])) ([38,102,95,109,97,105,110]::[58]::itoa o.scalars::[33]::[36]::(fnWs (ccF P.vars (qbd P) P.funcs o) 0 P.funcs).1):=by
  refine .call hfr ?_;exact tnum (qe9 hF.s0 (by have:=hF.s1;omega)) (tst (.stop (.inr rfl) hbody))
 have e:labL P [102,95,109,97,105,110]=0:=hpar;rw[e] at h3;exact h3
theorem qlT{all:List Wd}:∀ (l:List (Wd×Nat)) (met:List Wd),(met++defs (l.map (·.1))).Nodup->(∀ w∈l.map (·.1),OkW all w)->(errT all met l).2=0
 |[],met,_,_=>rfl
 |(w,ln)::r,met,hn,hk=>by
  rw[zMc,qcT] at hn;have h0:=hk w (by simp);have hr:=λx hx=>hk x (by rw[zMc];exact zMo _ hx);unfold OkW at h0;rw[errT]
  cases hd:defW w with
  |some x=>
   rw[hd] at hn;simp only at hn ⊢;have hx:x ∉ met:=λhm=>(List.nodup_append.1 hn).2.2 x hm x (by simp) rfl;rw[zn hx]
   exact qlT r (met++[x]) (by rw[zAs];exact hn) hr
  |none=>
   rw[hd] at hn h0;simp only[nil_append] at hn h0 ⊢
   cases hf:refW w with
   |some x=>
    rw[hf] at h0;simp only at h0 ⊢;rw[zp h0]
    exact qlT r met hn hr
   |none=>
    rw[hf] at h0;simp only at h0 ⊢;rw[zp h0];exact qlT r met hn hr
theorem qr4{src x:Wd}{og:Int}{labs:List (Wd×Nat)}(h:asmP src og=.ok (x,labs)):qgn (qbi src)/\x.length<=40000:=by
 have h2:=(qi9 h).1;unfold asmP at h;split at h;cases h;split at h;cases h
 rename_i h1
 exact⟨qpa (Classical.not_not.1 h1),h2⟩
theorem qvl{W:List Wd}(hA:qgn W)(hc:∀ w∈W,qbr w){og:Int}(h0:0<=og)(h1:og<262144)(hl:lenW false W<=40000) :
  asmP (join W [32]) og=.ok (qcZ (qdL (qek (λ_=>0) og.toNat W)) W,qek (λ_=>0) og.toNat W)/\(qcZ (qdL (qek (λ_=>0) og.toNat W)) W).length=lenW false W:=by
 have hw:=qf2 hc;have ht:=qjN (qdL (qek (λ_=>0) og.toNat W)) W λw hw=>(hc w hw).1;refine⟨?_,ht⟩
 have he:(errT (defs W) [] (qgo (join W [32]))).2=0:=by
  refine qlT _ _ ?_ ?_;rw[qd6,hw];exact hA.1;rw[qd6,hw];exact hA.2
 unfold asmP;rw[zn (by omega),hw,zn (by rw[he];decide),zn (by rw[ht];omega)]
section
variable{P:Pr}{o:Org}{t:Wd}
end
end Go.Stele.Wi
namespace Go.Stele.Wi.Wc
open Go.Lib
def pay(w:Nat)(s:IS):IR Unit:=if s.left<w then .stop 13 s else .ok () { s with left:=s.left-w }
def wN(n:Nat):Nat:=if n<10 then 2 else if n<100 then 3 else if n<1000 then 4 else if n<10000 then 5 else if n<100000 then 6 else if n<1000000 then 7 else 12
def wE(op:Nm)(num:Nat)(name:Nm)(k:Nat):Nat:=
 if op=nNum then wN num
 else if op=nVar then 8
 else if op=qeh then 9
 else if op=nNeg then 3
 else if op=nNot then 3
 else if op=qbB then (if name=[105,110] then 1 else if name=[111,117,116] then 3 else 8 * k+11)
 else if op=[62] then 33
 else if op=[60,61] then 36
 else if op=[38,38] then 7
 else if op=[124,124] then 10
 else 4
def wS(kind:Int)(els:List Sm):Nat:=
 if kind=1 then 8
 else if kind=2 then 9
 else if kind=3 then (match els with
  |[]=>8
  |_::_=>18)
 else if kind=4 then 8
 else if kind=5 then 1
 else if kind=6 then 8
 else 0
def whlC(c:IS->IR Nat)(b:IS->IR (Option Nat)):Nat->Nat->IS->IR (Option Nat)
 |0,v,s=>if v=0 then .ok none s else .stop 13 s
 |m+1,v,s=>if v=0 then .ok none s else (b s).bind λr s=>match r with
  |some x=>.ok (some x) s
  |none=>(pay 18 s).bind λ_ s=>(c s).bind λv s=>whlC c b m v s
mutual
def evC(P:Pr):Nat->FnD->Ex->IS->IR Nat
 |0,_,_,s=>.stop 13 s
 |n+1,f,.mk op num name args,s=>(pay (wE op num name args.length) s).bind λ_ s=>(mapR (evC P n f) args s).bind λvs s=>opI P (stC P n) f op num name vs s
def stC(P:Pr):Nat->FnD->Sm->IS->IR (Option Nat)
 |0,_,_,s=>.stop 13 s
 |n+1,f,.mk kind name index value thn els,s=>(pay (wS kind els) s).bind λ_ s=>
  if kind=7 then .stop 0 s else (evC P n f (value.headD default) s).bind λv s=>
   if kind=1 then .ok none (qaJ s (keyI f name) v)
   else if kind=2 then (evC P n f (index.headD default) s).bind λi s=>match (s.ar name)[i]? with
    |some _=>.ok none { s with ar:=λx=>if x=name then (s.ar name).set i v else s.ar x }
    |none=>.stop 2 s
   else if kind=5 then .ok (some v) s
   else if kind=3 then (if v≠0 then blkR (stC P n f) thn s else blkR (stC P n f) els s)
   else if kind=4 then whlC (evC P n f (value.headD default)) (blkR (stC P n f) thn) n v s
   else .ok none s
end
def qaq{A:Type}(C:PW)(Q:A->IS->MS->Prop)(c d:Int)(m:MS)(s:IS):IR A->Prop
 |.ok v s'=>s'.left<=s.left/\∃ k:Nat,∃ m',(k:Int)<=c+((s.left:Int)-(s'.left:Int))/\Stp C k m m'/\Q v s' m'
 |.stop e s'=>qiD C (d+(s.left:Int)) m e s'
variable{C:PW}
section
variable{A B:Type}{Q:A->IS->MS->Prop}{R:B->IS->MS->Prop}{c d c1 d1 c2 d2:Int}{m m1:MS}{s:IS}
theorem qaq.pre{r:IR A}{a:Nat}(h:Stx C a m m1)(g:qaq C Q c1 d1 m1 s r)(hc:a+c1<=c)(hd:a+d1<=d):qaq C Q c d m s r:=by
 obtain⟨x,hx,hs⟩:=h
 cases r with
 |ok v s'=>
  obtain⟨h1,k,m',h2,h3,h4⟩:=g
  exact⟨h1,x+k,m',by omega,hs.trans h3,h4⟩
 |stop e s'=>exact(qiD.pre hs g).mono (by omega)
theorem qaq.ok{v:A}(h:Q v s m)(hc:0<=c):qaq C Q c d m s (.ok v s):=⟨zNr _,0,m,by omega,.zero _,h⟩
theorem qaq.bind{r:IR A}{f:A->IS->IR B}(h:qaq C Q c1 d1 m s r)(hc:c1+c2<=c)(hd:d1<=d)(hd2:c1+d2<=d)(hf:∀ v s' m',Q v s' m'->qaq C R c2 d2 m' s' (f v s')):qaq C R c d m s (r.bind f):=by
 cases r with
 |ok v s1=>
  obtain⟨h1,k,m',h2,h3,h4⟩:=h;have g:=hf v s1 m' h4;show qaq C R c d m s (f v s1);revert g
  cases f v s1 with
  |ok w s2=>
   rintro⟨k1,k',m2,k2,k3,k4⟩
   exact⟨by omega,k+k',m2,by omega,h3.trans k3,k4⟩
  |stop e s2=>exact λg=>(qiD.pre h3 g).mono (by omega)
 |stop e s1=>exact qiD.mono (s:=s1) h (by omega)
theorem qaq.post{r:IR A}{R:A->IS->MS->Prop}{a:Nat}(h:qaq C Q c1 d1 m s r)(hc:c1+a<=c)(hd:d1<=d)(hf:∀ v s' m',Q v s' m'->∃ m2,Stx C a m' m2/\R v s' m2):qaq C R c d m s r:=by
 cases r with
 |ok v s1=>
  obtain⟨h1,k,m',h2,h3,h4⟩:=h;obtain⟨m2,⟨x,hx,k1⟩,k2⟩:=hf v s1 m' h4
  exact⟨h1,k+x,m2,by omega,h3.trans k1,k2⟩
 |stop e s1=>exact qiD.mono h (by omega)
theorem qaq.tick{w:Nat}{f:Unit->IS->IR A}(hout:m.out=s.out)(h:w<=s.left->qaq C Q (c+w) (d+w) m { s with left:=s.left-w } (f () { s with left:=s.left-w })):qaq C Q c d m s ((pay w s).bind f):=by
 unfold pay;split;exact⟨λhe=>(by rcases he with he|he <;> cases he),λ_=>⟨0,m,.zero _,hout⟩⟩
 rename_i h0
 have k:=h (by omega);show qaq C Q c d m s (f () { s with left:=s.left-w })
 revert k
 cases f () { s with left:=s.left-w } with
 |ok v s1=>
  rintro⟨k1,k,m2,k2,k3⟩;simp only at k1 k2
  exact⟨by omega,k,m2,by omega,k3⟩
 |stop e s1=>
  intro k;exact qiD.mono k (by simp only;omega)
theorem qaq.limit(hout:m.out=s.out):qaq C Q c d m s (.stop 13 s):=⟨λhe=>(by rcases he with he|he <;> cases he),λ_=>⟨0,m,.zero _,hout⟩⟩
theorem qaq.other{e:Int}(h:e≠0/\e≠12/\e≠13):qaq C Q c d m s (.stop e s):=⟨λhe=>(by rcases he with he|he <;> omega),λhe=>by omega⟩
theorem qaq.trap{e:Int}(hd:0<=d)(he:e=0∨e=12)(h:∃ m',Stp C 0 m m'/\stepM C m'=.stop e.toNat s.out):qaq C Q c d m s (.stop e s):=by
 obtain⟨m',h1,h2⟩:=h;exact⟨λ_=>⟨0,m',by omega,h1,h2⟩,λhe'=>by omega⟩
end
def lf(s:IS)(l:Nat):IS:={ s with left:=l }
theorem qhj(s:IS)(w k l:Nat):pay w (lf s (l+(w+k)))=.ok () (lf s (l+k)):=by
 unfold pay lf;simp only;rw[zn (by omega),show l+(w+k)-w=l+k by omega]
section
variable(P:Pr)
def Op(f:FnD)(op:Nm)(num:Nat)(name:Nm)(vs:List Nat)(s:IS)(K v:Nat)(s':IS):Prop:=∃ k,k<=K/\∃ n0,∀ n,n0<=n->∀ l,opI P (stC P n) f op num name vs (lf s (l+k))=.ok v (lf s' l)
def Ev(f:FnD)(x:Ex)(s:IS)(K v:Nat)(s':IS):Prop:=∃ k,k<=K/\∃ n0,∀ n,n0<=n->∀ l,evC P n f x (lf s (l+k))=.ok v (lf s' l)
def Evs(f:FnD)(xs:List Ex)(s:IS)(K:Nat)(vs:List Nat)(s':IS):Prop:=∃ k,k<=K/\∃ n0,∀ n,n0<=n->∀ l,mapR (evC P n f) xs (lf s (l+k))=.ok vs (lf s' l)
def St(f:FnD)(a:Sm)(s:IS)(K:Nat)(r:Option Nat)(s':IS):Prop:=∃ k,k<=K/\∃ n0,∀ n,n0<=n->∀ l,stC P n f a (lf s (l+k))=.ok r (lf s' l)
def Bl(f:FnD)(b:List Sm)(s:IS)(K:Nat)(r:Option Nat)(s':IS):Prop:=∃ k,k<=K/\∃ n0,∀ n,n0<=n->∀ l,blkR (stC P n f) b (lf s (l+k))=.ok r (lf s' l)
def Wh(f:FnD)(x:Ex)(b:List Sm)(v:Nat)(s:IS)(K:Nat)(r:Option Nat)(s':IS):Prop:=∃ k,k<=K/\∃ n0,∀ n m,n0<=n->n0<=m->∀ l,whlC (evC P n f x) (blkR (stC P n f) b) m v (lf s (l+k))=.ok r (lf s' l)
end
section
variable{P:Pr}{f:FnD}{s s1 s2 s':IS}{K K1 K2 K3 v w:Nat}
theorem Ev.mono{x:Ex}(h:Ev P f x s K v s')(hk:K<=K1):Ev P f x s K1 v s':=by
 obtain⟨k,h1,h2⟩:=h;exact⟨k,by omega,h2⟩
theorem Bl.mono{b:List Sm}{r:Option Nat}(h:Bl P f b s K r s')(hk:K<=K1):Bl P f b s K1 r s':=by
 obtain⟨k,h1,h2⟩:=h;exact⟨k,by omega,h2⟩
theorem St.mono{a:Sm}{r:Option Nat}(h:St P f a s K r s')(hk:K<=K1):St P f a s K1 r s':=by
 obtain⟨k,h1,h2⟩:=h;exact⟨k,by omega,h2⟩
theorem Wh.mono{x:Ex}{b:List Sm}{r:Option Nat}(h:Wh P f x b v s K r s')(hk:K<=K1):Wh P f x b v s K1 r s':=by
 obtain⟨k,h1,h2⟩:=h;exact⟨k,by omega,h2⟩
theorem Evs.nil:Evs P f [] s 0 [] s:=⟨0,zNr _,0,λn _ l=>rfl⟩
theorem Evs.cons{x:Ex}{xs:List Ex}{vs:List Nat}(h:Ev P f x s K1 v s1)(g:Evs P f xs s1 K2 vs s'):Evs P f (x::xs) s (K1+K2) (v::vs) s':=by
 obtain⟨k1,h1,n1,e1⟩:=h;obtain⟨k2,h2,n2,e2⟩:=g;refine⟨k1+k2,by omega,max n1 n2,λn hn l=>?_⟩;unfold mapR;rw[show l+(k1+k2)=(l+k2)+k1 by omega,e1 n (by omega) (l+k2)];show(mapR (evC P n f) xs (lf s1 (l+k2))).bind _=_;rw[e2 n (by omega) l]
 try rfl
theorem Ev.mk{op:Nm}{num:Nat}{name:Nm}{args:List Ex}{vs:List Nat}(h:Evs P f args s K1 vs s1)(g:Op P f op num name vs s1 K2 v s'):Ev P f (.mk op num name args) s (wE op num name args.length+K1+K2) v s':=by
 obtain⟨k1,h1,n1,e1⟩:=h;obtain⟨k2,h2,n2,e2⟩:=g;refine⟨wE op num name args.length+(k1+k2),by omega,max n1 n2+1,λn hn l=>?_⟩;obtain⟨m,rfl⟩:∃ m,n=m+1:=⟨n-1,by omega⟩;rw[evC,qhj];show(mapR (evC P m f) args (lf s (l+(k1+k2)))).bind _=_;rw[show l+(k1+k2)=(l+k2)+k1 by omega,e1 m (by omega) (l+k2)];exact e2 m (by omega) l
def vOp(f:FnD)(s:IS)(op:Nm)(num:Nat)(name:Nm)(vs:List Nat):Nat:=
 if op=nNum then num
 else if op=nVar then s.sc (keyI f name)
 else if op=qeh then (s.ar name).getD (vs.headD 0) 0
 else if op=nNeg then (4294967296-vs.headD 0) % 4294967296
 else if op=nNot then b2n (decide (vs.headD 0=0))
 else (binI op (vs.headD 0) (vs.tail.headD 0)).getD 0
def okOp(f:FnD)(s:IS)(op:Nm)(name:Nm)(vs:List Nat):Bool:=
 if op=nNum then true
 else if op=nVar then true
 else if op=qeh then decide (vs.headD 0<(s.ar name).length)
 else if op=nNeg then true
 else if op=nNot then true
 else if op=qbB then false
 else (binI op (vs.headD 0) (vs.tail.headD 0)).isSome
theorem Op.pure{op:Nm}{num:Nat}{name:Nm}{vs:List Nat}(h:okOp f s op name vs=true):Op P f op num name vs s 0 (vOp f s op num name vs) s:=by
 refine⟨0,zNr _,0,λn _ l=>?_⟩;rw[Nat.add_zero];unfold okOp at h
 by_cases h1:op=nNum
 subst h1;rfl
 by_cases h2:op=nVar
 subst h2;rfl;rw[zn h1,zn h2] at h
 by_cases h3:op=qeh
 ·subst h3;rw[zp rfl] at h;have hlt:=of_decide_eq_true h
  show(match (s.ar name)[vs.headD 0]? with
   |some v=>IR.ok v (lf s l)
   |none=>.stop 2 (lf s l))=.ok ((s.ar name).getD (vs.headD 0) 0) (lf s l)
  rw[List.getElem?_eq_getElem hlt,List.getD_eq_getElem?_getD,List.getElem?_eq_getElem hlt]
  try rfl
 rw[zn h3] at h
 by_cases h4:op=nNeg
 subst h4;rfl;rw[zn h4] at h
 by_cases h5:op=nNot
 subst h5;rfl;rw[zn h5] at h
 by_cases h6:op=qbB
 rw[zp h6] at h;cases h;rw[zn h6] at h;unfold opI vOp;rw[zn h1,zn h2,zn h3,zn h4,zn h5,zn (show op≠[110,117,109] from h1),zn (show op≠[118,97,114] from h2),zn (show op≠[101,108,101,109] from h3),zn (show op≠[110,101,103] from h4),zn (show op≠[110,111,116] from h5),zn (show op≠[99,97,108,108] from h6)]
 cases hb:binI op (vs.headD 0) (vs.tail.headD 0) with
 |none=>rw[hb] at h;cases h
 |some v=>rfl
theorem Op.inp{num:Nat}:Op P f qbB num [105,110] [] s 0 (s.inp.headD 4294967295) { s with inp:=s.inp.tail }:=by
 refine⟨0,zNr _,0,λn _ l=>?_⟩;show qid P (stC P n) [105,110] [] (lf s l)=_;unfold qid;rw[zp rfl]
 show(match s.inp with
  |[]=>IR.ok 4294967295 (lf s l)
  |v::r=>.ok v { lf s l with inp:=r })=_
 cases hi:s.inp with
 |nil=>
  simp only[List.headD_nil,List.tail_nil];unfold lf;simp only
  congr 2
 |cons a r=>rfl
theorem Op.out{num v:Nat}:Op P f qbB num [111,117,116] [v] s 0 0 { s with out:=s.out++[UInt8.ofNat v] }:=by
 refine⟨0,zNr _,0,λn _ l=>?_⟩;show qid P (stC P n) [111,117,116] [v] (lf s l)=_;unfold qid;rw[zn zDd,zp rfl]
 try rfl
theorem qpH(g:FnD):∀ (ps:List Nm) (vs:List Nat) (s:IS) (l:Nat),qe8 g ps vs (lf s l)=lf (qe8 g ps vs s) l
 |[],vs,s,l=>by cases vs <;> rfl
 |p::ps,[],s,l=>rfl
 |p::ps,w::vs,s,l=>by
  rw[qe8,qe8];exact qpH g ps vs (qaJ s (keyI g p) w) l
theorem Op.call{num:Nat}{name:Nm}{vs:List Nat}{r:Option Nat}(h1:name≠[105,110])(h2:name≠[111,117,116])(h:Bl P (fnI P name) (fnI P name).body (qe8 (fnI P name) (fnI P name).params vs s) K r s'):Op P f qbB num name vs s K (r.getD 0) s':=by
 obtain⟨k,hk,n0,e⟩:=h;refine⟨k,hk,n0,λn hn l=>?_⟩;show qid P (stC P n) name vs (lf s (l+k))=_;unfold qid;rw[zn h1,zn h2,qpH,e n hn l]
 try rfl
def qmL(s:IS)(name:Nm)(i v:Nat):IS:={ s with ar:=λx=>if x=name then (s.ar name).set i v else s.ar x }
theorem St.asg{x:Ex}{name:Nm}{ix vr:List Ex}{th el:List Sm}(h:Ev P f x s K v s1):St P f (.mk 1 name ix (x::vr) th el) s (8+K) none (qaJ s1 (keyI f name) v):=by
 obtain⟨k,hk,n0,e⟩:=h;refine⟨8+k,by omega,n0+1,λn hn l=>?_⟩;obtain⟨m,rfl⟩:∃ m,n=m+1:=⟨n-1,by omega⟩;rw[stC,show wS 1 el=8 from rfl,qhj];show(evC P m f x (lf s (l+k))).bind _=_;rw[e m (by omega) l]
 try rfl
theorem St.elem{x y:Ex}{name:Nm}{yr xr:List Ex}{th el:List Sm}{i:Nat}(h:Ev P f x s K v s1)(g:Ev P f y s1 K2 i s2)(hi:i<(s2.ar name).length):St P f (.mk 2 name (y::yr) (x::xr) th el) s (9+K+K2) none (qmL s2 name i v):=by
 obtain⟨k,hk,n0,e⟩:=h;obtain⟨k2,hk2,n2,e2⟩:=g;refine⟨9+(k+k2),by omega,max n0 n2+1,λn hn l=>?_⟩;obtain⟨m,rfl⟩:∃ m,n=m+1:=⟨n-1,by omega⟩;rw[stC,show wS 2 el=9 from rfl,qhj];show(evC P m f x (lf s (l+(k+k2)))).bind _=_;rw[show l+(k+k2)=(l+k2)+k by omega,e m (by omega) (l+k2)];show(evC P m f y (lf s1 (l+k2))).bind _=_;rw[e2 m (by omega) l]
 show(match (s2.ar name)[i]? with
  |some _=>IR.ok none _
  |none=>IR.stop 2 _)=_
 rw[List.getElem?_eq_getElem hi]
 try rfl
theorem St.ret{x:Ex}{name:Nm}{ix vr:List Ex}{th el:List Sm}(h:Ev P f x s K v s1):St P f (.mk 5 name ix (x::vr) th el) s (1+K) (some v) s1:=by
 obtain⟨k,hk,n0,e⟩:=h;refine⟨1+k,by omega,n0+1,λn hn l=>?_⟩;obtain⟨m,rfl⟩:∃ m,n=m+1:=⟨n-1,by omega⟩;rw[stC,show wS 5 el=1 from rfl,qhj];show(evC P m f x (lf s (l+k))).bind _=_;rw[e m (by omega) l]
 try rfl
theorem St.exp{x:Ex}{name:Nm}{ix vr:List Ex}{th el:List Sm}(h:Ev P f x s K v s1):St P f (.mk 6 name ix (x::vr) th el) s (8+K) none s1:=by
 obtain⟨k,hk,n0,e⟩:=h;refine⟨8+k,by omega,n0+1,λn hn l=>?_⟩;obtain⟨m,rfl⟩:∃ m,n=m+1:=⟨n-1,by omega⟩;rw[stC,show wS 6 el=8 from rfl,qhj];show(evC P m f x (lf s (l+k))).bind _=_;rw[e m (by omega) l]
 try rfl
theorem St.ift{x:Ex}{name:Nm}{ix vr:List Ex}{th el:List Sm}{r:Option Nat}(h:Ev P f x s K v s1)(hv:v≠0)(g:Bl P f th s1 K2 r s2):St P f (.mk 3 name ix (x::vr) th el) s (wS 3 el+K+K2) r s2:=by
 obtain⟨k,hk,n0,e⟩:=h;obtain⟨k2,hk2,n2,e2⟩:=g;refine⟨wS 3 el+(k+k2),by omega,max n0 n2+1,λn hn l=>?_⟩;obtain⟨m,rfl⟩:∃ m,n=m+1:=⟨n-1,by omega⟩;rw[stC,qhj];show(evC P m f x (lf s (l+(k+k2)))).bind _=_;rw[show l+(k+k2)=(l+k2)+k by omega,e m (by omega) (l+k2)];show(if v≠0 then blkR (stC P m f) th (lf s1 (l+k2)) else blkR (stC P m f) el (lf s1 (l+k2)))=_;rw[zp hv];exact e2 m (by omega) l
theorem St.iff{x:Ex}{name:Nm}{ix vr:List Ex}{th el:List Sm}{r:Option Nat}(h:Ev P f x s K 0 s1)(g:Bl P f el s1 K2 r s2):St P f (.mk 3 name ix (x::vr) th el) s (wS 3 el+K+K2) r s2:=by
 obtain⟨k,hk,n0,e⟩:=h;obtain⟨k2,hk2,n2,e2⟩:=g;refine⟨wS 3 el+(k+k2),by omega,max n0 n2+1,λn hn l=>?_⟩;obtain⟨m,rfl⟩:∃ m,n=m+1:=⟨n-1,by omega⟩;rw[stC,qhj];show(evC P m f x (lf s (l+(k+k2)))).bind _=_;rw[show l+(k+k2)=(l+k2)+k by omega,e m (by omega) (l+k2)];exact e2 m (by omega) l
theorem St.whl{x:Ex}{name:Nm}{ix vr:List Ex}{th el:List Sm}{r:Option Nat}(h:Ev P f x s K v s1)(g:Wh P f x th v s1 K2 r s2):St P f (.mk 4 name ix (x::vr) th el) s (8+K+K2) r s2:=by
 obtain⟨k,hk,n0,e⟩:=h;obtain⟨k2,hk2,n2,e2⟩:=g;refine⟨8+(k+k2),by omega,max n0 n2+1,λn hn l=>?_⟩;obtain⟨m,rfl⟩:∃ m,n=m+1:=⟨n-1,by omega⟩;rw[stC,show wS 4 el=8 from rfl,qhj];show(evC P m f x (lf s (l+(k+k2)))).bind _=_;rw[show l+(k+k2)=(l+k2)+k by omega,e m (by omega) (l+k2)];exact e2 m m (by omega) (by omega) l
theorem Bl.nil:Bl P f [] s 0 none s:=⟨0,zNr _,0,λn _ l=>rfl⟩
theorem Bl.cons{a:Sm}{b:List Sm}{r:Option Nat}(h:St P f a s K1 none s1)(g:Bl P f b s1 K2 r s'):Bl P f (a::b) s (K1+K2) r s':=by
 obtain⟨k,hk,n0,e⟩:=h;obtain⟨k2,hk2,n2,e2⟩:=g;refine⟨k+k2,by omega,max n0 n2,λn hn l=>?_⟩;unfold blkR;rw[show l+(k+k2)=(l+k2)+k by omega,e n (by omega) (l+k2)];exact e2 n (by omega) l
theorem Bl.ret{a:Sm}{b:List Sm}(h:St P f a s K (some v) s'):Bl P f (a::b) s K (some v) s':=by
 obtain⟨k,hk,n0,e⟩:=h;refine⟨k,hk,n0,λn hn l=>?_⟩;unfold blkR;rw[e n hn l]
 try rfl
theorem Bl.app{a b:List Sm}{r:Option Nat}:∀ {s:IS} {K1:Nat},Bl P f a s K1 none s1->Bl P f b s1 K2 r s'->Bl P f (a++b) s (K1+K2) r s':=by
 rintro s K1 ⟨k,hk,n0,e⟩ ⟨k2,hk2,n2,e2⟩;refine⟨k+k2,by omega,max n0 n2,λn hn l=>?_⟩
 have key:∀ (a:List Sm) (s:IS),blkR (stC P n f) (a++b) s=(blkR (stC P n f) a s).bind λr s=>match r with
   |some v=>.ok (some v) s
   |none=>blkR (stC P n f) b s:=by
  intro a
  induction a with
  |nil=>intro s;rfl
  |cons x a ih=>
   intro s;show(stC P n f x s).bind _=IR.bind (IR.bind (stC P n f x s) _) _;rw[qd0];congr 1;funext r s
   cases r with
   |some v=>rfl
   |none=>exact ih s
 rw[key,show l+(k+k2)=(l+k2)+k by omega,e n (by omega) (l+k2)];exact e2 n (by omega) l
theorem Wh.done{x:Ex}{b:List Sm}:Wh P f x b 0 s 0 none s:=⟨0,zNr _,1,λn m _ hm l=>by
 obtain⟨m,rfl⟩:∃ k,m=k+1:=⟨m-1,by omega⟩
 rfl⟩
theorem Wh.next{x:Ex}{b:List Sm}{r:Option Nat}(hv:v≠0)(h:Bl P f b s K1 none s1)(g:Ev P f x s1 K2 w s2)(q:Wh P f x b w s2 K3 r s'):Wh P f x b v s (K1+18+K2+K3) r s':=by
 obtain⟨k1,h1,n1,e1⟩:=h;obtain⟨k2,h2,n2,e2⟩:=g;obtain⟨k3,h3,n3,e3⟩:=q;refine⟨k1+(18+(k2+k3)),by omega,max n1 (max n2 n3)+1,λn m hn hm l=>?_⟩;obtain⟨m,rfl⟩:∃ k,m=k+1:=⟨m-1,by omega⟩;rw[whlC,zn hv,show l+(k1+(18+(k2+k3)))=(l+(18+(k2+k3)))+k1 by omega,e1 n (by omega)];show(pay 18 (lf s1 (l+(18+(k2+k3))))).bind _=_;rw[qhj];show(evC P n f x (lf s1 (l+(k2+k3)))).bind _=_;rw[show l+(k2+k3)=(l+k3)+k2 by omega,e2 n (by omega)];exact e3 n m (by omega) (by omega) l
end
mutual
def vE(f:FnD)(s:IS):Ex->Nat
 |.mk op num name args=>vOp f s op num name (vEs f s args)
def vEs(f:FnD)(s:IS):List Ex->List Nat
 |[]=>[]
 |x::l=>vE f s x::vEs f s l
end
mutual
def okE(f:FnD)(s:IS):Ex->Bool
 |.mk op num name args=>okEs f s args && okOp f s op name (vEs f s args)
def okEs(f:FnD)(s:IS):List Ex->Bool
 |[]=>true
 |x::l=>okE f s x && okEs f s l
end
mutual
def cE:Ex->Nat
 |.mk op num name args=>wE op num name args.length+cEs args
def cEs:List Ex->Nat
 |[]=>0
 |x::l=>cE x+cEs l
end
mutual
theorem Ev.pure{P:Pr}{f:FnD}{s:IS}:∀ (x:Ex),okE f s x=true->Ev P f x s (cE x) (vE f s x) s
 |.mk op num name args,h=>by
  rw[okE,zBa] at h;rw[cE,vE];exact(Ev.mk (Evs.pure args h.1) (Op.pure h.2)).mono (by omega)
theorem Evs.pure{P:Pr}{f:FnD}{s:IS}:∀ (l:List Ex),okEs f s l=true->Evs P f l s (cEs l) (vEs f s l) s
 |[],_=>by rw[cEs,vEs];exact Evs.nil
 |x::l,h=>by
  rw[okEs,zBa] at h;rw[cEs,vEs];exact Evs.cons (Ev.pure x h.1) (Evs.pure l h.2)
end
section
variable(f:FnD)(s:IS)(n:Nat)(m:Nm)(x y:Ex)
theorem qdC:vE f s (.mk [110,117,109] n m [])=n:=rfl
theorem qc1:vE f s (.mk [118,97,114] n m [])=s.sc (keyI f m):=rfl
theorem qja:vE f s (.mk [43] n m [x,y])=(vE f s x+vE f s y) % 4294967296:=by
 show(binI [43] (vE f s x) (vE f s y)).getD 0=_;unfold binI;rw[zp rfl];exact getD_some
theorem qpo:vE f s (.mk [42] n m [x,y])=vE f s x * vE f s y % 4294967296:=by
 show(binI [42] (vE f s x) (vE f s y)).getD 0=_;unfold binI;rw[zn zDd,zn zDd,zp rfl];exact getD_some
theorem qu5:vE f s (.mk [94] n m [x,y])=vE f s x ^^^ vE f s y:=by
 show(binI [94] (vE f s x) (vE f s y)).getD 0=_;unfold binI;rw[zn zDd,zn zDd,zn zDd,zp rfl];exact getD_some
theorem vE_eq:vE f s (.mk [61,61] n m [x,y])=b2n (decide (vE f s x=vE f s y)):=by
 show(binI [61,61] (vE f s x) (vE f s y)).getD 0=_;unfold binI;rw[zn zDd,zn zDd,zn zDd,zn zDd,zp rfl];exact getD_some
theorem vE_ne:vE f s (.mk [33,61] n m [x,y])=b2n (decide (vE f s x≠vE f s y)):=by
 show(binI [33,61] (vE f s x) (vE f s y)).getD 0=_;unfold binI;rw[zn zDd,zn zDd,zn zDd,zn zDd,zn zDd,zp rfl];exact getD_some
theorem quh:vE f s (.mk [60] n m [x,y])=b2n (decide (vE f s x<vE f s y)):=by
 show(binI [60] (vE f s x) (vE f s y)).getD 0=_;unfold binI;rw[zn zDd,zn zDd,zn zDd,zn zDd,zn zDd,zn zDd,zp rfl];exact getD_some
theorem vE_gt:vE f s (.mk [62] n m [x,y])=b2n (decide (vE f s y<vE f s x)):=by
 show(binI [62] (vE f s x) (vE f s y)).getD 0=_;unfold binI;rw[zn zDd,zn zDd,zn zDd,zn zDd,zn zDd,zn zDd,zn zDd,zp rfl];exact getD_some
theorem Ev.of{P:Pr}{f:FnD}{s:IS}{v:Nat}{x:Ex}(h:okE f s x=true)(hv:vE f s x=v):Ev P f x s (cE x) v s:=hv▸Ev.pure x h
end
theorem qvq{P:Pr}{inp:List Nat}{limit:Nat}{r:Option Nat}{s':IS}(h:Bl P (qbS P) (qbS P).body (qdE P inp 0) limit r s'):∃ fuel s2,blkR (stC P fuel (qbS P)) (qbS P).body (qdE P inp limit)=.ok r s2/\s2.out=s'.out:=by
 obtain⟨k,hk,n0,e⟩:=h;refine⟨n0,lf s' (limit-k),?_,rfl⟩;have:=e n0 (zNr _) (limit-k);rw[show limit-k+k=limit by omega] at this;exact this
theorem wN_le{n:Nat}(h:n<4294967296):(decDigits n).length+1<=wN n:=by
 unfold wN;split;have:=qdk 0 n (by omega);omega;split;have:=qdk 1 n (by omega);omega;split;have:=qdk 2 n (by omega);omega;split;have:=qdk 3 n (by omega);omega;split;have:=qdk 4 n (by omega);omega;split;have:=qdk 5 n (by omega);omega;have:=qdk 9 n (by omega);omega
def wB(op:Nm):Nat:=if op=[62] then 33 else if op=[60,61] then 36 else 4
theorem qx3(op:Nm):1<=wB op:=by
 unfold wB;split;omega;split <;> omega
def EvOk(X:Trn)(n:Nat):Prop:=∀ f∈X.P.funcs,∀ e i s m d c,numE e->errE (X.cenv f) e=0->X.C.Code i (exW (X.cc f) e)->X.Vw s i d c m->d.length+qba (X.cenv f) e<=256->c.length+depE (X.cenv f) e<=64 ->
 qaq X.C (λv s' m'=>X.Vw s' (i+(exW (X.cc f) e).length) (v::d) c m') 0 0 m s (evC X.P n f e s)
def qvB(X:Trn)(n:Nat):Prop:=∀ f∈X.P.funcs,∀ name vs i s m d c,name≠[105,110]->name≠[111,117,116]->callE (X.cenv f) name vs.length=0->X.C.Code i [[38,102,95]++name,[58]]->X.Vw s i (vs.reverse++d) c m ->
 (∀ g,(X.cenv f).fn name=some g->d.length+max (g.params+1) g.need<=256/\c.length+(g.depth+1)<=64) ->
 qaq X.C (λv s' m'=>X.Vw s' (i+2) (v::d) c m') (8 * vs.length+11) (8 * vs.length+11) m s (qid X.P (stC X.P n) name vs s)
section
variable{X:Trn}{n:Nat}
theorem qs9(hE:EvOk X n){f:FnD}(hf:f∈X.P.funcs):∀ (l:List Ex) i s m d c,qcX l->qbs (X.cenv f) l=0->X.C.Code i (exWl (X.cc f) l).flatten->X.Vw s i d c m->(∀ k (h:k<l.length),d.length+k+qba (X.cenv f) l[k]<=256)->c.length+qb0 (X.cenv f) l<=64 ->
  qaq X.C (λvs s' m'=>vs.length=l.length/\X.Vw s' (i+(exWl (X.cc f) l).flatten.length) (vs.reverse++d) c m') 0 0 m s (mapR (evC X.P n f) l s)
 |[],i,s,m,d,c,_,_,_,v,_,_=>qaq.ok ⟨rfl,v⟩ (Int.le_refl 0)
 |e::l,i,s,m,d,c,hn,he,hc,v,hd,hdep=>by
  rw[qbs] at he;obtain⟨he1,he2⟩:=qah.1 he;rw[qb0] at hdep;rw[exWl,List.flatten_cons] at hc;obtain⟨hc1,hc2⟩:=hc.app;unfold mapR;have h0:=hd 0 (by simp);simp only[List.getElem_cons_zero] at h0;refine qaq.bind (c2:=0) (d2:=0) (hE f hf e i s m d c hn.1 he1 hc1 v (by omega) (by omega)) (by omega) (Int.le_refl _) (by omega) λa s' m' va=>?_;refine qaq.bind (c2:=0) (d2:=0) (qs9 hE hf l _ s' m' (a::d) c hn.2 he2 hc2 va (λk hk=>?_) (by omega)) (by omega) (Int.le_refl _) (by omega) λvs s2 m2 hv=>?_;have:=hd (k+1) (by rw[zLc];omega);simp only[List.getElem_cons_succ] at this;rw[zLc];omega;refine qaq.ok ⟨by rw[zLc,zLc,hv.1],?_⟩ (Int.le_refl _);have:=hv.2;rw[exWl,List.flatten_cons,zLa,<-add_assoc];simpa using this
theorem qxo(hX:TrnOk X){f:FnD}(hf:f∈X.P.funcs){op:Nm}(hop:op∈qeQ)(h1:op≠[33,61])(h2:op≠[38,38])(h3:op≠[124,124]){s:IS}{i a b:Nat}{d:List Nat}{c:List (List Wd)}{m:MS}(v:X.Vw s i (b::a::d) c m)(hd:d.length+3<=256∨(d.length+2<=256/\op≠[62]/\op≠[60,61]))
  {ws:List Wd} (hw:ws=(if op=[62] then qa0 (X.cc f) else if op=[60,61] then qa0 (X.cc f)++[[49],[94]] else if op=[62,61] then [[60],[49],[94]] else if op=[61,61] then [[94],[49],[60]] else [op])) (hc:X.C.Code i ws) :
  qaq X.C (λr s' m'=>X.Vw s' (i+ws.length) (r::d) c m') (wB op:Int) 0 m s (match binI op a b with
   |some r=>.ok r s
   |none=>.stop 12 s):=by
 have hd2:d.length+2<=256:=by omega
 have simple:∀ ch:UInt8,op=[ch]->isOp ch->(ws=[op])->binI op a b=binM ch.toNat a b->qaq X.C (λr s' m'=>X.Vw s' (i+ws.length) (r::d) c m') (wB op:Int) 0 m s (match binI op a b with
   |some r=>.ok r s
   |none=>.stop 12 s):=by
  intro ch e1 e2 e3 e4;subst e3;obtain⟨w0,_⟩:=hc.cons;rw[e1] at w0;rw[e4]
  cases hv:binM ch.toNat a b with
  |some r=>
   obtain⟨m1,t1,v1,_⟩:=v.op w0 e2 hv (by omega);have:=qx3 op
   exact qaq.pre t1 (qaq.ok (c:=0) (d := -1) v1 (Int.le_refl 0)) (by omega) (by omega)
  |none=>exact qaq.trap (by omega) (.inr rfl) (by rw[<-v.rel.out];exact PW.opTrap v.here e2 w0 v.data hv)
 simp only[qeQ,zMi,not_mem_nil,or_false] at hop;rcases hop with rfl|rfl|rfl|rfl|rfl|rfl|rfl|rfl|rfl|rfl|rfl|rfl|rfl|rfl;exact absurd rfl h3;exact absurd rfl h2
 ·-- ==
  have hw:ws=[[94],[49],[60]]:=hw;subst hw;obtain⟨w0,hc⟩:=hc.cons;obtain⟨w1,hc⟩:=hc.cons;obtain⟨w2,hc⟩:=hc.cons;obtain⟨m1,t1,v1,_⟩:=v.op (x:=a ^^^ b) w0 (by unfold isOp;simp) rfl (by omega);obtain⟨m2,t2,v2,_⟩:=v1.dig (n:=1) w1 zDd rfl (by simp only[zLc];omega)
  obtain⟨m3,t3,v3,_⟩:=v2.op (x:=b2n (decide (a=b))) w2 (by unfold isOp;simp) (by
   unfold binM;simp only[xor_zero];unfold b2n
   simp) (by omega)
  have:wB [61,61]=4:=rfl;exact qaq.pre (t1.trans (t2.trans t3)) (qaq.ok (c:=0) (d := -4) v3 (Int.le_refl 0)) (by omega) (by omega)
 exact absurd rfl h1
 ·exact simple 60 rfl (by unfold isOp;simp) hw (by unfold binM;rw[zn zDd,zn zDd,zn zDd,zn zDd,zn zDd,zn zDd,qes];try rfl)
 ·-- >
  have hw:ws=qa0 (X.cc f):=hw;subst hw;obtain⟨m1,t1,v1⟩:=v.greater hX hf hc (by rcases hd with h|h;omega;exact absurd rfl h.2.1);have:wB [62]=33:=rfl;exact qaq.pre t1 (qaq.ok (c:=0) (d := -33) v1 (Int.le_refl 0)) (by omega) (by omega)
 ·-- <=
  have hw:ws=qa0 (X.cc f)++[[49],[94]]:=hw;subst hw;obtain⟨hc1,hc2⟩:=hc.app;obtain⟨m1,t1,v1⟩:=v.greater hX hf hc1 (by rcases hd with h|h;omega;exact absurd rfl h.2.2);have hl:(qa0 (X.cc f)).length=9:=rfl;rw[hl] at hc2;obtain⟨w1,hc2⟩:=hc2.cons;obtain⟨w2,hc2⟩:=hc2.cons;obtain⟨m2,t2,v2,_⟩:=v1.dig (n:=1) w1 zDd rfl (by simp only[zLc];omega)
  obtain⟨m3,t3,v3,_⟩:=v2.op (x:=b2n (decide (a<=b))) w2 (by unfold isOp;simp) (by
   unfold binM b2n
   by_cases h:b<a
   simp[h,show ¬ a<=b by omega]
   simp[h,show a<=b by omega]) (by omega)
  have:wB [60,61]=36:=rfl
  exact qaq.pre (t1.trans (t2.trans t3)) (qaq.ok (c:=0) (d := -36) (by
   have:i+9+1+1=i+(qa0 (X.cc f)++[[49],[94]]).length:=rfl
   exact v3.cast this) (Int.le_refl 0)) (by omega) (by omega)
 ·-- >=
  have hw:ws=[[60],[49],[94]]:=hw;subst hw;obtain⟨w0,hc⟩:=hc.cons;obtain⟨w1,hc⟩:=hc.cons;obtain⟨w2,hc⟩:=hc.cons;obtain⟨m1,t1,v1,_⟩:=v.op (x:=b2n (decide (a<b))) w0 (by unfold isOp;simp) (by unfold binM;rw[zn zDd,zn zDd,zn zDd,zn zDd,zn zDd,zn zDd,qes]) (by omega);obtain⟨m2,t2,v2,_⟩:=v1.dig (n:=1) w1 zDd rfl (by simp only[zLc];omega)
  obtain⟨m3,t3,v3,_⟩:=v2.op (x:=b2n (decide (b<=a))) w2 (by unfold isOp;simp) (by
   unfold binM b2n
   by_cases h:a<b
   simp[h,show ¬ b<=a by omega]
   simp[h,show b<=a by omega]) (by omega)
  have:wB [62,61]=4:=rfl;exact qaq.pre (t1.trans (t2.trans t3)) (qaq.ok (c:=0) (d := -4) v3 (Int.le_refl 0)) (by omega) (by omega)
 exact simple 94 rfl (by unfold isOp;simp) hw rfl;exact simple 43 rfl (by unfold isOp;simp) hw rfl;exact simple 45 rfl (by unfold isOp;simp) hw rfl;exact simple 42 rfl (by unfold isOp;simp) hw rfl;exact simple 47 rfl (by unfold isOp;simp) hw (by unfold binM binI;by_cases h:b=0 <;> simp[h]);exact simple 37 rfl (by unfold isOp;simp) hw (by unfold binM binI;by_cases h:b=0 <;> simp[h])
end
section
variable{X:Trn}{n:Nat}
theorem qwn(hX:TrnOk X)(hE:EvOk X n)(hC:qvB X n):EvOk X (n+1):=by
 intro f hf e i s m d c hn he hc v hd hdep;obtain⟨op,num,name,args⟩:=e;rw[errE] at he;split at he
 case isFalse=>cases he
 rename_i hop
 obtain⟨he1,he2⟩:=qah.1 he;rw[evC];refine qaq.tick v.rel.out λhleft=>?_;have v:=v.steps (s.left-wE op num name args.length);generalize { s with left:=s.left-wE op num name args.length }=s1 at v ⊢;clear hleft;obtain⟨hnum,hn⟩:=hn;rw[exW] at hc ⊢;rw[qba] at hd;rw[depE] at hdep;have hdep2:c.length+qb0 (X.cenv f) args<=64:=by omega
 by_cases h1:op=nNum
 ·subst h1
  have ha:args=[]:=List.eq_nil_of_length_eq_zero (by
   have e:qbw nNum=0:=rfl;rw[e] at hop
   omega)
  subst ha;have hr:((mapR (evC X.P n f) [] s1).bind λvs s=>opI X.P (stC X.P n) f nNum num name vs s)=.ok num s1:=rfl;rw[hr];have hw:opW (X.cc f) nNum num name (exWl (X.cc f) [])=[decDigits num]:=by rw[exWl];try rfl
  rw[hw] at hc ⊢;obtain⟨w0,_⟩:=hc.cons
  have hroom:d.length<256:=by
   have:opN (X.cenv f) nNum name (qaZ (X.cenv f) [])=1:=rfl;omega
  have hq:wE nNum num name ([]:List Ex).length=wN num:=rfl;rw[hq];obtain⟨m1,t1,v1,_⟩:=v.num (k:=wN num) w0 hnum (wN_le hnum) hroom;exact qaq.pre t1 (qaq.ok (c:=0) (d:=0) v1 (Int.le_refl 0)) (by omega) (by omega)
 by_cases h2:op=nVar
 ·subst h2
  have ha:args=[]:=List.eq_nil_of_length_eq_zero (by
   have e:qbw nVar=0:=rfl;rw[e] at hop
   omega)
  subst ha;have hr:((mapR (evC X.P n f) [] s1).bind λvs s=>opI X.P (stC X.P n) f nVar num name vs s)=.ok (s1.sc (keyI f name)) s1:=rfl;rw[hr];have he3:qcg (X.cenv f) name=0:=he2;obtain⟨a1,a2⟩:=hX.sc f hf name he3;have hw:opW (X.cc f) nVar num name (exWl (X.cc f) [])=[(X.cc f).sc name,[64]]:=by rw[exWl];try rfl
  rw[hw,a1] at hc;rw[hw];obtain⟨w0,hc⟩:=hc.cons;obtain⟨w1,hc⟩:=hc.cons
  have hroom:d.length<256:=by
   have:opN (X.cenv f) nVar name (qaZ (X.cenv f) [])=1:=rfl;omega
  have hlow:=hX.low _ (.inl ⟨_,a2,rfl⟩);obtain⟨m1,t1,v1,e1⟩:=v.addr w0 (by omega) hroom;obtain⟨m2,t2,v2,e2⟩:=v1.load w1 (hX.dat _ (.inl ⟨_,a2,rfl⟩)) hroom;rw[e1,v.rel.sc _ a2] at v2;have hq:wE nVar num name ([]:List Ex).length=8:=rfl;rw[hq];exact qaq.pre (t1.trans t2) (qaq.ok (c:=0) (d:=0) v2 (Int.le_refl 0)) (by omega) (by omega)
 by_cases h3:op=qeh
 ·subst h3
  obtain⟨x,rfl⟩:∃ x,args=[x]:=List.length_eq_one_iff.1 (by
   have e:qbw qeh=1:=rfl;rw[e] at hop
   omega)
  rw[qhB,qd0];have he3:qeU (X.cenv f) name=0:=he2;obtain⟨a1,A,hA,rfl⟩:=hX.ar f hf name he3;have hw:opW (X.cc f) qeh num A.name (exWl (X.cc f) [x])=(X.cc f).ar A.name::(exW (X.cc f) x++[[43],[64]]):=by rw[exWl];try rfl
  rw[hw,a1] at hc;rw[hw];obtain⟨w0,hc⟩:=hc.cons;obtain⟨hcx,hc⟩:=hc.app;obtain⟨w1,hc⟩:=hc.cons;obtain⟨w2,hc⟩:=hc.cons;have hneed:d.length+(1+qba (X.cenv f) x)<=256:=hd;rw[qbs] at he1;rw[qb0] at hdep2;have hbase:∀ j,j<A.size->X.aa A.name+j<262144:=λj hj=>hX.low _ (.inr (.inr ⟨A,hA,j,hj,rfl⟩));have haa:X.aa A.name<1000000:=hX.arLow A hA;obtain⟨m1,t1,v1,e1⟩:=v.addr w0 haa (by omega);have hq:wE qeh num A.name [x].length=9:=rfl;rw[hq];refine qaq.pre t1 (c1:=2) (d1:=2) ?_ (by omega) (by omega);refine qaq.bind (c2:=2) (d2:=2) (hE f hf x (i+1) s1 m1 (X.aa A.name::d) c hn.1 (qah.1 he1).1 hcx v1 (by rw[zLc];omega) (by omega)) (by omega) (by omega) (by omega) λa s' m' va=>?_
  show qaq X.C _ 2 2 m' s' (match (s'.ar A.name)[a]? with
   |some v=>.ok v s'
   |none=>.stop 2 s')
  cases hg:(s'.ar A.name)[a]? with
  |none=>exact qaq.other zDd
  |some r=>
   obtain⟨hlt,hr⟩:=List.getElem?_eq_some_iff.1 hg;obtain⟨b1,b2⟩:=va.rel.ar A hA;have hb:=hbase a (by omega)
   obtain⟨m2,t2,v2,e2⟩:=va.op (x:=X.aa A.name+a) w1 (by unfold isOp;simp) (by
    show some ((X.aa A.name+a) % 4294967296)=_
    rw[Nat.mod_eq_of_lt (by omega)]) (by omega)
   obtain⟨m3,t3,v3,e3⟩:=v2.load w2 (hX.dat _ (.inr (.inr ⟨A,hA,a,by omega,rfl⟩))) (by omega);rw[e2,b2 a hlt,hr] at v3;refine qaq.pre (t2.trans t3) (qaq.ok (c:=0) (d:=0) (v3.cast ?_) (Int.le_refl 0)) (by omega) (by omega);simp only[zLc,zLa,zLn];omega
 by_cases h4:op=nNeg
 ·subst h4
  obtain⟨x,rfl⟩:∃ x,args=[x]:=List.length_eq_one_iff.1 (by
   have e:qbw nNeg=1:=rfl;rw[e] at hop
   omega)
  rw[qhB,qd0];have hw:opW (X.cc f) nNeg num name (exWl (X.cc f) [x])=[48]::(exW (X.cc f) x++[[45]]):=by rw[exWl];try rfl
  rw[hw] at hc ⊢;obtain⟨w0,hc⟩:=hc.cons;obtain⟨hcx,hc⟩:=hc.app;obtain⟨w1,hc⟩:=hc.cons;have hneed:d.length+(1+qba (X.cenv f) x)<=256:=hd;rw[qbs] at he1;rw[qb0] at hdep2;obtain⟨m1,t1,v1,e1⟩:=v.dig (n:=0) w0 zDd rfl (by omega);have hq:wE nNeg num name [x].length=3:=rfl;rw[hq];refine qaq.pre t1 (c1:=1) (d1:=1) ?_ (by omega) (by omega);refine qaq.bind (c2:=1) (d2:=1) (hE f hf x (i+1) s1 m1 (0::d) c hn.1 (qah.1 he1).1 hcx v1 (by rw[zLc];omega) (by omega)) (by omega) (by omega) (by omega) λa s' m' va=>?_;show qaq X.C _ 1 1 m' s' (.ok ((4294967296-a) % 4294967296) s')
  obtain⟨m2,t2,v2,e2⟩:=va.op (x:=(4294967296-a) % 4294967296) w1 (by unfold isOp;simp) (by
   show some ((0+4294967296-a) % 4294967296)=_
   rw[Nat.zero_add]) (by omega)
  refine qaq.pre t2 (qaq.ok (c:=0) (d:=0) (v2.cast ?_) (Int.le_refl 0)) (by omega) (by omega);simp only[zLc,zLa,zLn];omega
 by_cases h5:op=nNot
 ·subst h5
  obtain⟨x,rfl⟩:∃ x,args=[x]:=List.length_eq_one_iff.1 (by
   have e:qbw nNot=1:=rfl;rw[e] at hop
   omega)
  rw[qhB,qd0];have hw:opW (X.cc f) nNot num name (exWl (X.cc f) [x])=exW (X.cc f) x++[[49],[60]]:=by rw[exWl];try rfl
  rw[hw] at hc ⊢;obtain⟨hcx,hc⟩:=hc.app;obtain⟨w0,hc⟩:=hc.cons;obtain⟨w1,hc⟩:=hc.cons;have hneed:d.length+max 2 (qba (X.cenv f) x)<=256:=hd;rw[qbs] at he1;rw[qb0] at hdep2;have hq:wE nNot num name [x].length=3:=rfl;rw[hq];refine qaq.bind (c2:=3) (d2:=3) (hE f hf x i s1 m d c hn.1 (qah.1 he1).1 hcx v (by omega) (by omega)) (by omega) (by omega) (by omega) λa s' m' va=>?_;show qaq X.C _ 3 3 m' s' (.ok (b2n (decide (a=0))) s');obtain⟨m1,t1,v1,e1⟩:=va.dig (n:=1) w0 zDd rfl (by simp only[zLc];omega)
  obtain⟨m2,t2,v2,e2⟩:=v1.op (x:=b2n (decide (a=0))) w1 (by unfold isOp;simp) (by
   show some (if a<1 then 1 else 0)=_;rw[qes];congr 3
   exact propext ⟨λh=>by omega,λh=>by omega⟩) (by omega)
  refine qaq.pre (t1.trans t2) (qaq.ok (c:=0) (d:=0) (v2.cast ?_) (Int.le_refl 0)) (by omega) (by omega);simp only[zLc,zLa,zLn];omega
 by_cases h6:op=qbB
 ·subst h6;have hneed:d.length+qiI (X.cenv f) name (qaZ (X.cenv f) args)<=256:=hd;have hw:opW (X.cc f) qbB num name (exWl (X.cc f) args)=(exWl (X.cc f) args).flatten++(if name=[105,110] then [[44]] else if name=[111,117,116] then [[46],[48]] else [[38,102,95]++name,[58]]):=rfl;have he3:callE (X.cenv f) name args.length=0:=he2;have hop2:∀ vs s,opI X.P (stC X.P n) f qbB num name vs s=qid X.P (stC X.P n) name vs s:=λvs s=>rfl;rw[hw] at hc ⊢;obtain⟨hca,hc⟩:=hc.app
  by_cases k1:name=[105,110]
  subst k1;rw[zp rfl] at hc ⊢
  have ha:args=[]:=List.eq_nil_of_length_eq_zero (by
   unfold callE at he3;rw[zp rfl] at he3;split at he3
   assumption
   cases he3)
  subst ha;rw[exWl] at hc ⊢;obtain⟨w0,_⟩:=hc.cons
  have hroom:d.length<256:=by
   have:qiI (X.cenv f) [105,110] (qaZ (X.cenv f) [])=1:=rfl;omega
  obtain⟨m1,t1,v1⟩:=v.read w0 hroom
  have hr:((mapR (evC X.P n f) [] s1).bind λvs s=>opI X.P (stC X.P n) f qbB num [105,110] vs s)=.ok (s1.inp.headD 4294967295) { s1 with inp:=s1.inp.tail }:=by
   show qid X.P (stC X.P n) [105,110] [] s1=_;unfold qid;rw[zp rfl]
   cases hi:s1.inp with
   |nil=>simp only[List.headD_nil,List.tail_nil];congr 1;cases s1;simp only at hi;subst hi;rfl
   |cons a r=>rfl
  rw[hr];have hq:wE qbB num [105,110] ([]:List Ex).length=1:=rfl;rw[hq];refine qaq.pre (s:=s1) t1 (c1:=0) (d1:=0) ?_ (by omega) (by omega);exact⟨zNr _,0,m1,by simp,.zero _,v1⟩
  by_cases k2:name=[111,117,116]
  subst k2;rw[zn zDd,zp rfl] at hc ⊢
  obtain⟨x,rfl⟩:∃ x,args=[x]:=List.length_eq_one_iff.1 (by
   unfold callE at he3;rw[zn zDd,zp rfl] at he3;split at he3
   assumption
   cases he3)
  rw[qhB,qd0];have hfl:(exWl (X.cc f) [x]).flatten=exW (X.cc f) x:=by rw[exWl,exWl];simp
  rw[hfl] at hc hca ⊢;obtain⟨w0,hc⟩:=hc.cons;obtain⟨w1,_⟩:=hc.cons;have hneed2:d.length+qba (X.cenv f) x<=256:=hneed;have hpos:1<=qba (X.cenv f) x:=qga _ _ (qah.1 (by rw[qbs] at he1;exact he1)).1;rw[qbs] at he1;rw[qb0] at hdep2;have hq:wE qbB num [111,117,116] [x].length=3:=rfl;rw[hq];refine qaq.bind (c2:=3) (d2:=3) (hE f hf x i s1 m d c hn.1 (qah.1 he1).1 hca v (by omega) (by omega)) (by omega) (by omega) (by omega) λa s' m' va=>?_;show qaq X.C _ 3 3 m' s' (.ok 0 { s' with out:=s'.out++[UInt8.ofNat a] })
  obtain⟨m1,t1,v1⟩:=va.write w0;obtain⟨m2,t2,v2,_⟩:=v1.dig (n:=0) w1 zDd rfl (by omega);refine qaq.pre (s:=s') (t1.trans t2) (c1:=0) (d1:=0) ?_ (by omega) (by omega);refine⟨zNr _,0,m2,by simp,.zero _,v2.cast ?_⟩;simp only[zLc,zLa,zLn];omega;rw[zn k1,zn k2] at hc ⊢
  have hcn:qiI (X.cenv f) name (qaZ (X.cenv f) args)=match (X.cenv f).fn name with
    |some g=>qhK 0 (qaZ (X.cenv f) args) (max (g.params+1) g.need)
    |none=>0:=by unfold qiI;rw[zn k1,zn k2];try rfl
  have hcd:qgl (X.cenv f) qbB name=match (X.cenv f).fn name with
    |some g=>g.depth+1
    |none=>0:=by unfold qgl;rw[zp ⟨rfl,k1,k2⟩];try rfl
  obtain⟨g,hg⟩:∃ g,(X.cenv f).fn name=some g:=by
   cases hq:(X.cenv f).fn name with
   |some g=>exact⟨g,rfl⟩
   |none=>
    unfold callE at he3;rw[zn k1,zn k2,hq] at he3;simp only at he3;split at he3 <;> cases he3
  rw[hg] at hcn hcd;simp only at hcn hcd;obtain⟨q1,q2⟩:=qmb (qaZ (X.cenv f) args) 0 (max (g.params+1) g.need) (256-d.length) (by omega);obtain⟨r1,r2⟩:=qkR (X.cenv f) args
  have hq:wE qbB num name args.length=8 * args.length+11:=by
   show(if name=[105,110] then 1 else if name=[111,117,116] then 3 else 8 * args.length+11)=_;rw[zn k1,zn k2]
  rw[hq];refine qaq.bind (c2:=8 * args.length+11) (d2:=8 * args.length+11) (qs9 hE hf args i s1 m d c hn he1 hca v (λk hk=>?_) hdep2) (by omega) (by omega) (by omega) λvs s' m' hv=>?_;have:=q2 k (by omega);rw[r2 k hk (by omega)] at this;have hdl:d.length<=256:=by omega
  omega;rw[hop2];obtain⟨hv1,hv2⟩:=hv;rw[<-hv1]
  have:=hC f hf name vs _ s' m' d c k1 k2 (by rw[hv1];exact he3) hc hv2 (λg' hg'=>by
   rw[hg] at hg';cases hg';have hdl:d.length<=256:=by omega
   exact⟨by omega,by omega⟩)
  refine qaq.post (a:=0) this (by omega) (Int.le_refl _) λr s2 m2 h=>⟨m2,.refl _,h.cast ?_⟩;rw[zLa];simp only[zLc,zLn];omega
 have hop2:qbw op=2/\args.length=2:=by
  unfold qbw at hop ⊢;simp only[h1,h2,h3,h4,h5,h6,or_self,if_false] at hop ⊢;split at hop
  rename_i hb
  exact⟨zp hb,by rcases hop with h|h <;> omega⟩;rcases hop with h|h <;> omega
 obtain⟨hbin,_⟩:=qpc hop2.1
 obtain⟨x,y,rfl⟩:∃ x y,args=[x,y]:=by
  have h:=hop2.2
  match args,h with
  |[x,y],_=>exact⟨x,y,rfl⟩
 rw[quu,qd0];simp only[qd0]
 have hcont:∀ a b s,(IR.ok [a,b] s).bind (λvs s=>opI X.P (stC X.P n) f op num name vs s)=match binI op a b with
   |some r=>.ok r s
   |none=>.stop 12 s:=λa b s=>qwk X.P (stC X.P n) f hbin num name a b s
 simp only[hcont];have hnx:=hn.1;have hny:=hn.2.1;rw[qbs,qbs] at he1;obtain⟨he1,he3⟩:=qah.1 he1;obtain⟨he3,_⟩:=qah.1 he3;rw[qb0,qb0] at hdep2;have hwl:exWl (X.cc f) [x,y]=[exW (X.cc f) x,exW (X.cc f) y]:=by rw[exWl,exWl,exWl]
 have hnl:qaZ (X.cenv f) [x,y]=[qba (X.cenv f) x,qba (X.cenv f) y]:=by rw[qaZ,qaZ,qaZ]
 rw[hwl] at hc ⊢;rw[hnl] at hd
 by_cases b1:op=[33,61]
 subst b1;have hw:opW (X.cc f) [33,61] num name [exW (X.cc f) x,exW (X.cc f) y]=[48]::(exW (X.cc f) x++exW (X.cc f) y++[[94],[60]]):=rfl;rw[hw] at hc ⊢;have hneed:d.length+max (max 3 (1+qba (X.cenv f) x)) (2+qba (X.cenv f) y)<=256:=hd;obtain⟨w0,hc⟩:=hc.cons;obtain⟨hc,hc3⟩:=hc.app;obtain⟨hc1,hc2⟩:=hc.app;obtain⟨w1,hc3⟩:=hc3.cons;obtain⟨w2,_⟩:=hc3.cons;obtain⟨m1,t1,v1,e1⟩:=v.dig (n:=0) w0 zDd rfl (by omega);have hq:wE [33,61] num name [x,y].length=4:=rfl;rw[hq];refine qaq.pre t1 (c1:=2) (d1:=2) ?_ (by omega) (by omega);refine qaq.bind (c2:=2) (d2:=2) (hE f hf x (i+1) s1 m1 (0::d) c hnx he1 hc1 v1 (by rw[zLc];omega) (by omega)) (by omega) (by omega) (by omega) λa s' m' va=>?_;refine qaq.bind (c2:=2) (d2:=2) (hE f hf y _ s' m' (a::0::d) c hny he3 hc2 va (by rw[zLc,zLc];omega) (by omega)) (by omega) (by omega) (by omega) λb s2 m2 vb=>?_;rw[zLa,<-add_assoc] at w1 w2;obtain⟨m3,t3,v3,_⟩:=vb.op (x:=a ^^^ b) w1 (by unfold isOp;simp) rfl (by simp only[zLc];omega)
 obtain⟨m4,t4,v4,_⟩:=v3.op (x:=b2n (decide (a≠b))) w2 (by unfold isOp;simp) (by
  show some (if 0<a ^^^ b then 1 else 0)=_;rw[qes];congr 3;refine propext ⟨λh e=>?_,λh=>?_⟩;have:=xor_zero.2 e;omega
  have:=mt xor_zero.1 h;omega) (by omega)
 refine qaq.pre (t3.trans t4) (qaq.ok (c:=0) (d:=0) (v4.cast ?_) (Int.le_refl 0)) (by omega) (by omega);simp only[zLc,zLa,zLn];omega
 by_cases b2:op=[38,38]
 subst b2;have hw:opW (X.cc f) [38,38] num name [exW (X.cc f) x,exW (X.cc f) y]=[48]::(exW (X.cc f) x++[[60],[48]]++exW (X.cc f) y++[[60],[42]]):=rfl;rw[hw] at hc ⊢;have hneed:d.length+max (1+qba (X.cenv f) x) (2+qba (X.cenv f) y)<=256:=hd;have hpx:=qga _ _ he1;have hpy:=qga _ _ he3;obtain⟨w0,hc⟩:=hc.cons;obtain⟨hc,hc4⟩:=hc.app;obtain⟨hc,hc3⟩:=hc.app;obtain⟨hc1,hc2⟩:=hc.app;obtain⟨w1,hc2⟩:=hc2.cons;obtain⟨w2,_⟩:=hc2.cons;obtain⟨w3,hc4⟩:=hc4.cons;obtain⟨w4,_⟩:=hc4.cons;obtain⟨m1,t1,v1,e1⟩:=v.dig (n:=0) w0 zDd rfl (by omega);have hq:wE [38,38] num name [x,y].length=7:=rfl;rw[hq];refine qaq.pre t1 (c1:=5) (d1:=5) ?_ (by omega) (by omega);refine qaq.bind (c2:=5) (d2:=5) (hE f hf x (i+1) s1 m1 (0::d) c hnx he1 hc1 v1 (by rw[zLc];omega) (by omega)) (by omega) (by omega) (by omega) λa s' m' va=>?_
 obtain⟨m2,t2,v2,_⟩:=va.op (x:=b2n (decide (0<a))) w1 (by unfold isOp;simp) (by
  show some (if 0<a then 1 else 0)=_
  rw[qes]) (by omega)
 obtain⟨m3,t3,v3,_⟩:=v2.dig (n:=0) w2 zDd rfl (by simp only[zLc];omega);refine qaq.pre (t2.trans t3) (c1:=2) (d1:=2) ?_ (by omega) (by omega)
 refine qaq.bind (c2:=2) (d2:=2) (hE f hf y _ s' m3 (0::b2n (decide (0<a))::d) c hny he3 (by
  rw[zLa,<-add_assoc] at hc3
  exact hc3) v3 (by rw[zLc,zLc];omega) (by omega)) (by omega) (by omega) (by omega) λb s2 m4 vb=>?_
 have w3':X.C.W[i+1+(exW (X.cc f) x).length+1+1+(exW (X.cc f) y).length]? = some [60]:=by
  rw[<-w3];congr 1;simp only[zLa,zLc,zLn];omega
 have w4':X.C.W[i+1+(exW (X.cc f) x).length+1+1+(exW (X.cc f) y).length+1]? = some [42]:=by
  rw[<-w4];congr 1;simp only[zLa,zLc,zLn];omega
 obtain⟨m5,t5,v5,_⟩:=vb.op (x:=b2n (decide (0<b))) w3' (by unfold isOp;simp) (by
  show some (if 0<b then 1 else 0)=_
  rw[qes]) (by simp only[zLc];omega)
 obtain⟨m6,t6,v6,_⟩:=v5.op (x:=b2n (decide (a≠0/\b≠0))) w4' (by unfold isOp;simp) (by
  show some (b2n (decide (0<a)) * b2n (decide (0<b)) % 4294967296)=_;congr 1;unfold b2n
  by_cases ha:0<a <;> by_cases hb:0<b <;> simp[ha,hb,Nat.pos_iff_ne_zero.1,show a=0 ↔ ¬ 0<a by omega,show b=0 ↔ ¬ 0<b by omega]) (by omega)
 refine qaq.pre (t5.trans t6) (qaq.ok (c:=0) (d:=0) (v6.cast ?_) (Int.le_refl 0)) (by omega) (by omega);simp only[zLc,zLa,zLn];omega
 by_cases b3:op=[124,124]
 subst b3;have hw:opW (X.cc f) [124,124] num name [exW (X.cc f) x,exW (X.cc f) y]=[48]::[48]::(exW (X.cc f) x++[[60],[48]]++exW (X.cc f) y++[[60],[43],[60]]):=rfl;rw[hw] at hc ⊢;have hneed:d.length+max (2+qba (X.cenv f) x) (3+qba (X.cenv f) y)<=256:=hd;have hpx:=qga _ _ he1;have hpy:=qga _ _ he3;obtain⟨w0,hc⟩:=hc.cons;obtain⟨w00,hc⟩:=hc.cons;obtain⟨hc,hc4⟩:=hc.app;obtain⟨hc,hc3⟩:=hc.app;obtain⟨hc1,hc2⟩:=hc.app;obtain⟨w1,hc2⟩:=hc2.cons;obtain⟨w2,_⟩:=hc2.cons;obtain⟨w3,hc4⟩:=hc4.cons;obtain⟨w4,hc4⟩:=hc4.cons;obtain⟨w5,_⟩:=hc4.cons;obtain⟨m0,t0,v0,e0⟩:=v.dig (n:=0) w0 zDd rfl (by omega);obtain⟨m1,t1,v1,e1⟩:=v0.dig (n:=0) w00 zDd rfl (by simp only[zLc];omega);have hq:wE [124,124] num name [x,y].length=10:=rfl;rw[hq];refine qaq.pre (t0.trans t1) (c1:=6) (d1:=6) ?_ (by omega) (by omega);refine qaq.bind (c2:=6) (d2:=6) (hE f hf x (i+1+1) s1 m1 (0::0::d) c hnx he1 hc1 v1 (by rw[zLc,zLc];omega) (by omega)) (by omega) (by omega) (by omega) λa s' m' va=>?_
 obtain⟨m2,t2,v2,_⟩:=va.op (x:=b2n (decide (0<a))) w1 (by unfold isOp;simp) (by
  show some (if 0<a then 1 else 0)=_
  rw[qes]) (by simp only[zLc];omega)
 obtain⟨m3,t3,v3,_⟩:=v2.dig (n:=0) w2 zDd rfl (by simp only[zLc];omega);refine qaq.pre (t2.trans t3) (c1:=3) (d1:=3) ?_ (by omega) (by omega)
 refine qaq.bind (c2:=3) (d2:=3) (hE f hf y _ s' m3 (0::b2n (decide (0<a))::0::d) c hny he3 (by
  rw[zLa,<-add_assoc] at hc3
  exact hc3) v3 (by rw[zLc,zLc,zLc];omega) (by omega)) (by omega) (by omega) (by omega) λb s2 m4 vb=>?_
 have w3':X.C.W[i+1+1+(exW (X.cc f) x).length+1+1+(exW (X.cc f) y).length]? = some [60]:=by
  rw[<-w3];congr 1;simp only[zLa,zLc,zLn];omega
 have w4':X.C.W[i+1+1+(exW (X.cc f) x).length+1+1+(exW (X.cc f) y).length+1]? = some [43]:=by
  rw[<-w4];congr 1;simp only[zLa,zLc,zLn];omega
 have w5':X.C.W[i+1+1+(exW (X.cc f) x).length+1+1+(exW (X.cc f) y).length+1+1]? = some [60]:=by
  rw[<-w5];congr 1;simp only[zLa,zLc,zLn];omega
 obtain⟨m5,t5,v5,_⟩:=vb.op (x:=b2n (decide (0<b))) w3' (by unfold isOp;simp) (by
  show some (if 0<b then 1 else 0)=_
  rw[qes]) (by simp only[zLc];omega)
 obtain⟨m6,t6,v6,_⟩:=v5.op (x:=b2n (decide (0<a))+b2n (decide (0<b))) w4' (by unfold isOp;simp) (by
  show some ((b2n (decide (0<a))+b2n (decide (0<b))) % 4294967296)=_;have h1:=qu3 (decide (0<a));have h2:=qu3 (decide (0<b))
  rw[Nat.mod_eq_of_lt (by omega)]) (by simp only[zLc];omega)
 obtain⟨m7,t7,v7,_⟩:=v6.op (x:=b2n (decide (a≠0∨b≠0))) w5' (by unfold isOp;simp) (by
  show some (if 0<b2n (decide (0<a))+b2n (decide (0<b)) then 1 else 0)=_;congr 1;unfold b2n
  by_cases ha:0<a <;> by_cases hb:0<b <;> simp[ha,hb,show a=0 ↔ ¬ 0<a by omega,show b=0 ↔ ¬ 0<b by omega]) (by omega)
 refine qaq.pre (t5.trans (t6.trans t7)) (qaq.ok (c:=0) (d:=0) (v7.cast ?_) (Int.le_refl 0)) (by omega) (by omega);simp only[zLc,zLa,zLn];omega;obtain⟨_,o1,o2,o3,o4,o5,o6⟩:=qpc hop2.1
 have hw:opW (X.cc f) op num name [exW (X.cc f) x,exW (X.cc f) y]=exW (X.cc f) x++exW (X.cc f) y++(if op=[62] then qa0 (X.cc f) else if op=[60,61] then qa0 (X.cc f)++[[49],[94]] else if op=[62,61] then [[60],[49],[94]] else if op=[61,61] then [[94],[49],[60]] else [op]):=by
  unfold opW;rw[zn o1,zn o2,zn o3,zn o6,zn o4,zn o5,zn b1,zn b2,zn b3]
  try rfl
 rw[hw] at hc ⊢;obtain⟨hc,hc3⟩:=hc.app;obtain⟨hc1,hc2⟩:=hc.app
 have hneed:d.length+(if op=[62]∨op=[60,61] then max (max 3 (qba (X.cenv f) x)) (1+qba (X.cenv f) y) else max (max 2 (qba (X.cenv f) x)) (1+qba (X.cenv f) y))<=256:=by
  have:opN (X.cenv f) op name [qba (X.cenv f) x,qba (X.cenv f) y]=(if op=[62]∨op=[60,61] then max (max 3 (qba (X.cenv f) x)) (1+qba (X.cenv f) y) else max (max 2 (qba (X.cenv f) x)) (1+qba (X.cenv f) y)):=by
   unfold opN;rw[zn (by rintro(h|h);exact o1 h;exact o2 h),zn (by rintro(h|h);exact o3 h;exact o4 h),zn o6,zn o5,zn b1,zn b2,zn b3]
   try rfl
  rw[this] at hd;exact hd
 have hdx:d.length+qba (X.cenv f) x<=256/\d.length+1+qba (X.cenv f) y<=256/\(d.length+3<=256∨(d.length+2<=256/\op≠[62]/\op≠[60,61])):=by
  split at hneed;exact⟨by omega,by omega,.inl (by omega)⟩
  rename_i h
  exact⟨by omega,by omega,.inr ⟨by omega,λe=>h (.inl e),λe=>h (.inr e)⟩⟩
 have hq:wE op num name [x,y].length=wB op:=by
  unfold wE wB;rw[zn o1,zn o2,zn o3,zn o4,zn o5,zn o6];split <;> try rfl
 rw[hq];refine qaq.bind (c2:=(wB op:Int)) (d2:=(wB op:Int)) (hE f hf x i s1 m d c hnx he1 hc1 v hdx.1 (by omega)) (by omega) (by omega) (by omega) λa s' m' va=>?_;refine qaq.bind (c2:=(wB op:Int)) (d2:=0) (hE f hf y _ s' m' (a::d) c hny he3 hc2 va (by rw[zLc];omega) (by omega)) (by omega) (by omega) (by omega) λb s2 m2 vb=>?_;rw[zLa,<-add_assoc] at hc3;refine qaq.post (a:=0) (qxo hX hf hbin b1 b2 b3 vb hdx.2.2 rfl hc3) (by omega) (Int.le_refl _) λr s3 m3 h=>⟨m3,.refl _,h.cast ?_⟩;rw[zLa,zLa];omega
end
def StOk(X:Trn)(n:Nat):Prop:=∀ f∈X.P.funcs,∀ st i nl s m d t rest,numS st->errS (X.cenv f) st=0->X.C.Code i (stW (X.cc f) nl st).1->X.Vw s i d (t::rest) m->d.length+qks (X.cenv f) st<=256->rest.length+1+depS (X.cenv f) st<=64 ->
 qaq X.C (StQ X (i+(stW (X.cc f) nl st).1.length) d t rest) 0 0 m s (stC X.P n f st s)
section
variable{X:Trn}{n:Nat}
theorem qjd(hS:StOk X n){f:FnD}(hf:f∈X.P.funcs):∀ (l:List Sm) i nl s m d t rest,qcu l->qb1 (X.cenv f) l=0->X.C.Code i (stWs (X.cc f) nl l).1->X.Vw s i d (t::rest) m->d.length+qbN (X.cenv f) l<=256->rest.length+1+qcm (X.cenv f) l<=64 ->
  qaq X.C (StQ X (i+(stWs (X.cc f) nl l).1.length) d t rest) 0 0 m s (blkR (stC X.P n f) l s)
 |[],i,nl,s,m,d,t,rest,_,_,_,v,_,_=>qaq.ok (by rw[stWs];exact v) (Int.le_refl 0)
 |a::l,i,nl,s,m,d,t,rest,hn,he,hc,v,hd,hdep=>by
  rw[qb1] at he;obtain⟨he1,he2⟩:=qah.1 he;rw[qbN] at hd;rw[qcm] at hdep;rw[stWs] at hc ⊢;obtain⟨hc1,hc2⟩:=hc.app;unfold blkR;refine qaq.bind (c2:=0) (d2:=0) (hS f hf a i nl s m d t rest hn.1 he1 hc1 v (by omega) (by omega)) (by omega) (by omega) (by omega) λr s' m' h=>?_
  cases r with
  |some w=>exact qaq.ok h (Int.le_refl 0)
  |none=>
   have:=qjd hS hf l _ _ s' m' d t rest hn.2 he2 hc2 h (by omega) (by omega);rw[zLa,<-add_assoc];exact this
theorem qaq.left{A:Type}{Q:A->IS->MS->Prop}{c d:Int}{m:MS}{s s':IS}{r:IR A}(h:qaq X.C Q c d m s r)(hl:s.left=s'.left):qaq X.C Q c d m s' r:=by
 cases r with
 |ok v s2=>
  unfold qaq at h ⊢;rw[<-hl]
  exact h
 |stop e s2=>
  unfold qaq at h ⊢;rw[<-hl];exact h
theorem qwg(hX:TrnOk X)(hS:StOk X n):qvB X n:=by
 intro f hf name vs i s m d c k1 k2 he hc v hneed
 obtain⟨g,hg⟩:∃ g,(X.cenv f).fn name=some g:=by
  cases hq:(X.cenv f).fn name with
  |some g=>exact⟨g,rfl⟩
  |none=>
   unfold callE at he;rw[zn k1,zn k2,hq] at he;simp only at he;split at he <;> cases he
 have hlen:vs.length=g.params:=by
  unfold callE at he;rw[zn k1,zn k2,hg] at he;simp only at he;split at he
  assumption
  cases he
 obtain⟨n1,n2⟩:=hneed g hg;obtain⟨a1,a2,a3,a4,a5⟩:=hX.fn f hf name g hg
 have hci:qid X.P (stC X.P n) name vs s=(blkR (stC X.P n (fnI X.P name)) (fnI X.P name).body (qe8 (fnI X.P name) (fnI X.P name).params vs s)).bind λr s=>.ok (r.getD 0) s:=by
  unfold qid;rw[zn k1,zn k2]
 rw[hci];generalize hk:fnI X.P name=k at *;obtain⟨nl,hcode⟩:=hX.code k a1;obtain⟨b1,b2⟩:=hX.body k a1;obtain⟨p1,p2⟩:=hX.par k a1;have hfd:=hX.fdef k a1;have hfr:=hX.fref k a1;rw[a2] at hfd hfr;unfold fnW at hcode;simp only at hcode;rw[a2] at hcode;obtain⟨hcode,hc4⟩:=hcode.app;obtain⟨hcode,hc3⟩:=hcode.app;obtain⟨hc1,hc2⟩:=hcode.app;obtain⟨w0,hc⟩:=hc.cons;obtain⟨w1,_⟩:=hc.cons;obtain⟨wd,_⟩:=hc1.cons;have hvl:(vs.reverse++d).length=vs.length+d.length:=by rw[zLa,List.length_reverse]
 have t2:=PW.call v.here w0 w1 hfr (hX.label _ _ _ wd hfd) (by rw[v.data,hvl];omega) (by rw[v.calls];omega)
 have v3:X.Vw s (X.fst k+1) (vs.reverse++d) (X.C.plc (i+1+1)::c) { m with pc:=X.C.plc (X.fst k+1),calls:=X.C.plc (i+1+1)::m.calls,digit:=false }:=
  ⟨PW.at_mk rfl,v.rel.same rfl rfl rfl rfl rfl rfl rfl,v.data,by simp only;rw[v.calls]⟩
 obtain⟨m3,t3,v4⟩:=qso hX k.params.length k.params vs _ s d _ _ rfl (by omega) p1 p2 hc2 v3 (by omega);refine qaq.pre (t2.trans t3) (c1:=3) (d1:=3) ?_ (by omega) (by omega);have hb:=qjd hS a1 k.body _ nl _ m3 d (X.C.plc (i+1+1)) c b2 b1 hc3 (v4.cast (by simp only[zLa,zLc,zLn];omega)) (by omega) (by omega);generalize hidx:X.fst k+([[102,95]++name++[58]]++k.params.reverse.flatMap λp=>[(X.cc k).sc p,[33]]).length=i3 at hb
 have hfin:∀ s' m',X.Vw s' (i3+(stWs (X.cc k) nl k.body).1.length) d (X.C.plc (i+1+1)::c) m'->∃ m2,Stx X.C 3 m' m2/\X.Vw s' (i+2) (0::d) c m2:=by
  intro s' m' v5;obtain⟨w2,hc4⟩:=hc4.cons;obtain⟨w3,_⟩:=hc4.cons;rw[zLa,<-add_assoc,hidx] at w2 w3;obtain⟨m6,t6,v6,_⟩:=v5.dig (n:=0) w2 zDd rfl (by omega);have t7:=PW.back v6.here w3 v6.calls;exact⟨_,(t6.trans t7).mono zDd,⟨PW.at_mk rfl,v6.rel.same rfl rfl rfl rfl rfl rfl rfl,v6.data,rfl⟩⟩
 refine qaq.bind (c1:=0) (d1:=0) (c2:=3) (d2:=3) (hb.left (qkH _ _ _ _)) (by omega) (by omega) (by omega) λr s' m' h=>?_
 cases r with
 |none=>
  obtain⟨m2,t5,v5⟩:=hfin s' m' h
  exact qaq.pre t5 (qaq.ok (c:=0) (d:=0) v5 (Int.le_refl 0)) (by omega) (by omega)
 |some w=>
  obtain⟨g1,g2,g3,g4,g5⟩:=h;exact qaq.ok ⟨PW.at_mk g1,g3,g4,g5⟩ (by omega)
theorem qvE(hX:TrnOk X)(hE:EvOk X n)(hS:StOk X n){f:FnD}(hf:f∈X.P.funcs){x:Ex}{thn:List Sm}{i0 k0 k1 nb:Nat}{d:List Nat}{t:List Wd}{rest:List (List Wd)}(hnx:numE x)(hex:errE (X.cenv f) x=0)(hnt:qcu thn)(het:qb1 (X.cenv f) thn=0)
  (hw0:X.C.W[i0]? = some (labW k0++[58])) (hcx:X.C.Code (i0+1) (exW (X.cc f) x)) (hcb:X.C.Code (i0+1+(exW (X.cc f) x).length) [38::labW k1,[63]]) (hct:X.C.Code (i0+1+(exW (X.cc f) x).length+2) (stWs (X.cc f) nb thn).1)
  (hcg:X.C.Code (i0+1+(exW (X.cc f) x).length+2+(stWs (X.cc f) nb thn).1.length) [[48],38::labW k0,[63]]) (hwe:X.C.W[i0+1+(exW (X.cc f) x).length+2+(stWs (X.cc f) nb thn).1.length+3]? = some (labW k1++[58]))
  (hdx:d.length+qba (X.cenv f) x<=256) (hdt:d.length+qbN (X.cenv f) thn<=256) (hd2:d.length+2<=256) (hpx:rest.length+1+depE (X.cenv f) x<=64) (hpt:rest.length+1+qcm (X.cenv f) thn<=64) :
  ∀ (k a:Nat) (s:IS) (m:MS),X.Vw s (i0+1+(exW (X.cc f) x).length) (a::d) (t::rest) m->qaq X.C (StQ X (i0+1+(exW (X.cc f) x).length+2+(stWs (X.cc f) nb thn).1.length+3+1) d t rest) 8 8 m s (whlC (evC X.P n f x) (blkR (stC X.P n f) thn) k a s)
 |0,a,s,m,v=>by
  unfold whlC;obtain⟨m1,t1,v1⟩:=v.branch hX hcb hwe hd2
  by_cases ha:a=0
  rw[zp ha] at v1 ⊢;exact qaq.pre t1 (qaq.ok (c:=0) (d:=0) v1 (Int.le_refl 0)) (by omega) (by omega);rw[zn ha]
  exact qaq.limit v.rel.out
 |k+1,a,s,m,v=>by
  unfold whlC;obtain⟨m1,t1,v1⟩:=v.branch hX hcb hwe hd2
  by_cases ha:a=0
  rw[zp ha] at v1 ⊢;exact qaq.pre t1 (qaq.ok (c:=0) (d:=0) v1 (Int.le_refl 0)) (by omega) (by omega);rw[zn ha] at v1 ⊢;refine qaq.pre t1 (c1:=0) (d1:=0) ?_ (by omega) (by omega);refine qaq.bind (c1:=0) (d1:=0) (c2:=0) (d2:=0) (qjd hS hf thn _ nb s m1 d t rest hnt het hct v1 (by omega) (by omega)) (by omega) (by omega) (by omega) λr s' m' h=>?_
  cases r with
  |some w=>exact qaq.ok h (by omega)
  |none=>
   have h:X.Vw s' _ d (t::rest) m':=h;refine qaq.tick h.rel.out λhleft=>?_;have h:=h.steps (s'.left-18);generalize { s' with left:=s'.left-18 }=s1 at h ⊢;obtain⟨m2,t2,v2⟩:=Trn.Vw.goto hX h hcg hw0 hd2;refine qaq.pre t2 (c1:=8) (d1:=8) ?_ (by omega) (by omega);refine qaq.bind (c1:=0) (d1:=0) (c2:=8) (d2:=8) (hE f hf x _ s1 m2 d (t::rest) hnx hex hcx v2 (by omega) (by rw[zLc];omega)) (by omega) (by omega) (by omega) λa' s2 m3 v3=>?_;exact qvE hX hE hS hf hnx hex hnt het hw0 hcx hcb hct hcg hwe hdx hdt hd2 hpx hpt k a' s2 m3 v3
theorem qv0(hX:TrnOk X)(hE:EvOk X n)(hS:StOk X n):StOk X (n+1):=by
 intro f hf st i nl s m d t rest hn he hc v hd hdep;obtain⟨kind,name,index,value,thn,els⟩:=st;rw[errS] at he;split at he;cases he
 rename_i hform
 obtain⟨ev,he⟩:=qah.1 he;obtain⟨ei,he⟩:=qah.1 he;obtain⟨eu,he⟩:=qah.1 he;obtain⟨et,ee⟩:=qah.1 he;obtain⟨ni,nv,nt,ne⟩:=hn;rw[stC];refine qaq.tick v.rel.out λhleft=>?_;have v:=v.steps (s.left-wS kind els);generalize { s with left:=s.left-wS kind els }=s1 at v ⊢;clear hleft;rw[qto] at hc ⊢;rw[qks] at hd;rw[depS] at hdep;unfold qbR at hform;simp only at hform
 by_cases k7:kind=7
 subst k7;rw[zp rfl];have hc:X.C.Code i [[36]]:=hc;obtain⟨w0,_⟩:=hc.cons;exact qaq.trap (by omega) (.inl rfl) (by rw[<-v.rel.out];exact PW.halt v.here w0);rw[zn k7];rw[zn k7] at hd
 have hval:value.length=1:=by
  by_cases q1:kind=1
  rw[zp q1] at hform;simp only[Bool.not_eq_false,zDe] at hform;exact hform.2.2.1;rw[zn q1] at hform
  by_cases q2:kind=2
  rw[zp q2] at hform;simp only[Bool.not_eq_false,zDe] at hform;exact hform.2.2.1;rw[zn q2] at hform
  by_cases q3:kind=3
  rw[zp q3] at hform;simp only[Bool.not_eq_false,zDe] at hform;exact hform.2.2;rw[zn q3] at hform
  by_cases q4:kind=4
  rw[zp q4] at hform;simp only[Bool.not_eq_false,zDe] at hform;exact hform.2.2.1;rw[zn q4] at hform
  by_cases q5:kind=5
  rw[zp q5] at hform;simp only[Bool.not_eq_false,zDe] at hform;exact hform.2.2.1;rw[zn q5] at hform
  by_cases q6:kind=6
  rw[zp q6] at hform;simp only[Bool.not_eq_false,zDe] at hform;exact hform.2.2.1;rw[zn q6,zn k7] at hform;exact absurd rfl hform
 obtain⟨x,rfl⟩:=qvw hval;have hx0:([x]:List Ex).headD default=x:=rfl;simp only[hx0] at hc hd ⊢;rw[qbs] at ev;have evx:=(qah.1 ev).1;have nvx:=nv.1
 have hdx:(t::rest).length+depE (X.cenv f) x<=64:=by
  rw[qb0] at hdep;rw[zLc];omega
 by_cases k1:kind=1
 subst k1;rw[zp rfl] at hc ⊢;rw[zn zDd,zn zDd] at hd;simp only at hc ⊢;obtain⟨hcx,hc⟩:=hc.app;obtain⟨w0,hc⟩:=hc.cons;obtain⟨w1,_⟩:=hc.cons;have eu:qcg (X.cenv f) name=0:=eu;obtain⟨a1,a2⟩:=hX.sc f hf name eu;rw[a1] at w0;have hlow:=hX.low _ (.inl ⟨_,a2,rfl⟩);have hq:wS 1 els=8:=rfl;rw[hq];refine qaq.bind (c1:=0) (d1:=0) (c2:=8) (d2:=8) (hE f hf x i s1 m d (t::rest) nvx evx hcx v (by omega) hdx) (by omega) (by omega) (by omega) λa s' m' va=>?_;rw[zp trivial];obtain⟨m1,t1,v1,_⟩:=va.addr w0 (by omega) (by simp only[zLc];omega);obtain⟨m2,t2,v2⟩:=v1.scal hX a2 w1;refine(qaq.pre (s:=qaJ s' (keyI f name) a) (t1.trans t2) (qaq.ok (c:=0) (d:=0) (v:=none) (v2.cast ?_) (Int.le_refl 0)) (by omega) (by omega)).left rfl;simp only[zLa,zLc,zLn];omega
 by_cases k2:kind=2
 subst k2;rw[zn zDd,zp rfl] at hc ⊢;rw[zp rfl] at hd;rw[zn zDd,zp rfl] at hform;simp only[Bool.not_eq_false,zDe] at hform;obtain⟨y,rfl⟩:=qvw hform.2.1;have hy0:([y]:List Ex).headD default=y:=rfl;simp only[hy0] at hc hd ⊢;rw[qbs] at ei;have eiy:=(qah.1 ei).1;have niy:=ni.1
 have hdy:(t::rest).length+depE (X.cenv f) y<=64:=by
  rw[qb0,qb0,qb0,qb0] at hdep;rw[zLc];omega
 obtain⟨hcx,hc⟩:=hc.app;obtain⟨w0,hc⟩:=hc.cons;obtain⟨hcy,hc⟩:=hc.app;obtain⟨w1,hc⟩:=hc.cons;obtain⟨w2,_⟩:=hc.cons;have eu:qeU (X.cenv f) name=0:=eu;obtain⟨a1,A,hA,rfl⟩:=hX.ar f hf name eu;rw[a1] at w0;have haa:X.aa A.name<1000000:=hX.arLow A hA;have hq:wS 2 els=9:=rfl;rw[hq];refine qaq.bind (c1:=0) (d1:=0) (c2:=9) (d2:=9) (hE f hf x i s1 m d (t::rest) nvx evx hcx v (by omega) hdx) (by omega) (by omega) (by omega) λa s' m' va=>?_;rw[zn zDd,zp trivial];obtain⟨m1,t1,v1,_⟩:=va.addr w0 haa (by simp only[zLc];omega);refine qaq.pre t1 (c1:=2) (d1:=2) ?_ (by omega) (by omega);refine qaq.bind (c1:=0) (d1:=0) (c2:=2) (d2:=2) (hE f hf y _ s' m1 (X.aa A.name::a::d) (t::rest) niy eiy hcy v1 (by rw[zLc,zLc];omega) hdy) (by omega) (by omega) (by omega) λb s2 m2 vb=>?_
 cases hg:(s2.ar A.name)[b]? with
 |none=>exact qaq.other zDd
 |some r=>
  obtain⟨hlt,hr⟩:=List.getElem?_eq_some_iff.1 hg;have hsz:=(vb.rel.ar A hA).1;have hb:=hX.low _ (.inr (.inr ⟨A,hA,b,by omega,rfl⟩))
  obtain⟨m3,t3,v3,_⟩:=vb.op (x:=X.aa A.name+b) w1 (by unfold isOp;simp) (by
   show some ((X.aa A.name+b) % 4294967296)=_
   rw[Nat.mod_eq_of_lt (by omega)]) (by simp only[zLc];omega)
  obtain⟨m4,t4,v4⟩:=v3.elem hX hA hlt w2;refine(qaq.pre (s:={ s2 with ar:=λy=>if y=A.name then (s2.ar A.name).set b a else s2.ar y }) (t3.trans t4) (qaq.ok (c:=0) (d:=0) (v:=none) (v4.cast ?_) (Int.le_refl 0)) (by omega) (by omega)).left rfl;simp only[zLa,zLc,zLn];omega
 rw[zn k2] at hd
 by_cases k5:kind=5
 subst k5;rw[zn zDd,zn zDd,zn zDd,zn zDd,zp rfl] at hc ⊢;rw[zp rfl] at hd;simp only at hc ⊢;obtain⟨hcx,hc⟩:=hc.app;obtain⟨w0,_⟩:=hc.cons;have hq:wS 5 els=1:=rfl;rw[hq];refine qaq.bind (c1:=0) (d1:=0) (c2:=1) (d2:=1) (hE f hf x i s1 m d (t::rest) nvx evx hcx v (by omega) hdx) (by omega) (by omega) (by omega) λa s' m' va=>?_;rw[zn zDd,zn zDd,zp trivial];have t1:=PW.back va.here w0 va.calls;exact qaq.pre t1 (qaq.ok (c:=0) (d:=0) (v:=some a) ⟨rfl,rfl,va.rel.same rfl rfl rfl rfl rfl rfl rfl,va.data,rfl⟩ (Int.le_refl 0)) (by omega) (by omega);rw[zn k5] at hd
 by_cases k6:kind=6
 subst k6;rw[zn zDd,zn zDd,zn zDd,zn zDd,zn zDd,zp rfl] at hc ⊢;simp only at hc ⊢;obtain⟨hcx,hc⟩:=hc.app;obtain⟨w0,hc⟩:=hc.cons;obtain⟨w1,_⟩:=hc.cons;obtain⟨t0,_,_⟩:=hX.temps f hf;rw[t0] at w0;have hS:X.S+2<262144:=hX.low _ (.inr (.inl ⟨by omega,by omega⟩));have hq:wS 6 els=8:=rfl;rw[hq];refine qaq.bind (c1:=0) (d1:=0) (c2:=8) (d2:=8) (hE f hf x i s1 m d (t::rest) nvx evx hcx v (by omega) hdx) (by omega) (by omega) (by omega) λa s' m' va=>?_;rw[zn zDd,zn zDd,zn zDd,zn zDd,zn zDd];obtain⟨m1,t1,v1,_⟩:=va.addr w0 (by omega) (by simp only[zLc];omega);obtain⟨m2,t2,v2,_⟩:=v1.temp hX w1 ⟨by omega,by omega⟩;refine qaq.pre (t1.trans t2) (qaq.ok (c:=0) (d:=0) (v:=none) (v2.cast ?_) (Int.le_refl 0)) (by omega) (by omega);simp only[zLa,zLc,zLn];omega
 by_cases k3:kind=3
 ·subst k3;rw[zn zDd,zn zDd,zp rfl] at hc ⊢
  cases els with
  |nil=>
   simp only at hc ⊢;obtain⟨hc,hc4⟩:=hc.app;obtain⟨hc,hc3⟩:=hc.app;obtain⟨hcx,hc2⟩:=hc.app;obtain⟨wl,_⟩:=hc4.cons;have hq:wS 3 ([]:List Sm)=8:=rfl;rw[hq];refine qaq.bind (c1:=0) (d1:=0) (c2:=8) (d2:=8) (hE f hf x i s1 m d (t::rest) nvx evx hcx v (by omega) hdx) (by omega) (by omega) (by omega) λa s' m' va=>?_;rw[zn zDd,zn zDd,zn zDd,zp trivial];have hidx:i+(exW (X.cc f) x++[38::labW nl,[63]]).length=i+(exW (X.cc f) x).length+2:=by rw[zLa];try rfl
   rw[hidx] at hc3;rw[zLa,<-add_assoc,hidx] at wl;obtain⟨m1,t1,v1⟩:=va.branch hX hc2 wl (by omega)
   have hend:i+(exW (X.cc f) x).length+2+(stWs (X.cc f) (nl+1) thn).1.length+1=i+(exW (X.cc f) x++[38::labW nl,[63]]++(stWs (X.cc f) (nl+1) thn).1++[labW nl++[58]]).length:=by
    simp only[zLa,zLc,zLn];omega
   refine qaq.pre t1 (c1:=0) (d1:=0) ?_ (by omega) (by omega)
   by_cases ha:a=0
   rw[zp ha] at v1;rw[zn (by simp[ha])];exact qaq.ok (v1.cast hend) (by omega);rw[zn ha] at v1;rw[zp ha];refine qaq.post (a:=0) (qjd hS hf thn _ (nl+1) s' m1 d t rest nt et hc3 v1 (by omega) (by omega)) (by omega) (by omega) λr s2 m2 h=>⟨m2,.refl _,?_⟩
   cases r with
   |some w=>exact h
   |none=>
    have h:X.Vw s2 _ d (t::rest) m2:=h
    exact(h.pass wl (hX.ldef _ _ wl)).cast hend
  |cons e els=>
   simp only at hc ⊢;obtain⟨hc,hc6⟩:=hc.app;obtain⟨hc,hc5⟩:=hc.app;obtain⟨hc,hc4⟩:=hc.app;obtain⟨hc,hc3⟩:=hc.app;obtain⟨hcx,hc2⟩:=hc.app;obtain⟨we,_⟩:=hc6.cons;have hidx:i+(exW (X.cc f) x++[38::labW nl,[63]]).length=i+(exW (X.cc f) x).length+2:=by rw[zLa];try rfl
   rw[hidx] at hc3;rw[zLa,<-add_assoc,hidx] at hc4;generalize hi3:i+(exW (X.cc f) x).length+2=i3 at *;generalize hB:(stWs (X.cc f) (nl+2) thn).1=tw at *;generalize hN:(stWs (X.cc f) (nl+2) thn).2=n2 at *
   have hlen5:i+(exW (X.cc f) x++[38::labW nl,[63]]++tw++[[48],38::labW (nl+1),[63],labW nl++[58]]).length=i3+tw.length+3+1:=by
    rw[<-hi3];simp only[zLa,zLc,zLn];omega
   rw[hlen5] at hc5
   have hlen6:i+(exW (X.cc f) x++[38::labW nl,[63]]++tw++[[48],38::labW (nl+1),[63],labW nl++[58]]++(stWs (X.cc f) n2 (e::els)).1).length=i3+tw.length+3+1+(stWs (X.cc f) n2 (e::els)).1.length:=by
    rw[zLa,<-add_assoc,hlen5]
   rw[hlen6] at we;have hc4':X.C.Code (i3+tw.length) ([[48],38::labW (nl+1),[63]]++[labW nl++[58]]):=hc4;obtain⟨hcg,hcl⟩:=hc4'.app;obtain⟨wl,_⟩:=hcl.cons;have wl:X.C.W[i3+tw.length+3]? = some (labW nl++[58]):=wl
   have hend:i3+tw.length+3+1+(stWs (X.cc f) n2 (e::els)).1.length+1=i+(exW (X.cc f) x++[38::labW nl,[63]]++tw++[[48],38::labW (nl+1),[63],labW nl++[58]]++(stWs (X.cc f) n2 (e::els)).1++[labW (nl+1)++[58]]).length:=by
    have:=hlen6;simp only[zLa,zLc,zLn] at this ⊢;omega
   rw[<-hend];have hq:wS 3 (e::els)=18:=rfl;rw[hq];refine qaq.bind (c1:=0) (d1:=0) (c2:=18) (d2:=18) (hE f hf x i s1 m d (t::rest) nvx evx hcx v (by omega) hdx) (by omega) (by omega) (by omega) λa s' m' va=>?_;rw[zn zDd,zn zDd,zn zDd,zp trivial];obtain⟨m1,t1,v1⟩:=va.branch hX hc2 wl (by omega);refine qaq.pre t1 (c1:=10) (d1:=10) ?_ (by omega) (by omega)
   by_cases ha:a=0
   rw[zp ha] at v1;rw[zn (by simp[ha])];refine qaq.post (a:=0) (qjd hS hf (e::els) _ n2 s' m1 d t rest ne ee hc5 v1 (by omega) (by omega)) (by omega) (by omega) λr s2 m2 h=>⟨m2,.refl _,?_⟩
   cases r with
   |some w=>exact h
   |none=>
    have h:X.Vw s2 _ d (t::rest) m2:=h;exact h.pass we (hX.ldef _ _ we)
   rw[zn ha] at v1;rw[zp ha];have hb:=qjd hS hf thn i3 (nl+2) s' m1 d t rest nt et (by rw[hB];exact hc3) (v1.cast (by omega)) (by omega) (by omega);rw[hB] at hb;refine qaq.post (a:=10) hb (by omega) (by omega) λr s2 m2 h=>?_
   cases r with
   |some w=>exact⟨m2,(Stx.refl _).mono (by omega),h⟩
   |none=>
    have h:X.Vw s2 _ d (t::rest) m2:=h;exact h.goto hX hcg we (by omega)
 by_cases k4:kind=4
 subst k4;rw[zn zDd,zn zDd,zn zDd,zp rfl] at hc ⊢;simp only at hc ⊢;obtain⟨hc,hc5⟩:=hc.app;obtain⟨hc,hc4⟩:=hc.app;obtain⟨hc,hc3⟩:=hc.app;obtain⟨hc1,hc2⟩:=hc.app;obtain⟨w0,_⟩:=hc1.cons;have e3:i+([labW nl++[58]]++exW (X.cc f) x).length=i+1+(exW (X.cc f) x).length:=by simp only[zLa,zLc,zLn];omega
 rw[e3] at hc3;have e4:i+([labW nl++[58]]++exW (X.cc f) x++[38::labW (nl+1),[63]]).length=i+1+(exW (X.cc f) x).length+2:=by simp only[zLa,zLc,zLn];omega
 rw[e4] at hc4
 have e5:i+([labW nl++[58]]++exW (X.cc f) x++[38::labW (nl+1),[63]]++(stWs (X.cc f) (nl+2) thn).1).length=i+1+(exW (X.cc f) x).length+2+(stWs (X.cc f) (nl+2) thn).1.length:=by
  have:=e4;simp only[zLa,zLc,zLn] at this ⊢;omega
 rw[e5] at hc5;have hc5':X.C.Code (i+1+(exW (X.cc f) x).length+2+(stWs (X.cc f) (nl+2) thn).1.length) ([[48],38::labW nl,[63]]++[labW (nl+1)++[58]]):=hc5;obtain⟨hcg,hcl⟩:=hc5'.app;obtain⟨we,_⟩:=hcl.cons;have v1:=v.pass w0 (hX.ldef _ _ w0);have hq:wS 4 els=8:=rfl;rw[hq];refine qaq.bind (c1:=0) (d1:=0) (c2:=8) (d2:=8) (hE f hf x (i+1) s1 m d (t::rest) nvx evx hc2 v1 (by omega) hdx) (by omega) (by omega) (by omega) λa s' m' va=>?_;rw[zn zDd,zn zDd,zn zDd,zn zDd,zp trivial];rw[zLc] at hdx;have:=qvE hX hE hS hf nvx evx nt et w0 hc2 hc3 hc4 hcg we (by omega) (by omega) (by omega) (by omega) (by omega) n a s' m' va
 have e6:i+1+(exW (X.cc f) x).length+2+(stWs (X.cc f) (nl+2) thn).1.length+3+1=i+([labW nl++[58]]++exW (X.cc f) x++[38::labW (nl+1),[63]]++(stWs (X.cc f) (nl+2) thn).1++[[48],38::labW nl,[63],labW (nl+1)++[58]]).length:=by
  have:=e5;simp only[zLa,zLc,zLn] at this ⊢;omega
 rw[<-e6];exact this;rw[zn k1,zn k2,zn k3,zn k4,zn k5,zn k6,zn k7] at hform;exact absurd rfl hform
theorem qvf(hX:TrnOk X):∀ n,EvOk X n/\StOk X n
 |0=>⟨λf hf e i s m d c hn he hc v hd hdep=>qaq.limit v.rel.out,λf hf st i nl s m d t rest hn he hc v hd hdep=>qaq.limit v.rel.out⟩
 |n+1=>by
  obtain⟨h1,h2⟩:=qvf hX n;exact⟨qwn hX h1 (qwg hX h2),qv0 hX h1 h2⟩
end
end Go.Stele.Wi.Wc
