/- Texts joined: LexJoin, ParFuel, ParNodes, RtPrint, InpLaw, ChkRef, ChkRef2, InpKey, InpBnd, InpNodup, InpValid, InpSmall, ChkW1, ChkW2. -/
import Derived.Lib.Join
import Derived.KernelRfl
import Derived.Lib.Replace
import Derived.Test.YthmhncflhnbedaaGreatDoorBRowCB3
set_option linter.unusedVariables false
set_option linter.unusedSimpArgs false
set_option maxRecDepth 100000
set_option maxHeartbeats 4000000
namespace Go.Stele
open Go.Lib
def qew (t:Tok):Prop:=t.text.length<=24/\t.text≠[]/\qa4 t.text=0/\(10:UInt8) ∉ t.text/\qan t.text=(⟨t.kind,t.text,0⟩,t.text.length,0)
theorem qlP {c:UInt8} {r:List UInt8} (hw:qbm c=false) (h47:c≠47):qa4 (c::r)=0:=by
 have h:([47,47]:List UInt8).isPrefixOf (c::r)=false:=by
  cases h:([47,47]:List UInt8).isPrefixOf (c::r) with
  |false=>rfl
  |true=>
   simp only[List.isPrefixOf,zBa,beq_iff_eq] at h;exact absurd h.1.symm h47
 unfold qa4;rw[h,if_neg zDd,List.takeWhile_cons_of_neg (by rw[hw];decide)]
 try rfl
theorem qm6 {d:Nat} (h:d<10):qao (UInt8.ofNat (48+d))=true:=by
 have h1:(UInt8.ofNat (48+d)).toNat=48+d:=qeG h;unfold qao cv;rw[h1]
 simp
 omega
theorem qfL (u:Nat):∀ c∈decDigits u,qao c=true:=by
 induction u using Nat.strongRecOn with
 |ind u ih=>
  intro c hc
  by_cases h:u<10
  ·rw[decDigits_one h] at hc;rw[List.mem_singleton.1 hc];exact qm6 h
  ·rw[decDigits,dif_neg h] at hc;rcases List.mem_append.1 hc with hc|hc
   ·exact ih (u / 10) (by omega) c hc
   ·rw[List.mem_singleton.1 hc];exact qm6 (by omega)
theorem qmh {c:UInt8} (h:qao c=true):qbm c=false/\c≠47:=by
 unfold qao at h;rw[zBa,zDe,zDe] at h;refine ⟨?_,fun hc=>?_⟩
 ·unfold qbm;simp only[Bool.or_eq_false_iff,decide_eq_false_iff_not];omega
 ·subst hc;exact absurd h.1 zDd
theorem qlB {c:UInt8} (h:qaz c=true):qbm c=false/\c≠47:=by
 unfold qaz at h;rw[zBa,zDe,zDe] at h;refine ⟨?_,fun hc=>?_⟩
 ·unfold qbm;simp only[Bool.or_eq_false_iff,decide_eq_false_iff_not];omega
 ·subst hc;exact absurd h.1 zDd
theorem qma {p:UInt8->Bool}:∀ {s:List UInt8},(∀ c∈s,p c=true)->s.takeWhile p=s
 |[],_=>rfl
 |c::s,h=>by rw[List.takeWhile_cons_of_pos (h c zMs),qma fun d hd=>h d (zMo _ hd)]
theorem qrA {p:UInt8->Bool}:∀ {s:List UInt8} {c:UInt8},c∈s.takeWhile p->p c=true
 |[],_,h=>by cases h
 |d::s,c,h=>by
  by_cases hd:p d=true
  ·rw[List.takeWhile_cons_of_pos hd] at h;rcases zMi.1 h with rfl|h
   ·exact hd
   ·exact qrA h
  ·rw[List.takeWhile_cons_of_neg hd] at h;cases h
theorem qly {u:Nat} (hu:u<4294967296) (l:Int):qew ⟨1,decDigits u,l⟩:=by
 have hd:=qfL u;have hne:=qcV u;refine ⟨by have:=qgI hu;simp only;omega,hne,?_,fun h=>by have:=hd _ h;exact absurd this zDd,?_⟩
 ·show qa4 (decDigits u)=0
  cases hD:decDigits u with
  |nil=>exact absurd hD hne
  |cons c r=>
   have:=qmh (hd c (by rw[hD];exact List.mem_cons_self ..));exact qlP this.1 this.2
 ·show qan (decDigits u)=(⟨1,decDigits u,0⟩,(decDigits u).length,0)
  have h1:qan (decDigits u)=qby (decDigits u):=by
   cases hD:decDigits u with
   |nil=>exact absurd hD hne
   |cons c r=>rw[qan,if_pos (hd c (by rw[hD];exact List.mem_cons_self ..))]
  rw[h1];unfold qby;rw[qma hd,qkl u hu,if_neg];unfold qc9;rw[List.getElem?_eq_none (zNr _)];decide
theorem qot:∀ x∈qcL,x.length<=24/\x≠[]/\qa4 x=0/\(10:UInt8) ∉ x/\qan x=(⟨4,x,0⟩,x.length,0):=by decide +kernel
theorem qjp (s:List UInt8) (h:(qan s).2.2=0):qew (qan s).1:=by
 match s with
 |[]=>simp[qan,qa3] at h
 |c::r=>
  simp only[qan] at h ⊢;split at h <;> rename_i hc
  ·rw[if_pos hc];unfold qby at h ⊢;split at h
   ·simp[qa3] at h
   ·rename_i hw
    rw[if_neg hw];split at h
    ·rename_i u hu
     exact qly (qms hu) 0
    ·simp[qa3] at h
  ·rw[if_neg hc];split at h <;> rename_i hl
   ·rw[if_pos hl];unfold qcv at h ⊢;split at h
    ·simp[qa3] at h
    ·rename_i hw
     rw[if_neg hw];have hin:qaH c=true:=by simp[qaH,hl]
     have hW:(c::r).takeWhile qaH=c::r.takeWhile qaH:=List.takeWhile_cons_of_pos hin;have hall:∀ d∈(c::r).takeWhile qaH,qaH d=true:=fun d hd=>qrA hd;have hww:=qlB hl;refine ⟨by simp only;omega,by simp only;rw[hW];simp,by simp only;rw[hW];exact qlP hww.1 hww.2,fun h10=>absurd (hall _ h10) zDd,?_⟩;simp only
     have h1:qan ((c::r).takeWhile qaH)=qcv ((c::r).takeWhile qaH):=by
      rw[hW,qan,if_neg hc,if_pos hl]
     rw[h1];unfold qcv;rw[qma hall,if_neg hw]
   ·rw[if_neg hl];split at h <;> rename_i hq
    ·rw[if_pos hq];unfold qbi at h ⊢;split at h
     ·split at h
      ·simp[qa3] at h
      ·rename_i hx
       rename_i heq
       rename_i b _ _
       rw[if_neg hx];exact qly (Nat.lt_trans (UInt8.toNat_lt b) zDd) 0
     ·simp[qa3] at h
    ·rw[if_neg hq];unfold qde at h ⊢;split at h
     ·rename_i x hx
      exact qot x (List.mem_of_find?_eq_some hx)
     ·simp[qa3] at h
theorem qg6:∀ (f:Nat) (s:List UInt8) (line:Int) (T:List Tok),lexP f s line=.ok T->∀ t∈T,qew t
 |0,s,line,T,h=>by
  rw[lexP] at h;cases h
  simp
 |f+1,s,line,T,h=>by
  rw[lexP] at h;split at h
  ·cases h
   simp
  ·split at h
   ·split at h
    ·cases h
    ·rename_i he
     obtain ⟨T',h1,rfl⟩:=qpo h;have k2:=qg6 f _ _ _ h1;intro t ht;rcases zMi.1 ht with rfl|ht
     ·exact qjp s (by omega)
     ·exact k2 t ht
   ·exact qg6 f _ _ _ h
end Go.Stele
namespace Go.Stele
def Good {A:Type} (T:List Tok) (s:Bool) (i op:Nat) (r:Res A):Prop:=match r with
 |.ok _ i' op'=>i<=i'/\(s=true->i<i')/\(i<=T.length->i'<=T.length)/\op'=op
 |.err _ _=>True
def qdb {A:Type} (T:List Tok) (s:Bool) (i op:Nat) (r:OR A):Prop:=∀ r',r=some r'->Good T s i op r'
theorem qaG {T:List Tok} {i:Nat} {xs:List (List UInt8)} (h:qaE T i xs=true):i<T.length:=by
 rcases Nat.lt_or_ge i T.length with h1|h1
 ·exact h1
 ·rw[qaE,List.getElem?_eq_none h1] at h;cases h
theorem qh9 {T:List Tok} {i:Nat} {t:Tok} (h:T[i]? = some t):i<T.length:=(List.getElem?_eq_some_iff.1 h).1
theorem qbC (T:List Tok) (k:Int) (i op:Nat):Good T true i op (qbS T k i op):=by
 unfold qbS;split
 ·rename_i t ht
  have:=qh9 ht;split
  ·exact ⟨by omega,fun _=>by omega,fun _=>by omega,rfl⟩
  ·trivial
 ·trivial
theorem qbb (T:List Tok) (x:List UInt8) (i op:Nat):Good T true i op (qb6 T x i op):=by
 unfold qb6;split
 ·rename_i h
  have:=qaG h;exact ⟨by omega,fun _=>by omega,fun _=>by omega,rfl⟩
 ·trivial
theorem qbu {T:List Tok} {x:List UInt8} {i op i' op':Nat} {u:Unit} (h:qbs T x i op=.ok u i' op'):i'=i+1/\op'=op+1/\op<100/\i<T.length:=by
 unfold qbs at h;split at h
 ·rename_i h1
  have:=qaG h1;split at h
  ·cases h
  ·cases h;exact ⟨rfl,rfl,by omega,this⟩
 ·cases h
theorem qeE {T:List Tok} {x:List UInt8} {i op i' op':Nat} {u:Unit} (h:sEnd T x i op=.ok u i' op'):i'=i+1/\op'=op-1/\i<T.length:=by
 unfold sEnd qb6 at h;split at h
 ·rename_i h1
  have:=qaG h1;cases h;exact ⟨rfl,rfl,this⟩
 ·cases h
theorem qed (T:List Tok) (i op:Nat):Good T true i op (qb5 T i op):=by
 have:=qbC T 1 i op;unfold qb5
 cases h:qbS T 1 i op with
 |ok v i' op'=>rw[h] at this;exact this
 |err l e=>trivial
theorem qaN {A B:Type} {r:OR A} {f:A->Nat->Nat->OR B} {q:Res B} (h:qal r f=some q) :
  (∃ v i op,r=some (.ok v i op)/\f v i op=some q)∨(∃ l e,r=some (.err l e)/\q=.err l e):=by
 match r,h with
 |some (.ok v i op),h=>exact .inl ⟨v,i,op,rfl,h⟩
 |some (.err l e),h=>exact .inr ⟨l,e,rfl,by simpa [qal] using h.symm⟩
theorem qaQ {A B:Type} {T:List Tok} {s t:Bool} {i op j op1:Nat} {r:OR A} {f:A->Nat->Nat->OR B} (hr:qdb T s j op1 r)
  (hf:∀ v i' ,r=some (.ok v i' op1)->j<=i'->(s=true->j<i')->(j<=T.length->i'<=T.length)->qdb T t i op (f v i' op1)):qdb T t i op (qal r f):=fun q hq=>by
 rcases qaN hq with ⟨v,i',op',h1,h2⟩|⟨l,e,_,rfl⟩
 ·obtain ⟨g1,g2,g3,g4⟩:=hr _ h1;subst g4;exact hf v i' h1 g1 g2 g3 q h2
 ·trivial
theorem qaL {A:Type} {T:List Tok} {s:Bool} {i op:Nat} {r:Res A} (h:Good T s i op r):qdb T s i op (some r):=fun r' hr=>by cases hr;exact h
theorem qbY {A:Type} {T:List Tok} {s:Bool} {i op:Nat}:qdb (A:=A) T s i op none:=fun r' hr=>by cases hr
theorem qdb.from {A:Type} {T:List Tok} {s t:Bool} {i j op:Nat} {r:OR A} (h:qdb T s j op r) (hij:i<=j) (hs:t=true->i<j∨s=true) (hT:i<=T.length->j<=T.length):qdb T t i op r:=fun r' hr=>by
 have:=h r' hr
 cases r' with
 |ok v i' op'=>
  obtain ⟨g1,g2,g3,g4⟩:=this;refine ⟨by omega,fun ht=>?_,fun hi=>g3 (hT hi),g4⟩;rcases hs ht with h1|h1
  ·omega
  ·have:=g2 h1;omega
 |err l e=>trivial
theorem qeY (T:List Tok):∀ (f:Nat) (acc:List (List UInt8)) (i op:Nat),qdb T false i op (qaR T f acc i op)
 |0,_,_,_=>qbY
 |f+1,acc,i,op=>by
  rw[qaR];split
  ·rename_i h
   have:=qaG h;refine qaQ (qaL (qbC T 2 (i+1) op)) fun v i' _ h1 h2 h3=>?_;exact (qeY T f _ i' op).from (by omega) (by simp) (fun _=>h3 (by omega))
  ·exact qaL ⟨by omega,by simp,fun h=>h,rfl⟩
theorem qcN (T:List Tok) (f i op:Nat):qdb T true i op (qeV T f i op):=
 qaQ (qaL (qbC T 2 i op)) fun v i' _ h1 h2 h3=>(qeY T f _ i' op).from h1 (fun _=>.inl (h2 rfl)) h3
theorem qgw {A:Type} {T:List Tok} {s:Bool} {x y:List UInt8} {i op:Nat} {g:Nat->Nat->OR A} (hg:i<T.length->op<100->qdb T s (i+1) (op+1) (g (i+1) (op+1))) :
  qdb T true i op (qal (some (qbs T x i op)) fun _ i' op'=>qal (g i' op') fun v i' op'=>qal (some (sEnd T y i' op')) fun _ i' op'=>some (.ok v i' op')):=fun q hq=>by
 rcases qaN hq with ⟨v,i1,op1,h1,h2⟩|⟨l,e,_,rfl⟩
 ·injection h1 with h1;obtain ⟨rfl,rfl,ho,hi⟩:=qbu h1;rcases qaN h2 with ⟨w,i2,op2,h3,h4⟩|⟨l,e,_,rfl⟩
  ·obtain ⟨g1,_,g3,rfl⟩:=hg hi ho _ h3;rcases qaN h4 with ⟨u,i3,op3,h5,h6⟩|⟨l,e,_,rfl⟩
   ·injection h5 with h5;obtain ⟨rfl,rfl,hi2⟩:=qeE h5;cases h6;exact ⟨by omega,fun _=>by omega,fun _=>by omega,by omega⟩
   ·trivial
  ·trivial
 ·trivial
theorem qcQ (T:List Tok):∀ f:Nat,(∀ k i op,qdb T true i op (eLev T f k i op))/\(∀ k e i op,qdb T false i op (qej T f k e i op))/\(∀ i op,qdb T true i op (qcu T f i op)) /\
  (∀ i op,qdb T true i op (qfO T f i op))/\(∀ i op,qdb T true i op (qcU T f i op))/\(∀ i op,qdb T true i op (qet T f i op))/\(∀ acc i op,qdb T false i op (qaM T f acc i op))
 |0=>⟨fun _ _ _=>by rw[eLev];exact qbY,fun _ _ _ _=>by rw[qej];exact qbY,fun _ _=>by rw[qcu];exact qbY,fun _ _=>by rw[qfO];exact qbY,fun _ _=>by rw[qcU];exact qbY,fun _ _=>by rw[qet];exact qbY,fun _ _ _=>by rw[qaM];exact qbY⟩
 |f+1=>by
  obtain ⟨hL,hO,hU,hP,hI,hA,hB⟩:=qcQ T f
  have neg:∀ (x:List UInt8) (nm:List UInt8) (i op:Nat),qdb T true i op (qal (some (qbs T x i op)) fun _ i' op'=>qal (qcu T f i' op') fun e i' op'=>some (.ok (Ex.mk nm 0 [] [e]) i' (op'-1))):=fun x nm i op q hq=>by
   rcases qaN hq with ⟨v,i1,op1,h1,h2⟩|⟨l,e,_,rfl⟩
   ·injection h1 with h1;obtain ⟨rfl,rfl,ho,hi⟩:=qbu h1;rcases qaN h2 with ⟨w,i2,op2,h3,h4⟩|⟨l,e,_,rfl⟩
    ·obtain ⟨g1,_,g3,rfl⟩:=hU _ _ _ h3;cases h4;exact ⟨by omega,fun _=>by omega,fun _=>g3 (by omega),by omega⟩
    ·trivial
   ·trivial
  refine ⟨fun k i op=>?_,fun k e i op=>?_,fun i op=>?_,fun i op=>?_,fun i op=>?_,fun i op=>?_,fun acc i op=>?_⟩
  ·rw[eLev];split
   ·exact hU i op
   ·exact qaQ (hL (k+1) i op) fun v i' _ h1 h2 h3=>(hO k v i' op).from h1 (fun _=>.inl (h2 rfl)) h3
  ·rw[qej];split
   ·rename_i h
    have:=qaG h;refine qaQ (hL (k+1) (i+1) op) fun v i' _ h1 h2 h3=>?_;split
    ·exact qaL ⟨by omega,by simp,fun _=>h3 (by omega),rfl⟩
    ·exact (hO k _ i' op).from (by omega) (by simp) (fun _=>h3 (by omega))
   ·exact qaL ⟨by omega,by simp,fun h=>h,rfl⟩
  ·rw[qcu];split
   ·exact neg _ _ _ _
   ·split
    ·exact neg _ _ _ _
    ·exact hP i op
  ·rw[qfO];split
   ·exact qgw (g:=fun i op=>eLev T f 0 i op) fun _ _=>hL 0 _ _
   ·split
    ·exact qaQ (qaL (qed T i op)) fun v i' _ h1 h2 h3=>qaL ⟨h1,fun _=>h2 rfl,h3,rfl⟩
    ·refine qaQ (qaL (qbC T 2 i op)) fun v i' _ h1 h2 h3=>?_;split
     ·exact qaQ (hI i' op) fun v i2 _ g1 g2 g3=>qaL ⟨by omega,fun _=>by have:=h2 rfl;omega,fun h=>g3 (h3 h),rfl⟩
     ·split
      ·exact qaQ (hA i' op) fun v i2 _ g1 g2 g3=>qaL ⟨by omega,fun _=>by have:=h2 rfl;omega,fun h=>g3 (h3 h),rfl⟩
      ·exact qaL ⟨h1,fun _=>h2 rfl,h3,rfl⟩
  ·rw[qcU];exact qgw (g:=fun i op=>eLev T f 0 i op) fun _ _=>hL 0 _ _
  ·rw[qet];exact qgw (g:=fun i op=>qaM T f [] i op) fun _ _=>hB [] _ _
  ·rw[qaM];split
   ·exact qaL ⟨by omega,by simp,fun h=>h,rfl⟩
   ·refine qaQ (s:=false) (j:=i) (op1:=op) ?_ fun v i' _ h1 h2 h3=>?_
    ·split
     ·exact qaL ⟨by omega,by simp,fun h=>h,rfl⟩
     ·exact qdb.from (qaL (qbb T [44] i op)) (by omega) (by simp) (fun h=>h)
    ·exact qaQ (hL 0 i' op) fun v i2 _ g1 g2 g3=>(hB _ i2 op).from (by omega) (by simp) (fun h=>g3 (h3 h))
end Go.Stele
/- The parser in plain Lean: where statements end; enough fuel. -/
namespace Go.Stele
theorem qe1 (T:List Tok):∀ f:Nat,(∀ i op,qdb T true i op (qcG T f i op))/\(∀ acc i op,qdb T false i op (qbV T f acc i op))/\(∀ i op,qdb T true i op (qei T f i op))/\(∀ i op,qdb T true i op (qcx T f i op))
 |0=>⟨fun _ _=>by rw[qcG];exact qbY,fun _ _ _=>by rw[qbV];exact qbY,fun _ _=>by rw[qei];exact qbY,fun _ _=>by rw[qcx];exact qbY⟩
 |f+1=>by
  obtain ⟨hB,hL,hS,hM⟩:=qe1 T f;obtain ⟨gL,_,_,_,gI,gA,_⟩:=qcQ T f;refine ⟨fun i op=>?_,fun acc i op=>?_,fun i op=>?_,fun i op=>?_⟩
  ·rw[qcG];exact qgw (g:=fun i op=>qbV T f [] i op) fun _ _=>hL [] _ _
  ·rw[qbV];split
   ·exact qaL ⟨by omega,by simp,fun h=>h,rfl⟩
   ·exact qaQ (hS i op) fun v i' _ h1 h2 h3=>(hL _ i' op).from h1 (by simp) h3
  ·rw[qei];split
   ·rename_i h
    have:=qaG h;refine qaQ (gL 0 (i+1) op) fun v i' _ h1 h2 h3=>qaQ (hB i' op) fun w i2 _ g1 g2 g3=>?_;split
    ·rename_i h4
     have:=qaG h4;refine qaQ (hB (i2+1) op) fun x i3 _ k1 k2 k3=>qaL ⟨by omega,fun _=>by omega,fun _=>k3 (by omega),rfl⟩
    ·exact qaL ⟨by omega,fun _=>by omega,fun _=>g3 (h3 (by omega)),rfl⟩
   ·split
    ·rename_i h
     have:=qaG h;exact qaQ (gL 0 (i+1) op) fun v i' _ h1 h2 h3=>qaQ (hB i' op) fun w i2 _ g1 g2 g3=>qaL ⟨by omega,fun _=>by omega,fun _=>g3 (h3 (by omega)),rfl⟩
    ·exact qaQ (hM i op) fun v i' _ h1 h2 h3=>qaQ (qaL (qbb T [59] i' op)) fun w i2 _ g1 g2 g3=>qaL ⟨by omega,fun _=>by have:=h2 rfl;omega,fun hh=>g3 (h3 hh),rfl⟩
  ·rw[qcx];split
   ·rename_i h
    have:=qaG h;exact qaQ (gL 0 (i+1) op) fun v i' _ h1 h2 h3=>qaL ⟨by omega,fun _=>by omega,fun _=>h3 (by omega),rfl⟩
   ·split
    ·rename_i h
     have:=qaG h;exact qaL ⟨by omega,fun _=>by omega,fun _=>by omega,rfl⟩
    ·refine qaQ (qaL (qbC T 2 i op)) fun v i' _ h1 h2 h3=>?_;split
     ·exact qaQ (gA i' op) fun w i2 _ g1 g2 g3=>qaL ⟨by omega,fun _=>by have:=h2 rfl;omega,fun hh=>g3 (h3 hh),rfl⟩
     ·split
      ·exact qaQ (gI i' op) fun w i2 _ g1 g2 g3=>qaQ (qaL (qbb T [61] i2 op)) fun u i3 _ k1 k2 k3=>qaQ (gL 0 i3 op) fun x i4 _ m1 m2 m3=>
        qaL ⟨by omega,fun _=>by have:=h2 rfl;omega,fun hh=>m3 (k3 (g3 (h3 hh))),rfl⟩
      ·exact qaQ (qaL (qbb T [61] i' op)) fun u i3 _ k1 k2 k3=>qaQ (gL 0 i3 op) fun x i4 _ m1 m2 m3=>
        qaL ⟨by omega,fun _=>by have:=h2 rfl;omega,fun hh=>m3 (k3 (h3 hh)),rfl⟩
theorem qco (T:List Tok):∀ (f:Nat) (acc:List (List UInt8)) (i op:Nat),qdb T (qaE T i [qhH]) i op (qc0 T f acc i op)
 |0,_,_,_=>by rw[qc0];exact qbY
 |f+1,acc,i,op=>by
  rw[qc0];split
  ·rename_i h
   have:=qaG h
   exact qaQ (qcN T f (i+1) op) fun v i' _ h1 h2 h3=>qaQ (qaL (qbb T [59] i' op)) fun u i2 _ g1 g2 g3=>
    (qco T f _ i2 op).from (by omega) (fun _=>.inl (by omega)) (fun _=>g3 (h3 (by omega)))
  ·rename_i h
   exact qaL ⟨by omega,fun hh=>absurd hh h,fun h=>h,rfl⟩
/-! ### Enough fuel -/
def Ends {A:Type} (r:OR A):Prop:=∃ q,r=some q
theorem qax {A B:Type} {r:OR A} {f:A->Nat->Nat->OR B} (h:Ends r) (k:∀ v i op,r=some (.ok v i op)->Ends (f v i op)):Ends (qal r f):=by
 obtain ⟨q,rfl⟩:=h
 cases q with
 |ok v i op=>exact k v i op rfl
 |err l e=>exact ⟨_,rfl⟩
theorem qaw {A:Type} {r:Res A}:Ends (some r):=⟨_,rfl⟩
theorem qcW {B:Type} {T:List Tok} {x:List UInt8} {i op:Nat} {g:Unit->Nat->Nat->OR B} (k:i<T.length->op<100->Ends (g () (i+1) (op+1))):Ends (qal (some (qbs T x i op)) g):=
 qax qaw fun v i1 op1 h1=>by
  injection h1 with h1;obtain ⟨rfl,rfl,ho,hi⟩:=qbu h1;exact k hi ho
theorem qoL (T:List Tok):∀ f:Nat,(∀ k i op,k<=6->i<=T.length->10 * (T.length-i)+20-k<=f->Ends (eLev T f k i op))/\(∀ k e i op,k<=5->i<=T.length->10 * (T.length-i)+11<=f->Ends (qej T f k e i op)) /\
  (∀ i op,i<=T.length->10 * (T.length-i)+13<=f->Ends (qcu T f i op))/\(∀ i op,i<=T.length->10 * (T.length-i)+12<=f->Ends (qfO T f i op))/\(∀ i op,i<=T.length->10 * (T.length-i)+11<=f->Ends (qcU T f i op)) /\
  (∀ i op,i<=T.length->10 * (T.length-i)+12<=f->Ends (qet T f i op))/\(∀ acc i op,i<=T.length->10 * (T.length-i)+21<=f->Ends (qaM T f acc i op))
 |0=>⟨fun _ _ _ _ _ _=>by omega,fun _ _ _ _ _ _ _=>by omega,fun _ _ _ _=>by omega,fun _ _ _ _=>by omega,fun _ _ _ _=>by omega,fun _ _ _ _=>by omega,fun _ _ _ _ _=>by omega⟩
 |f+1=>by
  obtain ⟨hL,hO,hU,hP,hI,hA,hB⟩:=qoL T f;obtain ⟨gL,gO,gU,gP,gI,gA,gB⟩:=qcQ T f
  have neg:∀ (x nm:List UInt8) (i op:Nat),10 * (T.length-i)+13<=f+1->Ends (qal (some (qbs T x i op)) fun _ i' op'=>qal (qcu T f i' op') fun e i' op'=>some (.ok (Ex.mk nm 0 [] [e]) i' (op'-1))):=fun x nm i op hf=>
   qcW fun hi ho=>qax (hU _ _ (by omega) (by omega)) fun v i2 op2 _=>qaw
  refine ⟨fun k i op hk hi hf=>?_,fun k e i op hk hi hf=>?_,fun i op hi hf=>?_,fun i op hi hf=>?_,fun i op hi hf=>?_,fun i op hi hf=>?_,fun acc i op hi hf=>?_⟩
  ·rw[eLev];split
   ·exact hU i op hi (by omega)
   ·refine qax (hL (k+1) i op (by omega) hi (by omega)) fun v i' op' h=>?_;obtain ⟨g1,g2,g3,rfl⟩:=gL (k+1) i op _ h;have:=g2 rfl;exact hO k v i' op' (by omega) (g3 hi) (by have:=g3 hi;omega)
  ·rw[qej];split
   ·rename_i h
    have:=qaG h;refine qax (hL (k+1) (i+1) op (by omega) (by omega) (by omega)) fun v i' op' h=>?_;obtain ⟨g1,g2,g3,rfl⟩:=gL (k+1) (i+1) op _ h;have:=g3 (by omega);split
    ·exact qaw
    ·exact hO k _ i' op' hk this (by omega)
   ·exact qaw
  ·rw[qcu];split
   ·exact neg _ _ _ _ hf
   ·split
    ·exact neg _ _ _ _ hf
    ·exact hP i op hi (by omega)
  ·rw[qfO];split
   ·exact qcW fun hlt ho=>qax (hL 0 _ _ (by omega) (by omega) (by omega)) fun v i2 op2 _=>qax qaw fun _ _ _ _=>qaw
   ·split
    ·exact qax qaw fun _ _ _ _=>qaw
    ·refine qax qaw fun v i' op' h=>?_;injection h with h;have hg:=qbC T 2 i op;rw[h] at hg;obtain ⟨h1,h2,h3,rfl⟩:=hg;have:=h2 rfl;have:=h3 hi;split
     ·exact qax (hI i' _ (by omega) (by omega)) fun _ _ _ _=>qaw
     ·split
      ·exact qax (hA i' _ (by omega) (by omega)) fun _ _ _ _=>qaw
      ·exact qaw
  ·rw[qcU];exact qcW fun hlt ho=>qax (hL 0 _ _ (by omega) (by omega) (by omega)) fun v i2 op2 _=>qax qaw fun _ _ _ _=>qaw
  ·rw[qet];exact qcW fun hlt ho=>qax (hB [] _ _ (by omega) (by omega)) fun v i2 op2 _=>qax qaw fun _ _ _ _=>qaw
  ·rw[qaM];split
   ·exact qaw
   ·refine qax qaw fun v i' op' h=>?_
    have hg:i<=i'/\i'<=T.length:=by
     injection h with h;split at h
     ·cases h;exact ⟨zNr _,hi⟩
     ·have hg:=qbb T [44] i op;rw[h] at hg;exact ⟨hg.1,hg.2.2.1 hi⟩
    refine qax (hL 0 i' op' (by omega) hg.2 (by omega)) fun v2 i2 op2 h2=>?_;obtain ⟨g1,g2,g3,rfl⟩:=gL 0 i' op' _ h2;have:=g2 rfl;have:=g3 hg.2;exact hB _ i2 _ this (by omega)
theorem qqn (T:List Tok):∀ f:Nat,(∀ i op,i<=T.length->10 * (T.length-i)+5<=f->Ends (qcG T f i op))/\(∀ acc i op,i<=T.length->10 * (T.length-i)+14<=f->Ends (qbV T f acc i op)) /\
  (∀ i op,i<=T.length->10 * (T.length-i)+13<=f->Ends (qei T f i op))/\(∀ i op,i<=T.length->10 * (T.length-i)+12<=f->Ends (qcx T f i op))
 |0=>⟨fun _ _ _ _=>by omega,fun _ _ _ _ _=>by omega,fun _ _ _ _=>by omega,fun _ _ _ _=>by omega⟩
 |f+1=>by
  obtain ⟨hB,hL,hS,hM⟩:=qqn T f;obtain ⟨eL,_,_,_,eI,eA,_⟩:=qoL T f;obtain ⟨gL,_,_,_,gI,gA,_⟩:=qcQ T f;obtain ⟨kB,kL,kS,kM⟩:=qe1 T f;refine ⟨fun i op hi hf=>?_,fun acc i op hi hf=>?_,fun i op hi hf=>?_,fun i op hi hf=>?_⟩
  ·rw[qcG];exact qcW fun hlt ho=>qax (hL [] _ _ (by omega) (by omega)) fun v i2 op2 _=>qax qaw fun _ _ _ _=>qaw
  ·rw[qbV];split
   ·exact qaw
   ·refine qax (hS i op hi (by omega)) fun v i' op' h=>?_;obtain ⟨g1,g2,g3,rfl⟩:=kS i op _ h;have:=g2 rfl;have:=g3 hi;exact hL _ i' _ (by omega) (by omega)
  ·rw[qei];split
   ·rename_i h
    have:=qaG h;refine qax (eL 0 (i+1) op (by omega) (by omega) (by omega)) fun v i' op' h=>?_;obtain ⟨g1,g2,g3,rfl⟩:=gL 0 (i+1) op _ h;have:=g2 rfl;have:=g3 (by omega);refine qax (hB i' _ (by omega) (by omega)) fun v2 i2 op2 h2=>?_;obtain ⟨q1,q2,q3,rfl⟩:=kB i' _ _ h2;have:=q3 (by omega);split
    ·rename_i h4
     have:=qaG h4;exact qax (hB (i2+1) _ (by omega) (by omega)) fun _ _ _ _=>qaw
    ·exact qaw
   ·split
    ·rename_i h
     have:=qaG h;refine qax (eL 0 (i+1) op (by omega) (by omega) (by omega)) fun v i' op' h=>?_;obtain ⟨g1,g2,g3,rfl⟩:=gL 0 (i+1) op _ h;have:=g2 rfl;have:=g3 (by omega);exact qax (hB i' _ (by omega) (by omega)) fun v2 i2 op2 h2=>qaw
    ·exact qax (hM i op hi (by omega)) fun _ _ _ _=>qax qaw fun _ _ _ _=>qaw
  ·rw[qcx];split
   ·rename_i h
    have:=qaG h;exact qax (eL 0 (i+1) op (by omega) (by omega) (by omega)) fun _ _ _ _=>qaw
   ·split
    ·exact qaw
    ·refine qax qaw fun v i' op' h=>?_;injection h with h;have hg:=qbC T 2 i op;rw[h] at hg;obtain ⟨h1,h2,h3,rfl⟩:=hg;have:=h2 rfl;have:=h3 hi;split
     ·exact qax (eA i' _ (by omega) (by omega)) fun _ _ _ _=>qaw
     ·have tail:∀ (i2 op2:Nat) (g:Ex->Sm),i'<=i2->i2<=T.length->Ends (qal (some (qb6 T [61] i2 op2)) fun _ i' op'=>qal (eLev T f 0 i' op') fun e i' op'=>some (.ok (g e) i' op')):=fun i2 op2 g hi1 hi2=>by
       refine qax qaw fun v i3 op3 h3=>?_;injection h3 with h3;have hg:=qbb T [61] i2 op2;rw[h3] at hg;have:=hg.2.2.1 hi2;have:=hg.1;exact qax (eL 0 i3 _ (by omega) (by omega) (by omega)) fun _ _ _ _=>qaw
      split
      ·refine qax (eI i' _ (by omega) (by omega)) fun v2 i2 op2 h2=>?_;obtain ⟨q1,q2,q3,rfl⟩:=gI i' _ _ h2;exact tail i2 _ _ q1 (q3 (by omega))
      ·exact tail i' _ _ (zNr _) (by omega)
theorem qe5 (T:List Tok):∀ (f:Nat) (acc:List (List UInt8)) (i op:Nat),i<=T.length->T.length-i+1<=f->Ends (qaR T f acc i op)
 |0,_,_,_,_,h=>by omega
 |f+1,acc,i,op,hi,hf=>by
  rw[qaR];split
  ·rename_i h
   have:=qaG h;refine qax qaw fun v i' op' h=>?_;injection h with h;have hg:=qbC T 2 (i+1) op;rw[h] at hg;obtain ⟨h1,h2,h3,rfl⟩:=hg;exact qe5 T f _ i' _ (h3 (by omega)) (by have:=h3 (by omega);omega)
  ·exact qaw
theorem qiO (T:List Tok) (f i op:Nat) (hi:i<=T.length) (hf:T.length-i+1<=f):Ends (qeV T f i op):=
 qax qaw fun v i' op' h=>by
  injection h with h;have hg:=qbC T 2 i op;rw[h] at hg;obtain ⟨h1,h2,h3,rfl⟩:=hg;exact qe5 T f _ i' _ (h3 hi) (by have:=h3 hi;omega)
theorem qg2 (T:List Tok):∀ (f:Nat) (acc:List (List UInt8)) (i op:Nat),i<=T.length->T.length-i+2<=f->Ends (qc0 T f acc i op)
 |0,_,_,_,_,h=>by omega
 |f+1,acc,i,op,hi,hf=>by
  rw[qc0];split
  ·rename_i h
   have:=qaG h;refine qax (qiO T f (i+1) op (by omega) (by omega)) fun v i' op' h=>?_;obtain ⟨g1,g2,g3,rfl⟩:=qcN T f (i+1) op _ h;have:=g3 (by omega);refine qax qaw fun v i2 op2 h2=>?_;injection h2 with h2;have hg:=qbb T [59] i' op';rw[h2] at hg;obtain ⟨h1,h2,h3,rfl⟩:=hg;have:=h3 (by omega);exact qg2 T f _ i2 _ (by omega) (by omega)
  ·exact qaw
theorem qjC {B:Type} {T:List Tok} {k:Int} {i op:Nat} {g:List UInt8->Nat->Nat->OR B} (h:∀ s,i<T.length->Ends (g s (i+1) op)):Ends (qal (some (qbS T k i op)) g):=
 qax qaw fun v i' op' hw=>by
  injection hw with hw;unfold qbS at hw;split at hw
  ·rename_i t ht
   have:=qh9 ht;split at hw
   ·cases hw;exact h _ this
   ·cases hw
  ·cases hw
theorem qpr {B:Type} {T:List Tok} {x:List UInt8} {i op:Nat} {g:Unit->Nat->Nat->OR B} (h:i<T.length->Ends (g () (i+1) (op-1))):Ends (qal (some (sEnd T x i op)) g):=
 qax qaw fun v i' op' hw=>by
  injection hw with hw;obtain ⟨rfl,rfl,hlt⟩:=qeE hw;exact h hlt
theorem qor (T:List Tok) (f i op:Nat) (hi:i<=T.length) (hf:10 * (T.length-i)+14<=f):Ends (qiz T f i op):=by
 unfold qiz;refine qjC fun s h1=>qcW fun h2 h3=>qax ?_ fun v i2 op2 h4=>qpr fun h5=>qcW fun h6 h7=>qax (qg2 T f [] _ _ (by omega) ?_) fun v2 i3 op3 h8=>qax ((qqn T f).2.1 [] _ _ ?_ ?_) fun v3 i4 op4 h9=>qax qaw fun _ _ _ _=>qaw
 ·split
  ·exact qaw
  ·exact qiO T f _ _ (by omega) (by omega)
 ·have:i+1+1<=i2:=by
   split at h4
   ·cases h4;omega
   ·exact (qcN T f _ _ _ h4).1
  omega
 ·exact (qco T f _ _ _ _ h8).2.2.1 (by omega)
 ·have:i+1+1<=i2:=by
   split at h4
   ·cases h4;omega
   ·exact (qcN T f _ _ _ h4).1
  have:=(qco T f _ _ _ _ h8).1;omega
theorem qcT (T:List Tok) (f i op:Nat):qdb T true i op (qiz T f i op):=by
 intro q hq0;unfold qiz at hq0
 cases q with
 |err l e=>trivial
 |ok v i9 op9=>
  rcases qaN hq0 with ⟨s,i1,op1,h1,hq1⟩|⟨l,e,_,h⟩
  ·injection h1 with h1;have g1:=qbC T 2 i op;rw[h1] at g1;obtain ⟨a1,a2,a3,rfl⟩:=g1;have:=a2 rfl;rcases qaN hq1 with ⟨_,i2,op2,h2,hq2⟩|⟨l,e,_,h⟩
   ·injection h2 with h2;obtain ⟨rfl,rfl,b1,b2⟩:=qbu h2;rcases qaN hq2 with ⟨ps,i3,op3,h3,hq3⟩|⟨l,e,_,h⟩
    ·have c:i1+1<=i3/\(i1+1<=T.length->i3<=T.length)/\op3=op1+1:=by
      split at h3
      ·cases h3;exact ⟨zNr _,fun h=>h,rfl⟩
      ·obtain ⟨c1,_,c3,c4⟩:=qcN T f _ _ _ h3;exact ⟨c1,c3,c4⟩
     obtain ⟨c1,c2,rfl⟩:=c;rcases qaN hq3 with ⟨_,i4,op4,h4,hq4⟩|⟨l,e,_,h⟩
     ·injection h4 with h4;obtain ⟨rfl,rfl,d1⟩:=qeE h4;rcases qaN hq4 with ⟨_,i5,op5,h5,hq5⟩|⟨l,e,_,h⟩
      ·injection h5 with h5;obtain ⟨rfl,rfl,e1,e2⟩:=qbu h5;rcases qaN hq5 with ⟨ls,i6,op6,h6,hq6⟩|⟨l,e,_,h⟩
       ·obtain ⟨f1,_,f3,rfl⟩:=qco T f _ _ _ _ h6;have:=f3 (by omega);rcases qaN hq6 with ⟨bs,i7,op7,h7,hq7⟩|⟨l,e,_,h⟩
        ·obtain ⟨k1,_,k3,rfl⟩:=(qe1 T f).2.1 _ _ _ _ h7;have:=k3 (by omega);rcases qaN hq7 with ⟨_,i8,op8,h8,hq8⟩|⟨l,e,_,h⟩
         ·injection h8 with h8;obtain ⟨rfl,rfl,m1⟩:=qeE h8;cases hq8;exact ⟨by omega,fun _=>by omega,fun _=>by omega,by omega⟩
         ·cases h
        ·cases h
       ·cases h
      ·cases h
     ·cases h
    ·cases h
   ·cases h
  ·cases h
theorem qdW (T:List Tok) (i op:Nat):qdb T true i op (qfR T i op):=by
 intro q hq0;unfold qfR at hq0
 cases q with
 |err l e=>trivial
 |ok v i9 op9=>
  rcases qaN hq0 with ⟨s,i1,op1,h1,hq1⟩|⟨l,e,_,h⟩
  ·injection h1 with h1;have g1:=qbC T 2 i op;rw[h1] at g1;obtain ⟨a1,a2,a3,rfl⟩:=g1;have:=a2 rfl;rcases qaN hq1 with ⟨_,i2,op2,h2,hq2⟩|⟨l,e,_,h⟩
   ·injection h2 with h2;obtain ⟨rfl,rfl,b1,b2⟩:=qbu h2;rcases qaN hq2 with ⟨ps,i3,op3,h3,hq3⟩|⟨l,e,_,h⟩
    ·injection h3 with h3;have g3:=qed T (i1+1) (op1+1);rw[h3] at g3;obtain ⟨c1,c2,c3,rfl⟩:=g3;have:=c2 rfl;rcases qaN hq3 with ⟨_,i4,op4,h4,hq4⟩|⟨l,e,_,h⟩
     ·injection h4 with h4;obtain ⟨rfl,rfl,d1⟩:=qeE h4;rcases qaN hq4 with ⟨_,i5,op5,h5,hq5⟩|⟨l,e,_,h⟩
      ·injection h5 with h5;have g5:=qbb T [59] (i3+1) op4;rw[h5] at g5;obtain ⟨e1,e2,e3,rfl⟩:=g5;have:=e2 rfl;have:=e3 (by omega);cases hq5;exact ⟨by omega,fun _=>by omega,fun _=>by omega,by omega⟩
      ·cases h
     ·cases h
    ·cases h
   ·cases h
  ·cases h
theorem qmR (T:List Tok) (i op:Nat):Ends (qfR T i op):=by
 unfold qfR;exact qjC fun s _=>qcW fun _ _=>qax qaw fun _ _ _ _=>qax qaw fun _ _ _ _=>qax qaw fun _ _ _ _=>qaw
theorem qdM (T:List Tok):∀ (f:Nat) (p:Pr) (i op:Nat),i<=T.length->10 * (T.length-i)+20<=f->Ends (qc2 T f p i op)
 |0,_,_,_,_,h=>by omega
 |f+1,p,i,op,hi,hf=>by
  rw[qc2];split
  ·exact qaw
  ·split
   ·rename_i h
    have:=qaG h;refine qax (qg2 T f _ i op hi (by omega)) fun v i' op' h2=>?_;obtain ⟨g1,g2,g3,rfl⟩:=qco T f _ i op _ h2;have:=g2 h;have:=g3 hi;exact qdM T f _ i' _ (by omega) (by omega)
   ·split
    ·rename_i h
     have:=qaG h;refine qax (qmR T _ _) fun v i' op' h2=>?_;obtain ⟨g1,g2,g3,rfl⟩:=qdW T _ _ _ h2;have:=g3 (by omega);exact qdM T f _ i' _ (by omega) (by omega)
    ·split
     ·rename_i h
      have:=qaG h;refine qax (qor T f _ _ (by omega) (by omega)) fun v i' op' h2=>?_;obtain ⟨g1,g2,g3,rfl⟩:=qcT T f _ _ _ h2;have:=g3 (by omega);exact qdM T f _ i' _ (by omega) (by omega)
     ·exact qaw
end Go.Stele
namespace Go.Stele
theorem qsb {T:List Tok} {k:Int} {i op:Nat} {s:List UInt8} {i' op':Nat} (h:some (qbS T k i op)=some (.ok s i' op')):i'=i+1/\op'=op:=by
 injection h with h;unfold qbS at h;split at h
 ·split at h
  ·cases h;exact ⟨rfl,rfl⟩
  ·cases h
 ·cases h
theorem qpw {T:List Tok} {x:List UInt8} {i op:Nat} {u:Unit} {i' op':Nat} (h:some (qb6 T x i op)=some (.ok u i' op')):i'=i+1/\op'=op:=by
 injection h with h;unfold qb6 at h;split at h
 ·cases h;exact ⟨rfl,rfl⟩
 ·cases h
end Go.Stele
namespace Go.Stele
abbrev KT:=Int×List UInt8
def sg (c:UInt8):KT:=(4,[c])
def qep (x:List UInt8):Prop:=qew ⟨2,x,0⟩
mutual
inductive PE:Ex->Nat->List KT->Nat->Prop
 |num {n k:Nat} (h:n<4294967296):PE (.mk nNum n [] []) k [(1,Go.Lib.decDigits n)] 0
 |var {s:List UInt8} {k:Nat} (h:qep s):PE (.mk nVar 0 s []) k [(2,s)] 0
 |elem {s:List UInt8} {k:Nat} {a:Ex} {ts:List KT} {d:Nat} (h:qep s) (ha:PE a 0 ts d):PE (.mk qdH 0 s [a]) k ((2,s)::sg 91::(ts++[sg 93])) (d+1)
 |call {s:List UInt8} {k:Nat} {l:List Ex} {ts:List KT} {d:Nat} (h:qep s) (hl:PEs l ts d):PE (.mk qa8 0 s l) k ((2,s)::sg 40::(ts++[sg 41])) (d+1)
 |neg {k:Nat} {a:Ex} {ts:List KT} {d:Nat} (ha:PE a 6 ts d):PE (.mk nNeg 0 [] [a]) k (sg 45::ts) (d+1)
 |not {k:Nat} {a:Ex} {ts:List KT} {d:Nat} (ha:PE a 6 ts d):PE (.mk nNot 0 [] [a]) k (sg 33::ts) (d+1)
 |bin {s k:Nat} {op:List UInt8} {a b:Ex} {t1 t2:List KT} {d1 d2:Nat} (hs:s<6) (ho:op∈qbq s) (hk:k<=s) (ha:PE a (qiJ s) t1 d1) (hb:PE b (s+1) t2 d2):PE (.mk op 0 [] [a,b]) k (t1++(4,op)::t2) (max d1 d2)
 |par {s k:Nat} {op:List UInt8} {a b:Ex} {t1 t2:List KT} {d1 d2:Nat} (hs:s<6) (ho:op∈qbq s) (hk:s<k) (ha:PE a (qiJ s) t1 d1) (hb:PE b (s+1) t2 d2):PE (.mk op 0 [] [a,b]) k (sg 40::((t1++(4,op)::t2)++[sg 41])) (max d1 d2+1)
inductive PEs:List Ex->List KT->Nat->Prop
 |nil:PEs [] [] 0
 |one {a:Ex} {ts:List KT} {d:Nat} (ha:PE a 0 ts d):PEs [a] ts d
 |more {a b:Ex} {l:List Ex} {t1 t2:List KT} {d1 d2:Nat} (ha:PE a 0 t1 d1) (hl:PEs (b::l) t2 d2):PEs (a::b::l) (t1++sg 44::t2) (max d1 d2)
end
theorem PE.weak {e:Ex} {k k':Nat} {ts:List KT} {d:Nat} (h:PE e k ts d) (hk:k'<=k):∃ ts' d',PE e k' ts' d'/\ts'.length<=ts.length/\d'<=d:=by
 cases h with
 |num h=>exact ⟨_,_,.num h,zNr _,zNr _⟩
 |var h=>exact ⟨_,_,.var h,zNr _,zNr _⟩
 |elem h ha=>exact ⟨_,_,.elem h ha,zNr _,zNr _⟩
 |call h ha=>exact ⟨_,_,.call h ha,zNr _,zNr _⟩
 |neg ha=>exact ⟨_,_,.neg ha,zNr _,zNr _⟩
 |not ha=>exact ⟨_,_,.not ha,zNr _,zNr _⟩
 |bin hs ho hk2 ha hb=>exact ⟨_,_,.bin hs ho (by omega) ha hb,zNr _,zNr _⟩
 |par hs ho hk2 ha hb=>
  rename_i s _ _ _ _ _ _ _
  by_cases h2:k'<=s
  ·exact ⟨_,_,.bin hs ho h2 ha hb,by simp only[zLa,zLc,zLn];omega,by omega⟩
  ·exact ⟨_,_,.par hs ho (by omega) ha hb,zNr _,zNr _⟩
theorem PE.paren {e:Ex} {ts:List KT} {d:Nat} (h:PE e 0 ts d):∃ ts' d',PE e 6 ts' d'/\ts'.length<=ts.length+2/\d'<=d+1:=by
 cases h with
 |num h=>exact ⟨_,_,.num h,by omega,by omega⟩
 |var h=>exact ⟨_,_,.var h,by omega,by omega⟩
 |elem h ha=>exact ⟨_,_,.elem h ha,by omega,by omega⟩
 |call h ha=>exact ⟨_,_,.call h ha,by omega,by omega⟩
 |neg ha=>exact ⟨_,_,.neg ha,by omega,by omega⟩
 |not ha=>exact ⟨_,_,.not ha,by omega,by omega⟩
 |bin hs ho hk2 ha hb=>exact ⟨_,_,.par hs ho hs ha hb,by simp only[zLa,zLc,zLn];omega,by omega⟩
 |par hs ho hk2 ha hb=>omega
theorem PEs.snoc:∀ {l:List Ex} {a:Ex} {t0 t1:List KT} {d0 d1:Nat},PEs l t0 d0->PE a 0 t1 d1->∃ t,PEs (l++[a]) t (max d0 d1)/\t.length=t0.length+(if l=[] then 0 else 1)+t1.length:=by
 intro l
 induction l with
 |nil=>
  intro a t0 t1 d0 d1 h h1
  cases h with
  |nil=>exact ⟨t1,by rw[Nat.zero_max];exact .one h1,by simp⟩
 |cons b l ih=>
  intro a t0 t1 d0 d1 h h1
  cases h with
  |one hb=>exact ⟨_,.more hb (.one h1),by simp only[zLa,zLc];simp;omega⟩
  |more hb hl=>
   obtain ⟨t,g1,g2⟩:=ih hl h1;exact ⟨_,by rw[Nat.max_assoc];exact .more hb g1,by simp only[zLa,zLc,g2];simp;omega⟩
/-! ### What is read can be printed -/
def Wh {A:Type} (P:A->Nat->Nat->Prop) (r:OR A):Prop:=∀ v i op,r=some (.ok v i op)->P v i op
theorem qbl {A B:Type} {r:OR A} {k:A->Nat->Nat->OR B} {P:A->Nat->Nat->Prop} {Q:B->Nat->Nat->Prop} (hr:Wh P r) (hk:∀ v i op,P v i op->Wh Q (k v i op)):Wh Q (qal r k):=fun v i op h=>by
 rcases qaN h with ⟨w,i1,op1,h1,h2⟩|⟨_,_,_,h2⟩
 ·exact hk _ _ _ (hr _ _ _ h1) v i op h2
 ·cases h2
theorem qgj {A B:Type} {r:OR A} {k:A->Nat->Nat->OR B} {Q:B->Nat->Nat->Prop} (hk:∀ v i op,r=some (.ok v i op)->Wh Q (k v i op)):Wh Q (qal r k):=qbl (fun _ _ _ h=>h) hk
theorem qcZ {A:Type} {P:A->Nat->Nat->Prop} {v:A} {i op:Nat} (h:P v i op):Wh P (some (.ok v i op)):=fun _ _ _ e=>by cases e;exact h
theorem qc3 {A:Type} {P:A->Nat->Nat->Prop}:Wh P none:=fun _ _ _ e=>by cases e
theorem qkj {A:Type} {P Q:A->Nat->Nat->Prop} {r:OR A} (h:Wh P r) (hPQ:∀ v i op,P v i op->Q v i op):Wh Q r:=fun v i op e=>hPQ _ _ _ (h v i op e)
theorem qdL {B:Type} {T:List Tok} {x:List UInt8} {i op:Nat} {k:Unit->Nat->Nat->OR B} {Q:B->Nat->Nat->Prop} (hk:op<100->Wh Q (k () (i+1) (op+1))):Wh Q (qal (some (qbs T x i op)) k):=qgj fun v i1 op1 h=>by
 injection h with h;obtain ⟨rfl,rfl,h3,_⟩:=qbu h;exact hk h3
theorem qi4 {B:Type} {T:List Tok} {x:List UInt8} {i op:Nat} {k:Unit->Nat->Nat->OR B} {Q:B->Nat->Nat->Prop} (hk:Wh Q (k () (i+1) (op-1))):Wh Q (qal (some (sEnd T x i op)) k):=qgj fun v i1 op1 h=>by
 injection h with h;obtain ⟨rfl,rfl,_⟩:=qeE h;exact hk
theorem qig {B:Type} {T:List Tok} {x:List UInt8} {i op:Nat} {k:Unit->Nat->Nat->OR B} {Q:B->Nat->Nat->Prop} (hk:Wh Q (k () (i+1) op)):Wh Q (qal (some (qb6 T x i op)) k):=qgj fun v i1 op1 h=>by
 obtain ⟨rfl,rfl⟩:=qpw h;exact hk
theorem qnS {T:List Tok} (hT:∀ t∈T,qew t) {i op i' op':Nat} {s:List UInt8} (h:qbS T 2 i op=.ok s i' op'):qep s/\i'=i+1/\op'=op:=by
 unfold qbS at h;split at h
 ·rename_i t ht
  split at h
  ·rename_i hk
   cases h;have:=hT t (List.mem_of_getElem? ht);refine ⟨?_,rfl,rfl⟩;unfold qep;unfold qew at this ⊢;rw[hk] at this;exact this
  ·cases h
 ·cases h
theorem qgP {B:Type} {T:List Tok} (hT:∀ t∈T,qew t) {i op:Nat} {k:List UInt8->Nat->Nat->OR B} {Q:B->Nat->Nat->Prop} (hk:∀ s,qep s->Wh Q (k s (i+1) op)):Wh Q (qal (some (qbS T 2 i op)) k):=qgj fun v i1 op1 h=>by
 injection h with h;obtain ⟨h1,rfl,rfl⟩:=qnS hT h;exact hk v h1
theorem qqY (s:List UInt8):qkr s<4294967296:=by
 unfold qkr;split
 ·rename_i u h
  exact qms h
 ·decide
theorem qlN {B:Type} {T:List Tok} {i op:Nat} {k:Nat->Nat->Nat->OR B} {Q:B->Nat->Nat->Prop} (hk:∀ n,n<4294967296->Wh Q (k n (i+1) op)):Wh Q (qal (some (qb5 T i op)) k):=qgj fun v i1 op1 h=>by
 injection h with h;unfold qb5 Res.bind at h;split at h
 ·rename_i h1
  cases h;obtain ⟨rfl,rfl⟩:=qsb (congrArg some h1);exact hk _ (qqY _)
 ·cases h
theorem qox {T:List Tok} {i:Nat} {xs:List (List UInt8)} (h:qaE T i xs=true):qca T i∈xs:=by
 unfold qaE at h;unfold qca;split at h
 ·rename_i t ht
  simp only[zBa] at h;simpa using h.2
 ·cases h
def SE (k i op:Nat) (e:Ex) (i' op':Nat):Prop:=op'=op/\∃ ts d,PE e k ts d/\ts.length+i<=i'/\d<=100-op
def SX (i op:Nat) (e:Ex) (i' op':Nat):Prop:=op'=op/\∃ ts d,PE e 0 ts d/\ts.length+2+i<=i'/\d+1<=100-op
def SA (i op:Nat) (l:List Ex) (i' op':Nat):Prop:=op'=op/\∃ ts d,PEs l ts d/\ts.length+2+i<=i'/\d+1<=100-op
def SL (i op:Nat) (l:List Ex) (i' op':Nat):Prop:=op'=op/\∃ ts d,PEs l ts d/\ts.length+i<=i'/\d<=100-op
theorem qrw {T:List Tok} (hT:∀ t∈T,qew t):∀ f:Nat,(∀ k i op,k<=6->Wh (SE k i op) (eLev T f k i op))/\(∀ k e i0 i op ts d,k<6->PE e (qiJ k) ts d->ts.length+i0<=i->d<=100-op->Wh (SE k i0 op) (qej T f k e i op)) /\
  (∀ i op,Wh (SE 6 i op) (qcu T f i op))/\(∀ i op,Wh (SE 6 i op) (qfO T f i op))/\(∀ i op,Wh (SX i op) (qcU T f i op))/\(∀ i op,Wh (SA i op) (qet T f i op)) /\
  (∀ acc i0 i op ts d,PEs acc ts d->ts.length+i0<=i->d<=100-op->Wh (SL i0 op) (qaM T f acc i op))
 |0=>⟨fun _ _ _ _=>by rw[eLev];exact qc3,fun _ _ _ _ _ _ _ _ _ _ _=>by rw[qej];exact qc3,fun _ _=>by rw[qcu];exact qc3,fun _ _=>by rw[qfO];exact qc3,fun _ _=>by rw[qcU];exact qc3,fun _ _=>by rw[qet];exact qc3,fun _ _ _ _ _ _ _ _ _=>by rw[qaM];exact qc3⟩
 |f+1=>by
  obtain ⟨hL,hO,hU,hP,hI,hA,hB⟩:=qrw hT f;refine ⟨fun k i op hk=>?_,fun k e i0 i op ts d hk hP0 hts hd=>?_,fun i op=>?_,fun i op=>?_,fun i op=>?_,fun i op=>?_,fun acc i0 i op ts d hP0 hts hd=>?_⟩
  ·rw[eLev];split
   ·rename_i h6
    subst h6;exact hU i op
   ·refine qbl (hL (k+1) i op (by omega)) fun v i' op' h=>?_;obtain ⟨rfl,ts,d,h1,h2,h3⟩:=h;obtain ⟨ts',d',g1,g2,g3⟩:=h1.weak (k':=qiJ k) (by unfold qiJ;split <;> omega);exact hO k v i i' _ ts' d' (by omega) g1 (by omega) (by omega)
  ·rw[qej];split
   ·rename_i ht
    refine qbl (hL (k+1) (i+1) op (by omega)) fun v i' op' h=>?_;obtain ⟨rfl,t2,d2,h1,h2,h3⟩:=h;have hb:PE (.mk (qca T i) 0 [] [e,v]) k (ts++(4,qca T i)::t2) (max d d2):=.bin hk (qox ht) (zNr _) hP0 h1;split
    ·exact qcZ ⟨rfl,_,_,hb,by simp only[zLa,zLc];omega,by omega⟩
    ·rename_i h22
     refine hO k _ i0 i' _ _ _ hk (by rw[qiJ,if_neg h22];exact hb) (by simp only[zLa,zLc];omega) (by omega)
   ·obtain ⟨ts',d',g1,g2,g3⟩:=hP0.weak (k':=k) (by unfold qiJ;split <;> omega);exact qcZ ⟨rfl,ts',d',g1,by omega,by omega⟩
  ·rw[qcu];split
   ·refine qdL fun ho=>qbl (hU (i+1) (op+1)) fun v i' op' h=>?_;obtain ⟨rfl,ts,d,h1,h2,h3⟩:=h;exact qcZ ⟨by omega,_,_,.neg h1,by simp only[zLc];omega,by omega⟩
   ·split
    ·refine qdL fun ho=>qbl (hU (i+1) (op+1)) fun v i' op' h=>?_;obtain ⟨rfl,ts,d,h1,h2,h3⟩:=h;exact qcZ ⟨by omega,_,_,.not h1,by simp only[zLc];omega,by omega⟩
    ·exact hP i op
  ·rw[qfO];split
   ·refine qdL fun ho=>qbl (hL 0 (i+1) (op+1) (by omega)) fun v i' op' h=>qi4 ?_;obtain ⟨rfl,ts,d,h1,h2,h3⟩:=h;obtain ⟨ts',d',g1,g2,g3⟩:=h1.paren;exact qcZ ⟨by omega,ts',d',g1,by omega,by omega⟩
   ·split
    ·exact qlN fun n hn=>qcZ ⟨rfl,_,_,.num hn,by simp only[zLc,zLn];omega,by omega⟩
    ·refine qgP hT fun s hs=>?_;split
     ·refine qbl (hI (i+1) op) fun v i' op' h=>?_;obtain ⟨rfl,ts,d,h1,h2,h3⟩:=h;exact qcZ ⟨rfl,_,_,.elem hs h1,by simp only[zLc,zLa,zLn];omega,by omega⟩
     ·split
      ·refine qbl (hA (i+1) op) fun v i' op' h=>?_;obtain ⟨rfl,ts,d,h1,h2,h3⟩:=h;exact qcZ ⟨rfl,_,_,.call hs h1,by simp only[zLc,zLa,zLn];omega,by omega⟩
      ·exact qcZ ⟨rfl,_,_,.var hs,by simp only[zLc,zLn];omega,by omega⟩
  ·rw[qcU];refine qdL fun ho=>qbl (hL 0 (i+1) (op+1) (by omega)) fun v i' op' h=>qi4 ?_;obtain ⟨rfl,ts,d,h1,h2,h3⟩:=h;exact qcZ ⟨by omega,ts,d,h1,by omega,by omega⟩
  ·rw[qet];refine qdL fun ho=>qbl (hB [] (i+1) (i+1) (op+1) [] 0 .nil (by simp) (by omega)) fun v i' op' h=>qi4 ?_;obtain ⟨rfl,ts,d,h1,h2,h3⟩:=h;exact qcZ ⟨by omega,ts,d,h1,by omega,by omega⟩
  ·rw[qaM];split
   ·exact qcZ ⟨rfl,ts,d,hP0,by omega,by omega⟩
   ·refine qgj fun _ i1 op1 h1=>?_
    have hi:i1=i+(if acc=[] then 0 else 1)/\op1=op:=by
     injection h1 with h1;split at h1
     ·rename_i ha
      cases h1;rw[if_pos ha];exact ⟨rfl,rfl⟩
     ·rename_i ha
      rw[if_neg ha];exact qpw (congrArg some h1)
    obtain ⟨rfl,rfl⟩:=hi;refine qbl (hL 0 _ op1 (by omega)) fun v i' op' h=>?_;obtain ⟨rfl,t2,d2,h1,h2,h3⟩:=h;obtain ⟨t,g1,g2⟩:=hP0.snoc h1;exact hB _ i0 i' _ t _ g1 (by omega) (by omega)
/-! ### Statements -/
mutual
inductive PS:Sm->List KT->Nat->Prop
 |assign {s:List UInt8} {e:Ex} {ts:List KT} {d:Nat} (h:qep s) (he:PE e 0 ts d):PS (.mk 1 s [] [e] [] []) ((2,s)::sg 61::(ts++[sg 59])) d
 |store {s:List UInt8} {x e:Ex} {t1 t2:List KT} {d1 d2:Nat} (h:qep s) (hx:PE x 0 t1 d1) (he:PE e 0 t2 d2):PS (.mk 2 s [x] [e] [] []) ((2,s)::sg 91::(t1++sg 93::sg 61::(t2++[sg 59]))) (max (d1+1) d2)
 |call {s:List UInt8} {l:List Ex} {ts:List KT} {d:Nat} (h:qep s) (hl:PEs l ts d):PS (.mk 6 [] [] [.mk qa8 0 s l] [] []) ((2,s)::sg 40::(ts++[sg 41,sg 59])) (d+1)
 |ret {e:Ex} {ts:List KT} {d:Nat} (he:PE e 0 ts d):PS (.mk 5 [] [] [e] [] []) ((3,qhN)::(ts++[sg 59])) d
 |halt:PS (.mk 7 [] [] [] [] []) [(3,qnd),sg 59] 0
 |ifElse {e:Ex} {th el:List Sm} {ts t1 t2:List KT} {d d1 d2:Nat} (he:PE e 0 ts d) (h1:PSs th t1 d1) (h2:PSs el t2 d2) (hne:el≠[]) :
   PS (.mk 3 [] [] [e] th el) ((3,kwIf)::(ts++sg 123::(t1++sg 125::(3,qlk)::sg 123::(t2++[sg 125])))) (max d (max (d1+1) (d2+1)))
 |ifThen {e:Ex} {th:List Sm} {ts t1:List KT} {d d1:Nat} (he:PE e 0 ts d) (h1:PSs th t1 d1):PS (.mk 3 [] [] [e] th []) ((3,kwIf)::(ts++sg 123::(t1++[sg 125]))) (max d (d1+1))
 |while {e:Ex} {th:List Sm} {ts t1:List KT} {d d1:Nat} (he:PE e 0 ts d) (h1:PSs th t1 d1):PS (.mk 4 [] [] [e] th []) ((3,qka)::(ts++sg 123::(t1++[sg 125]))) (max d (d1+1))
inductive PSs:List Sm->List KT->Nat->Prop
 |nil:PSs [] [] 0
 |cons {s:Sm} {l:List Sm} {t1 t2:List KT} {d1 d2:Nat} (h:PS s t1 d1) (hl:PSs l t2 d2):PSs (s::l) (t1++t2) (max d1 d2)
end
theorem PSs.snoc:∀ {l:List Sm} {a:Sm} {t0 t1:List KT} {d0 d1:Nat},PSs l t0 d0->PS a t1 d1->PSs (l++[a]) (t0++t1) (max d0 d1):=by
 intro l
 induction l with
 |nil=>
  intro a t0 t1 d0 d1 h h1
  cases h with
  |nil=>
   have:=PSs.cons h1 .nil;rw[zLz,Nat.max_zero] at this;rw[Nat.zero_max]
   exact this
 |cons b l ih=>
  intro a t0 t1 d0 d1 h h1
  cases h with
  |cons hb hl=>
   rw[zAs,Nat.max_assoc];exact .cons hb (ih hl h1)
def SS (i op:Nat) (s:Sm) (i' op':Nat):Prop:=op'=op/\∃ ts d,PS s ts d/\ts.length+i<=i'/\d<=100-op
def SM (i op:Nat) (s:Sm) (i' op':Nat):Prop:=op'=op/\∃ ts d,PS s ts d/\ts.length+i<=i'+1/\d<=100-op
def SSs (i op:Nat) (s:List Sm) (i' op':Nat):Prop:=op'=op/\∃ ts d,PSs s ts d/\ts.length+i<=i'/\d<=100-op
def SB (i op:Nat) (s:List Sm) (i' op':Nat):Prop:=op'=op/\∃ ts d,PSs s ts d/\ts.length+2+i<=i'/\d+1<=100-op
theorem qrs {T:List Tok} (hT:∀ t∈T,qew t):∀ f:Nat,(∀ i op,Wh (SB i op) (qcG T f i op))/\(∀ acc i0 i op ts d,PSs acc ts d->ts.length+i0<=i->d<=100-op->Wh (SSs i0 op) (qbV T f acc i op)) /\
  (∀ i op,Wh (SS i op) (qei T f i op))/\(∀ i op,Wh (SM i op) (qcx T f i op))
 |0=>⟨fun _ _=>by rw[qcG];exact qc3,fun _ _ _ _ _ _ _ _ _=>by rw[qbV];exact qc3,fun _ _=>by rw[qei];exact qc3,fun _ _=>by rw[qcx];exact qc3⟩
 |f+1=>by
  obtain ⟨hB,hL,hS,hM⟩:=qrs hT f;obtain ⟨eL,_,_,_,eI,eA,_⟩:=qrw hT f;refine ⟨fun i op=>?_,fun acc i0 i op ts d hP0 hts hd=>?_,fun i op=>?_,fun i op=>?_⟩
  ·rw[qcG];refine qdL fun ho=>qbl (hL [] (i+1) (i+1) (op+1) [] 0 .nil (by simp) (by omega)) fun v i' op' h=>qi4 ?_;obtain ⟨rfl,ts,d,h1,h2,h3⟩:=h;exact qcZ ⟨by omega,ts,d,h1,by omega,by omega⟩
  ·rw[qbV];split
   ·exact qcZ ⟨rfl,ts,d,hP0,hts,hd⟩
   ·refine qbl (hS i op) fun v i' op' h=>?_;obtain ⟨rfl,t2,d2,h1,h2,h3⟩:=h;exact hL _ i0 i' _ _ _ (hP0.snoc h1) (by simp only[zLa];omega) (by omega)
  ·rw[qei];split
   ·refine qbl (eL 0 (i+1) op (by omega)) fun v i1 op1 h=>?_;obtain ⟨rfl,t1,d1,g1,g2,g3⟩:=h;refine qbl (hB i1 _) fun th i2 op2 h=>?_;obtain ⟨rfl,t2,d2,k1,k2,k3⟩:=h;split
    ·refine qbl (hB (i2+1) _) fun el i3 op3 h=>?_;obtain ⟨rfl,t3,d3,l1,l2,l3⟩:=h
     by_cases hne:el=[]
     ·subst hne;exact qcZ ⟨rfl,_,_,.ifThen g1 k1,by simp only[zLc,zLa,zLn];omega,by omega⟩
     ·exact qcZ ⟨rfl,_,_,.ifElse g1 k1 l1 hne,by simp only[zLc,zLa,zLn];omega,by omega⟩
    ·exact qcZ ⟨rfl,_,_,.ifThen g1 k1,by simp only[zLc,zLa,zLn];omega,by omega⟩
   ·split
    ·refine qbl (eL 0 (i+1) op (by omega)) fun v i1 op1 h=>?_;obtain ⟨rfl,t1,d1,g1,g2,g3⟩:=h;refine qbl (hB i1 _) fun th i2 op2 h=>?_;obtain ⟨rfl,t2,d2,k1,k2,k3⟩:=h;exact qcZ ⟨rfl,_,_,.while g1 k1,by simp only[zLc,zLa,zLn];omega,by omega⟩
    ·refine qbl (hM i op) fun v i1 op1 h=>qig ?_;obtain ⟨rfl,t1,d1,g1,g2,g3⟩:=h;exact qcZ ⟨rfl,_,_,g1,by omega,by omega⟩
  ·rw[qcx];split
   ·refine qbl (eL 0 (i+1) op (by omega)) fun v i1 op1 h=>?_;obtain ⟨rfl,t1,d1,g1,g2,g3⟩:=h;exact qcZ ⟨rfl,_,_,.ret g1,by simp only[zLc,zLa,zLn];omega,by omega⟩
   ·split
    ·exact qcZ ⟨rfl,_,_,.halt,by simp only[zLc,zLa,zLn];omega,by omega⟩
    ·refine qgP hT fun s hs=>?_;split
     ·refine qbl (eA (i+1) op) fun v i1 op1 h=>?_;obtain ⟨rfl,t1,d1,g1,g2,g3⟩:=h;exact qcZ ⟨rfl,_,_,.call hs g1,by simp only[zLc,zLa,zLn];omega,by omega⟩
     ·split
      ·refine qbl (eI (i+1) op) fun v i1 op1 h=>qig ?_;obtain ⟨rfl,t1,d1,g1,g2,g3⟩:=h;refine qbl (eL 0 (i1+1) _ (by omega)) fun e i2 op2 h=>?_;obtain ⟨rfl,t2,d2,k1,k2,k3⟩:=h;exact qcZ ⟨rfl,_,_,.store hs g1 k1,by simp only[zLc,zLa,zLn];omega,by omega⟩
      ·refine qig (qbl (eL 0 (i+1+1) op (by omega)) fun e i2 op2 h=>?_);obtain ⟨rfl,t2,d2,k1,k2,k3⟩:=h;exact qcZ ⟨rfl,_,_,.assign hs k1,by simp only[zLc,zLa,zLn];omega,by omega⟩
/-! ### Declarations -/
def qjQ:List (List UInt8)->List KT
 |[]=>[]
 |[a]=>[(2,a)]
 |a::b::l=>(2,a)::sg 44::qjQ (b::l)
theorem qfv:∀ l:List (List UInt8),(qjQ l).length=2 * l.length-1
 |[]=>rfl
 |[a]=>rfl
 |a::b::l=>by
  rw[qjQ,zLc,zLc,qfv (b::l)];simp only[zLc];omega
def varK (l:List (List UInt8)):List KT:=if l=[] then [] else (3,qhH)::(qjQ l++[sg 59])
theorem qj2 (l:List (List UInt8)):(varK l).length=if l=[] then 0 else 2 * l.length+1:=by
 unfold varK;split
 ·rfl
 ·rename_i h
  have:0<l.length:=List.length_pos_iff.2 h;simp only[zLc,zLa,qfv,zLn];omega
def qfV (l:List (List UInt8)):Prop:=∀ x∈l,qep x
theorem qfV.app {a b:List (List UInt8)} (ha:qfV a) (hb:qfV b):qfV (a++b):=fun x hx=>by
 rcases List.mem_append.1 hx with h|h
 ·exact ha x h
 ·exact hb x h
inductive PF:FnD->List KT->Nat->Prop
 |mk {nm:List UInt8} {ps ls:List (List UInt8)} {b:List Sm} {ts:List KT} {d:Nat} (h:qep nm) (hp:qfV ps) (hl:qfV ls) (hb:PSs b ts d) :
   PF ⟨nm,ps,ls,b⟩ ((3,qng)::(2,nm)::sg 40::(qjQ ps++sg 41::sg 123::(varK ls++(ts++[sg 125])))) (d+1)
inductive PFs:List FnD->List KT->Prop
 |nil:PFs [] []
 |cons {f:FnD} {l:List FnD} {t1 t2:List KT} {d:Nat} (h:PF f t1 d) (hd:d<=100) (hl:PFs l t2):PFs (f::l) (t1++t2)
def arK (a:Ar):List KT:=[(3,qkR),(2,a.name),sg 91,(1,Go.Lib.decDigits a.size),sg 93,sg 59]
def qsq (l:List Ar):Prop:=∀ a∈l,qep a.name/\a.size<4294967296
inductive PP:Pr->List KT->Prop
 |mk {v:List (List UInt8)} {a:List Ar} {f:List FnD} {ts:List KT} (hv:qfV v) (ha:qsq a) (hf:PFs f ts):PP ⟨v,a,f⟩ (varK v++((a.map arK).flatten++ts))
theorem PFs.snoc:∀ {l:List FnD} {a:FnD} {t0 t1:List KT} {d:Nat},PFs l t0->PF a t1 d->d<=100->PFs (l++[a]) (t0++t1):=by
 intro l
 induction l with
 |nil=>
  intro a t0 t1 d h h1 hd
  cases h with
  |nil=>
   have:=PFs.cons h1 hd .nil;rw[zLz] at this
   exact this
 |cons b l ih=>
  intro a t0 t1 d h h1 hd
  cases h with
  |cons hb hd' hl=>
   rw[zAs];exact .cons hb hd' (ih hl h1 hd)
theorem qgr {T:List Tok} (hT:∀ t∈T,qew t):∀ (f:Nat) (acc:List (List UInt8)) (i op:Nat),qfV acc->Wh (fun l i' op'=>op'=op/\qfV l/\acc.length<=l.length/\2 * l.length+i<=2 * acc.length+i') (qaR T f acc i op)
 |0,_,_,_,_=>by rw[qaR];exact qc3
 |f+1,acc,i,op,ha=>by
  rw[qaR];split
  ·refine qgP hT fun s hs=>qkj (qgr hT f (acc++[s]) (i+1+1) op (ha.app fun x hx=>by cases List.mem_singleton.1 hx;exact hs)) fun l i' op' h=>?_;obtain ⟨rfl,h1,h2,h3⟩:=h;rw[zLa,List.length_singleton] at h2 h3;exact ⟨rfl,h1,by omega,by omega⟩
  ·exact qcZ ⟨rfl,ha,zNr _,by omega⟩
theorem qlK {T:List Tok} (hT:∀ t∈T,qew t) (f i op:Nat):Wh (fun l i' op'=>op'=op/\qfV l/\0<l.length/\2 * l.length+i<=1+i') (qeV T f i op):=
 qgP hT fun s hs=>qkj (qgr hT f [s] (i+1) op fun x hx=>by cases List.mem_singleton.1 hx;exact hs) fun l i' op' h=>by
  obtain ⟨rfl,h1,h2,h3⟩:=h;rw[List.length_singleton] at h2 h3;exact ⟨rfl,h1,by omega,by omega⟩
theorem qky {T:List Tok} (hT:∀ t∈T,qew t):∀ (f:Nat) (acc:List (List UInt8)) (i op:Nat),qfV acc->Wh (fun l i' op'=>op'=op/\qfV l/\acc.length<=l.length/\(if acc.length=l.length then i<=i' else 2 * l.length+1+i<=2 * acc.length+i')) (qc0 T f acc i op)
 |0,_,_,_,_=>by rw[qc0];exact qc3
 |f+1,acc,i,op,ha=>by
  rw[qc0];split
  ·refine qbl (qlK hT f (i+1) op) fun l i1 op1 h=>qig ?_;obtain ⟨rfl,h1,h2,h3⟩:=h;refine qkj (qky hT f (acc++l) (i1+1) _ (ha.app h1)) fun l2 i' op' h=>?_;obtain ⟨rfl,g1,g2,g3⟩:=h;rw[zLa] at g2 g3;refine ⟨rfl,g1,by omega,?_⟩;rw[if_neg (by omega)];split at g3 <;> omega
  ·exact qcZ ⟨rfl,ha,zNr _,by rw[if_pos rfl];omega⟩
theorem qq2 {T:List Tok} (hT:∀ t∈T,qew t) (f i:Nat):Wh (fun a i' op'=>op'=0/\∃ ts d,PF a ts d/\d<=100/\ts.length+i<=i'+1) (qiz T f i 0):=by
 unfold qiz;refine qgP hT fun nm hnm=>qdL fun _=>qbl (P:=fun ps i' op'=>op'=1/\qfV ps/\2 * ps.length-1+(i+1+1)<=i') ?_ fun ps i1 op1 h=>qi4 (qdL fun _=>?_)
 ·split
  ·exact qcZ ⟨rfl,(fun x hx=>by cases hx),by simp⟩
  ·exact qkj (qlK hT f _ _) fun l i' op' h=>⟨h.1,h.2.1,by omega⟩
 obtain ⟨rfl,h1,h2⟩:=h;refine qbl (qky hT f [] _ _ fun x hx=>by cases hx) fun ls i2 op2 h=>?_;obtain ⟨rfl,g1,_,g3⟩:=h;refine qbl ((qrs hT f).2.1 [] i2 i2 _ [] 0 .nil (by simp) (by omega)) fun b i3 op3 h=>qi4 ?_;obtain ⟨rfl,ts,d,k1,k2,k3⟩:=h;refine qcZ ⟨by omega,_,_,.mk hnm h1 g1 k1,by omega,?_⟩;simp only[zLc,zLa,zLn,qfv,qj2] at g3 ⊢
 by_cases hl:ls=[]
 ·subst hl;simp only[zLn,if_pos] at g3 ⊢;omega
 ·have:¬ 0=ls.length:=fun h=>hl (List.eq_nil_of_length_eq_zero h.symm);rw[if_neg this] at g3;rw[if_neg hl];omega
theorem qpn {T:List Tok} (hT:∀ t∈T,qew t) (i:Nat):Wh (fun a i' op'=>op'=0/\qep a.name/\a.size<4294967296/\5+i<=i') (qfR T i 0):=by
 unfold qfR;exact qgP hT fun nm hnm=>qdL fun _=>qlN fun n hn=>qi4 (qig (qcZ ⟨rfl,hnm,hn,by omega⟩))
def ntK (v:Nat) (a:Nat) (t:Nat):Nat:=(if v=0 then 0 else 2 * v+1)+6 * a+t
theorem qhK {T:List Tok} (hT:∀ t∈T,qew t):∀ (f:Nat) (v:List (List UInt8)) (a:List Ar) (fs:List FnD) (ts:List KT) (i:Nat),qfV v->qsq a->PFs fs ts->ntK v.length a.length ts.length<=i->i<=T.length ->
  Wh (fun q _ _=>∃ v' a' f' t',q=⟨v',a',f'⟩/\qfV v'/\qsq a'/\PFs f' t'/\ntK v'.length a'.length t'.length<=T.length) (qc2 T f ⟨v,a,fs⟩ i 0)
 |0,_,_,_,_,_,_,_,_,_,_=>by rw[qc2];exact qc3
 |f+1,v,a,fs,ts,i,hv,ha,hf,hi,hT'=>by
  rw[qc2];split
  ·exact qcZ ⟨_,_,_,_,rfl,hv,ha,hf,by omega⟩
  rename_i hlt
  split
  ·rename_i hw
   refine qgj fun l i1 op1 h1=>?_;have hg:=(qco T f [] i 0 _ h1).2.2.1 hT';obtain ⟨rfl,g1,_,g3⟩:=qky hT f [] i 0 (fun x hx=>by cases hx) _ _ _ h1;refine qhK hT f (v++l) a fs ts i1 (hv.app g1) ha hf ?_ hg;rw[zLa];simp only[zLn] at g3;unfold ntK at hi ⊢;split at g3
   ·rename_i h0
    rw[<-h0,Nat.add_zero];omega
   ·rw[if_neg (by omega)];split at hi <;> omega
  ·split
   ·refine qgj fun l i1 op1 h1=>?_;have hg:=(qdW T (i+1) 0 _ h1).2.2.1 (by omega);obtain ⟨rfl,g1,g2,g3⟩:=qpn hT (i+1) _ _ _ h1;refine qhK hT f v (a++[l]) fs ts i1 hv (fun x hx=>?_) hf ?_ hg
    ·rcases List.mem_append.1 hx with h|h
     ·exact ha x h
     ·cases List.mem_singleton.1 h;exact ⟨g1,g2⟩
    ·rw[zLa,List.length_singleton];unfold ntK at hi ⊢;omega
   ·split
    ·refine qgj fun l i1 op1 h1=>?_;have hg:=(qcT T f (i+1) 0 _ h1).2.2.1 (by omega);obtain ⟨rfl,t1,d,g1,g2,g3⟩:=qq2 hT f (i+1) _ _ _ h1;refine qhK hT f v a (fs++[l]) (ts++t1) i1 hv ha (hf.snoc g1 g2) ?_ hg;rw[zLa];unfold ntK at hi ⊢;omega
    ·exact fun _ _ _ e=>by cases e
theorem qoP:∀ a:List Ar,((a.map arK).flatten).length=6 * a.length
 |[]=>rfl
 |a::l=>by
  rw[zMc,List.flatten_cons,zLa,qoP l,zLc];simp only[arK,zLc,zLn];omega
theorem qpH {T:List Tok} (hT:∀ t∈T,qew t) {f i op:Nat} {p:Pr} (h:qc2 T f ⟨[],[],[]⟩ 0 0=some (.ok p i op)):∃ ts,PP p ts/\ts.length<=T.length:=by
 obtain ⟨v,a,fs,t,rfl,h1,h2,h3,h4⟩:=qhK hT f [] [] [] [] 0 (fun x hx=>by cases hx) (fun x hx=>by cases hx) .nil (by simp[ntK]) (Nat.zero_le _) _ _ _ h;refine ⟨_,.mk h1 h2 h3,?_⟩;simp only[zLa,qj2,qoP];unfold ntK at h4
 by_cases hv:v=[]
 ·subst hv;simp only[zLn,if_pos] at h4 ⊢;omega
 ·have:¬ v.length=0:=fun h=>hv (List.eq_nil_of_length_eq_zero h);rw[if_neg this] at h4;rw[if_neg hv];omega
end Go.Stele
namespace Go.Stele
open Go.Lib
def qnq (s:List UInt8):Pr×Int:=match qqZ s 1 with
 |.error (l,e)=>(⟨[],[],[]⟩,e)
 |.ok T=>match qc2 T (10 * T.length+20) ⟨[],[],[]⟩ 0 0 with
  |some (.ok p _ _)=>(p,0)
  |some (.err l e)=>(⟨[],[],[]⟩,e)
  |none=>(⟨[],[],[]⟩,0)
/-! ### Limits -/
/-! ### Input -/
/-! ### The given sources -/
/-! ### Unused declarations -/
theorem qqk (l:List (List UInt8)):l.length<=(qjQ l).length:=by rw[qfv];omega
theorem qqe (l:List (List UInt8)):l.length<=(varK l).length:=by 
 rw[qj2]
 by_cases h:l=[]
 ·rw[h];exact Nat.zero_le _
 ·rw[if_neg h];omega
end Go.Stele
namespace Go.Stele
theorem qlG:∀ (ns:List Nat) (i a b:Nat),qfg i ns (max a b)=max (qfg i ns a) b
 |[],i,a,b=>rfl
 |n::l,i,a,b=>by
  rw[qfg,qfg,Nat.max_right_comm];exact qlG l (i+1) _ b
def Dist (fs:List FSum):Prop:=(fs.map (·.name)).Nodup/\[105,110] ∉ fs.map (·.name)/\[111,117,116] ∉ fs.map (·.name)
def qeX (g:FSum->Nat) (name:Nm) (fs:List FSum) (m:Nat):Nat:=fs.foldl (fun m f=>if f.name=name then max m (g f) else m) m
theorem qjO (g:FSum->Nat) (name:Nm):∀ (fs:List FSum) (m:Nat),name ∉ fs.map (·.name)->qeX g name fs m=m
 |[],m,_=>rfl
 |f::l,m,h=>by
  unfold qeX;rw[List.foldl_cons,if_neg fun e=>h (by rw[zMc,e];exact List.mem_cons_self ..)];exact qjO g name l m fun hm=>h (zMo _ hm)
theorem qgK (g:FSum->Nat) (name:Nm):∀ (fs:List FSum) (m:Nat),(fs.map (·.name)).Nodup->qeX g name fs m=match fs.find? fun f=>decide (f.name=name) with
  |some f=>max m (g f)
  |none=>m
 |[],m,_=>rfl
 |f::l,m,h=>by
  rw[zMc,List.nodup_cons] at h;rw[List.find?_cons]
  by_cases hf:f.name=name
  ·rw[decide_eq_true hf];show qeX g name (f::l) m=max m (g f);unfold qeX;rw[List.foldl_cons,if_pos hf];exact qjO g name l _ (hf▸h.1)
  ·rw[decide_eq_false hf];simp only;rw[<-qgK g name l m h.2];unfold qeX;rw[List.foldl_cons,if_neg hf]
def qjc (c:CEnv) (name:Nm) (ns:List Nat):Nat:=
 if name=[105,110] then 1 else if name=[111,117,116] then ns.headD 0 else qeX (·.need) name c.funcs (qfg 0 ns (ns.length+1))
theorem qjF {c:CEnv} (hd:Dist c.funcs) {name:Nm} {ns:List Nat} (h:callE c name ns.length=0):qjc c name ns=qkw c name ns:=by
 unfold qjc qkw
 by_cases h1:name=[105,110]
 ·rw[if_pos h1,if_pos h1]
 rw[if_neg h1,if_neg h1]
 by_cases h2:name=[111,117,116]
 ·rw[if_pos h2,if_pos h2]
 rw[if_neg h2,if_neg h2];unfold callE at h;rw[if_neg h1,if_neg h2] at h;rw[qgK _ _ _ _ hd.1];unfold CEnv.fn at h ⊢
 cases hf:c.funcs.find? fun f=>decide (f.name=name) with
 |none=>
  rw[hf] at h;simp only at h
  split at h <;> cases h
 |some f=>
  rw[hf] at h;simp only at h ⊢;split at h
  ·rename_i he
   rw[qlG,he]
  ·cases h
def refN (c:CEnv) (op name:Nm) (ns:List Nat):Nat:=if op=qa8 then qjc c name ns else opN c op name ns
mutual
def refE (c:CEnv):Ex->Nat
 |.mk op num name args=>refN c op name (qgT c args)
def qgT (c:CEnv):List Ex->List Nat
 |[]=>[]
 |x::l=>refE c x::qgT c l
end
theorem qcp (c:CEnv):∀ l:List Ex,(qaK c l).length=l.length
 |[]=>by rw[qaK];try rfl
 |x::l=>by rw[qaK,zLc,zLc,qcp c l]
mutual
theorem qpP {c:CEnv} (hd:Dist c.funcs):∀ x:Ex,errE c x=0->refE c x=qa9 c x
 |.mk op num name args,h=>by
  rw[errE] at h;split at h
  ·have h1:=qad.1 h;rw[refE,qa9,qhO hd args h1.1];unfold refN
   by_cases hc:op=qa8
   ·subst hc;have h2:callE c name args.length=0:=h1.2;rw[if_pos rfl,qjF hd (by rw[qcp];exact h2)]
    try rfl
   ·rw[if_neg hc]
  ·cases h
theorem qhO {c:CEnv} (hd:Dist c.funcs):∀ l:List Ex,qaZ c l=0->qgT c l=qaK c l
 |[],_=>by rw[qgT,qaK]
 |x::l,h=>by
  rw[qaZ] at h;have h1:=qad.1 h;rw[qgT,qaK,qpP hd x h1.1,qhO hd l h1.2]
end
/-! ### Depths -/
mutual
def qeU:Ex->List Nm
 |.mk op num name args=>(if op=qa8 then [name] else [])++qbE args
def qbE:List Ex->List Nm
 |[]=>[]
 |x::l=>qeU x++qbE l
end
mutual
def qhm:Sm->List Nm
 |.mk kind name index value thn els=>qbE (value++index)++qbc thn++qbc els
def qbc:List Sm->List Nm
 |[]=>[]
 |x::l=>qhm x++qbc l
end
def qiu (c:CEnv) (names:List Nm) (d:Nat):Nat:=names.foldl (fun d name=>qeX (fun f=>1+f.depth) name c.funcs d) d
theorem qe4 (c:CEnv) (a b:List Nm) (d:Nat):qiu c (a++b) d=qiu c b (qiu c a d):=by
 unfold qiu;rw[List.foldl_append]
theorem qoF {c:CEnv} (hd:Dist c.funcs) (name:Nm) (d:Nat):qeX (fun f=>1+f.depth) name c.funcs d=max d (qeR c qa8 name):=by
 rw[qgK _ _ _ _ hd.1];unfold qeR
 by_cases h1:name=[105,110]∨name=[111,117,116]
 ·have hn:name ∉ c.funcs.map (·.name):=by
   rcases h1 with rfl|rfl
   ·exact hd.2.1
   ·exact hd.2.2
  have hf:(c.funcs.find? fun f=>decide (f.name=name))=none:=by
   rw[List.find?_eq_none];intro f hf he;exact hn (List.mem_map.2 ⟨f,hf,of_decide_eq_true he⟩)
  rw[hf,if_neg (by rcases h1 with h|h <;> simp[h])];exact (Nat.max_zero d).symm
 ·rw[not_or] at h1;rw[if_pos ⟨rfl,h1.1,h1.2⟩];unfold CEnv.fn
  cases c.funcs.find? fun f=>decide (f.name=name) with
  |none=>exact (Nat.max_zero d).symm
  |some f=>simp only[Nat.add_comm]
mutual
theorem overE {c:CEnv} (hd:Dist c.funcs):∀ (x:Ex) (d:Nat),qiu c (qeU x) d=max d (depE c x)
 |.mk op num name args,d=>by
  rw[qeU,depE,qe4,qqf hd args]
  by_cases hc:op=qa8
  ·subst hc;rw[if_pos rfl];show max (qeX (fun f=>1+f.depth) name c.funcs d) _=_;rw[qoF hd,Nat.max_assoc,Nat.max_comm (qeR c qa8 name)]
  ·rw[if_neg hc];have:qeR c op name=0:=by unfold qeR;rw[if_neg fun h=>hc h.1]
   rw[this,Nat.max_zero]
   try rfl
theorem qqf {c:CEnv} (hd:Dist c.funcs):∀ (l:List Ex) (d:Nat),qiu c (qbE l) d=max d (qcg c l)
 |[],d=>by rw[qbE,qcg];exact (Nat.max_zero d).symm
 |x::l,d=>by rw[qbE,qcg,qe4,overE hd x,qqf hd l,Nat.max_assoc]
end
theorem qfb (c:CEnv):∀ a b:List Ex,qcg c (a++b)=max (qcg c a) (qcg c b)
 |[],b=>by rw[List.nil_append,qcg,Nat.zero_max]
 |x::a,b=>by rw[List.cons_append,qcg,qcg,qfb c a b,Nat.max_assoc]
theorem qk3 (c:CEnv):∀ a b:List Ex,qaZ c (a++b)=orE (qaZ c a) (qaZ c b)
 |[],b=>by rw[List.nil_append,qaZ];try rfl
 |x::a,b=>by
  rw[List.cons_append,qaZ,qaZ,qk3 c a b];unfold orE
  by_cases h:errE c x=0
  ·rw[h];try rfl
  ·rw[if_pos h,if_pos h,if_pos h]
mutual
theorem overS {c:CEnv} (hd:Dist c.funcs):∀ (x:Sm) (d:Nat),qiu c (qhm x) d=max d (depS c x)
 |.mk kind name index value thn els,d=>by
  rw[qhm,depS,qe4,qe4,qqf hd,qlF hd thn,qlF hd els,qfb];simp only[Nat.max_assoc]
theorem qlF {c:CEnv} (hd:Dist c.funcs):∀ (l:List Sm) (d:Nat),qiu c (qbc l) d=max d (qcO c l)
 |[],d=>by rw[qbc,qcO];exact (Nat.max_zero d).symm
 |x::l,d=>by rw[qbc,qcO,qe4,overS hd x,qlF hd l,Nat.max_assoc]
end
end Go.Stele
namespace Go.Stele
def qen (l:List Nat):Nat:=l.getLast?.getD 0
mutual
def refS (c:CEnv):Sm->Nat
 |.mk kind name index value thn els=>
  if kind=1∨kind=6 then max 2 (qen (qgT c value))
  else if kind=2 then max (qen (qgT c value)) (2+qen (qgT c index))
  else if kind=3∨kind=4 then max (max (max 2 (qen (qgT c value))) (qmM c thn)) (qmM c els)
  else if kind=5 then qen (qgT c value)
  else 0
def qmM (c:CEnv):List Sm->Nat
 |[]=>0
 |s::l=>max (refS c s) (qmM c l)
end
theorem qdR {c:CEnv} (hd:Dist c.funcs) {l:List Ex} (hl:l.length=1) (h:qaZ c l=0):qen (qgT c l)=qa9 c (l.headD default):=by
 match l,hl with
 |[x],_=>
  rw[qaZ] at h;rw[qgT,qgT,qpP hd x (qad.1 h).1]
  try rfl
mutual
theorem qo5 {c:CEnv} (hd:Dist c.funcs):∀ s:Sm,errS c s=0->refS c s=qiw c s
 |.mk kind name index value thn els,h=>by
  rw[errS] at h;split at h
  ·cases h
  rename_i hform
  rw[Bool.not_eq_false] at hform;obtain ⟨h1,h⟩:=qad.1 h;obtain ⟨h2,h⟩:=qad.1 h;obtain ⟨_,h⟩:=qad.1 h;obtain ⟨h3,h4⟩:=qad.1 h;have e3:=qfE hd thn h3;have e4:=qfE hd els h4;unfold qbz at hform;rw[refS,qiw,e3,e4]
  by_cases k1:kind=1
  ·subst k1;simp at hform;obtain ⟨_,_,f2,f3,f4⟩:=hform;have e1:=qdR hd f2 h1;rw[f3,f4,e1];simp[qaW]
  by_cases k2:kind=2
  ·subst k2;simp at hform;obtain ⟨_,f1,f2,f3,f4⟩:=hform;rw[qdR hd f2 h1,qdR hd f1 h2]
   simp
  by_cases k3:kind=3
  ·subst k3;simp at hform;obtain ⟨_,_,f2⟩:=hform;rw[qdR hd f2 h1];simp[Nat.max_assoc]
  by_cases k4:kind=4
  ·subst k4;simp at hform;obtain ⟨_,_,f2,f4⟩:=hform;rw[qdR hd f2 h1];simp[Nat.max_assoc]
  by_cases k5:kind=5
  ·subst k5;simp at hform;obtain ⟨_,_,f2,f3,f4⟩:=hform;rw[qdR hd f2 h1]
   simp
  by_cases k6:kind=6
  ·subst k6;simp at hform;obtain ⟨_,_,f2,f3,f4,_⟩:=hform;rw[qdR hd f2 h1,f3,f4];simp[qaW]
  by_cases k7:kind=7
  ·subst k7
   simp
  ·simp[k1,k2,k3,k4,k5,k6,k7] at hform
theorem qfE {c:CEnv} (hd:Dist c.funcs):∀ l:List Sm,qa7 c l=0->qmM c l=qaW c l
 |[],_=>by rw[qmM,qaW]
 |s::l,h=>by
  rw[qa7] at h;have h1:=qad.1 h;rw[qmM,qaW,qo5 hd s h1.1,qfE hd l h1.2]
end
/-! ### Functions -/
theorem qbB:∀ (l k:List Nm),qa2 k l=0->l.Nodup/\∀ s∈l,s ∉ k/\isNm s=true
 |[],k,_=>⟨List.nodup_nil,fun s hs=>(List.not_mem_nil hs).elim⟩
 |s::l,k,h=>by
  rw[qa2] at h;split at h
  ·cases h
  rename_i h1
  split at h
  ·cases h
  rename_i h2
  obtain ⟨g1,g2⟩:=qbB l (s::k) h;refine ⟨List.nodup_cons.2 ⟨fun hm=>(g2 s hm).1 zMs,g1⟩,fun x hx=>?_⟩;rcases zMi.1 hx with rfl|hx
  ·exact ⟨h2,by simpa using h1⟩
  ·exact ⟨fun hm=>(g2 x hx).1 (zMo _ hm),(g2 x hx).2⟩
def refF (vars arrays later:List Nm) (known:List FSum) (f:FnD):FSum:=⟨f.name,f.params.length,max (max 2 (f.params.length+1)) (qmM (envF vars arrays later known f) f.body),qiu (envF vars arrays later known f) (qbc f.body) 1⟩
def qiF (vars arrays later:List Nm):List FSum->List FnD->List FSum
 |known,[]=>known
 |known,f::l=>qiF vars arrays later (known++[refF vars arrays later known f]) l
theorem qsu {vars arrays later:List Nm} {known:List FSum} {f:FnD} (hd:Dist known) (h:errF vars arrays later known f=0):refF vars arrays later known f=sumF vars arrays later known f:=by
 have hd':Dist (envF vars arrays later known f).funcs:=hd;unfold refF sumF;rw[qfE hd' f.body (qad.1 h).2,qlF hd']
theorem qkC {vars arrays later:List Nm}:∀ (fs:List FnD) (known:List FSum),Dist (known++fs.map fun f=>⟨f.name,0,0,0⟩)->qcf vars arrays later known fs=0->qiF vars arrays later known fs=qdx vars arrays later known fs
 |[],known,_,_=>by rw[qiF,qdx]
 |f::l,known,hd,h=>by
  rw[qcf] at h;obtain ⟨h1,h2⟩:=qad.1 h;unfold Dist at hd;rw[zMa,zMc,zMc] at hd;have hk:Dist known:=⟨(List.nodup_append.1 hd.1).1,fun g=>hd.2.1 (List.mem_append.2 (.inl g)),fun g=>hd.2.2 (List.mem_append.2 (.inl g))⟩;rw[qiF,qdx,qsu hk h1];refine qkC l _ ?_ h2;unfold Dist;rw[zAs,zMa,zMa,zMc,List.map_nil];exact hd
theorem qoX {vars arrays:List Nm} {fs:List FnD} (h:qa2 [] (vars++arrays++fs.map (·.name))=0):Dist (fs.map fun f=>(⟨f.name,0,0,0⟩:FSum)):=by
 obtain ⟨h1,h2⟩:=qbB _ _ h;have e:(fs.map fun f=>(⟨f.name,0,0,0⟩:FSum)).map (·.name)=fs.map (·.name):=by rw[List.map_map];try rfl
 unfold Dist;rw[e];refine ⟨(List.nodup_append.1 h1).2.1,fun g=>?_,fun g=>?_⟩
 ·have:=(h2 _ (List.mem_append.2 (.inr g))).2;exact absurd this (by decide +kernel)
 ·have:=(h2 _ (List.mem_append.2 (.inr g))).2;exact absurd this (by decide +kernel)
def qhR (vars:List Nm) (arrays:List (Nm×Int)) (fs:List FnD):Int:=
 orE (qa2 [] (vars++arrays.map (·.1)++fs.map (·.name))) (orE (qeu 0 (arrays.map (·.2)))
  (orE (qcf vars (arrays.map (·.1)) (fs.map (·.name)) [] fs) (qhJ vars fs (qiF vars (arrays.map (·.1)) (fs.map (·.name)) [] fs))))
theorem qmg (vars:List Nm) (arrays:List (Nm×Int)) (fs:List FnD):qhR vars arrays fs=qb1 vars arrays fs:=by
 unfold qhR qb1
 by_cases h1:qa2 [] (vars++arrays.map (·.1)++fs.map (·.name))=0
 ·by_cases h2:qcf vars (arrays.map (·.1)) (fs.map (·.name)) [] fs=0
  ·rw[qkC fs [] (by rw[List.nil_append];exact qoX h1) h2]
  ·unfold orE;rw[if_pos h2,if_pos h2]
 ·unfold orE;rw[if_pos h1,if_pos h1]
end Go.Stele
namespace Go.Stele
theorem qn0 {s:Nm} (h:isNm s=true):(46:UInt8) ∉ s:=by
 unfold isNm at h;rw[zBa] at h;have h2:=h.2
 cases s with
 |nil=>exact List.not_mem_nil
 |cons c r=>
  simp only[zBa] at h2;intro hm;rcases zMi.1 hm with rfl|hm
  ·exact absurd h2.1 zDd
  ·exact absurd (List.all_eq_true.1 h2.2 46 hm) zDd
theorem qll:∀ (a b x y:Nm),(46:UInt8) ∉ a->(46:UInt8) ∉ b->a++46::x=b++46::y->a=b/\x=y
 |[],[],x,y,_,_,h=>by
  injection h with _ h
  exact ⟨rfl,h⟩
 |[],d::b,x,y,_,hb,h=>by
  injection h with h1 _
  exact absurd (h1▸List.mem_cons_self ..) hb
 |c::a,[],x,y,ha,_,h=>by
  injection h with h1 _
  exact absurd (h1▸List.mem_cons_self ..) ha
 |c::a,d::b,x,y,ha,hb,h=>by
  injection h with h1 h2;obtain ⟨e1,e2⟩:=qll a b x y (fun g=>ha (zMo _ g)) (fun g=>hb (zMo _ g)) h2;exact ⟨by rw[h1,e1],e2⟩
end Go.Stele
namespace Go.Stele
def Lt (v:Nat):Prop:=v<4294967296
mutual
def numE:Ex->Prop
 |.mk op num name args=>Lt num/\qbd args
def qbd:List Ex->Prop
 |[]=>True
 |x::l=>numE x/\qbd l
end
mutual
def numS:Sm->Prop
 |.mk kind name index value thn els=>qbd index/\qbd value/\qcA thn/\qcA els
def qcA:List Sm->Prop
 |[]=>True
 |x::l=>numS x/\qcA l
end
theorem qlb:∀ {l:List Ex} {x:Ex},qbd l->x∈l->numE x
 |a::l,x,h,hx=>by
  rcases zMi.1 hx with rfl|hx
  ·exact h.1
  ·exact qlb h.2 hx
end Go.Stele
namespace Go.Stele
theorem qiZ {vars arrays later:List Nm}:∀ (fs:List FnD) (known:List FSum),qcf vars arrays later known fs=0->∀ f∈fs,(f.params++f.locals).Nodup/\∀ x∈f.params++f.locals,x ∉ vars++arrays++later
 |[],known,_,f,hf=>(List.not_mem_nil hf).elim
 |g::l,known,h,f,hf=>by
  rw[qcf] at h;obtain ⟨h1,h2⟩:=qad.1 h;rcases zMi.1 hf with rfl|hf
  ·obtain ⟨g1,g2⟩:=qbB _ _ (qad.1 h1).1;exact ⟨g1,fun x hx=>(g2 x hx).1⟩
  ·exact qiZ l _ h2 f hf
theorem qlm {A B:Type} {g:A->B} (hg:∀ x y,g x=g y->x=y):∀ {l:List A},l.Nodup->(l.map g).Nodup
 |[],_=>List.nodup_nil
 |a::l,h=>by
  rw[List.nodup_cons] at h;rw[zMc,List.nodup_cons];refine ⟨fun hm=>?_,qlm hg h.2⟩;obtain ⟨b,hb,he⟩:=List.mem_map.1 hm;exact h.1 (hg _ _ he▸hb)
theorem qph {fs:List FnD}:(fs.map (·.name)).Nodup->(∀ f∈fs,(46:UInt8) ∉ f.name)->(∀ f∈fs,(f.params++f.locals).Nodup)->((fs.map fun f=>(f.params++f.locals).map fun x=>f.name++[46]++x).flatten).Nodup:=by
 induction fs with
 |nil=>intro _ _ _;exact List.nodup_nil
 |cons f l ih=>
  intro h1 h2 h3;rw[zMc,List.nodup_cons] at h1;rw[zMc,List.flatten_cons,List.nodup_append];refine ⟨?_,ih h1.2 (fun g hg=>h2 g (zMo _ hg)) (fun g hg=>h3 g (zMo _ hg)),?_⟩
  ·exact qlm (fun x y hxy=>List.append_cancel_left hxy) (h3 f zMs)
  ·intro a ha b hb he;subst he;obtain ⟨x,_,rfl⟩:=List.mem_map.1 ha;obtain ⟨L,g1,g2⟩:=List.mem_flatten.1 hb;obtain ⟨g,g3,rfl⟩:=List.mem_map.1 g1;obtain ⟨y,_,g5⟩:=List.mem_map.1 g2;have g6:g.name++46::y=f.name++46::x:=by simpa using g5
   obtain ⟨e1,_⟩:=qll _ _ _ _ (h2 g (zMo _ g3)) (h2 f zMs) g6;exact h1.1 (List.mem_map.2 ⟨g,g3,e1⟩)
theorem qoB {vars arrays:List Nm} {fs:List FnD} (h:qa2 [] (vars++arrays++fs.map (·.name))=0) (hf:qcf vars arrays (fs.map (·.name)) [] fs=0):(qat vars fs).Nodup:=by
 obtain ⟨h1,h2⟩:=qbB _ _ h;have ho:=qiZ fs [] hf;unfold qat;rw[List.nodup_append];refine ⟨(List.nodup_append.1 (List.nodup_append.1 h1).1).1,qph (List.nodup_append.1 h1).2.1 (fun f hf=>qn0 (h2 _ (List.mem_append.2 (.inr (List.mem_map.2 ⟨f,hf,rfl⟩)))).2) fun f hf=>(ho f hf).1,?_⟩;intro a ha b hb he;subst he;obtain ⟨L,g1,g2⟩:=List.mem_flatten.1 hb;obtain ⟨g,g3,rfl⟩:=List.mem_map.1 g1;obtain ⟨y,_,g5⟩:=List.mem_map.1 g2;have:=qn0 (h2 _ (List.mem_append.2 (.inl (List.mem_append.2 (.inl ha))))).2;rw[<-g5] at this;exact absurd (by simp) this
end Go.Stele
namespace Go.Stele
def qkk (fs:List FnD) (known:List FSum):Prop:=∀ k∈known,∃ g∈fs,g.name=k.name/\g.params.length=k.params
theorem qjM {vars arrays later:List Nm} {all:List FnD}:∀ (fs:List FnD) (known:List FSum),qcf vars arrays later known fs=0->qkk all known->(∀ f∈fs,f∈all)->∀ f∈fs,∃ kn,qa7 (envF vars arrays later kn f) f.body=0/\qkk all kn
 |[],known,_,_,_,f,hf=>(List.not_mem_nil hf).elim
 |g::l,known,h,hk,ha,f,hf=>by
  rw[qcf] at h;obtain ⟨h1,h2⟩:=qad.1 h;rcases zMi.1 hf with rfl|hf
  ·exact ⟨known,(qad.1 h1).2,hk⟩
  ·refine qjM l _ h2 (fun k hk'=>?_) (fun x hx=>ha x (zMo _ hx)) f hf;rcases List.mem_append.1 hk' with g1|g1
   ·exact hk k g1
   ·rw[List.mem_singleton.1 g1];exact ⟨g,ha g zMs,rfl,rfl⟩
theorem qi7:∀ (l:List Int) (t:Int),0<=t->qeu t l=0->∀ n∈l,0<n/\t+n<=150000
 |[],t,_,_,n,hn=>(List.not_mem_nil hn).elim
 |a::l,t,ht,h,n,hn=>by
  rw[qeu] at h;split at h
  ·cases h
  split at h
  ·cases h
  rcases zMi.1 hn with rfl|hn
  ·constructor <;> omega
  ·have:=qi7 l (t+a) (by omega) h n hn;constructor <;> omega
structure Valid (p:Pr):Prop where
 names:qa2 [] (p.vars++p.arrays.map (·.name)++p.funcs.map (·.name))=0
 sizes:∀ a∈p.arrays,0<a.size/\a.size<=150000
 own:∀ f∈p.funcs,(f.params++f.locals).Nodup/\∀ x∈f.params++f.locals,x ∉ p.vars++p.arrays.map (·.name)++p.funcs.map (·.name)
 bodies:∀ f∈p.funcs,∃ kn,qa7 (envF p.vars (p.arrays.map (·.name)) (p.funcs.map (·.name)) kn f) f.body=0/\qkk p.funcs kn
 keys:(qat p.vars p.funcs).Nodup
 main:qlr p∈p.funcs/\(qlr p).name=[109,97,105,110]/\(qlr p).params=[]
 few:(qat p.vars p.funcs).length<=8000
theorem qj9 {p:Pr} (h:qf6 p=0):Valid p:=by
 unfold qf6 qb1 at h;have e1:(p.arrays.map fun a=>(a.name,(a.size:Int))).map (·.1)=p.arrays.map (·.name):=by rw[List.map_map];try rfl
 rw[e1] at h;obtain ⟨h1,h⟩:=qad.1 h;obtain ⟨h2,h⟩:=qad.1 h;obtain ⟨h3,h4⟩:=qad.1 h
 have hm:qlr p∈p.funcs/\(qlr p).name=[109,97,105,110]/\(qlr p).params=[]/\(qat p.vars p.funcs).length<=8000:=by
  unfold qhJ at h4;split at h4
  ·rename_i f m hf hms
   split at h4
   ·rename_i h5
    split at h4
    ·rename_i h6
     have e:qlr p=f:=by unfold qlr;rw[hf];try rfl
     rw[e];exact ⟨List.mem_of_getLast? hf,h5.1,h5.2,h6.1⟩
    ·cases h4
   ·cases h4
  ·cases h4
 refine ⟨h1,fun a ha=>?_,qiZ _ _ h3,qjM _ _ h3 (fun k hk=>(List.not_mem_nil hk).elim) (fun f hf=>hf),qoB h1 h3,⟨hm.1,hm.2.1,hm.2.2.1⟩,hm.2.2.2⟩
 have:=qi7 _ 0 zDd h2 (a.size:Int) (by
  rw[List.map_map]
  exact List.mem_map.2 ⟨a,ha,rfl⟩)
 constructor <;> omega
end Go.Stele
namespace Go.Stele
def Few6 (n:Nat):Prop:=n<=2000000
mutual
def smE:Ex->Prop
 |.mk op num name args=>Few6 args.length/\smEs args
def smEs:List Ex->Prop
 |[]=>True
 |x::l=>smE x/\smEs l
end
mutual
def smS:Sm->Prop
 |.mk kind name index value thn els=>Few6 index.length/\Few6 value.length/\Few6 thn.length/\Few6 els.length/\smEs index/\smEs value/\smSs thn/\smSs els
def smSs:List Sm->Prop
 |[]=>True
 |x::l=>smS x/\smSs l
end
structure SmF (f:FnD):Prop where
 params:Few6 f.params.length
 locals:Few6 f.locals.length
 body:Few6 f.body.length
 stmts:smSs f.body
end Go.Stele
namespace Go.Proofs.YthmhncflhnbedaaGreatDoor.Chk
open Go.GL Go.RowKit Go.Stele
def qm9 (es:List LV) (r:LRes) (H:Heap):Prop:=∃ v,r=.ret v/\GL.Acc 1 v es H []
theorem get_mid {A B:Type} (g:A->B) (pre:List A) (a:A) (l:List A):((pre++a::l).map g)[((pre.length:Nat):Int).toNat]? = some (g a):=by
 rw[Int.toNat_natCast,List.getElem?_map,List.getElem?_append_right (zNr _),Nat.sub_self];rfl
theorem qc5 {H F:Heap}:HSub H (H++F):=⟨F,List.Perm.refl _⟩
theorem qmb (l:List (List UInt8)):∀ v∈l.map str,v.cells.length=1:=fun v hv=>by
 obtain ⟨a,_,rfl⟩:=List.mem_map.1 hv;rfl
theorem qrL (l:List (List UInt8)):((l.map str).flatMap LV.cells).all qd6=true:=by
 induction l with
 |nil=>rfl
 |cons a l ih=>
  simp only[zMc,List.flatMap_cons,List.all_append,ih,Bool.and_true];rfl
section
variable {C:Ctx} {n:Nat} {e:Env} {H H':Heap} {rs:List ResultVar} {vs:List LV} {es:List LV} {v:LV}
theorem qla (hd:e.ds=[]) (h:qbF C n e H rs [v]) (hv:GL.Acc 1 v es H' []) (hH:HSub H' H):qah C n rs (qm9 es) .ret e H:=rR hd h hH ⟨v,rfl,hv⟩
end
attribute [local irreducible] LOps qae qag LCalls Go.GL.Pure qaA qaq qah LQ LAny qaF qap LS
section
variable {B0:Nat} {w0:World}
theorem qoD (l:List (List UInt8)) (hl:l.length<=2000000):LCalls (KC B0 w0) 55 [.list (l.map str)] [] (qm9 (l.map str)):=by
 refine cI Tryz.func55 rfl (n:=8) rfl rfl rfl ?_;refine gaa ?_;refine oS (S.sliceNil (es:=l.map str) rfl fun b hb=>?_) rfl;refine gam ?_;refine oC rfl (fun hc=>?_) (fun hc=>?_)
 ·have h0:=hb hc;refine gap ?_;exact qla rfl (rC (rT (v:=qaa) rfl zsr) rN) (by rw[h0];exact Acc.nil) zhr
 ·refine gak ?_;refine oS (S.litA [] rfl eN rfl rfl rfl fun b4=>?_) rfl;refine gad ?_;refine oS (S.acc (es:=[]) (F:=[]) rfl Acc.row rfl (qmb l) (qrL l) (by simp;omega) fun v' H' hacc=>?_) rfl;refine zQ62 ?_;refine gae ?_;exact qla rfl (rC (rT (v:=v') rfl zsr) rN) hacc zhr
theorem qqm (k:Nat) (hk:k<=1000000000):LCalls (KC B0 w0) 115 [qaa,int .i64 k] [] (qm9 []):=by
 refine cI Tryz.func115 rfl (n:=27) rfl rfl rfl ?_;refine gaa ?_;refine oC rfl (fun hc=>?_) (fun _=>?_)
 ·have:=zt hc;omega
 refine gau ?_;refine oP (Pure.rowCap rfl) rfl ?_;refine oP (pM (lv:=qaa) rfl) rfl ?_;refine oP (Pure.rowLen rfl) rfl ?_;refine gab ?_;refine oC rfl (fun hc=>?_) (fun hc=>?_)
 ·have h0:0<k:=by
   have:=zt hc;simp at this;omega
  refine gaf ?_;refine oP (Pure.rowCap rfl) rfl ?_;refine oP (Pure.rowSlice (n:=0) rfl rfl (zNr _)) rfl ?_;refine gax ?_;refine oS (S.appZeros (n:=k) rfl (qaf (by simp)) h0 zo fun b cap hcap=>?_) rfl;refine gad ?_;refine oP (Pure.rowSlice (n:=0) rfl rfl zo) rfl ?_;refine LOps.rowOpen 25 1 pH rfl (by simp) ?_;refine oP (pA (lv:=.app b cap 1 []) rfl) rfl ?_;refine gab ?_;exact qla rfl (rC (rT (v:=.app b cap 1 []) rfl zsr) rN) Acc.row zhr
 ·refine gaa ?_;exact qla rfl (rC (rT (v:=qaa) rfl zsr) rN) Acc.nil zhr
def qea (l:List (List UInt8)):LV:=.list (l.map str)
theorem sum_le (L:List (List (List UInt8))) (M:Nat) (h:∀ l∈L,l.length<=M):L.flatten.length<=L.length * M:=by
 induction L with
 |nil=>simp
 |cons a L ih=>
  rw[List.flatten_cons,zLa,zLc,Nat.add_mul];have h1:=h a zMs;have h2:=ih fun l hl=>h l (zMo _ hl);omega
theorem qh5 (L:List (List (List UInt8))) (hL:L.length<=4) (hl:∀ l∈L,l.length<=2000000):LCalls (KC B0 w0) 56 [.list (L.map qea)] [] (qm9 (L.flatten.map str)):=by
 have hsum:=sum_le L 2000000 hl;refine cI Tryz.func56 rfl (n:=36) rfl rfl rfl ?_;refine gaa ?_
 refine oL (fun k ls H'=>∃ pre l1,L=pre++l1/\k=l1.length/\ls=[(0,.list (L.map qea)),(3,int .i64 (pre.flatten.length:Int)),(9,.list (L.map qea)),(10,int .i64 ((L.map qea).length:Int)),(11,int .i64 (pre.length:Int))]/\H'=[])
  ⟨L.length,_,_,⟨[],L,rfl,rfl,rfl,rfl⟩,⟨rfl,rfl,rfl,rfl,rfl,trivial⟩,zhR _⟩ ?_
 rintro k ls H' ⟨pre,l1,hLe,rfl,rfl,rfl⟩ j hj
 have hb1:pre.flatten.length<=8000000:=by
  have h1:=hsum;rw[hLe,List.flatten_append,zLa] at h1;rw[hLe] at hL;omega
 have hb2:pre.length<=4:=by
  rw[hLe,zLa] at hL;omega
 refine gai ?_;refine oC rfl (fun hc=>?_) (fun hc=>?_)
 ·have hlen:=zt hc;rw[zLm,hLe,zLa] at hlen
  obtain ⟨a,l2,rfl⟩:∃ a l2,l1=a::l2:=by
   cases l1 with
   |nil=>simp at hlen
   |cons a l2=>exact ⟨a,l2,rfl⟩
  have ha:(a.map str).length<=2000000:=by
   rw[zLm];exact hl a (by rw[hLe];exact List.mem_append_right _ zMs)
  refine gak ?_;refine oP (xR (el':=qea a) (cs:=[qea a]) rfl rfl zo (by rw[hLe];exact get_mid qea pre a l2) rfl rfl) rfl ?_;refine gab ?_;refine oC rfl (fun hd=>?_) (fun _=>?_)
  ·have:=zt hd;omega
  ·refine gaa ?_;exact ⟨l2.length,_,_,Nat.lt_succ_self _,⟨pre++[a],l2,by rw[hLe];simp,rfl,rfl,rfl⟩,⟨rfl,qaf (by simp),rfl,rfl,qaf (by simp),trivial⟩,zhR _,hj⟩
 ·have hlen:=zf hc;rw[zLm,hLe,zLa] at hlen
  obtain rfl:l1=[]:=by
   cases l1 with
   |nil=>rfl
   |cons a l2=>simp at hlen;omega
  rw[zLz] at hLe;subst hLe;refine gaa ?_;have hfl:L.flatten.length<=8000000:=by omega
  refine oS (S.callH (H1:=[]) (F:=[]) [_,_] rfl zpr (qqm L.flatten.length zo) ?_ (by rintro ch H' ⟨v,h,_⟩;cases h)) rfl;rintro v Ha ⟨_,h,hacc⟩;cases h;rw[zLz];refine oP (pA (lv:=v) rfl) rfl ?_;refine gaa ?_
  refine oL (fun k ls H'=>∃ pre l1 v1 Ha1,L=pre++l1/\k=l1.length/\ls=[(6,v1),(25,.list (L.map qea)),(26,int .i64 ((L.map qea).length:Int)),(27,int .i64 (pre.length:Int))]/\H'=Ha1/\GL.Acc 1 v1 (pre.flatten.map str) Ha1 [])
   ⟨L.length,_,_,⟨[],L,v,Ha,rfl,rfl,rfl,rfl,hacc⟩,⟨rfl,rfl,rfl,rfl,trivial⟩,zhR _⟩ ?_
  rintro k ls H' ⟨pre,l1,v1,Ha1,hLe,rfl,rfl,rfl,hacc1⟩ j2 hj2
  have hb1:pre.flatten.length<=8000000:=by
   have h1:=hsum;rw[hLe,List.flatten_append,zLa] at h1;rw[hLe] at hL;omega
  have hb2:pre.length<=4:=by
   rw[hLe,zLa] at hL;omega
  refine gai ?_;refine oC rfl (fun hc=>?_) (fun hc=>?_)
  ·have hlen:=zt hc;rw[zLm,hLe,zLa] at hlen
   obtain ⟨a,l2,rfl⟩:∃ a l2,l1=a::l2:=by
    cases l1 with
    |nil=>simp at hlen
    |cons a l2=>exact ⟨a,l2,rfl⟩
   have ha:a.length<=2000000:=hl a (by rw[hLe];exact List.mem_append_right _ zMs);refine gak ?_;refine oP (xR (el':=qea a) (cs:=[qea a]) rfl rfl zo (by rw[hLe];exact get_mid qea pre a l2) rfl rfl) rfl ?_;refine gab ?_;refine oP (pM (lv:=v1) rfl) rfl ?_;refine gad ?_;refine oS (S.acc rfl hacc1 rfl (qmb a) (qrL a) (by rw[zLm,zLm];omega) fun v' H' hacc=>?_) rfl;refine zQ62 ?_;refine gat ?_
   exact ⟨l2.length,_,_,Nat.lt_succ_self _,⟨pre++[a],l2,v',H',by rw[hLe];simp,rfl,rfl,rfl,by
    have e:((pre++[a]).flatten.map str)=pre.flatten.map str++a.map str:=by simp
    rw[e]
    exact hacc⟩,⟨rfl,rfl,rfl,qaf (by simp),trivial⟩,zhR _,hj2⟩
  ·have hlen:=zf hc;rw[zLm,hLe,zLa] at hlen
   obtain rfl:l1=[]:=by
    cases l1 with
    |nil=>rfl
    |cons a l2=>simp at hlen;omega
   rw[zLz] at hLe;rw[<-hLe] at hacc1;refine gaa ?_;refine oP (pM (lv:=v1) rfl) rfl ?_;refine oP (pA (lv:=v1) rfl) rfl ?_;refine gae ?_;exact qla (hj2.trans hj) (rC (rT (v:=v1) rfl zsr) rN) hacc1 zhr
end
end Go.Proofs.YthmhncflhnbedaaGreatDoor.Chk
namespace Go.Proofs.YthmhncflhnbedaaGreatDoor.Chk
open Go.GL Go.RowKit Go.Stele
def ownS (f:FnD):List (List UInt8):=(f.params++f.locals).map fun x=>f.name++[46]++x
attribute [local irreducible] LOps qae qag LCalls Go.GL.Pure qaA qaq qah LQ LAny qaF qap LS
section
variable {B0:Nat} {w0:World}
theorem scalars_specG {vars:List Nm} {fs:List FnD} (AL:LV) (hv6:vars.length<=2000000) (hf6:fs.length<=2000000) (hsm:∀ f∈fs,SmF f) (hn:∀ f∈fs,f.name.length<=1000/\∀ x∈f.params++f.locals,x.length<=1000):LCalls (KC B0 w0) 19 [.agg [.list (vars.map str),AL,.list (fs.map qav)]] [] (Ret (.list ((qat vars fs).map str))):=by
 have hown:∀ f∈fs,(ownS f).length<=4000000:=fun f hf=>by
  have h1:f.params.length<=2000000:=(hsm f hf).params;have h2:f.locals.length<=2000000:=(hsm f hf).locals;unfold ownS;rw[zLm,zLa];omega
 have hsum:∀ l:List FnD,(∀ f∈l,f∈fs)->((l.map ownS).flatten).length<=l.length * 4000000:=fun l hl=>by
  have:=sum_le (l.map ownS) 4000000 (fun x hx=>by
   obtain ⟨f,hf,rfl⟩:=List.mem_map.1 hx
   exact hown f (hl f hf))
  rwa [zLm] at this
 refine cI Tryz.func19 rfl (n:=40) rfl rfl rfl ?_;refine gag ?_;refine oS (sB rfl fun b1=>?_) rfl;refine gaa ?_;refine oS (S.callH (H1:=[]) (F:=[_]) [_] rfl zpr (qoD vars hv6) ?_ (by rintro ch H' ⟨v,h,_⟩;cases h)) rfl;rintro v Ha ⟨_,h,hacc⟩;cases h;refine LOps.perm (zPc (l₂:=[_])) ?_;refine oP (pA (lv:=v) rfl) rfl ?_;refine gaa ?_
 refine oL (fun k ls H'=>∃ pre l1 v1 Ha1,fs=pre++l1/\k=l1.length/\ls=[(3,v1),(12,.list (fs.map qav)),(13,int .i64 ((fs.map qav).length:Int)),(14,int .i64 (pre.length:Int))]/\H'=Ha1/\GL.Acc 1 v1 ((vars++(pre.map ownS).flatten).map str) Ha1 [])
  ⟨fs.length,_,_,⟨[],fs,v,Ha,rfl,rfl,rfl,rfl,by simpa using hacc⟩,⟨rfl,rfl,rfl,rfl,trivial⟩,zhD zhr⟩ ?_
 rintro k ls Ha1 ⟨pre,l1,v1,_,hLe,rfl,rfl,rfl,hacc1⟩ j hj
 have hb2:pre.length<=2000000:=by
  rw[hLe,zLa] at hf6;omega
 have hb1:((pre.map ownS).flatten).length<=8000000000000:=by
  have:=hsum pre (fun f hf=>by rw[hLe];exact List.mem_append_left _ hf);omega
 refine gai ?_;refine oC rfl (fun hc=>?_) (fun hc=>?_)
 ·have hlen:=zt hc;rw[zLm,hLe,zLa] at hlen
  obtain ⟨f,l2,rfl⟩:∃ a l2,l1=a::l2:=by
   cases l1 with
   |nil=>simp at hlen
   |cons a l2=>exact ⟨a,l2,rfl⟩
  have hfm:f∈fs:=by rw[hLe];exact List.mem_append_right _ zMs
  obtain ⟨hn1,hn2⟩:=hn f hfm;have hp6:f.params.length<=2000000:=(hsm f hfm).params;have hl6:f.locals.length<=2000000:=(hsm f hfm).locals;refine gak ?_;refine oP (xR (el':=qav f) (cs:=[_,_,_,_]) rfl rfl zo (by rw[hLe];exact get_mid qav pre f l2) rfl rfl) rfl ?_;refine gav ?_;refine oS (sA fun b5=>?_) rfl;refine gab ?_;refine oS (sL (es:=[qea f.params,qea f.locals]) [_,_] rfl (zeC rfl rfl (zeC rfl rfl eN)) rfl rfl rfl ?_) rfl
  refine oS (S.callH (H1:=[]) (F:=(b5,.cells 84 [str f.name,qea f.params,qea f.locals,.list (f.body.map encS)])::Ha1) [_] rfl zpr (qh5 [f.params,f.locals] (by simp) (by
   intro l hl;rcases zMi.1 hl with rfl|hl
   ·exact hp6
   ·rw[List.mem_singleton.1 hl]
    exact hl6)) ?_ (by rintro ch H' ⟨v,h,_⟩;cases h)) rfl
  rintro v2 Ha2 ⟨_,h,hacc2⟩;cases h;have hfl:[f.params,f.locals].flatten=f.params++f.locals:=by simp
  rw[hfl] at hacc2;refine LOps.sub 23 rfl hacc2.sub ?_;refine LOps.weak (H':=(b5,.cells 84 [str f.name,qea f.params,qea f.locals,.list (f.body.map encS)])::Ha1) ⟨Ha2,zPc⟩ ?_;refine gad ?_
  refine oL (fun k ls H'=>∃ pre2 l3 v3 Ha3,f.params++f.locals=pre2++l3/\k=l3.length/\ls=[(3,v3),(5,ptr b5 0),(12,.list (fs.map qav)),(13,int .i64 ((fs.map qav).length:Int)),(14,int .i64 (pre.length:Int)),(23,.list ((f.params++f.locals).map str)),(24,int .i64 (((f.params++f.locals).map str).length:Int)),(25,int .i64 (pre2.length:Int))] /\
    H'=(b5,.cells 84 [str f.name,qea f.params,qea f.locals,.list (f.body.map encS)])::Ha3/\GL.Acc 1 v3 ((vars++(pre.map ownS).flatten++pre2.map fun x=>f.name++[46]++x).map str) Ha3 [])
   ⟨(f.params++f.locals).length,_,_,⟨[],f.params++f.locals,v1,Ha1,rfl,rfl,rfl,rfl,by simpa using hacc1⟩,⟨rfl,rfl,rfl,rfl,rfl,rfl,rfl,rfl,trivial⟩,zhR _⟩ ?_
  rintro k ls H' ⟨pre2,l3,v3,Ha3,hLe2,rfl,rfl,rfl,hacc3⟩ j2 hj2
  have hb3:pre2.length<=4000000:=by
   have:(f.params++f.locals).length<=4000000:=by rw[zLa];omega
   rw[hLe2,zLa] at this;omega
  refine gai ?_;refine oC rfl (fun hd=>?_) (fun hd=>?_)
  ·have hlen2:=zt hd;rw[zLm,hLe2,zLa] at hlen2
   obtain ⟨x,l4,rfl⟩:∃ a l2,l3=a::l2:=by
    cases l3 with
    |nil=>simp at hlen2
    |cons a l2=>exact ⟨a,l2,rfl⟩
   have hx:x.length<=1000:=hn2 x (by rw[hLe2];exact List.mem_append_right _ zMs);refine gak ?_;refine oP (xR (el':=str x) (cs:=[str x]) rfl rfl zo (by rw[hLe2];exact get_mid str pre2 x l4) rfl rfl) rfl ?_;refine gab ?_;refine oP (pM (lv:=v3) rfl) rfl ?_;refine gac ?_;refine oS (sL (es:=[str (f.name++[46]++x)]) [_] rfl (zeC rfl rfl eN) rfl rfl rfl ?_) rfl;refine oS (S.acc1 rfl hacc3 rfl (qmb [f.name++[46]++x]) rfl (by rw[zLm,zLa,zLa,zLm,zLc,zLn];omega) fun v' H' hacc'=>?_) rfl;refine zQ62 ?_;refine gat ?_
   exact ⟨l4.length,_,_,Nat.lt_succ_self _,⟨pre2++[x],l4,v',H',by rw[hLe2];simp,rfl,rfl,rfl,by
    have e:((vars++(pre.map ownS).flatten++(pre2++[x]).map fun x=>f.name++[46]++x).map str)=((vars++(pre.map ownS).flatten++pre2.map fun x=>f.name++[46]++x).map str)++[str (f.name++[46]++x)]:=by simp
    rw[e]
    exact hacc'⟩,⟨rfl,rfl,rfl,rfl,rfl,rfl,rfl,qaf (by simp),trivial⟩,zhR _,hj2⟩
  ·have hlen2:=zf hd;rw[zLm,hLe2,zLa] at hlen2
   obtain rfl:l3=[]:=by
    cases l3 with
    |nil=>rfl
    |cons a l2=>simp at hlen2;omega
   rw[zLz] at hLe2;refine gaa ?_
   exact ⟨l2.length,_,_,Nat.lt_succ_self _,⟨pre++[f],l2,v3,Ha3,by rw[hLe];simp,rfl,rfl,rfl,by
    have e:((vars++((pre++[f]).map ownS).flatten).map str)=(vars++(pre.map ownS).flatten++pre2.map fun x=>f.name++[46]++x).map str:=by
     rw[<-hLe2];simp[ownS]
    rw[e]
    exact hacc3⟩,⟨rfl,rfl,rfl,qaf (by simp),trivial⟩,zhD zhr,hj2.trans hj⟩
 ·have hlen:=zf hc;rw[zLm,hLe,zLa] at hlen
  obtain rfl:l1=[]:=by
   cases l1 with
   |nil=>rfl
   |cons a l2=>simp at hlen;omega
  rw[zLz] at hLe;rw[<-hLe] at hacc1;refine gaa ?_;refine oP (pM (lv:=v1) rfl) rfl ?_;refine oP (pA (lv:=v1) rfl) rfl ?_;refine gae ?_;exact rR hj (rC (rT (v:=v1) rfl hacc1.sub) rN) zhn ⟨rfl,rfl⟩
end
end Go.Proofs.YthmhncflhnbedaaGreatDoor.Chk
