/- Texts joined: RtParse, ParExt, RtProg, ParDepth, RtLex, InpLaw, ChkRef2, InpKey, CmpSpec, InpBnd, InpNodup. -/
import Derived.KernelRfl
import Derived.Lib.Replace
import Derived.Test.YtdakelgkjdaijaaGreatDoorBRowTS3
import Derived.Test.YtdakelgkjdaijaaGreatDoorBRowTS5
import Derived.Test.YtdakelgkjdaijaaGreatDoorBRowTS6
set_option linter.unusedVariables false
set_option linter.unusedSimpArgs false
set_option maxRecDepth 100000
set_option maxHeartbeats 4000000
namespace Go.Stele
def Evt {A:Type} (g:Nat->OR A) (r:Res A):Prop:=∃ f0,∀ f,f0<=f->g f=some r
def qbf (ks:List KT) (xs:List (List UInt8)):Bool:=match ks with
 |[]=>false
 |t::_=>(decide (t.1=3) || decide (t.1=4)) && xs.contains t.2
def At (T:List Tok) (i:Nat) (ks:List KT):Prop:=(T.map kt).drop i=ks
section
variable {T:List Tok} {i op:Nat} {ks:List KT}
theorem At.get {t:KT} (h:At T i (t::ks)):∃ t',T[i]? = some t'/\kt t'=t:=by
 have h1:((T.map kt).drop i)[0]? = some t:=by rw[show (T.map kt).drop i=t::ks from h];try rfl
 rw[List.getElem?_drop,Nat.add_zero,List.getElem?_map] at h1
 cases h2:T[i]? with
 |none=>rw[h2] at h1;cases h1
 |some t'=>rw[h2] at h1;exact ⟨t',rfl,by simpa using h1⟩
theorem At.none (h:At T i []):T[i]? = none:=by
 have h1:((T.map kt).drop i).length=0:=by rw[show (T.map kt).drop i=[] from h];rfl
 rw[List.length_drop,zLm] at h1;exact List.getElem?_eq_none (by omega)
theorem At.tok (h:At T i ks) (xs:List (List UInt8)):qaK T i xs=qbf ks xs:=by
 unfold qaK qbf
 cases ks with
 |nil=>rw[h.none]
 |cons t r=>
  obtain ⟨t',h1,h2⟩:=h.get;rw[h1,<-h2]
  try rfl
theorem At.one {t:KT} (h:At T i (t::ks)):At T (i+1) ks:=by
 show (T.map kt).drop (i+1)=ks;rw[<-List.drop_drop,show (T.map kt).drop i=t::ks from h]
 try rfl
theorem At.skip {a:List KT} (h:At T i (a++ks)):At T (i+a.length) ks:=by
 show (T.map kt).drop (i+a.length)=ks;rw[<-List.drop_drop,show (T.map kt).drop i=a++ks from h,List.drop_left]
theorem At.text {k:Int} {x:List UInt8} (h:At T i ((k,x)::ks)):qdj T i=x:=by
 obtain ⟨t',h1,h2⟩:=h.get;unfold qdj;rw[h1];exact congrArg Prod.snd h2
theorem At.kind {k:Int} {x:List UInt8} (h:At T i ((k,x)::ks)):qj9 T i=k:=by
 obtain ⟨t',h1,h2⟩:=h.get;unfold qj9;rw[h1];exact congrArg Prod.fst h2
theorem At.word {k:Int} {x:List UInt8} (h:At T i ((k,x)::ks)):qcw T k i op=.ok x (i+1) op:=by
 obtain ⟨t',h1,h2⟩:=h.get;unfold qcw;rw[h1];have hk:t'.kind=k:=congrArg Prod.fst h2;have hx:t'.text=x:=congrArg Prod.snd h2;show (if t'.kind=k then Res.ok t'.text (i+1) op else _)=_;rw[if_pos hk,hx]
theorem qrP {n:Nat} (hn:n<4294967296):qh6 (Go.Lib.decDigits n)=n:=by
 unfold qh6;rw[qgV n hn]
theorem At.number {n:Nat} (h:At T i ((1,Go.Lib.decDigits n)::ks)) (hn:n<4294967296):qcf T i op=.ok n (i+1) op:=by
 unfold qcf;rw[h.word];show Res.ok (qh6 (Go.Lib.decDigits n)) (i+1) op=_;rw[qrP hn]
theorem qb5 (c:UInt8):qbf (sg c::ks) [[c]]=true:=by simp[qbf,sg]
theorem At.begin {c:UInt8} (h:At T i (sg c::ks)) (ho:op<100):qbC T [c] i op=.ok () (i+1) (op+1):=by
 unfold qbC;rw[if_pos (by rw[h.tok,qb5]),if_neg (by omega)]
theorem At.need {c:UInt8} (h:At T i (sg c::ks)):qcX T [c] i op=.ok () (i+1) op:=by
 unfold qcX;rw[if_pos (by rw[h.tok,qb5])]
theorem At.fin {c:UInt8} (h:At T i (sg c::ks)):sEnd T [c] i op=.ok () (i+1) (op-1):=by
 unfold sEnd;rw[h.need]
 try rfl
end
structure Fol (ks:List KT) (k:Nat):Prop where
 par:qbf ks [[40]]=false
 brk:qbf ks [[91]]=false
 ops:∀ j,k<=j->j<6->qbf ks (qaZ j)=false
theorem Fol.up {ks:List KT} {k k':Nat} (h:Fol ks k) (hk:k<=k'):Fol ks k':=⟨h.par,h.brk,fun j h1 h2=>h.ops j (by omega) h2⟩
theorem qi4 {c:UInt8} (hc:c=41∨c=93∨c=44∨c=59∨c=123) (ks:List KT) (k:Nat):Fol (sg c::ks) k:=by
 have h:∀ c∈([41,93,44,59,123]:List UInt8),([[40]]:List (List UInt8)).contains [c]=false/\([[91]]:List (List UInt8)).contains [c]=false/\∀ j,j<6->(qaZ j).contains [c]=false:=by decide
 obtain ⟨h1,h2,h3⟩:=h c (by rcases hc with rfl|rfl|rfl|rfl|rfl <;> decide);refine ⟨?_,?_,fun j _ hj=>?_⟩
 ·simp only[qbf,sg,h1,Bool.and_false]
 ·simp only[qbf,sg,h2,Bool.and_false]
 ·simp only[qbf,sg,h3 j hj,Bool.and_false]
theorem quy {s:Nat} {o:List UInt8} (hs:s<6) (ho:o∈qaZ s) (ks:List KT):Fol ((4,o)::ks) (s+1):=by
 have h:∀ s,s<6->∀ o∈qaZ s,([[40]]:List (List UInt8)).contains o=false/\([[91]]:List (List UInt8)).contains o=false/\∀ j,j<6->s+1<=j->(qaZ j).contains o=false:=by decide
 obtain ⟨h1,h2,h3⟩:=h s hs o ho;refine ⟨?_,?_,fun j hk hj=>?_⟩
 ·simp only[qbf,h1,Bool.and_false]
 ·simp only[qbf,h2,Bool.and_false]
 ·simp only[qbf,h3 j hj hk,Bool.and_false]
section
variable {T:List Tok}
theorem qqW {i op:Nat} {r:Res Ex} (h:Evt (fun f=>qa0 T f i op) r):Evt (fun f=>eLev T f 6 i op) r:=by
 obtain ⟨f0,h⟩:=h;refine ⟨f0+1,fun f hf=>?_⟩;obtain ⟨g,rfl⟩:∃ g,f=g+1:=⟨f-1,by omega⟩;show eLev T (g+1) 6 i op=_;rw[eLev,if_pos rfl];exact h g (by omega)
theorem qmi {i op:Nat} {r:Res Ex} (h:Evt (fun f=>eLev T f 6 i op) r):Evt (fun f=>qa0 T f i op) r:=by
 obtain ⟨f0,h⟩:=h;refine ⟨f0,fun f hf=>?_⟩;have:=h (f+1) (by omega);simp only[eLev,if_pos] at this;exact this
theorem qla {i op i' op':Nat} {e:Ex} {ks:List KT} (hA:At T i' ks):∀ (n k s:Nat),s=k+n->s<=6->Fol ks k->Evt (fun f=>eLev T f s i op) (.ok e i' op')->Evt (fun f=>eLev T f k i op) (.ok e i' op')
 |0,k,s,h,_,_,he=>by
  have:s=k:=by omega
  subst this
  exact he
 |n+1,k,s,h,h6,hF,he=>by
  obtain ⟨f0,h1⟩:=qla hA n (k+1) s (by omega) h6 (hF.up (by omega)) he;refine ⟨f0+2,fun f hf=>?_⟩;obtain ⟨g,rfl⟩:∃ g,f=g+2:=⟨f-2,by omega⟩;have h1':=h1 (g+1) (by omega);simp only at h1';show eLev T (g+1+1) k i op=_;rw[eLev,if_neg (by omega),h1'];show qb8 T (g+1) k e i' op'=_;rw[qb8,if_neg (by rw[hA.tok,hF.ops k (zNr _) (by omega)];decide)]
def QE (T:List Tok) (e:Ex):Prop:=∀ (k:Nat) (ts:List KT) (d i op:Nat) (ks:List KT),k<=6->PE e k ts d->d<=100-op->At T i (ts++ks)->Fol ks k->Evt (fun f=>eLev T f k i op) (.ok e (i+ts.length) op)
def CE (T:List Tok) (e:Ex):Prop:=∀ (s:Nat) (ts:List KT) (d i op:Nat) (ks:List KT) (r:Res Ex),s<6->s≠2->PE e s ts d->d<=100-op->At T i (ts++ks)->Fol ks (s+1)->Evt (fun f=>qb8 T f s e (i+ts.length) op) r->Evt (fun f=>eLev T f s i op) r
theorem qrX {s o1:Nat} {o:List UInt8} {a b:Ex} {t1 t2 ks:List KT} {d1 d2 i op:Nat} (hs:s<6) (ho:o∈qaZ s) (pa:PE a (qbS s) t1 d1) (pb:PE b (s+1) t2 d2) (hd:max d1 d2<=100-op)
  (hA:At T i (t1++(4,o)::(t2++ks))) (hF:Fol ks (s+1)) (qa:QE T a) (ca:CE T a) (qb:QE T b) :
  (s≠2->∀ r,Evt (fun f=>qb8 T f s (.mk o 0 [] [a,b]) (i+(t1++(4,o)::t2).length) op) r->Evt (fun f=>eLev T f s i op) r) /\
  (s=2->Evt (fun f=>eLev T f s i op) (.ok (.mk o 0 [] [a,b]) (i+(t1++(4,o)::t2).length) op)):=by
 have h1:=hA.skip;have hlen:i+(t1++(4,o)::t2).length=i+t1.length+1+t2.length:=by simp only[zLa,zLc];omega
 have ht:qaK T (i+t1.length) (qaZ s)=true:=by
  rw[h1.tok];simp only[qbf];simp[ho]
 obtain ⟨fb,hb⟩:=qb (s+1) t2 d2 (i+t1.length+1) op ks (by omega) pb (by omega) h1.one hF;refine ⟨fun h2 r hr=>?_,fun h2=>?_⟩
 ·rw[qbS,if_neg h2] at pa;refine ca s t1 d1 i op _ r hs h2 pa (by omega) hA (quy hs ho _) ?_;obtain ⟨fr,hr⟩:=hr;refine ⟨fb+fr+1,fun f hf=>?_⟩;obtain ⟨g,rfl⟩:∃ g,f=g+1:=⟨f-1,by omega⟩;show qb8 T (g+1) s a (i+t1.length) op=_;have hb':=hb g (by omega);simp only at hb';rw[qb8,if_pos ht,hb'];show (if s=2 then _ else qb8 T g s (.mk (qdj T (i+t1.length)) 0 [] [a,b]) (i+t1.length+1+t2.length) op)=_;rw[if_neg h2,h1.text,<-hlen];exact hr g (by omega)
 ·subst h2;obtain ⟨fa,ha⟩:=qa 3 t1 d1 i op _ (by omega) pa (by omega) hA (quy hs ho _);refine ⟨fa+fb+2,fun f hf=>?_⟩;obtain ⟨g,rfl⟩:∃ g,f=g+2:=⟨f-2,by omega⟩;have ha':=ha (g+1) (by omega);have hb':=hb g (by omega);simp only at ha' hb';show eLev T (g+1+1) 2 i op=_;rw[eLev,if_neg (by omega),ha'];show qb8 T (g+1) 2 a (i+t1.length) op=_;rw[qb8,if_pos ht,hb'];show (if 2=2 then some (Res.ok (Ex.mk (qdj T (i+t1.length)) 0 [] [a,b]) (i+t1.length+1+t2.length) op) else qb8 T g 2 (Ex.mk (qdj T (i+t1.length)) 0 [] [a,b]) (i+t1.length+1+t2.length) op)=_;rw[if_pos rfl,h1.text,hlen]
def Fst (t:KT):Prop:=t.1=1∨t.1=2∨t=sg 40∨t=sg 45∨t=sg 33
theorem qor:∀ (n:Nat) (e:Ex),nEx e<=n->∀ (k:Nat) (ts:List KT) (d:Nat),PE e k ts d->∃ t r,ts=t::r/\Fst t
 |0,.mk _ _ _ _,hn=>by rw[nEx] at hn;omega
 |n+1,e,hn=>by
  intro k ts d h
  cases h with
  |num h=>exact ⟨_,_,rfl,.inl rfl⟩
  |var h=>exact ⟨_,_,rfl,.inr (.inl rfl)⟩
  |elem h ha=>exact ⟨_,_,rfl,.inr (.inl rfl)⟩
  |call h ha=>exact ⟨_,_,rfl,.inr (.inl rfl)⟩
  |neg ha=>exact ⟨_,_,rfl,.inr (.inr (.inr (.inl rfl)))⟩
  |not ha=>exact ⟨_,_,rfl,.inr (.inr (.inr (.inr rfl)))⟩
  |par hs ho hk2 ha hb=>exact ⟨_,_,rfl,.inr (.inr (.inl rfl))⟩
  |bin hs ho hk2 ha hb=>
   simp only[nEx,nExs] at hn;obtain ⟨t,r,rfl,h⟩:=qor n _ (by omega) _ _ _ ha;exact ⟨t,_,rfl,h⟩
theorem PE.first {e:Ex} {k:Nat} {ts:List KT} {d:Nat} (h:PE e k ts d):∃ t r,ts=t::r/\Fst t:=qor _ e (zNr _) _ _ _ h
theorem Fst.no41 {t:KT} (h:Fst t) (r:List KT):qbf (t::r) [[41]]=false:=by
 rcases h with h|h|rfl|rfl|rfl
 ·simp[qbf,h]
 ·simp[qbf,h]
 ·simp[qbf,sg]
 ·simp[qbf,sg]
 ·simp[qbf,sg]
theorem qmD:∀ (l acc:List Ex) (ts ks:List KT) (d i op:Nat),(∀ x∈l,QE T x)->acc≠[]->l≠[]->PEs l ts d->d<=100-op->At T i (sg 44::(ts++sg 41::ks))->Evt (fun f=>qav T f acc i op) (.ok (acc++l) (i+1+ts.length) op)
 |[],_,_,_,_,_,_,_,_,h,_,_,_=>absurd rfl h
 |a::l,acc,ts,ks,d,i,op,hq,hacc,_,hp,hd,hA=>by
  have hn41:qaK T i [[41]]=false:=by rw[hA.tok];simp[qbf,sg]
  cases hp with
  |one ha=>
   obtain ⟨f1,h1⟩:=hq a zMs 0 ts d (i+1) op _ (by omega) ha hd hA.one (qi4 (.inl rfl) _ _);have h41:qaK T (i+1+ts.length) [[41]]=true:=by rw[hA.one.skip.tok,qb5]
   refine ⟨f1+2,fun f hf=>?_⟩;obtain ⟨g,rfl⟩:∃ g,f=g+2:=⟨f-2,by omega⟩;have h1':=h1 (g+1) (by omega);simp only at h1';show qav T (g+1+1) acc i op=_;rw[qav,if_neg (by rw[hn41];decide),if_neg hacc,hA.need];show qaw (eLev T (g+1) 0 (i+1) op) _=_;rw[h1'];show qav T (g+1) (acc++[a]) (i+1+ts.length) op=_
   rw[qav,if_pos h41]
  |@more _ b l t1 t2 d1 d2 ha hl=>
   have hA1:At T (i+1) (t1++sg 44::(t2++sg 41::ks)):=by
    have:=hA.one;rw[zAs,List.cons_append] at this;exact this
   obtain ⟨f1,h1⟩:=hq a zMs 0 t1 d1 (i+1) op _ (by omega) ha (by omega) hA1 (qi4 (.inr (.inr (.inl rfl))) _ _);obtain ⟨f2,h2⟩:=qmD (b::l) (acc++[a]) t2 ks d2 (i+1+t1.length) op (fun x hx=>hq x (zMo _ hx)) (by simp) (by simp) hl (by omega) hA1.skip;refine ⟨f1+f2+1,fun f hf=>?_⟩;obtain ⟨g,rfl⟩:∃ g,f=g+1:=⟨f-1,by omega⟩;have h1':=h1 g (by omega);simp only at h1';show qav T (g+1) acc i op=_;rw[qav,if_neg (by rw[hn41];decide),if_neg hacc,hA.need];show qaw (eLev T g 0 (i+1) op) _=_;rw[h1'];show qav T g (acc++[a]) (i+1+t1.length) op=_;have h2':=h2 g (by omega);simp only at h2';rw[h2',zAs];congr 2;simp only[zLa,zLc];omega
theorem qkc {l:List Ex} {ts ks:List KT} {d i op:Nat} (hq:∀ x∈l,QE T x) (hp:PEs l ts d) (hd:d+1<=100-op) (hA:At T i (sg 40::(ts++sg 41::ks))):Evt (fun f=>qcR T f i op) (.ok l (i+2+ts.length) op):=by
 have key:Evt (fun f=>qav T f [] (i+1) (op+1)) (.ok l (i+1+ts.length) (op+1)):=by
  cases hp with
  |nil=>
   refine ⟨1,fun f hf=>?_⟩;obtain ⟨g,rfl⟩:∃ g,f=g+1:=⟨f-1,by omega⟩;show qav T (g+1) [] (i+1) (op+1)=_;rw[qav,if_pos (by rw[hA.one.tok];exact qb5 41)]
   try rfl
  |one ha=>
   rename_i a
   have hA1:=hA.one
   have hn41:qaK T (i+1) [[41]]=false:=by
    obtain ⟨t,r,rfl,hf⟩:=ha.first;rw[hA1.tok];exact hf.no41 _
   obtain ⟨f1,h1⟩:=hq a zMs 0 ts d (i+1) (op+1) _ (by omega) ha (by omega) hA1 (qi4 (.inl rfl) _ _);have h41:qaK T (i+1+ts.length) [[41]]=true:=by rw[hA1.skip.tok,qb5]
   refine ⟨f1+2,fun f hf=>?_⟩;obtain ⟨g,rfl⟩:∃ g,f=g+2:=⟨f-2,by omega⟩;have h1':=h1 (g+1) (by omega);simp only at h1';show qav T (g+1+1) [] (i+1) (op+1)=_;rw[qav,if_neg (by rw[hn41];decide),if_pos rfl];show qaw (eLev T (g+1) 0 (i+1) (op+1)) _=_;rw[h1'];show qav T (g+1) ([]++[a]) (i+1+ts.length) (op+1)=_;rw[qav,if_pos h41]
   try rfl
  |@more a b l t1 t2 d1 d2 ha hl=>
   have hA1:At T (i+1) (t1++sg 44::(t2++sg 41::ks)):=by
    have:=hA.one;rw[zAs,List.cons_append] at this;exact this
   have hn41:qaK T (i+1) [[41]]=false:=by
    obtain ⟨t,r,rfl,hf⟩:=ha.first;rw[hA1.tok];exact hf.no41 _
   obtain ⟨f1,h1⟩:=hq a zMs 0 t1 d1 (i+1) (op+1) _ (by omega) ha (by omega) hA1 (qi4 (.inr (.inr (.inl rfl))) _ _);obtain ⟨f2,h2⟩:=qmD (b::l) [a] t2 ks d2 (i+1+t1.length) (op+1) (fun x hx=>hq x (zMo _ hx)) (by simp) (by simp) hl (by omega) hA1.skip;refine ⟨f1+f2+1,fun f hf=>?_⟩;obtain ⟨g,rfl⟩:∃ g,f=g+1:=⟨f-1,by omega⟩;have h1':=h1 g (by omega);simp only at h1';show qav T (g+1) [] (i+1) (op+1)=_;rw[qav,if_neg (by rw[hn41];decide),if_pos rfl];show qaw (eLev T g 0 (i+1) (op+1)) _=_;rw[h1'];show qav T g ([]++[a]) (i+1+t1.length) (op+1)=_;have h2':=h2 g (by omega);simp only at h2';rw[List.nil_append,h2'];congr 2;simp only[zLa,zLc];omega
 obtain ⟨f1,h1⟩:=key;refine ⟨f1+1,fun f hf=>?_⟩;obtain ⟨g,rfl⟩:∃ g,f=g+1:=⟨f-1,by omega⟩;have h1':=h1 g (by omega);simp only at h1';show qcR T (g+1) i op=_;rw[qcR,hA.begin (by omega)];show qaw (qav T g [] (i+1) (op+1)) _=_;rw[h1'];show qaw (some (sEnd T [41] (i+1+ts.length) (op+1))) _=_;rw[hA.one.skip.fin];show some (Res.ok l (i+1+ts.length+1) (op+1-1))=_;congr 2;omega
theorem qet {i op:Nat} {ks:List KT} {r:Res Ex} (hA:At T i ks) (h1:qbf ks [[45]]=false) (h2:qbf ks [[33]]=false) (h:Evt (fun f=>qcs T f i op) r):Evt (fun f=>qa0 T f i op) r:=by
 obtain ⟨f0,h⟩:=h;refine ⟨f0+1,fun f hf=>?_⟩;obtain ⟨g,rfl⟩:∃ g,f=g+1:=⟨f-1,by omega⟩;show qa0 T (g+1) i op=_;rw[qa0,if_neg (by rw[hA.tok,h1];decide),if_neg (by rw[hA.tok,h2];decide)];exact h g (by omega)
theorem qoy {c:UInt8} {nm:List UInt8} (hc:c=45/\nm=nNeg∨c=33/\nm=nNot) {i op i':Nat} {e:Ex} {ks:List KT} (hA:At T i (sg c::ks)) (ho:op<100) (h:Evt (fun f=>qa0 T f (i+1) (op+1)) (.ok e i' (op+1))) :
  Evt (fun f=>qa0 T f i op) (.ok (.mk nm 0 [] [e]) i' op):=by
 obtain ⟨f0,h⟩:=h;refine ⟨f0+1,fun f hf=>?_⟩;obtain ⟨g,rfl⟩:∃ g,f=g+1:=⟨f-1,by omega⟩;have h':=h g (by omega);simp only at h';show qa0 T (g+1) i op=_;rcases hc with ⟨rfl,rfl⟩|⟨rfl,rfl⟩
 ·rw[qa0,if_pos (by rw[hA.tok,qb5]),hA.begin ho];show qaw (qa0 T g (i+1) (op+1)) _=_;rw[h']
  try rfl
 ·rw[qa0,if_neg (by rw[hA.tok];simp[qbf,sg]),if_pos (by rw[hA.tok,qb5]),hA.begin ho];show qaw (qa0 T g (i+1) (op+1)) _=_;rw[h']
  try rfl
theorem qpK {i op i':Nat} {e:Ex} {ks ks':List KT} (hA:At T i (sg 40::ks)) (hA':At T i' (sg 41::ks')) (ho:op<100) (h:Evt (fun f=>eLev T f 0 (i+1) (op+1)) (.ok e i' (op+1))):Evt (fun f=>qcs T f i op) (.ok e (i'+1) op):=by
 obtain ⟨f0,h⟩:=h;refine ⟨f0+1,fun f hf=>?_⟩;obtain ⟨g,rfl⟩:∃ g,f=g+1:=⟨f-1,by omega⟩;have h':=h g (by omega);simp only at h';show qcs T (g+1) i op=_;rw[qcs,if_pos (by rw[hA.tok,qb5]),hA.begin ho];show qaw (eLev T g 0 (i+1) (op+1)) _=_;rw[h'];show qaw (some (sEnd T [41] i' (op+1))) _=_;rw[hA'.fin]
 try rfl
theorem qcO (s:List UInt8) (ks:List KT) (xs:List (List UInt8)):qbf ((2,s)::ks) xs=false:=by simp[qbf]
theorem qus (s:List UInt8) (ks:List KT) (xs:List (List UInt8)):qbf ((1,s)::ks) xs=false:=by simp[qbf]
theorem qiv {i op i':Nat} {s:List UInt8} {e:Ex} {ks:List KT} (hA:At T i ((2,s)::ks))
  (h:Evt (fun f=>if qaK T (i+1) [[91]] then qaw (qbw T f (i+1) op) fun e i' op'=>some (.ok (.mk qcY 0 s [e]) i' op')
   else if qaK T (i+1) [[40]] then qaw (qcR T f (i+1) op) fun l i' op'=>some (.ok (.mk qbG 0 s l) i' op')
   else some (.ok (.mk nVar 0 s []) (i+1) op)) (.ok e i' op)):Evt (fun f=>qcs T f i op) (.ok e i' op):=by
 obtain ⟨f0,h⟩:=h;refine ⟨f0+1,fun f hf=>?_⟩;obtain ⟨g,rfl⟩:∃ g,f=g+1:=⟨f-1,by omega⟩;show qcs T (g+1) i op=_;rw[qcs,if_neg (by rw[hA.tok,qcO];decide),if_neg (by rw[hA.kind];decide),hA.word];exact h g (by omega)
theorem qjU {a:Ex} {ts ks:List KT} {d i op:Nat} (hq:QE T a) (hp:PE a 0 ts d) (hd:d+1<=100-op) (hA:At T i (sg 91::(ts++sg 93::ks))):Evt (fun f=>qbw T f i op) (.ok a (i+2+ts.length) op):=by
 obtain ⟨f1,h1⟩:=hq 0 ts d (i+1) (op+1) _ (by omega) hp (by omega) hA.one (qi4 (.inr (.inl rfl)) _ _);refine ⟨f1+1,fun f hf=>?_⟩;obtain ⟨g,rfl⟩:∃ g,f=g+1:=⟨f-1,by omega⟩;have h1':=h1 g (by omega);simp only at h1';show qbw T (g+1) i op=_;rw[qbw,hA.begin (by omega)];show qaw (eLev T g 0 (i+1) (op+1)) _=_;rw[h1'];show qaw (some (sEnd T [93] (i+1+ts.length) (op+1))) _=_;rw[hA.one.skip.fin];show some (Res.ok a (i+1+ts.length+1) (op+1-1))=_;congr 2;omega
theorem PE.more {e:Ex} {s:Nat} {ts:List KT} {d:Nat} (h:PE e s ts d):PE e (s+1) ts d∨∃ o a b t1 t2 d1 d2,s<6/\o∈qaZ s/\e=.mk o 0 [] [a,b]/\ts=t1++(4,o)::t2/\d=max d1 d2/\PE a (qbS s) t1 d1/\PE b (s+1) t2 d2:=by
 cases h with
 |num h=>exact .inl (.num h)
 |var h=>exact .inl (.var h)
 |elem h ha=>exact .inl (.elem h ha)
 |call h ha=>exact .inl (.call h ha)
 |neg ha=>exact .inl (.neg ha)
 |not ha=>exact .inl (.not ha)
 |par hs ho hk2 ha hb=>exact .inl (.par hs ho (by omega) ha hb)
 |bin hs ho hk2 ha hb=>
  rename_i s0 o a b t1 t2 d1 d2
  by_cases h:s+1<=s0
  ·exact .inl (.bin hs ho h ha hb)
  ·have:s0=s:=by omega
   subst this;exact .inr ⟨o,a,b,t1,t2,d1,d2,hs,ho,rfl,rfl,rfl,ha,hb⟩
theorem qdD:∀ (n:Nat) (e:Ex),nEx e<=n->QE T e/\CE T e
 |0,.mk _ _ _ _,hn=>by rw[nEx] at hn;omega
 |n+1,e,hn=>by
  have hQ:QE T e:=by
   intro k ts d i op ks hk hp hd hA hF
   have bin:∀ {s k i op:Nat} {o:List UInt8} {a b:Ex} {t1 t2 ks:List KT} {d1 d2:Nat},nEx (.mk o 0 [] [a,b])<=n+1->s<6->o∈qaZ s->k<=s->PE a (qbS s) t1 d1->PE b (s+1) t2 d2->max d1 d2<=100-op->At T i (t1++(4,o)::(t2++ks))->Fol ks k ->
     Evt (fun f=>eLev T f k i op) (.ok (.mk o 0 [] [a,b]) (i+(t1++(4,o)::t2).length) op):=by
    intro s k i op o a b t1 t2 ks d1 d2 hn hs ho hk pa pb hd hA hF;simp only[nEx,nExs] at hn;obtain ⟨qa,ca⟩:=qdD n a (by omega);obtain ⟨qb,_⟩:=qdD n b (by omega)
    have hA2:At T (i+(t1++(4,o)::t2).length) ks:=by
     have h:At T i ((t1++(4,o)::t2)++ks):=by rw[zAs,List.cons_append];exact hA
     exact h.skip
    obtain ⟨b1,b2⟩:=qrX (o1:=0) hs ho pa pb hd hA (hF.up (by omega)) qa ca qb
    have h0:Evt (fun f=>eLev T f s i op) (.ok (.mk o 0 [] [a,b]) (i+(t1++(4,o)::t2).length) op):=by
     by_cases h2:s=2
     ·exact b2 h2
     ·refine b1 h2 _ ⟨1,fun f hf=>?_⟩;obtain ⟨g,rfl⟩:∃ g,f=g+1:=⟨f-1,by omega⟩;show qb8 T (g+1) s _ _ op=_;rw[qb8,if_neg (by rw[hA2.tok,hF.ops s hk hs];decide)]
    exact qla hA2 (s-k) k s (by omega) (by omega) hF h0
   have un:Evt (fun f=>qa0 T f i op) (.ok e (i+ts.length) op)->Evt (fun f=>eLev T f k i op) (.ok e (i+ts.length) op):=fun h=>
    qla hA.skip (6-k) k 6 (by omega) (by omega) hF (qqW h)
   cases hp with
   |num h=>
    refine un (qet hA (qus _ _ _) (qus _ _ _) ⟨1,fun f hf=>?_⟩);obtain ⟨g,rfl⟩:∃ g,f=g+1:=⟨f-1,by omega⟩;show qcs T (g+1) i op=_;rw[qcs,if_neg (by rw[hA.tok];simp[qbf]),if_pos hA.kind,At.number hA h]
    try rfl
   |var h=>
    refine un (qet hA (qcO _ _ _) (qcO _ _ _) (qiv hA ⟨0,fun f _=>?_⟩));have hA1:At T (i+1) ks:=hA.one;simp only;rw[if_neg (by rw[hA1.tok,hF.brk];decide),if_neg (by rw[hA1.tok,hF.par];decide)]
    try rfl
   |elem h ha=>
    rename_i s a t1 d1
    simp only[nEx,nExs] at hn
    have hA1:At T i ((2,s)::sg 91::(t1++sg 93::ks)):=by
     simpa only[List.cons_append,zAs,List.nil_append] using hA
    refine un (qet hA1 (qcO _ _ _) (qcO _ _ _) (qiv hA1 ?_));obtain ⟨f1,h1⟩:=qjU (qdD n a (by omega)).1 ha hd hA1.one;refine ⟨f1,fun f hf=>?_⟩;have h1':=h1 f hf;simp only at h1' ⊢;rw[if_pos (by rw[hA1.one.tok,qb5]),h1'];show some (Res.ok (Ex.mk qcY 0 s [a]) (i+1+2+t1.length) op)=_;congr 2;simp only[zLc,zLa,zLn]
    omega
   |call h hl=>
    rename_i s l t1 d1
    simp only[nEx] at hn
    have hA1:At T i ((2,s)::sg 40::(t1++sg 41::ks)):=by
     simpa only[List.cons_append,zAs,List.nil_append] using hA
    refine un (qet hA1 (qcO _ _ _) (qcO _ _ _) (qiv hA1 ?_));obtain ⟨f1,h1⟩:=qkc (fun x hx=>(qdD n x (by have:=qfL hx;omega)).1) hl hd hA1.one;refine ⟨f1,fun f hf=>?_⟩;have h1':=h1 f hf;simp only at h1' ⊢;rw[if_neg (by rw[hA1.one.tok];simp[qbf,sg]),if_pos (by rw[hA1.one.tok,qb5]),h1'];show some (Res.ok (Ex.mk qbG 0 s l) (i+1+2+t1.length) op)=_;congr 2;simp only[zLc,zLa,zLn]
    omega
   |neg ha=>
    rename_i a t1 d1
    simp only[nEx,nExs] at hn;have h1:=(qdD n a (by omega)).1 6 t1 d1 (i+1) (op+1) ks (by omega) ha (by omega) hA.one (hF.up hk);have e1:i+(sg 45::t1).length=i+1+t1.length:=by simp only[zLc];omega
    rw[e1] at un ⊢
    exact un (qoy (.inl ⟨rfl,rfl⟩) hA (by omega) (qmi h1))
   |not ha=>
    rename_i a t1 d1
    simp only[nEx,nExs] at hn;have h1:=(qdD n a (by omega)).1 6 t1 d1 (i+1) (op+1) ks (by omega) ha (by omega) hA.one (hF.up hk);have e1:i+(sg 33::t1).length=i+1+t1.length:=by simp only[zLc];omega
    rw[e1] at un ⊢
    exact un (qoy (.inr ⟨rfl,rfl⟩) hA (by omega) (qmi h1))
   |bin hs ho hk2 ha hb=>exact bin hn hs ho hk2 ha hb hd (by simpa only[zAs,List.cons_append] using hA) hF
   |par hs ho hk2 ha hb=>
    rename_i s o a b t1 t2 d1 d2
    have hA1:At T i (sg 40::(t1++(4,o)::(t2++sg 41::ks))):=by
     simpa only[zAs,List.cons_append,List.nil_append] using hA
    have h1:=bin (k:=0) (op:=op+1) hn hs ho (by omega) ha hb (by omega) hA1.one (qi4 (.inl rfl) _ _)
    have hA2:At T (i+1+(t1++(4,o)::t2).length) (sg 41::ks):=by
     have h:At T (i+1) ((t1++(4,o)::t2)++sg 41::ks):=by rw[zAs,List.cons_append];exact hA1.one
     exact h.skip
    have e1:i+(sg 40::((t1++(4,o)::t2)++[sg 41])).length=i+1+(t1++(4,o)::t2).length+1:=by simp only[zLc,zLa,zLn];omega
    rw[e1] at un ⊢;exact un (qet hA1 (by simp[qbf,sg]) (by simp[qbf,sg]) (qpK hA1 hA2 (by omega) h1))
  refine ⟨hQ,?_⟩;intro s ts d i op ks r hs h2 hp hd hA hF hr;rcases hp.more with hp'|⟨o,a,b,t1,t2,d1,d2,_,ho,rfl,rfl,rfl,pa,pb⟩
  ·obtain ⟨f1,h1⟩:=hQ (s+1) ts d i op ks (by omega) hp' hd hA hF;obtain ⟨f2,h2⟩:=hr;refine ⟨f1+f2+1,fun f hf=>?_⟩;obtain ⟨g,rfl⟩:∃ g,f=g+1:=⟨f-1,by omega⟩;have h1':=h1 g (by omega);simp only at h1';show eLev T (g+1) s i op=_;rw[eLev,if_neg (by omega),h1'];exact h2 g (by omega)
  ·simp only[nEx,nExs] at hn;obtain ⟨qa,ca⟩:=qdD n a (by omega);obtain ⟨qb,_⟩:=qdD n b (by omega);exact (qrX (o1:=0) hs ho pa pb hd (by simpa only[zAs,List.cons_append] using hA) hF qa ca qb).1 h2 r hr
theorem qe (e:Ex):QE T e:=(qdD _ e (zNr _)).1
end
end Go.Stele
namespace Go.Stele
def LeO {A:Type} (r r':OR A):Prop:=∀ q,r=some q->r'=some q
theorem LeO.rfl' {A:Type} {r:OR A}:LeO r r:=fun _ h=>h
theorem LeO.none {A:Type} {r:OR A}:LeO none r:=fun _ h=>by cases h
theorem LeO.bind {A B:Type} {r r':OR A} {f f':A->Nat->Nat->OR B} (h:LeO r r') (hf:∀ v i op,LeO (f v i op) (f' v i op)):LeO (qaw r f) (qaw r' f'):=fun q hq=>by
 rcases qau hq with ⟨v,i,op,h1,h2⟩|⟨l,e,h1,rfl⟩
 ·rw[h _ h1];exact hf _ _ _ _ h2
 ·rw[h _ h1]
  try rfl
theorem LeO.ite {A:Type} {c:Prop} [Decidable c] {a b a' b':OR A} (h1:LeO a a') (h2:LeO b b'):LeO (if c then a else b) (if c then a' else b'):=by
 split
 ·exact h1
 ·exact h2
theorem qhO (T:List Tok):∀ (f g:Nat) (acc:List (List UInt8)) (i op:Nat),f<=g->LeO (qaA T f acc i op) (qaA T g acc i op)
 |0,_,_,_,_,_=>LeO.none
 |f+1,0,_,_,_,h=>by omega
 |f+1,g+1,acc,i,op,h=>by
  rw[qaA,qaA];exact LeO.ite (LeO.bind LeO.rfl' fun v i op=>qhO T f g _ i op (by omega)) LeO.rfl'
theorem qoW (T:List Tok) (f g i op:Nat) (h:f<=g):LeO (qcE T f i op) (qcE T g i op):=LeO.bind LeO.rfl' fun v i op=>qhO T f g _ i op h
theorem qwE (T:List Tok):∀ f g:Nat,f<=g->(∀ k i op,LeO (eLev T f k i op) (eLev T g k i op))/\(∀ k e i op,LeO (qb8 T f k e i op) (qb8 T g k e i op))/\(∀ i op,LeO (qa0 T f i op) (qa0 T g i op)) /\
  (∀ i op,LeO (qcs T f i op) (qcs T g i op))/\(∀ i op,LeO (qbw T f i op) (qbw T g i op))/\(∀ i op,LeO (qcR T f i op) (qcR T g i op))/\(∀ acc i op,LeO (qav T f acc i op) (qav T g acc i op))
 |0,g,_=>⟨fun _ _ _=>by rw[eLev];exact LeO.none,fun _ _ _ _=>by rw[qb8];exact LeO.none,fun _ _=>by rw[qa0];exact LeO.none,fun _ _=>by rw[qcs];exact LeO.none,fun _ _=>by rw[qbw];exact LeO.none,fun _ _=>by rw[qcR];exact LeO.none,fun _ _ _=>by rw[qav];exact LeO.none⟩
 |f+1,0,h=>by omega
 |f+1,g+1,h=>by
  obtain ⟨hL,hO,hU,hP,hI,hA,hB⟩:=qwE T f g (by omega);refine ⟨fun k i op=>?_,fun k e i op=>?_,fun i op=>?_,fun i op=>?_,fun i op=>?_,fun i op=>?_,fun acc i op=>?_⟩
  ·rw[eLev,eLev];exact LeO.ite (hU _ _) (LeO.bind (hL _ _ _) fun _ _ _=>hO _ _ _ _)
  ·rw[qb8,qb8];exact LeO.ite (LeO.bind (hL _ _ _) fun _ _ _=>LeO.ite LeO.rfl' (hO _ _ _ _)) LeO.rfl'
  ·rw[qa0,qa0];exact LeO.ite (LeO.bind LeO.rfl' fun _ _ _=>LeO.bind (hU _ _) fun _ _ _=>LeO.rfl') (LeO.ite (LeO.bind LeO.rfl' fun _ _ _=>LeO.bind (hU _ _) fun _ _ _=>LeO.rfl') (hP _ _))
  ·rw[qcs,qcs];exact LeO.ite (LeO.bind LeO.rfl' fun _ _ _=>LeO.bind (hL _ _ _) fun _ _ _=>LeO.rfl') (LeO.ite LeO.rfl' (LeO.bind LeO.rfl' fun _ _ _=>LeO.ite (LeO.bind (hI _ _) fun _ _ _=>LeO.rfl') (LeO.ite (LeO.bind (hA _ _) fun _ _ _=>LeO.rfl') LeO.rfl')))
  ·rw[qbw,qbw];exact LeO.bind LeO.rfl' fun _ _ _=>LeO.bind (hL _ _ _) fun _ _ _=>LeO.rfl'
  ·rw[qcR,qcR];exact LeO.bind LeO.rfl' fun _ _ _=>LeO.bind (hB _ _ _) fun _ _ _=>LeO.rfl'
  ·rw[qav,qav];exact LeO.ite LeO.rfl' (LeO.bind LeO.rfl' fun _ _ _=>LeO.bind (hL _ _ _) fun _ _ _=>hB _ _ _)
theorem qwG (T:List Tok):∀ f g:Nat,f<=g->(∀ i op,LeO (qbj T f i op) (qbj T g i op))/\(∀ acc i op,LeO (qbc T f acc i op) (qbc T g acc i op))/\(∀ i op,LeO (qco T f i op) (qco T g i op))/\(∀ i op,LeO (qaX T f i op) (qaX T g i op))
 |0,g,_=>⟨fun _ _=>by rw[qbj];exact LeO.none,fun _ _ _=>by rw[qbc];exact LeO.none,fun _ _=>by rw[qco];exact LeO.none,fun _ _=>by rw[qaX];exact LeO.none⟩
 |f+1,0,h=>by omega
 |f+1,g+1,h=>by
  obtain ⟨hB,hS,hT,hM⟩:=qwG T f g (by omega);obtain ⟨hL,_,_,_,hI,hA,_⟩:=qwE T f g (by omega);refine ⟨fun i op=>?_,fun acc i op=>?_,fun i op=>?_,fun i op=>?_⟩
  ·rw[qbj,qbj];exact LeO.bind LeO.rfl' fun _ _ _=>LeO.bind (hS _ _ _) fun _ _ _=>LeO.rfl'
  ·rw[qbc,qbc];exact LeO.ite LeO.rfl' (LeO.bind (hT _ _) fun _ _ _=>hS _ _ _)
  ·rw[qco,qco];exact LeO.ite (LeO.bind (hL _ _ _) fun _ _ _=>LeO.bind (hB _ _) fun _ _ _=>LeO.ite (LeO.bind (hB _ _) fun _ _ _=>LeO.rfl') LeO.rfl') (LeO.ite (LeO.bind (hL _ _ _) fun _ _ _=>LeO.bind (hB _ _) fun _ _ _=>LeO.rfl') (LeO.bind (hM _ _) fun _ _ _=>LeO.rfl'))
  ·rw[qaX,qaX];exact LeO.ite (LeO.bind (hL _ _ _) fun _ _ _=>LeO.rfl') (LeO.ite LeO.rfl' (LeO.bind LeO.rfl' fun _ _ _=>LeO.ite (LeO.bind (hA _ _) fun _ _ _=>LeO.rfl') (LeO.ite (LeO.bind (hI _ _) fun _ _ _=>LeO.bind LeO.rfl' fun _ _ _=>LeO.bind (hL _ _ _) fun _ _ _=>LeO.rfl') (LeO.bind LeO.rfl' fun _ _ _=>LeO.bind (hL _ _ _) fun _ _ _=>LeO.rfl'))))
theorem qnT (T:List Tok):∀ (f g:Nat) (acc:List (List UInt8)) (i op:Nat),f<=g->LeO (qcc T f acc i op) (qcc T g acc i op)
 |0,_,_,_,_,_=>LeO.none
 |f+1,0,_,_,_,h=>by omega
 |f+1,g+1,acc,i,op,h=>by
  rw[qcc,qcc];exact LeO.ite (LeO.bind (qoW T f g _ _ (by omega)) fun _ _ _=>LeO.bind LeO.rfl' fun _ _ _=>qnT T f g _ _ _ (by omega)) LeO.rfl'
theorem qvz (T:List Tok) (f g i op:Nat) (h:f<=g):LeO (qeI T f i op) (qeI T g i op):=by
 unfold qeI
 exact LeO.bind LeO.rfl' fun _ _ _=>LeO.bind LeO.rfl' fun _ _ _=>LeO.bind (LeO.ite LeO.rfl' (qoW T f g _ _ h)) fun _ _ _=>LeO.bind LeO.rfl' fun _ _ _=>LeO.bind LeO.rfl' fun _ _ _=>
  LeO.bind (qnT T f g _ _ _ h) fun _ _ _=>LeO.bind ((qwG T f g h).2.1 _ _ _) fun _ _ _=>LeO.rfl'
theorem qkI (T:List Tok):∀ (f g:Nat) (p:Pr) (i op:Nat),f<=g->LeO (qbH T f p i op) (qbH T g p i op)
 |0,_,_,_,_,_=>LeO.none
 |f+1,0,_,_,_,h=>by omega
 |f+1,g+1,p,i,op,h=>by
  rw[qbH,qbH]
  exact LeO.ite LeO.rfl' (LeO.ite (LeO.bind (qnT T f g _ _ _ (by omega)) fun _ _ _=>qkI T f g _ _ _ (by omega)) (LeO.ite (LeO.bind LeO.rfl' fun _ _ _=>qkI T f g _ _ _ (by omega))
   (LeO.ite (LeO.bind (qvz T f g _ _ (by omega)) fun _ _ _=>qkI T f g _ _ _ (by omega)) LeO.rfl')))
section
variable {T T':List Tok} {d m:Nat}
end
def EN {A:Type} (r:OR A):Prop:=∀ l e,r=some (.err l e)->¬ e=0
theorem EN.none {A:Type}:EN (none:OR A):=fun _ _ h=>by cases h
theorem EN.ok {A:Type} {v:A} {i op:Nat}:EN (some (.ok v i op)):=fun _ _ h=>by cases h
theorem EN.bind {A B:Type} {r:OR A} {f:A->Nat->Nat->OR B} (h:EN r) (hf:∀ v i op,EN (f v i op)):EN (qaw r f):=fun l e hq=>by
 rcases qau hq with ⟨v,i,op,_,h2⟩|⟨l',e',h1,h2⟩
 ·exact hf _ _ _ _ _ h2
 ·cases h2;exact h _ _ h1
theorem EN.ite {A:Type} {c:Prop} [Decidable c] {a b:OR A} (h1:EN a) (h2:EN b):EN (if c then a else b):=by
 split
 ·exact h1
 ·exact h2
theorem EN.syn {A:Type} {T:List Tok} {i:Nat}:EN (A:=A) (some (qjj T i)):=fun l e h=>by
 cases h;decide
theorem EN.word {T:List Tok} {k:Int} {i op:Nat}:EN (some (qcw T k i op)):=by
 unfold qcw;split
 ·split
  ·exact EN.ok
  ·exact EN.syn
 ·exact EN.syn
theorem EN.need {T:List Tok} {x:List UInt8} {i op:Nat}:EN (some (qcX T x i op)):=by
 unfold qcX;split
 ·exact EN.ok
 ·exact EN.syn
theorem EN.begin {T:List Tok} {x:List UInt8} {i op:Nat}:EN (some (qbC T x i op)):=by
 unfold qbC;split
 ·split
  ·intro l e h;cases h;decide
  ·exact EN.ok
 ·exact EN.syn
theorem EN.end' {T:List Tok} {x:List UInt8} {i op:Nat}:EN (some (sEnd T x i op)):=by
 unfold sEnd qcX;split
 ·exact EN.ok
 ·exact EN.syn
theorem EN.number {T:List Tok} {i op:Nat}:EN (some (qcf T i op)):=by
 unfold qcf qcw;split
 ·split
  ·exact EN.ok
  ·exact EN.syn
 ·exact EN.syn
theorem qh4 (T:List Tok):∀ (f:Nat) (acc:List (List UInt8)) (i op:Nat),EN (qaA T f acc i op)
 |0,_,_,_=>EN.none
 |f+1,acc,i,op=>by
  rw[qaA];exact EN.ite (EN.bind EN.word fun _ _ _=>qh4 T f _ _ _) EN.ok
theorem qop (T:List Tok) (f i op:Nat):EN (qcE T f i op):=EN.bind EN.word fun _ _ _=>qh4 T f _ _ _
theorem qww (T:List Tok):∀ f:Nat,(∀ k i op,EN (eLev T f k i op))/\(∀ k e i op,EN (qb8 T f k e i op))/\(∀ i op,EN (qa0 T f i op))/\(∀ i op,EN (qcs T f i op))/\(∀ i op,EN (qbw T f i op))/\(∀ i op,EN (qcR T f i op))/\(∀ acc i op,EN (qav T f acc i op))
 |0=>⟨fun _ _ _=>by rw[eLev];exact EN.none,fun _ _ _ _=>by rw[qb8];exact EN.none,fun _ _=>by rw[qa0];exact EN.none,fun _ _=>by rw[qcs];exact EN.none,fun _ _=>by rw[qbw];exact EN.none,fun _ _=>by rw[qcR];exact EN.none,fun _ _ _=>by rw[qav];exact EN.none⟩
 |f+1=>by
  obtain ⟨hL,hO,hU,hP,hI,hA,hB⟩:=qww T f;refine ⟨fun k i op=>?_,fun k e i op=>?_,fun i op=>?_,fun i op=>?_,fun i op=>?_,fun i op=>?_,fun acc i op=>?_⟩
  ·rw[eLev];exact EN.ite (hU _ _) (EN.bind (hL _ _ _) fun _ _ _=>hO _ _ _ _)
  ·rw[qb8];exact EN.ite (EN.bind (hL _ _ _) fun _ _ _=>EN.ite EN.ok (hO _ _ _ _)) EN.ok
  ·rw[qa0];exact EN.ite (EN.bind EN.begin fun _ _ _=>EN.bind (hU _ _) fun _ _ _=>EN.ok) (EN.ite (EN.bind EN.begin fun _ _ _=>EN.bind (hU _ _) fun _ _ _=>EN.ok) (hP _ _))
  ·rw[qcs];exact EN.ite (EN.bind EN.begin fun _ _ _=>EN.bind (hL _ _ _) fun _ _ _=>EN.bind EN.end' fun _ _ _=>EN.ok) (EN.ite (EN.bind EN.number fun _ _ _=>EN.ok) (EN.bind EN.word fun _ _ _=>EN.ite (EN.bind (hI _ _) fun _ _ _=>EN.ok) (EN.ite (EN.bind (hA _ _) fun _ _ _=>EN.ok) EN.ok)))
  ·rw[qbw];exact EN.bind EN.begin fun _ _ _=>EN.bind (hL _ _ _) fun _ _ _=>EN.bind EN.end' fun _ _ _=>EN.ok
  ·rw[qcR];exact EN.bind EN.begin fun _ _ _=>EN.bind (hB _ _ _) fun _ _ _=>EN.bind EN.end' fun _ _ _=>EN.ok
  ·rw[qav];refine EN.ite EN.ok (EN.bind ?_ fun _ _ _=>EN.bind (hL _ _ _) fun _ _ _=>hB _ _ _);split
   ·exact EN.ok
   ·exact EN.need
theorem qwh (T:List Tok):∀ f:Nat,(∀ i op,EN (qbj T f i op))/\(∀ acc i op,EN (qbc T f acc i op))/\(∀ i op,EN (qco T f i op))/\(∀ i op,EN (qaX T f i op))
 |0=>⟨fun _ _=>by rw[qbj];exact EN.none,fun _ _ _=>by rw[qbc];exact EN.none,fun _ _=>by rw[qco];exact EN.none,fun _ _=>by rw[qaX];exact EN.none⟩
 |f+1=>by
  obtain ⟨hB,hS,hT,hM⟩:=qwh T f;obtain ⟨hL,_,_,_,hI,hA,_⟩:=qww T f;refine ⟨fun i op=>?_,fun acc i op=>?_,fun i op=>?_,fun i op=>?_⟩
  ·rw[qbj];exact EN.bind EN.begin fun _ _ _=>EN.bind (hS _ _ _) fun _ _ _=>EN.bind EN.end' fun _ _ _=>EN.ok
  ·rw[qbc];exact EN.ite EN.ok (EN.bind (hT _ _) fun _ _ _=>hS _ _ _)
  ·rw[qco];exact EN.ite (EN.bind (hL _ _ _) fun _ _ _=>EN.bind (hB _ _) fun _ _ _=>EN.ite (EN.bind (hB _ _) fun _ _ _=>EN.ok) EN.ok) (EN.ite (EN.bind (hL _ _ _) fun _ _ _=>EN.bind (hB _ _) fun _ _ _=>EN.ok) (EN.bind (hM _ _) fun _ _ _=>EN.bind EN.need fun _ _ _=>EN.ok))
  ·rw[qaX];exact EN.ite (EN.bind (hL _ _ _) fun _ _ _=>EN.ok) (EN.ite EN.ok (EN.bind EN.word fun _ _ _=>EN.ite (EN.bind (hA _ _) fun _ _ _=>EN.ok) (EN.ite (EN.bind (hI _ _) fun _ _ _=>EN.bind EN.need fun _ _ _=>EN.bind (hL _ _ _) fun _ _ _=>EN.ok) (EN.bind EN.need fun _ _ _=>EN.bind (hL _ _ _) fun _ _ _=>EN.ok))))
theorem qng (T:List Tok):∀ (f:Nat) (acc:List (List UInt8)) (i op:Nat),EN (qcc T f acc i op)
 |0,_,_,_=>EN.none
 |f+1,acc,i,op=>by
  rw[qcc];exact EN.ite (EN.bind (qop T f _ _) fun _ _ _=>EN.bind EN.need fun _ _ _=>qng T f _ _ _) EN.ok
theorem qvh (T:List Tok) (f i op:Nat):EN (qeI T f i op):=by
 unfold qeI;exact EN.bind EN.word fun _ _ _=>EN.bind EN.begin fun _ _ _=>EN.bind (EN.ite EN.ok (qop T f _ _)) fun _ _ _=>EN.bind EN.end' fun _ _ _=>EN.bind EN.begin fun _ _ _=>EN.bind (qng T f _ _ _) fun _ _ _=>EN.bind ((qwh T f).2.1 _ _ _) fun _ _ _=>EN.bind EN.end' fun _ _ _=>EN.ok
theorem qt2 (T:List Tok) (i op:Nat):EN (qd6 T i op):=by
 unfold qd6;exact EN.bind EN.word fun _ _ _=>EN.bind EN.begin fun _ _ _=>EN.bind EN.number fun _ _ _=>EN.bind EN.end' fun _ _ _=>EN.bind EN.need fun _ _ _=>EN.ok
theorem qkX (T:List Tok):∀ (f:Nat) (p:Pr) (i op:Nat),EN (qbH T f p i op)
 |0,_,_,_=>EN.none
 |f+1,p,i,op=>by
  rw[qbH];exact EN.ite EN.ok (EN.ite (EN.bind (qng T f _ _ _) fun _ _ _=>qkX T f _ _ _) (EN.ite (EN.bind (qt2 T _ _) fun _ _ _=>qkX T f _ _ _) (EN.ite (EN.bind (qvh T f _ _) fun _ _ _=>qkX T f _ _ _) EN.syn)))
end Go.Stele
namespace Go.Stele
section
variable {T:List Tok}
theorem At.kw {T:List Tok} {i:Nat} {x:List UInt8} {ks:List KT} (h:At T i ((3,x)::ks)) (y:List UInt8):qaK T i [y]=decide (x=y):=by
 rw[h.tok];simp[qbf]
theorem At.nm {T:List Tok} {i:Nat} {x:List UInt8} {ks:List KT} (h:At T i ((2,x)::ks)) (xs:List (List UInt8)):qaK T i xs=false:=by
 rw[h.tok,qcO]
theorem At.sgn {T:List Tok} {i:Nat} {c:UInt8} {ks:List KT} (h:At T i (sg c::ks)) (y:List UInt8):qaK T i [y]=decide ([c]=y):=by
 rw[h.tok];simp[qbf,sg]
theorem qpT {e:Ex} {ts ks:List KT} {d i op:Nat} {c:UInt8} (hc:c=41∨c=93∨c=44∨c=59∨c=123) (hp:PE e 0 ts d) (hd:d<=100-op) (hA:At T i (ts++sg c::ks)):Evt (fun f=>eLev T f 0 i op) (.ok e (i+ts.length) op):=
 qe e 0 ts d i op _ (by omega) hp hd hA (qi4 hc _ _)
def QS (T:List Tok) (s:Sm):Prop:=∀ (ts:List KT) (d i op:Nat) (ks:List KT),PS s ts d->d<=100-op->At T i (ts++ks)->qbf ks [qe2]=false->Evt (fun f=>qco T f i op) (.ok s (i+ts.length) op)
theorem qtr {s:Sm} {ts:List KT} {d:Nat} (h:PS s ts d):∃ t r,ts=t::r/\(t.1=2∨t=(3,qeh)∨t=(3,qjH)∨t=(3,kwIf)∨t=(3,qfk)):=by
 cases h with
 |assign h he=>exact ⟨_,_,rfl,.inl rfl⟩
 |store h hx he=>exact ⟨_,_,rfl,.inl rfl⟩
 |call h hl=>exact ⟨_,_,rfl,.inl rfl⟩
 |ret he=>exact ⟨_,_,rfl,.inr (.inl rfl)⟩
 |halt=>exact ⟨_,_,rfl,.inr (.inr (.inl rfl))⟩
 |ifElse he h1 h2 hne=>exact ⟨_,_,rfl,.inr (.inr (.inr (.inl rfl)))⟩
 |ifThen he h1=>exact ⟨_,_,rfl,.inr (.inr (.inr (.inl rfl)))⟩
 |«while» he h1=>exact ⟨_,_,rfl,.inr (.inr (.inr (.inr rfl)))⟩
theorem quI {s:Sm} {ts ks:List KT} {d:Nat} (h:PS s ts d) {y:List UInt8} (hy:y=[125]∨y=qe2∨y=qe8):qbf (ts++ks) [y]=false:=by
 obtain ⟨t,r,e,h⟩:=qtr h;rw[e];rcases h with h|rfl|rfl|rfl|rfl
 ·simp[qbf,h]
 all_goals rcases hy with rfl|rfl|rfl <;> exact rfl
theorem qgh:∀ (l acc:List Sm) (ts ks:List KT) (d i op:Nat),(∀ s∈l,QS T s)->PSs l ts d->d<=100-op->At T i (ts++sg 125::ks)->Evt (fun f=>qbc T f acc i op) (.ok (acc++l) (i+ts.length) op)
 |[],acc,ts,ks,d,i,op,hq,hp,hd,hA=>by
  cases hp with
  |nil=>
   refine ⟨1,fun f hf=>?_⟩;obtain ⟨g,rfl⟩:∃ g,f=g+1:=⟨f-1,by omega⟩;show qbc T (g+1) acc i op=_;rw[qbc,if_pos (by rw[hA.tok];exact qb5 125),zLz]
   try rfl
 |s::l,acc,ts,ks,d,i,op,hq,hp,hd,hA=>by
  cases hp with
  |cons h hl=>
   rename_i t1 t2 d1 d2
   rw[zAs] at hA
   have he:qbf (t2++sg 125::ks) [qe2]=false:=by
    cases hl with
    |nil=>rfl
    |cons h' hl'=>rw[zAs];exact quI h' (.inr (.inl rfl))
   obtain ⟨f1,h1⟩:=hq s zMs t1 d1 i op _ h (by omega) hA he;obtain ⟨f2,h2⟩:=qgh l (acc++[s]) t2 ks d2 (i+t1.length) op (fun x hx=>hq x (zMo _ hx)) hl (by omega) hA.skip;refine ⟨f1+f2+1,fun f hf=>?_⟩;obtain ⟨g,rfl⟩:∃ g,f=g+1:=⟨f-1,by omega⟩;have h1':=h1 g (by omega);have h2':=h2 g (by omega);simp only at h1' h2';show qbc T (g+1) acc i op=_;rw[qbc,if_neg (by rw[hA.tok,quI h (.inl rfl)];decide),h1'];show qbc T g (acc++[s]) (i+t1.length) op=_;rw[h2',zAs,zLa,Nat.add_assoc]
   try rfl
theorem qe1 {l:List Sm} {ts ks:List KT} {d i op:Nat} (hq:∀ s∈l,QS T s) (hp:PSs l ts d) (hd:d+1<=100-op) (hA:At T i (sg 123::(ts++sg 125::ks))):Evt (fun f=>qbj T f i op) (.ok l (i+2+ts.length) op):=by
 obtain ⟨f1,h1⟩:=qgh l [] ts ks d (i+1) (op+1) hq hp (by omega) hA.one;refine ⟨f1+1,fun f hf=>?_⟩;obtain ⟨g,rfl⟩:∃ g,f=g+1:=⟨f-1,by omega⟩;have h1':=h1 g (by omega);simp only at h1';show qbj T (g+1) i op=_;rw[qbj,hA.begin (by omega)];show qaw (qbc T g [] (i+1) (op+1)) _=_;rw[h1'];show qaw (some (sEnd T [125] (i+1+ts.length) (op+1))) _=_;rw[hA.one.skip.fin];show some (Res.ok l (i+1+ts.length+1) (op+1-1))=_;congr 2;omega
theorem qdd {i op i':Nat} {s:Sm} {ks ks':List KT} (hA:At T i ks) (h1:qbf ks [kwIf]=false) (h2:qbf ks [qfk]=false) (hA':At T i' (sg 59::ks')) (h:Evt (fun f=>qaX T f i op) (.ok s i' op)):Evt (fun f=>qco T f i op) (.ok s (i'+1) op):=by
 obtain ⟨f0,h⟩:=h;refine ⟨f0+1,fun f hf=>?_⟩;obtain ⟨g,rfl⟩:∃ g,f=g+1:=⟨f-1,by omega⟩;have h':=h g (by omega);simp only at h';show qco T (g+1) i op=_;rw[qco,if_neg (by rw[hA.tok,h1];decide),if_neg (by rw[hA.tok,h2];decide),h'];show qaw (some (qcX T [59] i' op)) _=_;rw[hA'.need]
 try rfl
theorem qg4:∀ (n:Nat) (s:Sm),nSm s<=n->QS T s
 |0,.mk _ _ _ _ _ _,hn=>by rw[nSm] at hn;omega
 |n+1,s,hn=>by
  intro ts d i op ks hp hd hA hE
  cases hp with
  |assign h he=>
   rename_i s e t1
   have hA1:At T i ((2,s)::sg 61::(t1++sg 59::ks)):=by simpa only[List.cons_append,zAs,List.nil_append] using hA
   obtain ⟨f1,h1⟩:=qpT (op:=op) (.inr (.inr (.inr (.inl rfl)))) he hd hA1.one.one;have e1:i+((2,s)::sg 61::(t1++[sg 59])).length=i+1+1+t1.length+1:=by simp only[zLc,zLa,zLn];omega
   rw[e1];refine qdd hA1 (qcO _ _ _) (qcO _ _ _) hA1.one.one.skip ⟨f1+1,fun f hf=>?_⟩;obtain ⟨g,rfl⟩:∃ g,f=g+1:=⟨f-1,by omega⟩;have h1':=h1 g (by omega);simp only at h1';show qaX T (g+1) i op=_;rw[qaX,if_neg (by rw[hA1.nm];decide),if_neg (by rw[hA1.nm];decide),hA1.word];show (if qaK T (i+1) [[40]] then _ else if qaK T (i+1) [[91]] then _ else qaw (some (qcX T [61] (i+1) op)) _)=_;rw[if_neg (by rw[hA1.one.sgn];decide),if_neg (by rw[hA1.one.sgn];decide),hA1.one.need];show qaw (eLev T g 0 (i+1+1) op) _=_;rw[h1']
   try rfl
  |store h hx he=>
   rename_i s x e t1 t2 d1 d2
   have hA1:At T i ((2,s)::sg 91::(t1++sg 93::sg 61::(t2++sg 59::ks))):=by simpa only[List.cons_append,zAs,List.nil_append] using hA
   obtain ⟨f1,h1⟩:=qjU (op:=op) (qe x) hx (by omega) hA1.one
   have hA2:At T (i+1+2+t1.length) (sg 61::(t2++sg 59::ks)):=by
    have:=hA1.one.one.skip.one;rw[show i+1+2+t1.length=i+1+1+t1.length+1 by omega];exact this
   obtain ⟨f2,h2⟩:=qpT (op:=op) (.inr (.inr (.inr (.inl rfl)))) he (by omega) hA2.one;have e1:i+((2,s)::sg 91::(t1++sg 93::sg 61::(t2++[sg 59]))).length=i+1+2+t1.length+1+t2.length+1:=by simp only[zLc,zLa,zLn];omega
   rw[e1];refine qdd hA1 (qcO _ _ _) (qcO _ _ _) hA2.one.skip ⟨f1+f2+1,fun f hf=>?_⟩;obtain ⟨g,rfl⟩:∃ g,f=g+1:=⟨f-1,by omega⟩;have h1':=h1 g (by omega);have h2':=h2 g (by omega);simp only at h1' h2';show qaX T (g+1) i op=_;rw[qaX,if_neg (by rw[hA1.nm];decide),if_neg (by rw[hA1.nm];decide),hA1.word];show (if qaK T (i+1) [[40]] then _ else if qaK T (i+1) [[91]] then qaw (qbw T g (i+1) op) _ else _)=_;rw[if_neg (by rw[hA1.one.sgn];decide),if_pos (by rw[hA1.one.sgn];decide),h1'];show qaw (some (qcX T [61] (i+1+2+t1.length) op)) _=_;rw[hA2.need];show qaw (eLev T g 0 (i+1+2+t1.length+1) op) _=_;rw[h2']
   try rfl
  |call h hl=>
   rename_i s l t1 d1
   have hA1:At T i ((2,s)::sg 40::(t1++sg 41::sg 59::ks)):=by simpa only[List.cons_append,zAs,List.nil_append] using hA
   obtain ⟨f1,h1⟩:=qkc (op:=op) (fun x _=>qe x) hl (by omega) hA1.one
   have hA2:At T (i+1+2+t1.length) (sg 59::ks):=by
    have:=hA1.one.one.skip.one;rw[show i+1+2+t1.length=i+1+1+t1.length+1 by omega];exact this
   have e1:i+((2,s)::sg 40::(t1++[sg 41,sg 59])).length=i+1+2+t1.length+1:=by simp only[zLc,zLa,zLn];omega
   rw[e1];refine qdd hA1 (qcO _ _ _) (qcO _ _ _) hA2 ⟨f1+1,fun f hf=>?_⟩;obtain ⟨g,rfl⟩:∃ g,f=g+1:=⟨f-1,by omega⟩;have h1':=h1 g (by omega);simp only at h1';show qaX T (g+1) i op=_;rw[qaX,if_neg (by rw[hA1.nm];decide),if_neg (by rw[hA1.nm];decide),hA1.word];show (if qaK T (i+1) [[40]] then qaw (qcR T g (i+1) op) _ else _)=_;rw[if_pos (by rw[hA1.one.sgn];decide),h1']
   try rfl
  |ret he=>
   rename_i e t1
   have hA1:At T i ((3,qeh)::(t1++sg 59::ks)):=by simpa only[List.cons_append,zAs,List.nil_append] using hA
   obtain ⟨f1,h1⟩:=qpT (op:=op) (.inr (.inr (.inr (.inl rfl)))) he hd hA1.one;have e1:i+((3,qeh)::(t1++[sg 59])).length=i+1+t1.length+1:=by simp only[zLc,zLa,zLn];omega
   rw[e1];refine qdd hA1 rfl rfl hA1.one.skip ⟨f1+1,fun f hf=>?_⟩;obtain ⟨g,rfl⟩:∃ g,f=g+1:=⟨f-1,by omega⟩;have h1':=h1 g (by omega);simp only at h1';show qaX T (g+1) i op=_;rw[qaX,if_pos (by rw[hA1.kw];decide),h1']
   try rfl
  |halt=>
   have hA1:At T i ((3,qjH)::sg 59::ks):=hA;refine qdd hA1 rfl rfl hA1.one ⟨1,fun f hf=>?_⟩;obtain ⟨g,rfl⟩:∃ g,f=g+1:=⟨f-1,by omega⟩;show qaX T (g+1) i op=_
   rw[qaX,if_neg (by rw[hA1.kw];decide),if_pos (by rw[hA1.kw];decide)]
  |ifElse he h1 h2 hne=>
   rename_i e th el t0 t1 t2 d0 d1 d2
   simp only[nSm,nExs] at hn;have hA1:At T i ((3,kwIf)::(t0++sg 123::(t1++sg 125::(3,qe2)::sg 123::(t2++sg 125::ks)))):=by simpa only[List.cons_append,zAs,List.nil_append] using hA
   obtain ⟨f1,g1⟩:=qpT (op:=op) (.inr (.inr (.inr (.inr rfl)))) he (by omega) hA1.one;obtain ⟨f2,g2⟩:=qe1 (op:=op) (fun x hx=>qg4 n x (by have:=qfZ hx;omega)) h1 (by omega) hA1.one.skip
   have hA2:At T (i+1+t0.length+2+t1.length) ((3,qe2)::sg 123::(t2++sg 125::ks)):=by
    have:=hA1.one.skip.one.skip.one;rw[show i+1+t0.length+2+t1.length=i+1+t0.length+1+t1.length+1 by omega];exact this
   obtain ⟨f3,g3⟩:=qe1 (op:=op) (fun x hx=>qg4 n x (by have:=qfZ hx;omega)) h2 (by omega) hA2.one;refine ⟨f1+f2+f3+1,fun f hf=>?_⟩;obtain ⟨g,rfl⟩:∃ g,f=g+1:=⟨f-1,by omega⟩;have g1':=g1 g (by omega);have g2':=g2 g (by omega);have g3':=g3 g (by omega);simp only at g1' g2' g3';show qco T (g+1) i op=_;rw[qco,if_pos (by rw[hA1.kw];decide),g1'];show qaw (qbj T g (i+1+t0.length) op) _=_;rw[g2'];show (if qaK T (i+1+t0.length+2+t1.length) [qe2] then qaw (qbj T g (i+1+t0.length+2+t1.length+1) op) _ else _)=_;rw[if_pos (by rw[hA2.kw];decide),g3'];show some (Res.ok (Sm.mk 3 [] [] [e] th el) _ op)=_;congr 2;simp only[zLc,zLa,zLn]
   omega
  |ifThen he h1=>
   rename_i e th t0 t1 d0 d1
   simp only[nSm,nExs] at hn;have hA1:At T i ((3,kwIf)::(t0++sg 123::(t1++sg 125::ks))):=by simpa only[List.cons_append,zAs,List.nil_append] using hA
   obtain ⟨f1,g1⟩:=qpT (op:=op) (.inr (.inr (.inr (.inr rfl)))) he (by omega) hA1.one;obtain ⟨f2,g2⟩:=qe1 (op:=op) (fun x hx=>qg4 n x (by have:=qfZ hx;omega)) h1 (by omega) hA1.one.skip
   have hA2:At T (i+1+t0.length+2+t1.length) ks:=by
    have:=hA1.one.skip.one.skip.one;rw[show i+1+t0.length+2+t1.length=i+1+t0.length+1+t1.length+1 by omega];exact this
   refine ⟨f1+f2+1,fun f hf=>?_⟩;obtain ⟨g,rfl⟩:∃ g,f=g+1:=⟨f-1,by omega⟩;have g1':=g1 g (by omega);have g2':=g2 g (by omega);simp only at g1' g2';show qco T (g+1) i op=_;rw[qco,if_pos (by rw[hA1.kw];decide),g1'];show qaw (qbj T g (i+1+t0.length) op) _=_;rw[g2'];show (if qaK T (i+1+t0.length+2+t1.length) [qe2] then _ else _)=_;rw[if_neg (by rw[hA2.tok,hE];decide)];congr 2;simp only[zLc,zLa,zLn]
   omega
  |«while» he h1=>
   rename_i e th t0 t1 d0 d1
   simp only[nSm,nExs] at hn;have hA1:At T i ((3,qfk)::(t0++sg 123::(t1++sg 125::ks))):=by simpa only[List.cons_append,zAs,List.nil_append] using hA
   obtain ⟨f1,g1⟩:=qpT (op:=op) (.inr (.inr (.inr (.inr rfl)))) he (by omega) hA1.one;obtain ⟨f2,g2⟩:=qe1 (op:=op) (fun x hx=>qg4 n x (by have:=qfZ hx;omega)) h1 (by omega) hA1.one.skip;refine ⟨f1+f2+1,fun f hf=>?_⟩;obtain ⟨g,rfl⟩:∃ g,f=g+1:=⟨f-1,by omega⟩;have g1':=g1 g (by omega);have g2':=g2 g (by omega);simp only at g1' g2';show qco T (g+1) i op=_;rw[qco,if_neg (by rw[hA1.kw];decide),if_pos (by rw[hA1.kw];decide),g1'];show qaw (qbj T g (i+1+t0.length) op) _=_;rw[g2'];show some (Res.ok (Sm.mk 4 [] [] [e] th []) _ op)=_;congr 2;simp only[zLc,zLa,zLn];omega
theorem qs (s:Sm):QS T s:=qg4 _ s (zNr _)
/-! ### Declarations -/
theorem qfi:∀ (l acc:List (List UInt8)) (ks:List KT) (i op:Nat),l≠[]->qbf ks [[44]]=false->At T i (sg 44::(qbp l++ks))->Evt (fun f=>qaA T f acc i op) (.ok (acc++l) (i+1+(qbp l).length) op)
 |[],_,_,_,_,h,_,_=>absurd rfl h
 |[a],acc,ks,i,op,_,hk,hA=>by
  refine ⟨2,fun f hf=>?_⟩;obtain ⟨g,rfl⟩:∃ g,f=g+2:=⟨f-2,by omega⟩;have hA1:At T (i+1) ((2,a)::ks):=hA.one;show qaA T (g+1+1) acc i op=_;rw[qaA,if_pos (by rw[hA.tok,qb5]),hA1.word];show qaA T (g+1) (acc++[a]) (i+1+1) op=_;rw[qaA,if_neg (by rw[hA1.one.tok,hk];decide)]
  try rfl
 |a::b::l,acc,ks,i,op,_,hk,hA=>by
  have hA1:At T (i+1) ((2,a)::sg 44::(qbp (b::l)++ks)):=hA.one;obtain ⟨f1,h1⟩:=qfi (b::l) (acc++[a]) ks (i+1+1) op (by simp) hk hA1.one;refine ⟨f1+1,fun f hf=>?_⟩;obtain ⟨g,rfl⟩:∃ g,f=g+1:=⟨f-1,by omega⟩;have h1':=h1 g (by omega);simp only at h1';show qaA T (g+1) acc i op=_;rw[qaA,if_pos (by rw[hA.tok,qb5]),hA1.word];show qaA T g (acc++[a]) (i+1+1) op=_;rw[h1',zAs];congr 2;simp only[qbp,zLc];omega
theorem qi2 {l:List (List UInt8)} {ks:List KT} {i op:Nat} (hl:l≠[]) (hk:qbf ks [[44]]=false) (hA:At T i (qbp l++ks)):Evt (fun f=>qcE T f i op) (.ok l (i+(qbp l).length) op):=by
 match l,hl,hA with
 |[a],_,hA=>
  have hA1:At T i ((2,a)::ks):=hA;refine ⟨1,fun f hf=>?_⟩;obtain ⟨g,rfl⟩:∃ g,f=g+1:=⟨f-1,by omega⟩;show qcE T (g+1) i op=_;unfold qcE;rw[hA1.word];show qaA T (g+1) [a] (i+1) op=_;rw[qaA,if_neg (by rw[hA1.one.tok,hk];decide)]
  try rfl
 |a::b::l,_,hA=>
  have hA1:At T i ((2,a)::sg 44::(qbp (b::l)++ks)):=hA;obtain ⟨f1,h1⟩:=qfi (b::l) [a] ks (i+1) op (by simp) hk hA1.one;refine ⟨f1,fun f hf=>?_⟩;have h1':=h1 f hf;simp only at h1';show qcE T f i op=_;unfold qcE;rw[hA1.word];show qaA T f [a] (i+1) op=_;rw[h1'];show some (Res.ok (a::b::l) _ op)=_;congr 2;simp only[qbp,zLc];omega
theorem qku {l:List (List UInt8)} {ks:List KT} {i op:Nat} (hk:qbf ks [qe8]=false) (hA:At T i (varK l++ks)):Evt (fun f=>qcc T f [] i op) (.ok l (i+(varK l).length) op):=by
 unfold varK at hA ⊢
 by_cases hl:l=[]
 ·rw[if_pos hl] at hA ⊢;subst hl;refine ⟨1,fun f hf=>?_⟩;obtain ⟨g,rfl⟩:∃ g,f=g+1:=⟨f-1,by omega⟩;show qcc T (g+1) [] i op=_;rw[qcc,if_neg (by rw[hA.tok];rw[List.nil_append,hk];decide)]
  try rfl
 ·rw[if_neg hl] at hA ⊢;have hA1:At T i ((3,qe8)::(qbp l++sg 59::ks)):=by simpa only[List.cons_append,zAs,List.nil_append] using hA
  obtain ⟨f1,h1⟩:=qi2 (op:=op) hl (by simp[qbf,sg]) hA1.one;refine ⟨f1+2,fun f hf=>?_⟩;obtain ⟨g,rfl⟩:∃ g,f=g+2:=⟨f-2,by omega⟩;have h1':=h1 (g+1) (by omega);simp only at h1';show qcc T (g+1+1) [] i op=_;rw[qcc,if_pos (by rw[hA1.kw];decide),h1'];show qaw (some (qcX T [59] (i+1+(qbp l).length) op)) _=_;rw[hA1.one.skip.need];show qcc T (g+1) ([]++l) (i+1+(qbp l).length+1) op=_;rw[qcc,if_neg (by rw[hA1.one.skip.one.tok,hk];decide),List.nil_append];congr 2;simp only[zLc,zLa,zLn];omega
theorem qp6 {a:FnD} {ts ks:List KT} {d i:Nat} (hp:PF a ts d) (hd:d<=100) (hA:At T i (ts++ks)):qaK T i [qh0]=true/\qaK T i [qeQ]=false/\qaK T i [qe8]=false/\Evt (fun f=>qeI T f (i+1) 0) (.ok a (i+ts.length) 0):=by
 cases hp with
 |mk h hps hls hb=>
  rename_i nm ps ls b t1 d1
  have hA1:At T i ((3,qh0)::(2,nm)::sg 40::(qbp ps++sg 41::sg 123::(varK ls++(t1++sg 125::ks)))):=by simpa only[List.cons_append,zAs,List.nil_append] using hA
  refine ⟨by rw[hA1.kw];decide,by rw[hA1.kw];decide,by rw[hA1.kw];decide,?_⟩;have hA3:=hA1.one.one.one
  have key:Evt (fun f=>if qaK T (i+1+1+1) [[41]] then some (.ok [] (i+1+1+1) 1) else qcE T f (i+1+1+1) 1) (.ok ps (i+1+1+1+(qbp ps).length) 1):=by
   by_cases hne:ps=[]
   ·subst hne;refine ⟨0,fun f _=>?_⟩;simp only;rw[if_pos (by rw[hA3.tok];exact qb5 41)]
    try rfl
   ·obtain ⟨f1,h1⟩:=qi2 (op:=1) hne (by simp[qbf,sg]) hA3;refine ⟨f1,fun f hf=>?_⟩;simp only;rw[if_neg ?_]
    ·exact h1 f hf
    ·rw[hA3.tok]
     match ps,hne with
     |[x],_=>simp[qbf,qbp]
     |x::y::r,_=>simp[qbf,qbp]
  obtain ⟨f1,h1⟩:=key;have hA4:=hA3.skip
  have hv:qbf (t1++sg 125::ks) [qe8]=false:=by
   cases hb with
   |nil=>rfl
   |cons h' hl'=>rw[zAs];exact quI h' (.inr (.inr rfl))
  obtain ⟨f2,h2⟩:=qku (op:=1) hv hA4.one.one;obtain ⟨f3,h3⟩:=qgh b [] t1 ks d1 _ 1 (fun x _=>qs x) hb (by omega) hA4.one.one.skip;refine ⟨f1+f2+f3,fun f hf=>?_⟩;have h1':=h1 f (by omega);have h2':=h2 f (by omega);have h3':=h3 f (by omega);simp only at h1' h2' h3';show qeI T f (i+1) 0=_;unfold qeI;rw[hA1.one.word];show qaw (some (qbC T [40] (i+1+1) 0)) _=_;rw[hA1.one.one.begin (by omega)];show qaw (if qaK T (i+1+1+1) [[41]] then some (.ok [] (i+1+1+1) 1) else qcE T f (i+1+1+1) 1) _=_;rw[h1'];show qaw (some (sEnd T [41] (i+1+1+1+(qbp ps).length) 1)) _=_;rw[hA4.fin];show qaw (some (qbC T [123] (i+1+1+1+(qbp ps).length+1) 0)) _=_;rw[hA4.one.begin (by omega)];show qaw (qcc T f [] (i+1+1+1+(qbp ps).length+1+1) 1) _=_;rw[h2'];show qaw (qbc T f [] (i+1+1+1+(qbp ps).length+1+1+(varK ls).length) 1) _=_;rw[h3'];show qaw (some (sEnd T [125] (i+1+1+1+(qbp ps).length+1+1+(varK ls).length+t1.length) 1)) _=_;rw[hA4.one.one.skip.skip.fin];show some (Res.ok (FnD.mk nm ps ls b) _ 0)=_;congr 2;simp only[zLc,zLa,zLn];omega
theorem qnq {a:Ar} {ks:List KT} {i:Nat} (h:qc1 a.name/\a.size<4294967296) (hA:At T i (arK a++ks)):qaK T i [qeQ]=true/\qaK T i [qe8]=false/\qd6 T (i+1) 0=some (.ok a (i+6) 0):=by
 have hA1:At T i ((3,qeQ)::(2,a.name)::sg 91::(1,Go.Lib.decDigits a.size)::sg 93::sg 59::ks):=hA;refine ⟨by rw[hA1.kw];decide,by rw[hA1.kw];decide,?_⟩;unfold qd6;rw[hA1.one.word];show qaw (some (qbC T [91] (i+1+1) 0)) _=_;rw[hA1.one.one.begin (by omega)];show qaw (some (qcf T (i+1+1+1) 1)) _=_;rw[hA1.one.one.one.number h.2];show qaw (some (sEnd T [93] (i+1+1+1+1) 1)) _=_;rw[hA1.one.one.one.one.fin];show qaw (some (qcX T [59] (i+1+1+1+1+1) 0)) _=_;rw[hA1.one.one.one.one.one.need]
 try rfl
theorem At.lt {i:Nat} {t:KT} {ks:List KT} (h:At T i (t::ks)):i<T.length:=by
 obtain ⟨t',h1,_⟩:=h.get;exact qhS h1
theorem At.len {i:Nat} (h:At T i []):T.length<=i:=by
 have h1:((T.map kt).drop i).length=0:=by rw[show (T.map kt).drop i=[] from h];rfl
 rw[List.length_drop,zLm] at h1;omega
theorem qix:∀ (l:List FnD) (ts:List KT) (p:Pr) (i:Nat),PFs l ts->At T i ts->∃ j,Evt (fun f=>qbH T f p i 0) (.ok { p with funcs:=p.funcs++l } j 0)
 |[],ts,p,i,h,hA=>by
  cases h with
  |nil=>
   refine ⟨i,1,fun f hf=>?_⟩;obtain ⟨g,rfl⟩:∃ g,f=g+1:=⟨f-1,by omega⟩;show qbH T (g+1) p i 0=_
   rw[qbH,if_pos hA.len,zLz]
 |a::l,ts,p,i,h,hA=>by
  cases h with
  |cons hf hd hl=>
   obtain ⟨e1,e2,e3,f1,h1⟩:=qp6 hf hd hA;obtain ⟨j,f2,h2⟩:=qix l _ { p with funcs:=p.funcs++[a] } _ hl hA.skip;refine ⟨j,f1+f2+1,fun f hf=>?_⟩;obtain ⟨g,rfl⟩:∃ g,f=g+1:=⟨f-1,by omega⟩;have h1':=h1 g (by omega);have h2':=h2 g (by omega);simp only at h1' h2';show qbH T (g+1) p i 0=_;rw[qbH,if_neg (by have:=qaL e1;omega),if_neg (by rw[e3];decide),if_neg (by rw[e2];decide),if_pos e1,h1'];show qbH T g { p with funcs:=p.funcs++[a] } _ 0=_
   rw[h2',zAs]
   try rfl
theorem qfs:∀ (l:List Ar) (fs:List FnD) (ts:List KT) (p:Pr) (i:Nat),qpf l->PFs fs ts->At T i ((l.map arK).flatten++ts)->∃ j,Evt (fun f=>qbH T f p i 0) (.ok ⟨p.vars,p.arrays++l,p.funcs++fs⟩ j 0)
 |[],fs,ts,p,i,_,hf,hA=>by
  rw[zLz]
  exact qix fs ts p i hf hA
 |a::l,fs,ts,p,i,hl,hf,hA=>by
  rw[zMc,List.flatten_cons,zAs] at hA;obtain ⟨e1,e2,h1⟩:=qnq (hl a zMs) hA;obtain ⟨j,f2,h2⟩:=qfs l fs ts { p with arrays:=p.arrays++[a] } _ (fun x hx=>hl x (zMo _ hx)) hf hA.skip;refine ⟨j,f2+1,fun f hf=>?_⟩;obtain ⟨g,rfl⟩:∃ g,f=g+1:=⟨f-1,by omega⟩;have h2':=h2 g (by omega);simp only at h2';show qbH T (g+1) p i 0=_;rw[qbH,if_neg (by have:=qaL e1;omega),if_neg (by rw[e2];decide),if_pos e1,h1];show qbH T g { p with arrays:=p.arrays++[a] } (i+6) 0=_
  have e6:(arK a).length=6:=rfl;rw[e6] at h2';rw[h2',zAs]
  try rfl
theorem qpS {p:Pr} {ts:List KT} (hp:PP p ts) (hA:At T 0 ts):∃ j,Evt (fun f=>qbH T f ⟨[],[],[]⟩ 0 0) (.ok p j 0):=by
 cases hp with
 |mk hv ha hf=>
  rename_i v a fs t1
  have hno:qbf ((a.map arK).flatten++t1) [qe8]=false:=by
   match a,hf with
   |x::r,_=>simp[qbf,arK,qeQ,qe8]
   |[],hf=>
    cases hf with
    |nil=>rfl
    |cons h _ _=>
     cases h with
     |mk _ _ _ _=>simp[qbf,qh0,qe8]
  by_cases hne:v=[]
  ·subst hne;exact qfs a fs t1 ⟨[],[],[]⟩ 0 ha hf hA
  ·obtain ⟨f1,h1⟩:=qku (op:=0) hno hA;obtain ⟨j,f2,h2⟩:=qfs a fs t1 ⟨v,[],[]⟩ _ ha hf hA.skip
   have hA1:At T 0 ((3,qe8)::(qbp v++[sg 59]++((a.map arK).flatten++t1))):=by
    unfold varK at hA;rw[if_neg hne] at hA;exact hA
   refine ⟨j,f1+f2+1,fun f hf=>?_⟩;obtain ⟨g,rfl⟩:∃ g,f=g+1:=⟨f-1,by omega⟩;have h1':=h1 g (by omega);have h2':=h2 g (by omega);simp only at h1' h2';show qbH T (g+1) ⟨[],[],[]⟩ 0 0=_;rw[qbH,if_neg (by have:=hA1.lt;omega),if_pos (by rw[hA1.kw];decide),h1'];exact h2'
theorem qo7 {p:Pr} {ts:List KT} {T:List Tok} (hp:PP p ts) (hT:T.map kt=ts) {F:Nat} {r:Res Pr} (hr:qbH T F ⟨[],[],[]⟩ 0 0=some r):∃ j,r=.ok p j 0:=by
 obtain ⟨j,f0,h⟩:=qpS (T:=T) hp (by show (T.map kt).drop 0=ts;rw[hT];try rfl);have h1:=qkI T F (F+f0) _ 0 0 (by omega) _ hr;have h2:=h (F+f0) (by omega);simp only at h2;rw[h1] at h2;injection h2 with h2;exact ⟨j,h2⟩
end
end Go.Stele
namespace Go.Stele
section
variable {T T':List Tok} {d c z m:Nat}
end
end Go.Stele
/- The parser in plain Lean: a main function with one assignment; parentheses and signs around an operand. -/
namespace Go.Stele
section
variable {T:List Tok}
end
end Go.Stele
/- The lexer and the parser in plain Lean: parentheses around an expression that stands alone in a body. -/
namespace Go.Stele
theorem qsp {p:UInt8->Bool} {d:UInt8} (hp:p d=false) (b:List UInt8):∀ s:List UInt8,(s++d::b).takeWhile p=s.takeWhile p
 |[]=>by rw[List.nil_append,List.takeWhile_cons_of_neg (by simp[hp])];rfl
 |c::s=>by
  rw[List.cons_append]
  by_cases h:p c=true
  ·rw[List.takeWhile_cons_of_pos h,List.takeWhile_cons_of_pos h,qsp hp b s]
  ·rw[List.takeWhile_cons_of_neg h,List.takeWhile_cons_of_neg h]
theorem qsM {d:UInt8} (b:List UInt8):∀ (x s:List UInt8),d ∉ x->x.isPrefixOf (s++d::b)=x.isPrefixOf s
 |[],s,_=>by simp
 |c::x,[],h=>by
  have:¬ c=d:=fun hc=>h (by rw[hc];exact List.mem_cons_self ..)
  simp[List.isPrefixOf,this]
 |c::x,e::s,h=>by
  have:=qsM b x s fun hx=>h (zMo _ hx);simp only[List.cons_append,List.isPrefixOf,this]
theorem qnY {d:UInt8} (b:List UInt8) (c:UInt8) (s:List UInt8):∀ x:List UInt8,d ∉ x.tail->x.isPrefixOf (c::s++d::b)=x.isPrefixOf (c::s)
 |[],_=>by simp
 |a::x,h=>by
  have:=qsM b x s h;simp only[List.cons_append,List.isPrefixOf,this]
theorem qoR {d:UInt8} (b:List UInt8) (c:UInt8) (s:List UInt8):∀ L:List (List UInt8),(∀ x∈L,d ∉ x.tail)->L.find? (fun x=>x.isPrefixOf (c::s++d::b))=L.find? (fun x=>x.isPrefixOf (c::s))
 |[],_=>rfl
 |x::L,h=>by
  rw[List.find?_cons,List.find?_cons,qnY b c s x (h x zMs),qoR b c s L fun y hy=>h y (zMo _ hy)]
end Go.Stele
/- The parser in plain Lean: constructs within constructs. -/
namespace Go.Stele
section
variable {bs:List Bool}
end
end Go.Stele
namespace Go.Stele
open Go.Lib
structure Fin2 (d:UInt8):Prop where
 digit:qaB d=false
 inner:qaM d=false
 next:(qaV d || decide (cv d=95))=false
 slash:d≠47
 signs:∀ x∈signs,d ∉ x.tail
theorem qme {d:UInt8} (hd:Fin2 d) (b s:List UInt8) {n:Nat} (hn:n<=s.length):qcV (s++d::b) n=qcV s n:=by
 unfold qcV;rcases Nat.lt_or_ge n s.length with h|h
 ·rw[List.getElem?_append_left h]
 ·have:n=s.length:=by omega
  subst this;rw[List.getElem?_append_right (zNr _),List.getElem?_eq_none (zNr _)];rw[Nat.sub_self,List.getElem?_cons_zero];exact hd.next
theorem qmv {d:UInt8} (hd:Fin2 d) (b:List UInt8) (c:UInt8) (r:List UInt8) (h:c=39->2<=r.length):qay (c::r++d::b)=qay (c::r):=by
 simp only[List.cons_append,qay]
 by_cases hc:qaB c=true
 ·rw[if_pos hc,if_pos hc];unfold qb9;have e1:(c::(r++d::b)).takeWhile qaB=(c::r).takeWhile qaB:=qsp hd.digit b (c::r);have e2:=qme hd b (c::r) (qei qaB (c::r));rw[List.cons_append] at e2;rw[e1,e2]
 rw[if_neg hc,if_neg hc]
 by_cases hl:qaV c=true
 ·rw[if_pos hl,if_pos hl];unfold qdZ;have e1:(c::(r++d::b)).takeWhile qaM=(c::r).takeWhile qaM:=qsp hd.inner b (c::r);rw[e1]
 rw[if_neg hl,if_neg hl]
 by_cases hq:decide (cv c=39)=true
 ·rw[if_pos hq,if_pos hq]
  have h39:c=39:=by
   rw[zDe] at hq;apply UInt8.toNat_inj.1;have:(c.toNat:Int)=39:=hq;show c.toNat=39;omega
  match r,h h39 with
  |x::y::r,_=>rfl
  |[x],h=>simp at h
  |[],h=>simp at h
 ·rw[if_neg hq,if_neg hq];unfold qdo;have e1:=qoR b c r signs hd.signs;rw[List.cons_append] at e1;rw[e1]
theorem qtA {d:UInt8} (hd:Fin2 d) (b:List UInt8) {c:UInt8} (r:List UInt8) (hw:qbt c=false) (hsl:([47,47]:List UInt8).isPrefixOf (c::r)=false):qaY (c::r++d::b)=0/\qaY (c::r)=0:=by
 have e1:=qnY (d:=d) b c r [47,47] (by simp only[List.tail_cons,List.mem_singleton];exact hd.slash);unfold qaY;rw[e1,hsl,if_neg zDd,if_neg zDd,List.cons_append,List.takeWhile_cons_of_neg (by rw[hw];decide),List.takeWhile_cons_of_neg (by rw[hw];decide)];exact ⟨rfl,rfl⟩
def Lx (s:List UInt8) (ks:List KT):Prop:=∀ l:Int,∃ A,qkE s l=.ok A/\A.map kt=ks
theorem Lx.nil:Lx [] []:=fun l=>⟨[],ql3 l,rfl⟩
theorem Lx.white {c:UInt8} (hc:qbt c=true) {b:List UInt8} {ks:List KT} (h:Lx b ks):Lx (c::b) ks:=fun l=>by
 rw[qnX hc];exact h _
theorem Lx.whites:∀ {w b:List UInt8} {ks:List KT},(∀ c∈w,qbt c=true)->Lx b ks->Lx (w++b) ks
 |[],_,_,_,h=>h
 |c::w,_,_,hw,h=>Lx.white (hw c zMs) (Lx.whites (fun x hx=>hw x (zMo _ hx)) h)
theorem Lx.tok {x rest:List UInt8} {k:Int} {ks:List KT} (hne:x≠[]) (hs:qaY (x++rest)=0) (ht:qay (x++rest)=(⟨k,x,0⟩,x.length,0)) (h:Lx rest ks):Lx (x++rest) ((k,x)::ks):=fun l=>by
 rw[<-qfT (f:=(x++rest).length+1) (by omega),lexP,if_neg (by simp[hne]),if_pos hs,ht,if_neg (by simp)];simp only;rw[List.drop_left,qfT (by rw[zLa];omega)];obtain ⟨A,h1,h2⟩:=h (l+(((x++rest).take x.length).count 10:Nat));rw[h1];exact ⟨_,rfl,by rw[zMc,h2];try rfl⟩
theorem Lx.del {x b:List UInt8} {k l0:Int} {d:UInt8} {ks:List KT} (ha:qdF ⟨k,x,l0⟩) (hd:Fin2 d) (h:Lx (d::b) ks):Lx (x++d::b) ((k,x)::ks):=by
 obtain ⟨_,hne,hs,_,ht⟩:=ha;simp only at hne hs ht;obtain ⟨c,r,rfl⟩:=List.exists_cons_of_ne_nil hne;obtain ⟨h47,hw⟩:=qso hs
 have hw':qbt c=false:=by
  cases h0:qbt c with
  |false=>rfl
  |true=>rw[List.takeWhile_cons_of_pos h0] at hw;cases hw
 refine Lx.tok hne (qtA hd b r hw' h47).1 ?_ h;rw[qmv hd b c r ?_]
 ·exact ht
 ·rintro rfl;have h1:qbO (39::r)=(⟨k,39::r,0⟩,(39::r).length,0):=ht
  match r,h1 with
  |[],h1=>simp[qbO,qbm] at h1
  |[_],h1=>simp[qbO,qbm] at h1
  |_::_::_,_=>simp
theorem Lx.sign {c:UInt8} (hc:c∈([40,41,91,93,44,59,123,125,45]:List UInt8)) {rest:List UInt8} {ks:List KT} (h:Lx rest ks):Lx (c::rest) (sg c::ks):=by
 have h1:qaY (c::rest)=0:=by
  have:∀ c∈([40,41,91,93,44,59,123,125,45]:List UInt8),qbt c=false/\c≠47:=by decide
  exact qgU (this c hc).1 (this c hc).2
 have h2:qay (c::rest)=(⟨4,[c],0⟩,1,0):=by
  simp only[zMi,List.not_mem_nil,or_false] at hc;rcases hc with rfl|rfl|rfl|rfl|rfl|rfl|rfl|rfl|rfl <;> rfl
 exact Lx.tok (x:=[c]) (by simp) h1 h2 h
theorem Lx.bang {c:UInt8} (hc:c≠61) {r:List UInt8} {ks:List KT} (h:Lx (c::r) ks):Lx (33::c::r) (sg 33::ks):=by
 have h1:qaY (33::c::r)=0:=qgU zDd zDd
 have h2:qay (33::c::r)=(⟨4,[33],0⟩,1,0):=by
  have h3:signs.find? (fun x=>x.isPrefixOf (33::c::r))=some [33]:=by
   have h4:((61:UInt8) == c)=false:=by
    rw[beq_eq_false_iff_ne];exact fun h=>hc h.symm
   simp[signs,List.isPrefixOf,h4]
  show qdo (33::c::r)=_;unfold qdo;rw[h3]
  try rfl
 exact Lx.tok (x:=[33]) (by simp) h1 h2 h
theorem qqB:Fin2 59:=⟨by decide,by decide,by decide,by decide,by decide⟩
theorem qsZ:Fin2 41:=⟨by decide,by decide,by decide,by decide,by decide⟩
theorem qkO:Fin2 32:=⟨by decide,by decide,by decide,by decide,by decide⟩
theorem qvt:Fin2 40:=⟨by decide,by decide,by decide,by decide,by decide⟩
theorem qvH:Fin2 91:=⟨by decide,by decide,by decide,by decide,by decide⟩
theorem qvd:Fin2 93:=⟨by decide,by decide,by decide,by decide,by decide⟩
theorem qv4:Fin2 44:=⟨by decide,by decide,by decide,by decide,by decide⟩
def DelS (s:List UInt8):Prop:=∃ d b,s=d::b/\Fin2 d
theorem Lx.delS {x s:List UInt8} {k l0:Int} {ks:List KT} (ha:qdF ⟨k,x,l0⟩) (hd:DelS s) (h:Lx s ks):Lx (x++s) ((k,x)::ks):=by
 obtain ⟨d,b,rfl,hd⟩:=hd;exact Lx.del ha hd h
theorem qua:∀ x∈qch,x.length<=24/\x≠[]/\qaY x=0/\(10:UInt8) ∉ x/\qay x=(⟨3,x,0⟩,x.length,0):=by decide +kernel
theorem qk3 {x:List UInt8} (h:x∈qch):qdF ⟨3,x,0⟩:=qua x h
theorem qk9 {x:List UInt8} (h:x∈signs):qdF ⟨4,x,0⟩:=qkk x h
theorem qss:∀ s,s<6->∀ o∈qaZ s,o≠nNum/\o≠nVar/\o≠qcY/\o≠qbG:=by decide +kernel
theorem qqZ:∀ s,s<6->∀ o∈qaZ s,o≠nNeg/\o≠nNot/\qam o=s/\o∈signs:=by decide +kernel
theorem qee (s:Nat) (hs:s<6) (o:List UInt8) (ho:o∈qaZ s):o≠nNum/\o≠nVar/\o≠qcY/\o≠qbG/\o≠nNeg/\o≠nNot/\qam o=s/\o∈signs:=by
 obtain ⟨h1,h2,h3,h4⟩:=qss s hs o ho;exact ⟨h1,h2,h3,h4,qqZ s hs o ho⟩
theorem qbo {o t:List UInt8} {k:Nat} (h:k<=qam o):opnd (o,t) k=t:=by
 unfold opnd;rw[if_neg (by simp only;omega)]
theorem qn3 {o t:List UInt8} {k:Nat} (h:qam o<k):opnd (o,t) k=[40]++t++[41]:=by
 unfold opnd;rw[if_pos h]
theorem qrf (n:Nat):fE (.mk nNum n [] [])=decDigits n:=by
 rw[qmH,qj3,if_pos rfl]
theorem qq5 (s:List UInt8):fE (.mk nVar 0 s [])=s:=by
 rw[qmH,qj3,if_neg zDd,if_pos rfl]
theorem qnN (s:List UInt8) (a:Ex):fE (.mk qcY 0 s [a])=s++[91]++fE a++[93]:=by
 rw[qmH,qj3,if_neg zDd,if_neg zDd,if_pos ⟨rfl,rfl⟩]
 try rfl
theorem qiS (s:List UInt8) (l:List Ex):fE (.mk qbG 0 s l)=s++[40]++join (l.map fE) qcI++[41]:=by
 rw[qmH,qj3,if_neg zDd,if_neg zDd,if_neg (fun h=>absurd h.1 zDd),if_pos rfl,List.map_map]
 try rfl
theorem qrA (a:Ex):fE (.mk nNeg 0 [] [a])=45::opnd (exOp a,fE a) 6:=by
 rw[qmH,qj3,if_neg zDd,if_neg zDd,if_neg (fun h=>absurd h.1 zDd),if_neg zDd,if_pos ⟨rfl,rfl⟩]
 try rfl
theorem qqX (a:Ex):fE (.mk nNot 0 [] [a])=33::opnd (exOp a,fE a) 6:=by
 rw[qmH,qj3,if_neg zDd,if_neg zDd,if_neg (fun h=>absurd h.1 zDd),if_neg zDd,if_neg (fun h=>absurd h.1 zDd),if_pos ⟨rfl,rfl⟩]
 try rfl
theorem qqu {s:Nat} {o:List UInt8} (hs:s<6) (ho:o∈qaZ s) (a b:Ex):fE (.mk o 0 [] [a,b])=opnd (exOp a,fE a) (qbS s)++[32]++o++[32]++opnd (exOp b,fE b) (s+1):=by
 obtain ⟨h1,h2,h3,h4,h5,h6,h7,_⟩:=qee s hs o ho;rw[qmH,qj3,if_neg h1,if_neg h2,if_neg (fun h=>h3 h.1),if_neg h4,if_neg (fun h=>h5 h.1),if_neg (fun h=>h6 h.1),if_pos (by rfl),h7]
 try rfl
theorem qiP {s:List UInt8} (h:qc1 s):∃ c r,s=c::r/\c≠61:=by
 obtain ⟨_,hne,_,_,ht⟩:=h;obtain ⟨c,r,hr⟩:=List.exists_cons_of_ne_nil hne;simp only at hr ht;refine ⟨c,r,hr,?_⟩;rintro rfl;rw[hr] at ht;have h1:qdo (61::r)=(⟨2,61::r,0⟩,(61::r).length,0):=ht;unfold qdo at h1;split at h1
 ·injection h1 with h1 _;injection h1 with h1 _ _;exact absurd h1 zDd
 ·injection h1 with h1 _;injection h1 with h1 _ _;exact absurd h1 zDd
theorem qrF:∀ (n:Nat) (e:Ex),nEx e<=n->∀ (k:Nat) (ts:List KT) (d:Nat),k<=6->PE e k ts d->∃ c r,opnd (exOp e,fE e) k=c::r/\c≠61
 |0,.mk _ _ _ _,hn=>by rw[nEx] at hn;omega
 |n+1,e,hn=>by
  intro k ts d hk h
  cases h with
  |num h=>
   rename_i m
   show ∃ c r,opnd (nNum,fE _) k=_/\_;rw[qbo (by rw[show qam nNum=7 from rfl];omega),qrf];obtain ⟨c,r,hr⟩:=List.exists_cons_of_ne_nil (qcF m);refine ⟨c,r,hr,?_⟩;rintro rfl;have:=qfR m 61 (by rw[hr];exact List.mem_cons_self ..)
   exact absurd this zDd
  |var h=>
   show ∃ c r,opnd (nVar,fE _) k=_/\_;rw[qbo (by rw[show qam nVar=7 from rfl];omega),qq5]
   exact qiP h
  |elem h ha=>
   show ∃ c r,opnd (qcY,fE _) k=_/\_;rw[qbo (by rw[show qam qcY=7 from rfl];omega),qnN];obtain ⟨c,r,rfl,hc⟩:=qiP h
   exact ⟨c,_,rfl,hc⟩
  |call h ha=>
   show ∃ c r,opnd (qbG,fE _) k=_/\_;rw[qbo (by rw[show qam qbG=7 from rfl];omega),qiS];obtain ⟨c,r,rfl,hc⟩:=qiP h
   exact ⟨c,_,rfl,hc⟩
  |neg ha=>
   show ∃ c r,opnd (nNeg,fE _) k=_/\_;rw[qbo (by rw[show qam nNeg=6 from rfl];omega),qrA]
   exact ⟨_,_,rfl,by decide⟩
  |not ha=>
   show ∃ c r,opnd (nNot,fE _) k=_/\_;rw[qbo (by rw[show qam nNot=6 from rfl];omega),qqX]
   exact ⟨_,_,rfl,by decide⟩
  |par hs ho hk2 ha hb=>
   obtain ⟨_,_,_,_,_,_,h7,_⟩:=qee _ hs _ ho;simp only[exOp];rw[qn3 (by omega)]
   exact ⟨_,_,rfl,by decide⟩
  |bin hs ho hk2 ha hb=>
   obtain ⟨_,_,_,_,_,_,h7,_⟩:=qee _ hs _ ho;simp only[nEx,nExs] at hn;simp only[exOp];rw[qbo (by omega),qqu hs ho];obtain ⟨c,r,hr,hc⟩:=qrF n _ (by omega) _ _ _ (by unfold qbS;split <;> omega) ha;rw[hr];exact ⟨c,_,rfl,hc⟩
def LE (e:Ex):Prop:=∀ (k:Nat) (ts:List KT) (d:Nat) (rest:List UInt8) (ks:List KT),k<=6->PE e k ts d->DelS rest->Lx rest ks->Lx (opnd (exOp e,fE e) k++rest) (ts++ks)
theorem qbs {d:UInt8} (hd:Fin2 d) (b:List UInt8):DelS (d::b):=⟨d,b,rfl,hd⟩
theorem LE.zero {e:Ex} (h:LE e) {ts:List KT} {d:Nat} {rest:List UInt8} {ks:List KT} (hp:PE e 0 ts d) (hd:DelS rest) (hl:Lx rest ks):Lx (fE e++rest) (ts++ks):=by
 have:=h 0 ts d rest ks (by omega) hp hd hl
 rwa [qbo (Nat.zero_le _)] at this
theorem qio (x y:List UInt8) (r:List (List UInt8)):join (x::y::r) qcI=x++(44::32::join (y::r) qcI):=by
 have h:join (x::y::r) qcI=x++qcI++join (y::r) qcI:=by simp[join]
 rw[h,zAs]
 try rfl
theorem qk6:∀ (l:List Ex) (ts:List KT) (d:Nat) (rest:List UInt8) (ks:List KT),(∀ x∈l,LE x)->PEs l ts d->DelS rest->Lx rest ks->Lx (join (l.map fE) qcI++rest) (ts++ks)
 |[],ts,d,rest,ks,_,hp,_,h=>by
  cases hp with
  |nil=>exact h
 |a::l,ts,d,rest,ks,hl,hp,hd,h=>by
  cases hp with
  |one ha=>
   rw[show List.map fE [a]=[fE a] from rfl,join_one]
   exact (hl a zMs).zero ha hd h
  |@more _ b l t1 t2 d1 d2 ha hr=>
   have h2:=qk6 (b::l) t2 d2 rest ks (fun x hx=>hl x (zMo _ hx)) hr hd h;rw[zMc,zMc,qio,zAs,zAs];refine (hl a zMs).zero ha (qbs qv4 _) ?_;exact Lx.sign zDd (Lx.white zDd h2)
theorem qjm:∀ (n:Nat) (e:Ex),nEx e<=n->LE e
 |0,.mk _ _ _ _,hn=>by rw[nEx] at hn;omega
 |n+1,e,hn=>by
  intro k ts d rest ks hk hp hd hl
  have bin:∀ {s:Nat} {o:List UInt8} {a b:Ex} {t1 t2:List KT} {d1 d2:Nat} {rest:List UInt8} {ks:List KT},nEx (.mk o 0 [] [a,b])<=n+1->s<6->o∈qaZ s->PE a (qbS s) t1 d1->PE b (s+1) t2 d2->DelS rest->Lx rest ks ->
    Lx (fE (.mk o 0 [] [a,b])++rest) ((t1++(4,o)::t2)++ks):=by
   intro s o a b t1 t2 d1 d2 rest ks hn hs ho pa pb hd hl;obtain ⟨_,_,_,_,_,_,_,h8⟩:=qee s hs o ho;simp only[nEx,nExs] at hn;rw[qqu hs ho];have h2:=qjm n b (by omega) (s+1) t2 d2 rest ks (by omega) pb hd hl;have h3:Lx (o++32::(opnd (exOp b,fE b) (s+1)++rest)) ((4,o)::(t2++ks)):=Lx.del (qk9 h8) qkO (Lx.white zDd h2);have h4:=qjm n a (by omega) (qbS s) t1 d1 (32::(o++32::(opnd (exOp b,fE b) (s+1)++rest))) _ (by unfold qbS;split <;> omega) pa (qbs qkO _) (Lx.white zDd h3);simpa only[zAs,List.cons_append,List.nil_append] using h4
  cases hp with
  |num h=>
   show Lx (opnd (nNum,fE _) k++rest) _;rw[qbo (by rw[show qam nNum=7 from rfl];omega),qrf]
   exact Lx.delS (qhe h 0) hd hl
  |var h=>
   show Lx (opnd (nVar,fE _) k++rest) _;rw[qbo (by rw[show qam nVar=7 from rfl];omega),qq5]
   exact Lx.delS h hd hl
  |elem h ha=>
   rename_i s a t1 d1
   simp only[nEx,nExs] at hn;show Lx (opnd (qcY,fE _) k++rest) _;rw[qbo (by rw[show qam qcY=7 from rfl];omega),qnN];have h1:=(qjm n a (by omega)).zero ha (qbs qvd rest) (Lx.sign zDd hl);have h2:=Lx.del h qvH (Lx.sign zDd h1)
   simpa only[zAs,List.cons_append,List.nil_append] using h2
  |call h ha=>
   rename_i s l t1 d1
   simp only[nEx] at hn;show Lx (opnd (qbG,fE _) k++rest) _;rw[qbo (by rw[show qam qbG=7 from rfl];omega),qiS];have h1:=qk6 l t1 d1 (41::rest) _ (fun x hx=>qjm n x (by have:=qfL hx;omega)) ha (qbs qsZ rest) (Lx.sign zDd hl);have h2:=Lx.del h qvt (Lx.sign zDd h1)
   simpa only[zAs,List.cons_append,List.nil_append] using h2
  |neg ha=>
   simp only[nEx,nExs] at hn;show Lx (opnd (nNeg,fE _) k++rest) _;rw[qbo (by rw[show qam nNeg=6 from rfl];omega),qrA]
   exact Lx.sign zDd (qjm n _ (by omega) 6 _ _ rest ks (by omega) ha hd hl)
  |not ha=>
   rename_i a t1 d1
   simp only[nEx,nExs] at hn;show Lx (opnd (nNot,fE _) k++rest) _;rw[qbo (by rw[show qam nNot=6 from rfl];omega),qqX];have h1:=qjm n a (by omega) 6 _ _ rest ks (by omega) ha hd hl;obtain ⟨c,r,hr,hc⟩:=qrF _ a (zNr _) _ _ _ (by omega) ha;rw[hr] at h1 ⊢
   exact Lx.bang hc h1
  |par hs ho hk2 ha hb=>
   obtain ⟨_,_,_,_,_,_,h7,_⟩:=qee _ hs _ ho;have h1:=bin hn hs ho ha hb (qbs qsZ rest) (Lx.sign zDd hl);simp only[exOp];rw[qn3 (by omega)];have h2:=Lx.sign (c:=40) zDd h1
   simpa only[zAs,List.cons_append,List.nil_append] using h2
  |bin hs ho hk2 ha hb=>
   obtain ⟨_,_,_,_,_,_,h7,_⟩:=qee _ hs _ ho;simp only[exOp];rw[qbo (by omega)];exact bin hn hs ho ha hb hd hl
theorem le (e:Ex):LE e:=qjm _ e (zNr _)
/-! ### Statements -/
def Ind (ind:List UInt8):Prop:=∀ c∈ind,qbt c=true
theorem Ind.two {ind:List UInt8} (h:Ind ind):Ind (ind2 ind):=fun c hc=>by
 rcases List.mem_append.1 hc with h1|h1
 ·exact h c h1
 ·simp only[zMi,List.not_mem_nil,or_false,or_self] at h1;subst h1;decide
theorem qbM (e:Ex):fOne [e]=fE e:=by
 unfold fOne;rw[show List.map fE [e]=[fE e] from rfl,join_one]
theorem kw {x b:List UInt8} {ks:List KT} (hx:x∈qch) (h:Lx b ks):Lx (x++32::b) ((3,x)::ks):=Lx.del (qk3 hx) qkO (Lx.white zDd h)
theorem ends {rest:List UInt8} {ks:List KT} (h:Lx rest ks):Lx (59::10::rest) (sg 59::ks):=Lx.sign zDd (Lx.white zDd h)
theorem qr1 {rest:List UInt8} {ks:List KT} (h:Lx rest ks):Lx (32::123::10::rest) (sg 123::ks):=Lx.white zDd (Lx.sign zDd (Lx.white zDd h))
theorem que {rest:List UInt8} {ks:List KT} (h:Lx rest ks):Lx (61::32::rest) (sg 61::ks):=Lx.del (x:=[61]) (qk9 zDd) qkO (Lx.white zDd h)
theorem qux:∀ (n:Nat),(∀ (s:Sm),nSm s<=n->∀ (ts:List KT) (d:Nat) (ind rest:List UInt8) (ks:List KT),Ind ind->PS s ts d->Lx rest ks->Lx (fS ind s++rest) (ts++ks)) /\
  (∀ (l:List Sm),nSms l<=n->∀ (ts:List KT) (d:Nat) (ind rest:List UInt8) (ks:List KT),Ind ind->PSs l ts d->Lx rest ks->Lx (fSs ind l++rest) (ts++ks))
 |0=>by
  refine ⟨fun s hn=>?_,fun l hn ts d ind rest ks hi hp h=>?_⟩
  ·obtain ⟨k,a,b,c,d,e⟩:=s;rw[nSm] at hn;omega
  ·cases hp with
   |nil=>exact h
   |cons h1 h2=>
    rename_i s _ _ _ _ _
    obtain ⟨k,a,b,c,d,e⟩:=s;rw[nSms,nSm] at hn
    omega
 |n+1=>by
  obtain ⟨hS,hL⟩:=qux n
  have hS':∀ (s:Sm),nSm s<=n+1->∀ (ts:List KT) (d:Nat) (ind rest:List UInt8) (ks:List KT),Ind ind->PS s ts d->Lx rest ks->Lx (fS ind s++rest) (ts++ks):=by
   intro s hn ts d ind rest ks hi hp h;have hi2:=hi.two
   cases hp with
   |assign hs he=>
    rename_i s e t1
    have h1:=Lx.whites hi (Lx.del hs qkO (Lx.white zDd (que ((le e).zero he (qbs qqB _) (ends h)))));rw[qfB,qdv,if_pos rfl,qbM]
    simpa only[zAs,List.cons_append,List.nil_append] using h1
   |store hs hx he=>
    rename_i s x e t1 t2 d1 d2
    have h1:=Lx.whites hi (Lx.del hs qvH (Lx.sign zDd ((le x).zero hx (qbs qvd _) (Lx.sign zDd (Lx.white (c:=32) zDd (que ((le e).zero he (qbs qqB _) (ends h))))))));rw[qfB,qdv,if_neg zDd,if_pos rfl,qbM,qbM]
    simpa only[zAs,List.cons_append,List.nil_append] using h1
   |call hs hl=>
    rename_i s l t1 d1
    have h1:=Lx.whites hi (Lx.del hs qvt (Lx.sign zDd (qk6 l t1 d1 _ _ (fun x _=>le x) hl (qbs qsZ _) (Lx.sign zDd (ends h)))));rw[qfB,qdv,if_neg zDd,if_neg zDd,if_pos rfl,qbM,qiS]
    simpa only[zAs,List.cons_append,List.nil_append] using h1
   |ret he=>
    rename_i e t1
    have h1:=Lx.whites hi (kw (x:=qeh) zDd ((le e).zero he (qbs qqB _) (ends h)));rw[qfB,qdv,if_neg zDd,if_neg zDd,if_neg zDd,if_pos rfl,qbM]
    simpa only[qeh,zAs,List.cons_append,List.nil_append] using h1
   |halt=>
    have h1:=Lx.whites hi (Lx.del (qk3 (x:=qjH) zDd) qqB (ends h));rw[qfB,qdv,if_neg zDd,if_neg zDd,if_neg zDd,if_neg zDd,if_pos rfl]
    simpa only[qjH,zAs,List.cons_append,List.nil_append] using h1
   |ifElse he g1 g2 hne=>
    rename_i e th el t0 t1 t2 d0 d1 d2
    simp only[nSm] at hn;have k1:Lx (ind++125::10::rest) (sg 125::ks):=Lx.whites hi (Lx.sign zDd (Lx.white zDd h));have k2:=hL el (by omega) t2 d2 (ind2 ind) _ _ hi2 g2 k1;have k3:=Lx.whites hi (Lx.sign (c:=125) zDd (Lx.white (c:=32) zDd (Lx.del (qk3 (x:=qe2) zDd) qkO (qr1 k2))));have k4:=hL th (by omega) t1 d1 (ind2 ind) _ _ hi2 g1 k3;have h1:=Lx.whites hi (kw (x:=kwIf) zDd ((le e).zero he (qbs qkO _) (qr1 k4)));have hem:el.isEmpty=false:=by cases el <;> simp_all
    rw[qfB,qdv,if_neg zDd,if_neg zDd,if_neg zDd,if_neg zDd,if_neg zDd,if_pos zDd,if_neg zDd,qbM,hem,if_neg zDd]
    simpa only[kwIf,qe2,zAs,List.cons_append,List.nil_append] using h1
   |ifThen he g1=>
    rename_i e th t0 t1 d0 d1
    simp only[nSm] at hn;have k1:Lx (ind++125::10::rest) (sg 125::ks):=Lx.whites hi (Lx.sign zDd (Lx.white zDd h));have k4:=hL th (by omega) t1 d1 (ind2 ind) _ _ hi2 g1 k1;have h1:=Lx.whites hi (kw (x:=kwIf) zDd ((le e).zero he (qbs qkO _) (qr1 k4)));rw[qfB,qdv,if_neg zDd,if_neg zDd,if_neg zDd,if_neg zDd,if_neg zDd,if_pos zDd,if_neg zDd,qbM,if_pos (by rfl)]
    simpa only[kwIf,zAs,List.cons_append,List.nil_append,zLz] using h1
   |«while» he g1=>
    rename_i e th t0 t1 d0 d1
    simp only[nSm] at hn;have k1:Lx (ind++125::10::rest) (sg 125::ks):=Lx.whites hi (Lx.sign zDd (Lx.white zDd h));have k4:=hL th (by omega) t1 d1 (ind2 ind) _ _ hi2 g1 k1;have h1:=Lx.whites hi (kw (x:=qfk) zDd ((le e).zero he (qbs qkO _) (qr1 k4)));rw[qfB,qdv,if_neg zDd,if_neg zDd,if_neg zDd,if_neg zDd,if_neg zDd,if_pos zDd,if_pos rfl,qbM,if_pos (by rfl)];simpa only[qfk,zAs,List.cons_append,List.nil_append,zLz] using h1
  refine ⟨hS',fun l hn ts d ind rest ks hi hp h=>?_⟩
  cases hp with
  |nil=>exact h
  |cons h1 h2=>
   rename_i s l t1 t2 d1 d2
   have hpos:0<nSm s:=by obtain ⟨k,a,b,c,d,e⟩:=s;rw[nSm];omega
   rw[nSms] at hn;rw[fSs,zAs,zAs];exact hS' s (by omega) t1 d1 ind _ _ hi h1 (hL l (by omega) t2 d2 ind rest ks hi h2 h)
theorem quM {l:List Sm} {ts:List KT} {d:Nat} {ind rest:List UInt8} {ks:List KT} (hi:Ind ind) (hp:PSs l ts d) (h:Lx rest ks):Lx (fSs ind l++rest) (ts++ks):=(qux _).2 l (zNr _) ts d ind rest ks hi hp h
/-! ### Declarations -/
theorem qjB:∀ (l:List (List UInt8)) (rest:List UInt8) (ks:List KT),qeG l->DelS rest->Lx rest ks->Lx (join l qcI++rest) (qbp l++ks)
 |[],rest,ks,_,_,h=>h
 |[a],rest,ks,ha,hd,h=>by
  rw[join_one]
  exact Lx.delS (ha a zMs) hd h
 |a::b::l,rest,ks,ha,hd,h=>by
  have h2:=qjB (b::l) rest ks (fun x hx=>ha x (zMo _ hx)) hd h;rw[qio,zAs];exact Lx.del (ha a zMs) qv4 (Lx.sign zDd (Lx.white zDd h2))
theorem qoO {l:List (List UInt8)} {rest:List UInt8} {ks:List KT} (hl:qeG l) (h:Lx rest ks):Lx ((if l=[] then [] else qia l)++rest) (varK l++ks):=by
 unfold varK;split
 ·exact h
 ·have h1:=kw (x:=qe8) zDd (qjB l _ _ hl (qbs qqB _) (ends h));unfold qia;simpa only[qe8,zAs,List.cons_append,List.nil_append] using h1
theorem qwH {a:FnD} {ts:List KT} {d:Nat} {rest:List UInt8} {ks:List KT} (hp:PF a ts d) (h:Lx rest ks):Lx (fFn a++rest) (ts++ks):=by
 cases hp with
 |mk hn hps hls hb=>
  rename_i nm ps ls b t1 d1
  have k1:Lx (125::10::rest) (sg 125::ks):=Lx.sign zDd (Lx.white zDd h);have k2:=quM (ind:=[32,32]) (by intro c hc;simp only[zMi,List.not_mem_nil,or_false,or_self] at hc;subst hc;decide) hb k1
  have k3:Lx ((if ls=[] then [] else [32,32]++qia ls)++(fSs [32,32] b++125::10::rest)) (varK ls++(t1++sg 125::ks)):=by
   have:=qoO hls k2;split
   ·rename_i hls0
    rwa [if_pos hls0] at this
   ·rename_i hls0
    rw[if_neg hls0] at this;rw[zAs];exact Lx.white zDd (Lx.white zDd this)
  have k4:=qjB ps _ _ hps (qbs qsZ _) (Lx.sign zDd (qr1 k3));have h1:=kw (x:=qh0) zDd (Lx.del hn qvt (Lx.sign zDd k4));unfold fFn;simpa only[qh0,zAs,List.cons_append,List.nil_append] using h1
theorem qwC {a:Ar} {rest:List UInt8} {ks:List KT} (ha:qc1 a.name/\a.size<4294967296) (h:Lx rest ks):Lx (fAr a++rest) (arK a++ks):=by
 have h1:=kw (x:=qeQ) zDd (Lx.del ha.1 qvH (Lx.sign zDd (Lx.del (qhe ha.2 0) qvd (Lx.sign zDd (ends h)))));unfold fAr arK;simpa only[qeQ,zAs,List.cons_append,List.nil_append] using h1
theorem qqK:∀ (l:List Ar) {rest:List UInt8} {ks:List KT},qpf l->Lx rest ks->Lx ((l.map fAr).flatten++rest) ((l.map arK).flatten++ks)
 |[],_,_,_,h=>h
 |a::l,_,_,hl,h=>by
  rw[zMc,zMc,List.flatten_cons,List.flatten_cons,zAs,zAs];exact qwC (hl a zMs) (qqK l (fun x hx=>hl x (zMo _ hx)) h)
theorem qqE:∀ (l:List FnD) {ts:List KT} {rest:List UInt8} {ks:List KT},PFs l ts->Lx rest ks->Lx ((l.map fFn).flatten++rest) (ts++ks)
 |[],_,_,_,hp,h=>by
  cases hp with
  |nil=>exact h
 |a::l,_,_,_,hp,h=>by
  cases hp with
  |cons hf hd hl=>
   rw[zMc,List.flatten_cons,zAs,zAs];exact qwH hf (qqE l hl h)
theorem qrU {p:Pr} {ts:List KT} (hp:PP p ts):Lx (qbx p) ts:=by
 cases hp with
 |mk hv ha hf=>
  have h1:=qoO hv (qqK _ ha (qqE _ hf Lx.nil));unfold qbx;simpa only[zAs,zLz] using h1
end Go.Stele
namespace Go.Stele
open Go.Lib
def qdY (s:List UInt8):Pr×Int:=match qkE s 1 with
 |.error (l,e)=>(⟨[],[],[]⟩,e)
 |.ok T=>match qbH T (10 * T.length+20) ⟨[],[],[]⟩ 0 0 with
  |some (.ok p _ _)=>(p,0)
  |some (.err l e)=>(⟨[],[],[]⟩,e)
  |none=>(⟨[],[],[]⟩,0)
def ql8 (p:Pr) (inp:List Nat) (steps:Int):OutI:=if 100000000<steps then ⟨[],6,0⟩ else if steps<=0 then ⟨[],13,0⟩ else runI p inp steps.toNat
def qhf (s:List UInt8) (inp:List Nat) (steps:Int):OutI:=
 if (qdY s).2≠0 then ⟨[],(qdY s).2,0⟩ else if qbI (qdY s).1≠0 then ⟨[],qbI (qdY s).1,0⟩ else ql8 (qdY s).1 inp steps
/-! ### Limits -/
/-! ### Input -/
/-! ### The given sources -/
/-! ### Unused declarations -/
theorem qqF (l:List (List UInt8)):l.length<=(qbp l).length:=by rw[qfQ];omega
theorem qsL (l:List (List UInt8)):l.length<=(varK l).length:=by 
 rw[qim]
 by_cases h:l=[]
 ·rw[h];exact Nat.zero_le _
 ·rw[if_neg h];omega
end Go.Stele
namespace Go.Stele
/-! ### Functions -/
theorem qa6:∀ (l k:List Nm),qb1 k l=0->l.Nodup/\∀ s∈l,s ∉ k/\isNm s=true
 |[],k,_=>⟨List.nodup_nil,fun s hs=>(List.not_mem_nil hs).elim⟩
 |s::l,k,h=>by
  rw[qb1] at h;split at h
  ·cases h
  rename_i h1
  split at h
  ·cases h
  rename_i h2
  obtain ⟨g1,g2⟩:=qa6 l (s::k) h;refine ⟨List.nodup_cons.2 ⟨fun hm=>(g2 s hm).1 zMs,g1⟩,fun x hx=>?_⟩;rcases zMi.1 hx with rfl|hx
  ·exact ⟨h2,by simpa using h1⟩
  ·exact ⟨fun hm=>(g2 x hx).1 (zMo _ hm),(g2 x hx).2⟩
end Go.Stele
namespace Go.Stele
theorem qs0 {s:Nm} (h:isNm s=true):(46:UInt8) ∉ s:=by
 unfold isNm at h;rw[zBa] at h;have h2:=h.2
 cases s with
 |nil=>exact List.not_mem_nil
 |cons c r=>
  simp only[zBa] at h2;intro hm;rcases zMi.1 hm with rfl|hm
  ·exact absurd h2.1 zDd
  ·exact absurd (List.all_eq_true.1 h2.2 46 hm) zDd
theorem qjO:∀ (a b x y:Nm),(46:UInt8) ∉ a->(46:UInt8) ∉ b->a++46::x=b++46::y->a=b/\x=y
 |[],[],x,y,_,_,h=>by
  injection h with _ h
  exact ⟨rfl,h⟩
 |[],d::b,x,y,_,hb,h=>by
  injection h with h1 _
  exact absurd (h1▸List.mem_cons_self ..) hb
 |c::a,[],x,y,ha,_,h=>by
  injection h with h1 _
  exact absurd (h1▸List.mem_cons_self ..) ha
 |c::a,d::b,x,y,ha,hb,h=>by
  injection h with h1 h2;obtain ⟨e1,e2⟩:=qjO a b x y (fun g=>ha (zMo _ g)) (fun g=>hb (zMo _ g)) h2;exact ⟨by rw[h1,e1],e2⟩
theorem qmu {fs:List FnD} (h:(fs.map (·.name)).Nodup) {f g:FnD} (hf:f∈fs) (hg:g∈fs) (he:f.name=g.name):f=g:=by
 induction fs with
 |nil=>cases hf
 |cons a l ih=>
  rw[zMc,List.nodup_cons] at h;rcases zMi.1 hf with rfl|hf'
  ·rcases zMi.1 hg with rfl|hg'
   ·rfl
   ·exact absurd (List.mem_map.2 ⟨g,hg',he.symm⟩) h.1
  ·rcases zMi.1 hg with rfl|hg'
   ·exact absurd (List.mem_map.2 ⟨f,hf',he⟩) h.1
   ·exact ih h.2 hf' hg'
theorem qqm {vars arrays:List Nm} {fs:List FnD} (h:qb1 [] (vars++arrays++fs.map (·.name))=0) {f:FnD} (hf:f∈fs) (name:Nm):f.name++[46]++name∈qan vars fs ↔ name∈f.params++f.locals:=by
 obtain ⟨h1,h2⟩:=qa6 _ _ h;have hd:∀ g∈fs,(46:UInt8) ∉ g.name:=fun g hg=>qs0 (h2 _ (List.mem_append.2 (.inr (List.mem_map.2 ⟨g,hg,rfl⟩)))).2;unfold qan;rw[List.mem_append];constructor
 ·rintro (g|g)
  ·have:=qs0 (h2 _ (List.mem_append.2 (.inl (List.mem_append.2 (.inl g))))).2;exact absurd (by simp) this
  ·obtain ⟨l,g1,g2⟩:=List.mem_flatten.1 g;obtain ⟨k,g3,rfl⟩:=List.mem_map.1 g1;obtain ⟨x,g4,g5⟩:=List.mem_map.1 g2;have g6:k.name++46::x=f.name++46::name:=by simpa using g5
   obtain ⟨e1,rfl⟩:=qjO _ _ _ _ (hd k g3) (hd f hf) g6;rw[<-qmu (List.nodup_append.1 h1).2.1 g3 hf e1];exact g4
 ·intro g;exact .inr (List.mem_flatten.2 ⟨_,List.mem_map.2 ⟨f,hf,rfl⟩,List.mem_map.2 ⟨name,g,rfl⟩⟩)
theorem qwT {vars arrays:List Nm} {fs:List FnD} (h:qb1 [] (vars++arrays++fs.map (·.name))=0) {f:FnD} (hf:f∈fs) (name:Nm):(if f.name++[46]++name∈qan vars fs then f.name++[46]++name else name)=keyI f name:=by
 unfold keyI;simp only[qqm h hf,List.mem_append]
theorem qkz {vars arrays:List Nm} {fs:List FnD} {known:List FSum} {f:FnD} (hf:f∈fs) {name:Nm} (h:qcA (envF vars arrays (fs.map (·.name)) known f) name=0):keyI f name∈qan vars fs:=by
 unfold qcA at h;unfold keyI qan;rw[List.mem_append];split at h
 ·rename_i h1
  split
  ·rename_i h2
   exact .inr (List.mem_flatten.2 ⟨_,List.mem_map.2 ⟨f,hf,rfl⟩,List.mem_map.2 ⟨name,List.mem_append.2 h2,rfl⟩⟩)
  ·rename_i h2
   rcases h1 with h1|h1
   ·exact .inl h1
   ·exact absurd (List.mem_append.1 h1) h2
 ·split at h <;> cases h
theorem qvS {P:Pr} {f:FnD} (h:(P.funcs.map (·.name)).Nodup) (hf:f∈P.funcs):fnI P f.name=f:=by
 unfold fnI
 cases hg:P.funcs.find? fun g=>decide (g.name=f.name) with
 |none=>exact absurd (List.find?_eq_none.1 hg f hf) (by simp)
 |some g=>exact qmu h (List.mem_of_find?_eq_some hg) hf (of_decide_eq_true (List.find?_some (p:=fun g:FnD=>decide (g.name=f.name)) hg))
end Go.Stele
namespace Go.Stele
open Go.Lib
structure CC where
 sc:Nm->Wd
 ar:Nm->Wd
 t0:Wd
 t1:Wd
 t2:Wd
def qcU (c:CC):List Wd:=[c.t2,[33],c.t1,[33],c.t2,[64],c.t1,[64],[60]]
def opW (c:CC) (op:Nm) (num:Nat) (name:Nm) (l:List (List Wd)):List Wd:=
 if op=nNum then [decDigits num]
 else if op=nVar then [c.sc name,[64]]
 else if op=qcY then c.ar name::(l.headD []++[[43],[64]])
 else if op=qbG then l.flatten++(if name=[105,110] then [[44]] else if name=[111,117,116] then [[46],[48]] else [[38,102,95]++name,[58]])
 else if op=nNeg then [48]::(l.headD []++[[45]])
 else if op=nNot then l.headD []++[[49],[60]]
 else if op=[33,61] then [48]::(l.headD []++(l.drop 1).headD []++[[94],[60]])
 else if op=[38,38] then [48]::(l.headD []++[[60],[48]]++(l.drop 1).headD []++[[60],[42]])
 else if op=[124,124] then [48]::[48]::(l.headD []++[[60],[48]]++(l.drop 1).headD []++[[60],[43],[60]])
 else l.headD []++(l.drop 1).headD []++(if op=[62] then qcU c else if op=[60,61] then qcU c++[[49],[94]] else if op=[62,61] then [[60],[49],[94]] else if op=[61,61] then [[94],[49],[60]] else [op])
mutual
def exW (c:CC):Ex->List Wd
 |.mk op num name args=>opW c op num name (exWl c args)
def exWl (c:CC):List Ex->List (List Wd)
 |[]=>[]
 |x::l=>exW c x::exWl c l
end
def labW (n:Nat):Wd:=106::decDigits n
mutual
def stW (c:CC):Nat->Sm->List Wd×Nat
 |n,.mk kind name index value thn els=>
  if kind=1 then (exW c (value.headD default)++[c.sc name,[33]],n)
  else if kind=2 then (exW c (value.headD default)++c.ar name::(exW c (index.headD default)++[[43],[33]]),n)
  else if kind=3 then
   (match els with
   |[]=>(exW c (value.headD default)++[38::labW n,[63]]++(stWs c (n+1) thn).1++[labW n++[58]],(stWs c (n+1) thn).2)
   |_::_=>(exW c (value.headD default)++[38::labW n,[63]]++(stWs c (n+2) thn).1++[[48],38::labW (n+1),[63],labW n++[58]]++(stWs c (stWs c (n+2) thn).2 els).1++[labW (n+1)++[58]],(stWs c (stWs c (n+2) thn).2 els).2))
  else if kind=4 then ([labW n++[58]]++exW c (value.headD default)++[38::labW (n+1),[63]]++(stWs c (n+2) thn).1++[[48],38::labW n,[63],labW (n+1)++[58]],(stWs c (n+2) thn).2)
  else if kind=5 then (exW c (value.headD default)++[[59]],n)
  else if kind=6 then (exW c (value.headD default)++[c.t0,[33]],n)
  else if kind=7 then ([[36]],n)
  else ([],n)
def stWs (c:CC):Nat->List Sm->List Wd×Nat
 |n,[]=>([],n)
 |n,s::l=>((stW c n s).1++(stWs c (stW c n s).2 l).1,(stWs c (stW c n s).2 l).2)
end
def qgF (l:List Nm) (S:Int) (k:Nm):Int:=if k∈l then S+3+(l.idxOf k:Nat) else 0
def keyC (l:List Nm) (own name:Nm):Nm:=if own++[46]++name∈l then own++[46]++name else name
def arrA:Int->List (Nm×Int)->Nm->Int
 |_,[],_=>0
 |at',(x,n)::r,name=>if x=name then at' else arrA (at'+n) r name
structure Org where
 code:Int
 scalars:Int
 arrays:Int
def ccF (vars:List Nm) (arrays:List (Nm×Int)) (fs:List FnD) (o:Org) (own:Nm):CC:=
 ⟨fun s=>itoa (qgF (qan vars fs) o.scalars (keyC (qan vars fs) own s)),fun s=>itoa (arrA o.arrays arrays s),itoa o.scalars,itoa (o.scalars+1),itoa (o.scalars+2)⟩
def fnW (c:CC) (n:Nat) (f:FnD):List Wd×Nat:=
 ([[102,95]++f.name++[58]]++f.params.reverse.flatMap (fun p=>[c.sc p,[33]])++(stWs c n f.body).1++[[48],[59]],(stWs c n f.body).2)
def fnWs (cc:Nm->CC):Nat->List FnD->List Wd×Nat
 |n,[]=>([],n)
 |n,f::l=>((fnW (cc f.name) n f).1++(fnWs cc (fnW (cc f.name) n f).2 l).1,(fnWs cc (fnW (cc f.name) n f).2 l).2)
def prW (vars:List Nm) (arrays:List (Nm×Int)) (fs:List FnD) (o:Org):List Wd:=
 [[38,102,95,109,97,105,110],[58],itoa o.scalars,[33],[36]]++(fnWs (ccF vars arrays fs o) 0 fs).1
def qeP (a n:Int):Bool:=decide (0<=a/\a<=262144-n)
def qhR (a n b m:Int):Bool:=decide (0<n/\0<m/\a<b+m/\b<a+n)
def qgE (vars:List Nm) (arrays:List (Nm×Int)) (fs:List FnD) (o:Org):Bool:=
 let total:=(arrays.map (·.2)).sum
 let n:Int:=3+(qan vars fs).length
 qeP o.scalars n && qeP o.code 40000 && qeP o.arrays total && !qhR o.code 40000 o.scalars n && !qhR o.arrays total o.scalars n && !qhR o.arrays total o.code 40000
def cmpP (vars:List Nm) (arrays:List (Nm×Int)) (fs:List FnD) (o:Org):Except Int Wd:=
 if qc2 vars arrays fs≠0 then .error (qc2 vars arrays fs)
 else if qgE vars arrays fs o=false then .error 2
 else match asmP (join (prW vars arrays fs o) [32]) o.code with
  |.error e=>.error e.2
  |.ok _=>.ok (join (prW vars arrays fs o) [32])
end Go.Stele
namespace Go.Stele
def Lt (v:Nat):Prop:=v<4294967296
mutual
def numE:Ex->Prop
 |.mk op num name args=>Lt num/\qbg args
def qbg:List Ex->Prop
 |[]=>True
 |x::l=>numE x/\qbg l
end
mutual
def numS:Sm->Prop
 |.mk kind name index value thn els=>qbg index/\qbg value/\qb7 thn/\qb7 els
def qb7:List Sm->Prop
 |[]=>True
 |x::l=>numS x/\qb7 l
end
theorem qmL:∀ {l:List Ex} {x:Ex},qbg l->x∈l->numE x
 |a::l,x,h,hx=>by
  rcases zMi.1 hx with rfl|hx
  ·exact h.1
  ·exact qmL h.2 hx
theorem qep:∀ {l:List Sm} {x:Sm},qb7 l->x∈l->numS x
 |a::l,x,h,hx=>by
  rcases zMi.1 hx with rfl|hx
  ·exact h.1
  ·exact qep h.2 hx
theorem qjN {l:List Ex} (h:qbg l):numE (l.headD default):=by
 cases l with
 |nil=>exact ⟨by unfold Lt;decide,trivial⟩
 |cons a l=>exact h.1
structure Bnd (s:IS):Prop where
 sc:∀ k,Lt (s.sc k)
 ar:∀ x,∀ v∈s.ar x,Lt v
 inp:∀ v∈s.inp,Lt v
def Bd {A:Type} (P:A->Prop):IR A->Prop
 |.ok v s=>P v/\Bnd s
 |.stop _ _=>True
theorem Bd.bind {A B:Type} {P:A->Prop} {Q:B->Prop} {r:IR A} {f:A->IS->IR B} (h:Bd P r) (hf:∀ v s,P v->Bnd s->Bd Q (f v s)):Bd Q (r.bind f):=by
 cases r with
 |ok v s=>exact hf v s h.1 h.2
 |stop e s=>trivial
def qct (r:Option Nat):Prop:=∀ v,r=some v->Lt v
theorem qct.none:qct none:=fun _ h=>by cases h
theorem qct.some {v:Nat} (h:Lt v):qct (some v):=fun _ e=>by cases e;exact h
theorem qkP {s:IS} (h:Bnd s):Bd (fun _=>True) (tick s):=by
 unfold tick;split
 ·trivial
 ·exact ⟨trivial,h.sc,h.ar,h.inp⟩
theorem qqC {A:Type} {g:A->IS->IR Nat}:∀ (l:List A) (s:IS),(∀ a∈l,∀ s,Bnd s->Bd Lt (g a s))->Bnd s->Bd (fun vs=>∀ v∈vs,Lt v) (mapR g l s)
 |[],s,_,hs=>⟨fun v hv=>(List.not_mem_nil hv).elim,hs⟩
 |a::l,s,h,hs=>by
  unfold mapR;refine (h a zMs s hs).bind fun v s hv hs=>(qqC l s (fun b hb=>h b (zMo _ hb)) hs).bind fun vs s hvs hs=>⟨fun x hx=>?_,hs⟩;rcases zMi.1 hx with rfl|hx
  ·exact hv
  ·exact hvs x hx
theorem qhh {g:Sm->IS->IR (Option Nat)}:∀ (l:List Sm) (s:IS),(∀ a∈l,∀ s,Bnd s->Bd qct (g a s))->Bnd s->Bd qct (blkR g l s)
 |[],s,_,hs=>⟨qct.none,hs⟩
 |a::l,s,h,hs=>by
  unfold blkR;refine (h a zMs s hs).bind fun r s hr hs=>?_
  cases r with
  |some v=>exact ⟨hr,hs⟩
  |none=>exact qhh l s (fun b hb=>h b (zMo _ hb)) hs
theorem qrK {c:IS->IR Nat} {b:IS->IR (Option Nat)} (hc:∀ s,Bnd s->Bd Lt (c s)) (hb:∀ s,Bnd s->Bd qct (b s)):∀ (m v:Nat) (s:IS),Bnd s->Bd qct (whlR c b m v s)
 |0,v,s,hs=>by
  unfold whlR;split
  ·exact ⟨qct.none,hs⟩
  ·trivial
 |m+1,v,s,hs=>by
  unfold whlR;split
  ·exact ⟨qct.none,hs⟩
  ·refine (hb s hs).bind fun r s hr hs=>?_
   cases r with
   |some x=>exact ⟨hr,hs⟩
   |none=>exact (hc s hs).bind fun v s _ hs=>qrK hc hb m v s hs
theorem quh (b:Bool):Lt (b2n b):=by unfold b2n Lt;split <;> decide
theorem qvQ {op:List UInt8} {a b v:Nat} (ha:Lt a) (hb:Lt b) (h:binI op a b=some v):Lt v:=by
 have hm:∀ n:Nat,Lt (n % 4294967296):=fun n=>Nat.mod_lt _ zDd;have hx:Lt (a ^^^ b):=Nat.xor_lt_two_pow (n:=32) ha hb
 have hi:∀ {c:Prop} [Decidable c] {x y:Option Nat},qct x->qct y->qct (if c then x else y):=fun h1 h2=>by
  split
  ·exact h1
  ·exact h2
 have hB:∀ b,qct (some (b2n b)):=fun b=>qct.some (quh b)
 have:qct (binI op a b):=hi (qct.some (hm _)) (hi (qct.some (hm _)) (hi (qct.some (hm _)) (hi (qct.some hx) (hi (hB _) (hi (hB _) (hi (hB _) (hi (hB _) (hi (hB _) (hi (hB _) (hi (hB _) (hi (hB _) (hi qct.none
  (hi (qct.some (Nat.lt_of_le_of_lt (Nat.div_le_self _ _) ha)) (qct.some (Nat.lt_of_le_of_lt (Nat.mod_le _ _) ha)))))))))))))))
 exact this v h
theorem qk2 (f:FnD):∀ (ps:List (List UInt8)) (vs:List Nat) (s:IS),(∀ v∈vs,Lt v)->Bnd s->Bnd (qe3 f ps vs s)
 |p::ps,v::vs,s,hv,hs=>by
  unfold qe3;refine qk2 f ps vs _ (fun x hx=>hv x (zMo _ hx)) ⟨fun k=>?_,hs.ar,hs.inp⟩;show Lt (if k=keyI f p then v else s.sc k);split
  ·exact hv v zMs
  ·exact hs.sc k
 |[],_,s,_,hs=>by unfold qe3;exact hs
 |_::_,[],s,_,hs=>by unfold qe3;exact hs
theorem qq2 {l:List Nat} (h:∀ v∈l,Lt v):Lt (l.headD 0):=by
 cases l with
 |nil=>unfold Lt;decide
 |cons a l=>exact h a zMs
theorem qv5 {P:Pr} {g:FnD->Sm->IS->IR (Option Nat)} (hP:∀ f∈P.funcs,qb7 f.body) (hg:∀ f x s,numS x->Bnd s->Bd qct (g f x s)) (f:FnD) (op:List UInt8) {num:Nat} (hn:Lt num) (name:List UInt8) {vs:List Nat} (hv:∀ v∈vs,Lt v) {s:IS} (hs:Bnd s):Bd Lt (opI P g f op num name vs s):=by
 have ht:Lt (vs.tail.headD 0):=qq2 fun v h=>hv v (List.mem_of_mem_tail h);unfold opI;split
 ·exact ⟨hn,hs⟩
 split
 ·exact ⟨hs.sc _,hs⟩
 split
 ·split
  ·rename_i v h
   exact ⟨hs.ar _ v (List.mem_of_getElem? h),hs⟩
  ·trivial
 split
 ·exact ⟨Nat.mod_lt _ zDd,hs⟩
 split
 ·exact ⟨quh _,hs⟩
 split
 ·unfold callI;split
  ·split
   ·exact ⟨by unfold Lt;decide,hs⟩
   ·rename_i v r h
    exact ⟨hs.inp v (by rw[h];exact List.mem_cons_self ..),hs.sc,hs.ar,fun x hx=>hs.inp x (by rw[h];exact zMo _ hx)⟩
  split
  ·exact ⟨by unfold Lt;decide,hs.sc,hs.ar,hs.inp⟩
  ·refine (qhh _ _ (fun x hx s hs=>hg _ x s ?_ hs) (qk2 _ _ _ _ hv hs)).bind fun r s hr hs=>⟨?_,hs⟩
   ·unfold fnI at hx
    cases hf:P.funcs.find? fun f=>decide (f.name=name) with
    |none=>rw[hf] at hx;cases hx
    |some f'=>
     rw[hf] at hx;exact qep (hP f' (List.mem_of_find?_eq_some hf)) hx
   ·cases r with
    |none=>show Lt 0;unfold Lt;decide
    |some v=>exact hr v rfl
 ·split
  ·rename_i v h
   exact ⟨qvQ (qq2 hv) ht h,hs⟩
  ·trivial
theorem qoD {P:Pr} (hP:∀ f∈P.funcs,qb7 f.body):∀ n:Nat,(∀ f x s,numE x->Bnd s->Bd Lt (evI P n f x s))/\∀ f x s,numS x->Bnd s->Bd qct (stI P n f x s)
 |0=>⟨fun f x s _ _=>by unfold evI;trivial,fun f x s _ _=>by unfold stI;trivial⟩
 |n+1=>by
  obtain ⟨i1,i2⟩:=qoD hP n;refine ⟨fun f x s hx hs=>?_,fun f x s hx hs=>?_⟩
  ·obtain ⟨op,num,name,args⟩:=x;unfold evI;exact (qkP hs).bind fun _ s _ hs=>(qqC args s (fun a ha s hs=>i1 f a s (qmL hx.2 ha) hs) hs).bind fun vs s hvs hs=>qv5 hP i2 f op hx.1 name hvs hs
  ·obtain ⟨kind,name,index,value,thn,els⟩:=x;obtain ⟨h1,h2,h3,h4⟩:=hx;unfold stI;refine (qkP hs).bind fun _ s _ hs=>?_;split
   ·trivial
   refine (i1 f _ s (qjN h2) hs).bind fun v s hv hs=>?_;split
   ·refine ⟨qct.none,fun k=>?_,hs.ar,hs.inp⟩;show Lt (if k=keyI f name then v else s.sc k);split
    ·exact hv
    ·exact hs.sc k
   split
   ·refine (i1 f _ s (qjN h1) hs).bind fun i s hi hs=>?_;split
    ·refine ⟨qct.none,hs.sc,fun x w hw=>?_,hs.inp⟩;have hw':w∈(if x=name then (s.ar name).set i v else s.ar x):=hw;split at hw'
     ·rcases List.mem_or_eq_of_mem_set hw' with g|rfl
      ·exact hs.ar name w g
      ·exact hv
     ·exact hs.ar x w hw'
    ·trivial
   split
   ·exact ⟨qct.some hv,hs⟩
   split
   ·split
    ·exact qhh _ _ (fun a ha s hs=>i2 f a s (qep h3 ha) hs) hs
    ·exact qhh _ _ (fun a ha s hs=>i2 f a s (qep h4 ha) hs) hs
   split
   ·exact qrK (fun s hs=>i1 f _ s (qjN h2) hs) (fun s hs=>qhh _ _ (fun a ha s hs=>i2 f a s (qep h3 ha) hs) hs) n v s hs
   ·exact ⟨qct.none,hs⟩
end Go.Stele
namespace Go.Stele
theorem qjf {vars arrays later:List Nm}:∀ (fs:List FnD) (known:List FSum),qf5 vars arrays later known fs=0->∀ f∈fs,(f.params++f.locals).Nodup/\∀ x∈f.params++f.locals,x ∉ vars++arrays++later
 |[],known,_,f,hf=>(List.not_mem_nil hf).elim
 |g::l,known,h,f,hf=>by
  rw[qf5] at h;obtain ⟨h1,h2⟩:=qap.1 h;rcases zMi.1 hf with rfl|hf
  ·obtain ⟨g1,g2⟩:=qa6 _ _ (qap.1 h1).1;exact ⟨g1,fun x hx=>(g2 x hx).1⟩
  ·exact qjf l _ h2 f hf
theorem ql7 {A B:Type} {g:A->B} (hg:∀ x y,g x=g y->x=y):∀ {l:List A},l.Nodup->(l.map g).Nodup
 |[],_=>List.nodup_nil
 |a::l,h=>by
  rw[List.nodup_cons] at h;rw[zMc,List.nodup_cons];refine ⟨fun hm=>?_,ql7 hg h.2⟩;obtain ⟨b,hb,he⟩:=List.mem_map.1 hm;exact h.1 (hg _ _ he▸hb)
theorem qsh {fs:List FnD}:(fs.map (·.name)).Nodup->(∀ f∈fs,(46:UInt8) ∉ f.name)->(∀ f∈fs,(f.params++f.locals).Nodup)->((fs.map fun f=>(f.params++f.locals).map fun x=>f.name++[46]++x).flatten).Nodup:=by
 induction fs with
 |nil=>intro _ _ _;exact List.nodup_nil
 |cons f l ih=>
  intro h1 h2 h3;rw[zMc,List.nodup_cons] at h1;rw[zMc,List.flatten_cons,List.nodup_append];refine ⟨?_,ih h1.2 (fun g hg=>h2 g (zMo _ hg)) (fun g hg=>h3 g (zMo _ hg)),?_⟩
  ·exact ql7 (fun x y hxy=>List.append_cancel_left hxy) (h3 f zMs)
  ·intro a ha b hb he;subst he;obtain ⟨x,_,rfl⟩:=List.mem_map.1 ha;obtain ⟨L,g1,g2⟩:=List.mem_flatten.1 hb;obtain ⟨g,g3,rfl⟩:=List.mem_map.1 g1;obtain ⟨y,_,g5⟩:=List.mem_map.1 g2;have g6:g.name++46::y=f.name++46::x:=by simpa using g5
   obtain ⟨e1,_⟩:=qjO _ _ _ _ (h2 g (zMo _ g3)) (h2 f zMs) g6;exact h1.1 (List.mem_map.2 ⟨g,g3,e1⟩)
theorem qpo {vars arrays:List Nm} {fs:List FnD} (h:qb1 [] (vars++arrays++fs.map (·.name))=0) (hf:qf5 vars arrays (fs.map (·.name)) [] fs=0):(qan vars fs).Nodup:=by
 obtain ⟨h1,h2⟩:=qa6 _ _ h;have ho:=qjf fs [] hf;unfold qan;rw[List.nodup_append];refine ⟨(List.nodup_append.1 (List.nodup_append.1 h1).1).1,qsh (List.nodup_append.1 h1).2.1 (fun f hf=>qs0 (h2 _ (List.mem_append.2 (.inr (List.mem_map.2 ⟨f,hf,rfl⟩)))).2) fun f hf=>(ho f hf).1,?_⟩;intro a ha b hb he;subst he;obtain ⟨L,g1,g2⟩:=List.mem_flatten.1 hb;obtain ⟨g,g3,rfl⟩:=List.mem_map.1 g1;obtain ⟨y,_,g5⟩:=List.mem_map.1 g2;have:=qs0 (h2 _ (List.mem_append.2 (.inl (List.mem_append.2 (.inl ha))))).2;rw[<-g5] at this;exact absurd (by simp) this
end Go.Stele
