/- Texts joined: RtParse, ParExt, RtProg, ParDepth, RtLex, InpLaw, ChkRef2, InpKey, InpBnd, InpNodup, InpValid, InpSmall. -/
import Derived.KernelRfl
import Derived.Lib.Replace
import Derived.Test.YtpokklffoihafaaGreatDoorBRowC23
import Derived.Test.YtpokklffoihafaaGreatDoorBRowC24
set_option linter.unusedVariables false
set_option linter.unusedSimpArgs false
set_option maxRecDepth 100000
namespace Go.Stele
def Evt {A:Type} (g:Nat→OR A) (r:Res A):Prop:=∃ f0,∀ f,f0≤f→g f=some r
def tokIn (ks:List KT) (xs:List (List UInt8)):Bool:=match ks with
 |[]=>false
 |t::_=>(decide (t.1=3) || decide (t.1=4)) && xs.contains t.2
def At (T:List Tok) (i:Nat) (ks:List KT):Prop:=(T.map kt).drop i=ks
section
variable {T:List Tok} {i op:Nat} {ks:List KT}
theorem At.get {t:KT} (h:At T i (t::ks)):∃ t',T[i]? = some t'∧kt t'=t:=by
 have h1:((T.map kt).drop i)[0]? = some t:=by rw[show (T.map kt).drop i=t::ks from h];rfl
 rw[List.getElem?_drop,Nat.add_zero,List.getElem?_map] at h1
 cases h2:T[i]? with
 |none=>rw[h2] at h1;cases h1
 |some t'=>rw[h2] at h1;exact ⟨t',rfl,by simpa using h1⟩
theorem At.none (h:At T i []):T[i]? = none:=by
 have h1:((T.map kt).drop i).length=0:=by rw[show (T.map kt).drop i=[] from h];rfl
 rw[List.length_drop,List.length_map] at h1
 exact List.getElem?_eq_none (by omega)
theorem At.tok (h:At T i ks) (xs:List (List UInt8)):isTok T i xs=tokIn ks xs:=by
 unfold isTok tokIn
 cases ks with
 |nil=>rw[h.none]
 |cons t r=>
  obtain ⟨t',h1,h2⟩:=h.get
  rw[h1,←h2]
  rfl
theorem At.one {t:KT} (h:At T i (t::ks)):At T (i+1) ks:=by
 show (T.map kt).drop (i+1)=ks
 rw[←List.drop_drop,show (T.map kt).drop i=t::ks from h]
 rfl
theorem At.skip {a:List KT} (h:At T i (a++ks)):At T (i+a.length) ks:=by
 show (T.map kt).drop (i+a.length)=ks
 rw[←List.drop_drop,show (T.map kt).drop i=a++ks from h,List.drop_left]
theorem At.text {k:Int} {x:List UInt8} (h:At T i ((k,x)::ks)):textAt T i=x:=by
 obtain ⟨t',h1,h2⟩:=h.get
 unfold textAt
 rw[h1]
 exact congrArg Prod.snd h2
theorem At.kind {k:Int} {x:List UInt8} (h:At T i ((k,x)::ks)):kindAt T i=k:=by
 obtain ⟨t',h1,h2⟩:=h.get
 unfold kindAt
 rw[h1]
 exact congrArg Prod.fst h2
theorem At.word {k:Int} {x:List UInt8} (h:At T i ((k,x)::ks)):sWord T k i op=.ok x (i+1) op:=by
 obtain ⟨t',h1,h2⟩:=h.get
 unfold sWord
 rw[h1]
 have hk:t'.kind=k:=congrArg Prod.fst h2
 have hx:t'.text=x:=congrArg Prod.snd h2
 show (if t'.kind=k then Res.ok t'.text (i+1) op else _)=_
 rw[if_pos hk,hx]
theorem numOf_dec {n:Nat} (hn:n<4294967296):numOf (Go.Lib.decDigits n)=n:=by
 unfold numOf
 rw[pu32_dec n hn]
theorem At.number {n:Nat} (h:At T i ((1,Go.Lib.decDigits n)::ks)) (hn:n<4294967296):sNumber T i op=.ok n (i+1) op:=by
 unfold sNumber
 rw[h.word]
 show Res.ok (numOf (Go.Lib.decDigits n)) (i+1) op=_
 rw[numOf_dec hn]
theorem tokIn_sg (c:UInt8):tokIn (sg c::ks) [[c]]=true:=by simp[tokIn,sg]
theorem At.begin {c:UInt8} (h:At T i (sg c::ks)) (ho:op<100):sBegin T [c] i op=.ok () (i+1) (op+1):=by
 unfold sBegin
 rw[if_pos (by rw[h.tok,tokIn_sg]),if_neg (by omega)]
theorem At.need {c:UInt8} (h:At T i (sg c::ks)):sNeed T [c] i op=.ok () (i+1) op:=by
 unfold sNeed
 rw[if_pos (by rw[h.tok,tokIn_sg])]
theorem At.fin {c:UInt8} (h:At T i (sg c::ks)):sEnd T [c] i op=.ok () (i+1) (op-1):=by
 unfold sEnd
 rw[h.need]
 rfl
end
structure Fol (ks:List KT) (k:Nat):Prop where
 par:tokIn ks [[40]]=false
 brk:tokIn ks [[91]]=false
 ops:∀ j,k≤j→j<6→tokIn ks (lvOps j)=false
theorem Fol.up {ks:List KT} {k k':Nat} (h:Fol ks k) (hk:k≤k'):Fol ks k':=⟨h.par,h.brk,fun j h1 h2=>h.ops j (by omega) h2⟩
theorem fol_sg {c:UInt8} (hc:c=41∨c=93∨c=44∨c=59∨c=123) (ks:List KT) (k:Nat):Fol (sg c::ks) k:=by
 have h:∀ c∈([41,93,44,59,123]:List UInt8),([[40]]:List (List UInt8)).contains [c]=false∧([[91]]:List (List UInt8)).contains [c]=false∧∀ j,j<6→(lvOps j).contains [c]=false:=by decide
 obtain ⟨h1,h2,h3⟩:=h c (by rcases hc with rfl|rfl|rfl|rfl|rfl <;> decide)
 refine ⟨?_,?_,fun j _ hj=>?_⟩
 ·simp only[tokIn,sg,h1,Bool.and_false]
 ·simp only[tokIn,sg,h2,Bool.and_false]
 ·simp only[tokIn,sg,h3 j hj,Bool.and_false]
theorem fol_op {s:Nat} {o:List UInt8} (hs:s<6) (ho:o∈lvOps s) (ks:List KT):Fol ((4,o)::ks) (s+1):=by
 have h:∀ s,s<6→∀ o∈lvOps s,([[40]]:List (List UInt8)).contains o=false∧([[91]]:List (List UInt8)).contains o=false∧∀ j,j<6→s+1≤j→(lvOps j).contains o=false:=by decide
 obtain ⟨h1,h2,h3⟩:=h s hs o ho
 refine ⟨?_,?_,fun j hk hj=>?_⟩
 ·simp only[tokIn,h1,Bool.and_false]
 ·simp only[tokIn,h2,Bool.and_false]
 ·simp only[tokIn,h3 j hj hk,Bool.and_false]
section
variable {T:List Tok}
theorem lev_unary {i op:Nat} {r:Res Ex} (h:Evt (fun f=>eUnary T f i op) r):Evt (fun f=>eLev T f 6 i op) r:=by
 obtain ⟨f0,h⟩:=h
 refine ⟨f0+1,fun f hf=>?_⟩
 obtain ⟨g,rfl⟩:∃ g,f=g+1:=⟨f-1,by omega⟩
 show eLev T (g+1) 6 i op=_
 rw[eLev,if_pos rfl]
 exact h g (by omega)
theorem unary_lev {i op:Nat} {r:Res Ex} (h:Evt (fun f=>eLev T f 6 i op) r):Evt (fun f=>eUnary T f i op) r:=by
 obtain ⟨f0,h⟩:=h
 refine ⟨f0,fun f hf=>?_⟩
 have:=h (f+1) (by omega)
 simp only[eLev,if_pos] at this
 exact this
theorem lev_down {i op i' op':Nat} {e:Ex} {ks:List KT} (hA:At T i' ks):∀ (n k s:Nat),s=k+n→s≤6→Fol ks k→Evt (fun f=>eLev T f s i op) (.ok e i' op')→Evt (fun f=>eLev T f k i op) (.ok e i' op')
 |0,k,s,h,_,_,he=>by
  have:s=k:=by omega
  subst this
  exact he
 |n+1,k,s,h,h6,hF,he=>by
  obtain ⟨f0,h1⟩:=lev_down hA n (k+1) s (by omega) h6 (hF.up (by omega)) he
  refine ⟨f0+2,fun f hf=>?_⟩
  obtain ⟨g,rfl⟩:∃ g,f=g+2:=⟨f-2,by omega⟩
  have h1':=h1 (g+1) (by omega)
  simp only at h1'
  show eLev T (g+1+1) k i op=_
  rw[eLev,if_neg (by omega),h1']
  show eLoop T (g+1) k e i' op'=_
  rw[eLoop,if_neg (by rw[hA.tok,hF.ops k (Nat.le_refl _) (by omega)];decide)]
def QE (T:List Tok) (e:Ex):Prop:=∀ (k:Nat) (ts:List KT) (d i op:Nat) (ks:List KT),k≤6→PE e k ts d→d≤100-op→At T i (ts++ks)→Fol ks k→Evt (fun f=>eLev T f k i op) (.ok e (i+ts.length) op)
def CE (T:List Tok) (e:Ex):Prop:=∀ (s:Nat) (ts:List KT) (d i op:Nat) (ks:List KT) (r:Res Ex),s<6→s≠2→PE e s ts d→d≤100-op→At T i (ts++ks)→Fol ks (s+1)→Evt (fun f=>eLoop T f s e (i+ts.length) op) r→Evt (fun f=>eLev T f s i op) r
theorem bin_lev {s o1:Nat} {o:List UInt8} {a b:Ex} {t1 t2 ks:List KT} {d1 d2 i op:Nat} (hs:s<6) (ho:o∈lvOps s) (pa:PE a (leftLv s) t1 d1) (pb:PE b (s+1) t2 d2) (hd:max d1 d2≤100-op)
  (hA:At T i (t1++(4,o)::(t2++ks))) (hF:Fol ks (s+1)) (qa:QE T a) (ca:CE T a) (qb:QE T b) :
  (s≠2→∀ r,Evt (fun f=>eLoop T f s (.mk o 0 [] [a,b]) (i+(t1++(4,o)::t2).length) op) r→Evt (fun f=>eLev T f s i op) r) ∧
  (s=2→Evt (fun f=>eLev T f s i op) (.ok (.mk o 0 [] [a,b]) (i+(t1++(4,o)::t2).length) op)):=by
 have h1:=hA.skip
 have hlen:i+(t1++(4,o)::t2).length=i+t1.length+1+t2.length:=by simp only[List.length_append,List.length_cons];omega
 have ht:isTok T (i+t1.length) (lvOps s)=true:=by
  rw[h1.tok]
  simp only[tokIn]
  simp[ho]
 obtain ⟨fb,hb⟩:=qb (s+1) t2 d2 (i+t1.length+1) op ks (by omega) pb (by omega) h1.one hF
 refine ⟨fun h2 r hr=>?_,fun h2=>?_⟩
 ·rw[leftLv,if_neg h2] at pa
  refine ca s t1 d1 i op _ r hs h2 pa (by omega) hA (fol_op hs ho _) ?_
  obtain ⟨fr,hr⟩:=hr
  refine ⟨fb+fr+1,fun f hf=>?_⟩
  obtain ⟨g,rfl⟩:∃ g,f=g+1:=⟨f-1,by omega⟩
  show eLoop T (g+1) s a (i+t1.length) op=_
  have hb':=hb g (by omega)
  simp only at hb'
  rw[eLoop,if_pos ht,hb']
  show (if s=2 then _ else eLoop T g s (.mk (textAt T (i+t1.length)) 0 [] [a,b]) (i+t1.length+1+t2.length) op)=_
  rw[if_neg h2,h1.text,←hlen]
  exact hr g (by omega)
 ·subst h2
  obtain ⟨fa,ha⟩:=qa 3 t1 d1 i op _ (by omega) pa (by omega) hA (fol_op hs ho _)
  refine ⟨fa+fb+2,fun f hf=>?_⟩
  obtain ⟨g,rfl⟩:∃ g,f=g+2:=⟨f-2,by omega⟩
  have ha':=ha (g+1) (by omega)
  have hb':=hb g (by omega)
  simp only at ha' hb'
  show eLev T (g+1+1) 2 i op=_
  rw[eLev,if_neg (by omega),ha']
  show eLoop T (g+1) 2 a (i+t1.length) op=_
  rw[eLoop,if_pos ht,hb']
  show (if 2=2 then some (Res.ok (Ex.mk (textAt T (i+t1.length)) 0 [] [a,b]) (i+t1.length+1+t2.length) op) else eLoop T g 2 (Ex.mk (textAt T (i+t1.length)) 0 [] [a,b]) (i+t1.length+1+t2.length) op)=_
  rw[if_pos rfl,h1.text,hlen]
def Fst (t:KT):Prop:=t.1=1∨t.1=2∨t=sg 40∨t=sg 45∨t=sg 33
theorem pe_first:∀ (n:Nat) (e:Ex),nEx e≤n→∀ (k:Nat) (ts:List KT) (d:Nat),PE e k ts d→∃ t r,ts=t::r∧Fst t
 |0,.mk _ _ _ _,hn=>by rw[nEx] at hn;omega
 |n+1,e,hn=>by
  intro k ts d h
  cases h with
  |num h=>exact ⟨_,_,rfl,.inl rfl⟩
  |var h=>exact ⟨_,_,rfl,.inr (.inl rfl)⟩
  |elem h ha=>exact ⟨_,_,rfl,.inr (.inl rfl)⟩
  |call h ha=>exact ⟨_,_,rfl,.inr (.inl rfl)⟩
  |neg ha=>exact ⟨_,_,rfl,.inr (.inr (.inr (.inl rfl)))⟩
  |not ha=>exact ⟨_,_,rfl,.inr (.inr (.inr (.inr rfl)))⟩
  |par hs ho hk2 ha hb=>exact ⟨_,_,rfl,.inr (.inr (.inl rfl))⟩
  |bin hs ho hk2 ha hb=>
   simp only[nEx,nExs] at hn
   obtain ⟨t,r,rfl,h⟩:=pe_first n _ (by omega) _ _ _ ha
   exact ⟨t,_,rfl,h⟩
theorem PE.first {e:Ex} {k:Nat} {ts:List KT} {d:Nat} (h:PE e k ts d):∃ t r,ts=t::r∧Fst t:=pe_first _ e (Nat.le_refl _) _ _ _ h
theorem Fst.no41 {t:KT} (h:Fst t) (r:List KT):tokIn (t::r) [[41]]=false:=by
 rcases h with h|h|rfl|rfl|rfl
 ·simp[tokIn,h]
 ·simp[tokIn,h]
 ·simp[tokIn,sg]
 ·simp[tokIn,sg]
 ·simp[tokIn,sg]
theorem args_more:∀ (l acc:List Ex) (ts ks:List KT) (d i op:Nat),(∀ x∈l,QE T x)→acc≠[]→l≠[]→PEs l ts d→d≤100-op→At T i (sg 44::(ts++sg 41::ks))→Evt (fun f=>eArgsLoop T f acc i op) (.ok (acc++l) (i+1+ts.length) op)
 |[],_,_,_,_,_,_,_,_,h,_,_,_=>absurd rfl h
 |a::l,acc,ts,ks,d,i,op,hq,hacc,_,hp,hd,hA=>by
  have hn41:isTok T i [[41]]=false:=by rw[hA.tok];simp[tokIn,sg]
  cases hp with
  |one ha=>
   obtain ⟨f1,h1⟩:=hq a (List.mem_cons_self ..) 0 ts d (i+1) op _ (by omega) ha hd hA.one (fol_sg (.inl rfl) _ _)
   have h41:isTok T (i+1+ts.length) [[41]]=true:=by rw[hA.one.skip.tok,tokIn_sg]
   refine ⟨f1+2,fun f hf=>?_⟩
   obtain ⟨g,rfl⟩:∃ g,f=g+2:=⟨f-2,by omega⟩
   have h1':=h1 (g+1) (by omega)
   simp only at h1'
   show eArgsLoop T (g+1+1) acc i op=_
   rw[eArgsLoop,if_neg (by rw[hn41];decide),if_neg hacc,hA.need]
   show obind (eLev T (g+1) 0 (i+1) op) _=_
   rw[h1']
   show eArgsLoop T (g+1) (acc++[a]) (i+1+ts.length) op=_
   rw[eArgsLoop,if_pos h41]
  |@more _ b l t1 t2 d1 d2 ha hl=>
   have hA1:At T (i+1) (t1++sg 44::(t2++sg 41::ks)):=by
    have:=hA.one
    rw[List.append_assoc,List.cons_append] at this
    exact this
   obtain ⟨f1,h1⟩:=hq a (List.mem_cons_self ..) 0 t1 d1 (i+1) op _ (by omega) ha (by omega) hA1 (fol_sg (.inr (.inr (.inl rfl))) _ _)
   obtain ⟨f2,h2⟩:=args_more (b::l) (acc++[a]) t2 ks d2 (i+1+t1.length) op (fun x hx=>hq x (List.mem_cons_of_mem _ hx)) (by simp) (by simp) hl (by omega) hA1.skip
   refine ⟨f1+f2+1,fun f hf=>?_⟩
   obtain ⟨g,rfl⟩:∃ g,f=g+1:=⟨f-1,by omega⟩
   have h1':=h1 g (by omega)
   simp only at h1'
   show eArgsLoop T (g+1) acc i op=_
   rw[eArgsLoop,if_neg (by rw[hn41];decide),if_neg hacc,hA.need]
   show obind (eLev T g 0 (i+1) op) _=_
   rw[h1']
   show eArgsLoop T g (acc++[a]) (i+1+t1.length) op=_
   have h2':=h2 g (by omega)
   simp only at h2'
   rw[h2',List.append_assoc]
   congr 2
   simp only[List.length_append,List.length_cons]
   omega
theorem args_parse {l:List Ex} {ts ks:List KT} {d i op:Nat} (hq:∀ x∈l,QE T x) (hp:PEs l ts d) (hd:d+1≤100-op) (hA:At T i (sg 40::(ts++sg 41::ks))):Evt (fun f=>eArgs T f i op) (.ok l (i+2+ts.length) op):=by
 have key:Evt (fun f=>eArgsLoop T f [] (i+1) (op+1)) (.ok l (i+1+ts.length) (op+1)):=by
  cases hp with
  |nil=>
   refine ⟨1,fun f hf=>?_⟩
   obtain ⟨g,rfl⟩:∃ g,f=g+1:=⟨f-1,by omega⟩
   show eArgsLoop T (g+1) [] (i+1) (op+1)=_
   rw[eArgsLoop,if_pos (by rw[hA.one.tok];exact tokIn_sg 41)]
   rfl
  |one ha=>
   rename_i a
   have hA1:=hA.one
   have hn41:isTok T (i+1) [[41]]=false:=by
    obtain ⟨t,r,rfl,hf⟩:=ha.first
    rw[hA1.tok]
    exact hf.no41 _
   obtain ⟨f1,h1⟩:=hq a (List.mem_cons_self ..) 0 ts d (i+1) (op+1) _ (by omega) ha (by omega) hA1 (fol_sg (.inl rfl) _ _)
   have h41:isTok T (i+1+ts.length) [[41]]=true:=by rw[hA1.skip.tok,tokIn_sg]
   refine ⟨f1+2,fun f hf=>?_⟩
   obtain ⟨g,rfl⟩:∃ g,f=g+2:=⟨f-2,by omega⟩
   have h1':=h1 (g+1) (by omega)
   simp only at h1'
   show eArgsLoop T (g+1+1) [] (i+1) (op+1)=_
   rw[eArgsLoop,if_neg (by rw[hn41];decide),if_pos rfl]
   show obind (eLev T (g+1) 0 (i+1) (op+1)) _=_
   rw[h1']
   show eArgsLoop T (g+1) ([]++[a]) (i+1+ts.length) (op+1)=_
   rw[eArgsLoop,if_pos h41]
   rfl
  |@more a b l t1 t2 d1 d2 ha hl=>
   have hA1:At T (i+1) (t1++sg 44::(t2++sg 41::ks)):=by
    have:=hA.one
    rw[List.append_assoc,List.cons_append] at this
    exact this
   have hn41:isTok T (i+1) [[41]]=false:=by
    obtain ⟨t,r,rfl,hf⟩:=ha.first
    rw[hA1.tok]
    exact hf.no41 _
   obtain ⟨f1,h1⟩:=hq a (List.mem_cons_self ..) 0 t1 d1 (i+1) (op+1) _ (by omega) ha (by omega) hA1 (fol_sg (.inr (.inr (.inl rfl))) _ _)
   obtain ⟨f2,h2⟩:=args_more (b::l) [a] t2 ks d2 (i+1+t1.length) (op+1) (fun x hx=>hq x (List.mem_cons_of_mem _ hx)) (by simp) (by simp) hl (by omega) hA1.skip
   refine ⟨f1+f2+1,fun f hf=>?_⟩
   obtain ⟨g,rfl⟩:∃ g,f=g+1:=⟨f-1,by omega⟩
   have h1':=h1 g (by omega)
   simp only at h1'
   show eArgsLoop T (g+1) [] (i+1) (op+1)=_
   rw[eArgsLoop,if_neg (by rw[hn41];decide),if_pos rfl]
   show obind (eLev T g 0 (i+1) (op+1)) _=_
   rw[h1']
   show eArgsLoop T g ([]++[a]) (i+1+t1.length) (op+1)=_
   have h2':=h2 g (by omega)
   simp only at h2'
   rw[List.nil_append,h2']
   congr 2
   simp only[List.length_append,List.length_cons]
   omega
 obtain ⟨f1,h1⟩:=key
 refine ⟨f1+1,fun f hf=>?_⟩
 obtain ⟨g,rfl⟩:∃ g,f=g+1:=⟨f-1,by omega⟩
 have h1':=h1 g (by omega)
 simp only at h1'
 show eArgs T (g+1) i op=_
 rw[eArgs,hA.begin (by omega)]
 show obind (eArgsLoop T g [] (i+1) (op+1)) _=_
 rw[h1']
 show obind (some (sEnd T [41] (i+1+ts.length) (op+1))) _=_
 rw[hA.one.skip.fin]
 show some (Res.ok l (i+1+ts.length+1) (op+1-1))=_
 congr 2
 omega
theorem unary_prim {i op:Nat} {ks:List KT} {r:Res Ex} (hA:At T i ks) (h1:tokIn ks [[45]]=false) (h2:tokIn ks [[33]]=false) (h:Evt (fun f=>ePrim T f i op) r):Evt (fun f=>eUnary T f i op) r:=by
 obtain ⟨f0,h⟩:=h
 refine ⟨f0+1,fun f hf=>?_⟩
 obtain ⟨g,rfl⟩:∃ g,f=g+1:=⟨f-1,by omega⟩
 show eUnary T (g+1) i op=_
 rw[eUnary,if_neg (by rw[hA.tok,h1];decide),if_neg (by rw[hA.tok,h2];decide)]
 exact h g (by omega)
theorem unary_op {c:UInt8} {nm:List UInt8} (hc:c=45∧nm=nNeg∨c=33∧nm=nNot) {i op i':Nat} {e:Ex} {ks:List KT} (hA:At T i (sg c::ks)) (ho:op<100) (h:Evt (fun f=>eUnary T f (i+1) (op+1)) (.ok e i' (op+1))) :
  Evt (fun f=>eUnary T f i op) (.ok (.mk nm 0 [] [e]) i' op):=by
 obtain ⟨f0,h⟩:=h
 refine ⟨f0+1,fun f hf=>?_⟩
 obtain ⟨g,rfl⟩:∃ g,f=g+1:=⟨f-1,by omega⟩
 have h':=h g (by omega)
 simp only at h'
 show eUnary T (g+1) i op=_
 rcases hc with ⟨rfl,rfl⟩|⟨rfl,rfl⟩
 ·rw[eUnary,if_pos (by rw[hA.tok,tokIn_sg]),hA.begin ho]
  show obind (eUnary T g (i+1) (op+1)) _=_
  rw[h']
  rfl
 ·rw[eUnary,if_neg (by rw[hA.tok];simp[tokIn,sg]),if_pos (by rw[hA.tok,tokIn_sg]),hA.begin ho]
  show obind (eUnary T g (i+1) (op+1)) _=_
  rw[h']
  rfl
theorem prim_paren {i op i':Nat} {e:Ex} {ks ks':List KT} (hA:At T i (sg 40::ks)) (hA':At T i' (sg 41::ks')) (ho:op<100) (h:Evt (fun f=>eLev T f 0 (i+1) (op+1)) (.ok e i' (op+1))):Evt (fun f=>ePrim T f i op) (.ok e (i'+1) op):=by
 obtain ⟨f0,h⟩:=h
 refine ⟨f0+1,fun f hf=>?_⟩
 obtain ⟨g,rfl⟩:∃ g,f=g+1:=⟨f-1,by omega⟩
 have h':=h g (by omega)
 simp only at h'
 show ePrim T (g+1) i op=_
 rw[ePrim,if_pos (by rw[hA.tok,tokIn_sg]),hA.begin ho]
 show obind (eLev T g 0 (i+1) (op+1)) _=_
 rw[h']
 show obind (some (sEnd T [41] i' (op+1))) _=_
 rw[hA'.fin]
 rfl
theorem no_name (s:List UInt8) (ks:List KT) (xs:List (List UInt8)):tokIn ((2,s)::ks) xs=false:=by simp[tokIn]
theorem no_num (s:List UInt8) (ks:List KT) (xs:List (List UInt8)):tokIn ((1,s)::ks) xs=false:=by simp[tokIn]
theorem prim_name {i op i':Nat} {s:List UInt8} {e:Ex} {ks:List KT} (hA:At T i ((2,s)::ks))
  (h:Evt (fun f=>if isTok T (i+1) [[91]] then obind (eIndex T f (i+1) op) fun e i' op'=>some (.ok (.mk nElem 0 s [e]) i' op')
   else if isTok T (i+1) [[40]] then obind (eArgs T f (i+1) op) fun l i' op'=>some (.ok (.mk nCall 0 s l) i' op')
   else some (.ok (.mk nVar 0 s []) (i+1) op)) (.ok e i' op)):Evt (fun f=>ePrim T f i op) (.ok e i' op):=by
 obtain ⟨f0,h⟩:=h
 refine ⟨f0+1,fun f hf=>?_⟩
 obtain ⟨g,rfl⟩:∃ g,f=g+1:=⟨f-1,by omega⟩
 show ePrim T (g+1) i op=_
 rw[ePrim,if_neg (by rw[hA.tok,no_name];decide),if_neg (by rw[hA.kind];decide),hA.word]
 exact h g (by omega)
theorem index_parse {a:Ex} {ts ks:List KT} {d i op:Nat} (hq:QE T a) (hp:PE a 0 ts d) (hd:d+1≤100-op) (hA:At T i (sg 91::(ts++sg 93::ks))):Evt (fun f=>eIndex T f i op) (.ok a (i+2+ts.length) op):=by
 obtain ⟨f1,h1⟩:=hq 0 ts d (i+1) (op+1) _ (by omega) hp (by omega) hA.one (fol_sg (.inr (.inl rfl)) _ _)
 refine ⟨f1+1,fun f hf=>?_⟩
 obtain ⟨g,rfl⟩:∃ g,f=g+1:=⟨f-1,by omega⟩
 have h1':=h1 g (by omega)
 simp only at h1'
 show eIndex T (g+1) i op=_
 rw[eIndex,hA.begin (by omega)]
 show obind (eLev T g 0 (i+1) (op+1)) _=_
 rw[h1']
 show obind (some (sEnd T [93] (i+1+ts.length) (op+1))) _=_
 rw[hA.one.skip.fin]
 show some (Res.ok a (i+1+ts.length+1) (op+1-1))=_
 congr 2
 omega
theorem PE.more {e:Ex} {s:Nat} {ts:List KT} {d:Nat} (h:PE e s ts d):PE e (s+1) ts d∨∃ o a b t1 t2 d1 d2,s<6∧o∈lvOps s∧e=.mk o 0 [] [a,b]∧ts=t1++(4,o)::t2∧d=max d1 d2∧PE a (leftLv s) t1 d1∧PE b (s+1) t2 d2:=by
 cases h with
 |num h=>exact .inl (.num h)
 |var h=>exact .inl (.var h)
 |elem h ha=>exact .inl (.elem h ha)
 |call h ha=>exact .inl (.call h ha)
 |neg ha=>exact .inl (.neg ha)
 |not ha=>exact .inl (.not ha)
 |par hs ho hk2 ha hb=>exact .inl (.par hs ho (by omega) ha hb)
 |bin hs ho hk2 ha hb=>
  rename_i s0 o a b t1 t2 d1 d2
  by_cases h:s+1≤s0
  ·exact .inl (.bin hs ho h ha hb)
  ·have:s0=s:=by omega
   subst this
   exact .inr ⟨o,a,b,t1,t2,d1,d2,hs,ho,rfl,rfl,rfl,ha,hb⟩
theorem ex_parse:∀ (n:Nat) (e:Ex),nEx e≤n→QE T e∧CE T e
 |0,.mk _ _ _ _,hn=>by rw[nEx] at hn;omega
 |n+1,e,hn=>by
  have hQ:QE T e:=by
   intro k ts d i op ks hk hp hd hA hF
   have bin:∀ {s k i op:Nat} {o:List UInt8} {a b:Ex} {t1 t2 ks:List KT} {d1 d2:Nat},nEx (.mk o 0 [] [a,b])≤n+1→s<6→o∈lvOps s→k≤s→PE a (leftLv s) t1 d1→PE b (s+1) t2 d2→max d1 d2≤100-op→At T i (t1++(4,o)::(t2++ks))→Fol ks k →
     Evt (fun f=>eLev T f k i op) (.ok (.mk o 0 [] [a,b]) (i+(t1++(4,o)::t2).length) op):=by
    intro s k i op o a b t1 t2 ks d1 d2 hn hs ho hk pa pb hd hA hF
    simp only[nEx,nExs] at hn
    obtain ⟨qa,ca⟩:=ex_parse n a (by omega)
    obtain ⟨qb,_⟩:=ex_parse n b (by omega)
    have hA2:At T (i+(t1++(4,o)::t2).length) ks:=by
     have h:At T i ((t1++(4,o)::t2)++ks):=by rw[List.append_assoc,List.cons_append];exact hA
     exact h.skip
    obtain ⟨b1,b2⟩:=bin_lev (o1:=0) hs ho pa pb hd hA (hF.up (by omega)) qa ca qb
    have h0:Evt (fun f=>eLev T f s i op) (.ok (.mk o 0 [] [a,b]) (i+(t1++(4,o)::t2).length) op):=by
     by_cases h2:s=2
     ·exact b2 h2
     ·refine b1 h2 _ ⟨1,fun f hf=>?_⟩
      obtain ⟨g,rfl⟩:∃ g,f=g+1:=⟨f-1,by omega⟩
      show eLoop T (g+1) s _ _ op=_
      rw[eLoop,if_neg (by rw[hA2.tok,hF.ops s hk hs];decide)]
    exact lev_down hA2 (s-k) k s (by omega) (by omega) hF h0
   have un:Evt (fun f=>eUnary T f i op) (.ok e (i+ts.length) op)→Evt (fun f=>eLev T f k i op) (.ok e (i+ts.length) op):=fun h=>
    lev_down hA.skip (6-k) k 6 (by omega) (by omega) hF (lev_unary h)
   cases hp with
   |num h=>
    refine un (unary_prim hA (no_num _ _ _) (no_num _ _ _) ⟨1,fun f hf=>?_⟩)
    obtain ⟨g,rfl⟩:∃ g,f=g+1:=⟨f-1,by omega⟩
    show ePrim T (g+1) i op=_
    rw[ePrim,if_neg (by rw[hA.tok];simp[tokIn]),if_pos hA.kind,At.number hA h]
    rfl
   |var h=>
    refine un (unary_prim hA (no_name _ _ _) (no_name _ _ _) (prim_name hA ⟨0,fun f _=>?_⟩))
    have hA1:At T (i+1) ks:=hA.one
    simp only
    rw[if_neg (by rw[hA1.tok,hF.brk];decide),if_neg (by rw[hA1.tok,hF.par];decide)]
    rfl
   |elem h ha=>
    rename_i s a t1 d1
    simp only[nEx,nExs] at hn
    have hA1:At T i ((2,s)::sg 91::(t1++sg 93::ks)):=by
     simpa only[List.cons_append,List.append_assoc,List.nil_append] using hA
    refine un (unary_prim hA1 (no_name _ _ _) (no_name _ _ _) (prim_name hA1 ?_))
    obtain ⟨f1,h1⟩:=index_parse (ex_parse n a (by omega)).1 ha hd hA1.one
    refine ⟨f1,fun f hf=>?_⟩
    have h1':=h1 f hf
    simp only at h1' ⊢
    rw[if_pos (by rw[hA1.one.tok,tokIn_sg]),h1']
    show some (Res.ok (Ex.mk nElem 0 s [a]) (i+1+2+t1.length) op)=_
    congr 2
    simp only[List.length_cons,List.length_append,List.length_nil]
    omega
   |call h hl=>
    rename_i s l t1 d1
    simp only[nEx] at hn
    have hA1:At T i ((2,s)::sg 40::(t1++sg 41::ks)):=by
     simpa only[List.cons_append,List.append_assoc,List.nil_append] using hA
    refine un (unary_prim hA1 (no_name _ _ _) (no_name _ _ _) (prim_name hA1 ?_))
    obtain ⟨f1,h1⟩:=args_parse (fun x hx=>(ex_parse n x (by have:=nExs_mem hx;omega)).1) hl hd hA1.one
    refine ⟨f1,fun f hf=>?_⟩
    have h1':=h1 f hf
    simp only at h1' ⊢
    rw[if_neg (by rw[hA1.one.tok];simp[tokIn,sg]),if_pos (by rw[hA1.one.tok,tokIn_sg]),h1']
    show some (Res.ok (Ex.mk nCall 0 s l) (i+1+2+t1.length) op)=_
    congr 2
    simp only[List.length_cons,List.length_append,List.length_nil]
    omega
   |neg ha=>
    rename_i a t1 d1
    simp only[nEx,nExs] at hn
    have h1:=(ex_parse n a (by omega)).1 6 t1 d1 (i+1) (op+1) ks (by omega) ha (by omega) hA.one (hF.up hk)
    have e1:i+(sg 45::t1).length=i+1+t1.length:=by simp only[List.length_cons];omega
    rw[e1] at un ⊢
    exact un (unary_op (.inl ⟨rfl,rfl⟩) hA (by omega) (unary_lev h1))
   |not ha=>
    rename_i a t1 d1
    simp only[nEx,nExs] at hn
    have h1:=(ex_parse n a (by omega)).1 6 t1 d1 (i+1) (op+1) ks (by omega) ha (by omega) hA.one (hF.up hk)
    have e1:i+(sg 33::t1).length=i+1+t1.length:=by simp only[List.length_cons];omega
    rw[e1] at un ⊢
    exact un (unary_op (.inr ⟨rfl,rfl⟩) hA (by omega) (unary_lev h1))
   |bin hs ho hk2 ha hb=>exact bin hn hs ho hk2 ha hb hd (by simpa only[List.append_assoc,List.cons_append] using hA) hF
   |par hs ho hk2 ha hb=>
    rename_i s o a b t1 t2 d1 d2
    have hA1:At T i (sg 40::(t1++(4,o)::(t2++sg 41::ks))):=by
     simpa only[List.append_assoc,List.cons_append,List.nil_append] using hA
    have h1:=bin (k:=0) (op:=op+1) hn hs ho (by omega) ha hb (by omega) hA1.one (fol_sg (.inl rfl) _ _)
    have hA2:At T (i+1+(t1++(4,o)::t2).length) (sg 41::ks):=by
     have h:At T (i+1) ((t1++(4,o)::t2)++sg 41::ks):=by rw[List.append_assoc,List.cons_append];exact hA1.one
     exact h.skip
    have e1:i+(sg 40::((t1++(4,o)::t2)++[sg 41])).length=i+1+(t1++(4,o)::t2).length+1:=by simp only[List.length_cons,List.length_append,List.length_nil];omega
    rw[e1] at un ⊢
    exact un (unary_prim hA1 (by simp[tokIn,sg]) (by simp[tokIn,sg]) (prim_paren hA1 hA2 (by omega) h1))
  refine ⟨hQ,?_⟩
  intro s ts d i op ks r hs h2 hp hd hA hF hr
  rcases hp.more with hp'|⟨o,a,b,t1,t2,d1,d2,_,ho,rfl,rfl,rfl,pa,pb⟩
  ·obtain ⟨f1,h1⟩:=hQ (s+1) ts d i op ks (by omega) hp' hd hA hF
   obtain ⟨f2,h2⟩:=hr
   refine ⟨f1+f2+1,fun f hf=>?_⟩
   obtain ⟨g,rfl⟩:∃ g,f=g+1:=⟨f-1,by omega⟩
   have h1':=h1 g (by omega)
   simp only at h1'
   show eLev T (g+1) s i op=_
   rw[eLev,if_neg (by omega),h1']
   exact h2 g (by omega)
  ·simp only[nEx,nExs] at hn
   obtain ⟨qa,ca⟩:=ex_parse n a (by omega)
   obtain ⟨qb,_⟩:=ex_parse n b (by omega)
   exact (bin_lev (o1:=0) hs ho pa pb hd (by simpa only[List.append_assoc,List.cons_append] using hA) hF qa ca qb).1 h2 r hr
theorem qe (e:Ex):QE T e:=(ex_parse _ e (Nat.le_refl _)).1
end
end Go.Stele
namespace Go.Stele
def LeO {A:Type} (r r':OR A):Prop:=∀ q,r=some q→r'=some q
theorem LeO.rfl' {A:Type} {r:OR A}:LeO r r:=fun _ h=>h
theorem LeO.none {A:Type} {r:OR A}:LeO none r:=fun _ h=>by cases h
theorem LeO.bind {A B:Type} {r r':OR A} {f f':A→Nat→Nat→OR B} (h:LeO r r') (hf:∀ v i op,LeO (f v i op) (f' v i op)):LeO (obind r f) (obind r' f'):=fun q hq=>by
 rcases obind_some hq with ⟨v,i,op,h1,h2⟩|⟨l,e,h1,rfl⟩
 ·rw[h _ h1]
  exact hf _ _ _ _ h2
 ·rw[h _ h1]
  rfl
theorem LeO.ite {A:Type} {c:Prop} [Decidable c] {a b a' b':OR A} (h1:LeO a a') (h2:LeO b b'):LeO (if c then a else b) (if c then a' else b'):=by
 split
 ·exact h1
 ·exact h2
theorem namesLoop_le (T:List Tok):∀ (f g:Nat) (acc:List (List UInt8)) (i op:Nat),f≤g→LeO (sNamesLoop T f acc i op) (sNamesLoop T g acc i op)
 |0,_,_,_,_,_=>LeO.none
 |f+1,0,_,_,_,h=>by omega
 |f+1,g+1,acc,i,op,h=>by
  rw[sNamesLoop,sNamesLoop]
  exact LeO.ite (LeO.bind LeO.rfl' fun v i op=>namesLoop_le T f g _ i op (by omega)) LeO.rfl'
theorem names_le (T:List Tok) (f g i op:Nat) (h:f≤g):LeO (sNames T f i op) (sNames T g i op):=LeO.bind LeO.rfl' fun v i op=>namesLoop_le T f g _ i op h
theorem ex_le (T:List Tok):∀ f g:Nat,f≤g→(∀ k i op,LeO (eLev T f k i op) (eLev T g k i op))∧(∀ k e i op,LeO (eLoop T f k e i op) (eLoop T g k e i op))∧(∀ i op,LeO (eUnary T f i op) (eUnary T g i op)) ∧
  (∀ i op,LeO (ePrim T f i op) (ePrim T g i op))∧(∀ i op,LeO (eIndex T f i op) (eIndex T g i op))∧(∀ i op,LeO (eArgs T f i op) (eArgs T g i op))∧(∀ acc i op,LeO (eArgsLoop T f acc i op) (eArgsLoop T g acc i op))
 |0,g,_=>⟨fun _ _ _=>by rw[eLev];exact LeO.none,fun _ _ _ _=>by rw[eLoop];exact LeO.none,fun _ _=>by rw[eUnary];exact LeO.none,fun _ _=>by rw[ePrim];exact LeO.none,fun _ _=>by rw[eIndex];exact LeO.none,fun _ _=>by rw[eArgs];exact LeO.none,fun _ _ _=>by rw[eArgsLoop];exact LeO.none⟩
 |f+1,0,h=>by omega
 |f+1,g+1,h=>by
  obtain ⟨hL,hO,hU,hP,hI,hA,hB⟩:=ex_le T f g (by omega)
  refine ⟨fun k i op=>?_,fun k e i op=>?_,fun i op=>?_,fun i op=>?_,fun i op=>?_,fun i op=>?_,fun acc i op=>?_⟩
  ·rw[eLev,eLev]
   exact LeO.ite (hU _ _) (LeO.bind (hL _ _ _) fun _ _ _=>hO _ _ _ _)
  ·rw[eLoop,eLoop]
   exact LeO.ite (LeO.bind (hL _ _ _) fun _ _ _=>LeO.ite LeO.rfl' (hO _ _ _ _)) LeO.rfl'
  ·rw[eUnary,eUnary]
   exact LeO.ite (LeO.bind LeO.rfl' fun _ _ _=>LeO.bind (hU _ _) fun _ _ _=>LeO.rfl') (LeO.ite (LeO.bind LeO.rfl' fun _ _ _=>LeO.bind (hU _ _) fun _ _ _=>LeO.rfl') (hP _ _))
  ·rw[ePrim,ePrim]
   exact LeO.ite (LeO.bind LeO.rfl' fun _ _ _=>LeO.bind (hL _ _ _) fun _ _ _=>LeO.rfl') (LeO.ite LeO.rfl' (LeO.bind LeO.rfl' fun _ _ _=>LeO.ite (LeO.bind (hI _ _) fun _ _ _=>LeO.rfl') (LeO.ite (LeO.bind (hA _ _) fun _ _ _=>LeO.rfl') LeO.rfl')))
  ·rw[eIndex,eIndex]
   exact LeO.bind LeO.rfl' fun _ _ _=>LeO.bind (hL _ _ _) fun _ _ _=>LeO.rfl'
  ·rw[eArgs,eArgs]
   exact LeO.bind LeO.rfl' fun _ _ _=>LeO.bind (hB _ _ _) fun _ _ _=>LeO.rfl'
  ·rw[eArgsLoop,eArgsLoop]
   exact LeO.ite LeO.rfl' (LeO.bind LeO.rfl' fun _ _ _=>LeO.bind (hL _ _ _) fun _ _ _=>hB _ _ _)
theorem st_le (T:List Tok):∀ f g:Nat,f≤g→(∀ i op,LeO (sBlock T f i op) (sBlock T g i op))∧(∀ acc i op,LeO (sStmts T f acc i op) (sStmts T g acc i op))∧(∀ i op,LeO (sStmt T f i op) (sStmt T g i op))∧(∀ i op,LeO (sSimple T f i op) (sSimple T g i op))
 |0,g,_=>⟨fun _ _=>by rw[sBlock];exact LeO.none,fun _ _ _=>by rw[sStmts];exact LeO.none,fun _ _=>by rw[sStmt];exact LeO.none,fun _ _=>by rw[sSimple];exact LeO.none⟩
 |f+1,0,h=>by omega
 |f+1,g+1,h=>by
  obtain ⟨hB,hS,hT,hM⟩:=st_le T f g (by omega)
  obtain ⟨hL,_,_,_,hI,hA,_⟩:=ex_le T f g (by omega)
  refine ⟨fun i op=>?_,fun acc i op=>?_,fun i op=>?_,fun i op=>?_⟩
  ·rw[sBlock,sBlock]
   exact LeO.bind LeO.rfl' fun _ _ _=>LeO.bind (hS _ _ _) fun _ _ _=>LeO.rfl'
  ·rw[sStmts,sStmts]
   exact LeO.ite LeO.rfl' (LeO.bind (hT _ _) fun _ _ _=>hS _ _ _)
  ·rw[sStmt,sStmt]
   exact LeO.ite (LeO.bind (hL _ _ _) fun _ _ _=>LeO.bind (hB _ _) fun _ _ _=>LeO.ite (LeO.bind (hB _ _) fun _ _ _=>LeO.rfl') LeO.rfl') (LeO.ite (LeO.bind (hL _ _ _) fun _ _ _=>LeO.bind (hB _ _) fun _ _ _=>LeO.rfl') (LeO.bind (hM _ _) fun _ _ _=>LeO.rfl'))
  ·rw[sSimple,sSimple]
   exact LeO.ite (LeO.bind (hL _ _ _) fun _ _ _=>LeO.rfl') (LeO.ite LeO.rfl' (LeO.bind LeO.rfl' fun _ _ _=>LeO.ite (LeO.bind (hA _ _) fun _ _ _=>LeO.rfl') (LeO.ite (LeO.bind (hI _ _) fun _ _ _=>LeO.bind LeO.rfl' fun _ _ _=>LeO.bind (hL _ _ _) fun _ _ _=>LeO.rfl') (LeO.bind LeO.rfl' fun _ _ _=>LeO.bind (hL _ _ _) fun _ _ _=>LeO.rfl'))))
theorem vars_le (T:List Tok):∀ (f g:Nat) (acc:List (List UInt8)) (i op:Nat),f≤g→LeO (sVars T f acc i op) (sVars T g acc i op)
 |0,_,_,_,_,_=>LeO.none
 |f+1,0,_,_,_,h=>by omega
 |f+1,g+1,acc,i,op,h=>by
  rw[sVars,sVars]
  exact LeO.ite (LeO.bind (names_le T f g _ _ (by omega)) fun _ _ _=>LeO.bind LeO.rfl' fun _ _ _=>vars_le T f g _ _ _ (by omega)) LeO.rfl'
theorem func_le (T:List Tok) (f g i op:Nat) (h:f≤g):LeO (sFunc T f i op) (sFunc T g i op):=by
 unfold sFunc
 exact LeO.bind LeO.rfl' fun _ _ _=>LeO.bind LeO.rfl' fun _ _ _=>LeO.bind (LeO.ite LeO.rfl' (names_le T f g _ _ h)) fun _ _ _=>LeO.bind LeO.rfl' fun _ _ _=>LeO.bind LeO.rfl' fun _ _ _=>
  LeO.bind (vars_le T f g _ _ _ h) fun _ _ _=>LeO.bind ((st_le T f g h).2.1 _ _ _) fun _ _ _=>LeO.rfl'
theorem prog_le (T:List Tok):∀ (f g:Nat) (p:Pr) (i op:Nat),f≤g→LeO (sProg T f p i op) (sProg T g p i op)
 |0,_,_,_,_,_=>LeO.none
 |f+1,0,_,_,_,h=>by omega
 |f+1,g+1,p,i,op,h=>by
  rw[sProg,sProg]
  exact LeO.ite LeO.rfl' (LeO.ite (LeO.bind (vars_le T f g _ _ _ (by omega)) fun _ _ _=>prog_le T f g _ _ _ (by omega)) (LeO.ite (LeO.bind LeO.rfl' fun _ _ _=>prog_le T f g _ _ _ (by omega))
   (LeO.ite (LeO.bind (func_le T f g _ _ (by omega)) fun _ _ _=>prog_le T f g _ _ _ (by omega)) LeO.rfl')))
section
variable {T T':List Tok} {d m:Nat}
end
def EN {A:Type} (r:OR A):Prop:=∀ l e,r=some (.err l e)→¬ e=0
theorem EN.none {A:Type}:EN (none:OR A):=fun _ _ h=>by cases h
theorem EN.ok {A:Type} {v:A} {i op:Nat}:EN (some (.ok v i op)):=fun _ _ h=>by cases h
theorem EN.bind {A B:Type} {r:OR A} {f:A→Nat→Nat→OR B} (h:EN r) (hf:∀ v i op,EN (f v i op)):EN (obind r f):=fun l e hq=>by
 rcases obind_some hq with ⟨v,i,op,_,h2⟩|⟨l',e',h1,h2⟩
 ·exact hf _ _ _ _ _ h2
 ·cases h2
  exact h _ _ h1
theorem EN.ite {A:Type} {c:Prop} [Decidable c] {a b:OR A} (h1:EN a) (h2:EN b):EN (if c then a else b):=by
 split
 ·exact h1
 ·exact h2
theorem EN.syn {A:Type} {T:List Tok} {i:Nat}:EN (A:=A) (some (synErr T i)):=fun l e h=>by
 cases h
 decide
theorem EN.word {T:List Tok} {k:Int} {i op:Nat}:EN (some (sWord T k i op)):=by
 unfold sWord
 split
 ·split
  ·exact EN.ok
  ·exact EN.syn
 ·exact EN.syn
theorem EN.need {T:List Tok} {x:List UInt8} {i op:Nat}:EN (some (sNeed T x i op)):=by
 unfold sNeed
 split
 ·exact EN.ok
 ·exact EN.syn
theorem EN.begin {T:List Tok} {x:List UInt8} {i op:Nat}:EN (some (sBegin T x i op)):=by
 unfold sBegin
 split
 ·split
  ·intro l e h
   cases h
   decide
  ·exact EN.ok
 ·exact EN.syn
theorem EN.end' {T:List Tok} {x:List UInt8} {i op:Nat}:EN (some (sEnd T x i op)):=by
 unfold sEnd sNeed
 split
 ·exact EN.ok
 ·exact EN.syn
theorem EN.number {T:List Tok} {i op:Nat}:EN (some (sNumber T i op)):=by
 unfold sNumber sWord
 split
 ·split
  ·exact EN.ok
  ·exact EN.syn
 ·exact EN.syn
theorem namesLoop_en (T:List Tok):∀ (f:Nat) (acc:List (List UInt8)) (i op:Nat),EN (sNamesLoop T f acc i op)
 |0,_,_,_=>EN.none
 |f+1,acc,i,op=>by
  rw[sNamesLoop]
  exact EN.ite (EN.bind EN.word fun _ _ _=>namesLoop_en T f _ _ _) EN.ok
theorem names_en (T:List Tok) (f i op:Nat):EN (sNames T f i op):=EN.bind EN.word fun _ _ _=>namesLoop_en T f _ _ _
theorem ex_en (T:List Tok):∀ f:Nat,(∀ k i op,EN (eLev T f k i op))∧(∀ k e i op,EN (eLoop T f k e i op))∧(∀ i op,EN (eUnary T f i op))∧(∀ i op,EN (ePrim T f i op))∧(∀ i op,EN (eIndex T f i op))∧(∀ i op,EN (eArgs T f i op))∧(∀ acc i op,EN (eArgsLoop T f acc i op))
 |0=>⟨fun _ _ _=>by rw[eLev];exact EN.none,fun _ _ _ _=>by rw[eLoop];exact EN.none,fun _ _=>by rw[eUnary];exact EN.none,fun _ _=>by rw[ePrim];exact EN.none,fun _ _=>by rw[eIndex];exact EN.none,fun _ _=>by rw[eArgs];exact EN.none,fun _ _ _=>by rw[eArgsLoop];exact EN.none⟩
 |f+1=>by
  obtain ⟨hL,hO,hU,hP,hI,hA,hB⟩:=ex_en T f
  refine ⟨fun k i op=>?_,fun k e i op=>?_,fun i op=>?_,fun i op=>?_,fun i op=>?_,fun i op=>?_,fun acc i op=>?_⟩
  ·rw[eLev]
   exact EN.ite (hU _ _) (EN.bind (hL _ _ _) fun _ _ _=>hO _ _ _ _)
  ·rw[eLoop]
   exact EN.ite (EN.bind (hL _ _ _) fun _ _ _=>EN.ite EN.ok (hO _ _ _ _)) EN.ok
  ·rw[eUnary]
   exact EN.ite (EN.bind EN.begin fun _ _ _=>EN.bind (hU _ _) fun _ _ _=>EN.ok) (EN.ite (EN.bind EN.begin fun _ _ _=>EN.bind (hU _ _) fun _ _ _=>EN.ok) (hP _ _))
  ·rw[ePrim]
   exact EN.ite (EN.bind EN.begin fun _ _ _=>EN.bind (hL _ _ _) fun _ _ _=>EN.bind EN.end' fun _ _ _=>EN.ok) (EN.ite (EN.bind EN.number fun _ _ _=>EN.ok) (EN.bind EN.word fun _ _ _=>EN.ite (EN.bind (hI _ _) fun _ _ _=>EN.ok) (EN.ite (EN.bind (hA _ _) fun _ _ _=>EN.ok) EN.ok)))
  ·rw[eIndex]
   exact EN.bind EN.begin fun _ _ _=>EN.bind (hL _ _ _) fun _ _ _=>EN.bind EN.end' fun _ _ _=>EN.ok
  ·rw[eArgs]
   exact EN.bind EN.begin fun _ _ _=>EN.bind (hB _ _ _) fun _ _ _=>EN.bind EN.end' fun _ _ _=>EN.ok
  ·rw[eArgsLoop]
   refine EN.ite EN.ok (EN.bind ?_ fun _ _ _=>EN.bind (hL _ _ _) fun _ _ _=>hB _ _ _)
   split
   ·exact EN.ok
   ·exact EN.need
theorem st_en (T:List Tok):∀ f:Nat,(∀ i op,EN (sBlock T f i op))∧(∀ acc i op,EN (sStmts T f acc i op))∧(∀ i op,EN (sStmt T f i op))∧(∀ i op,EN (sSimple T f i op))
 |0=>⟨fun _ _=>by rw[sBlock];exact EN.none,fun _ _ _=>by rw[sStmts];exact EN.none,fun _ _=>by rw[sStmt];exact EN.none,fun _ _=>by rw[sSimple];exact EN.none⟩
 |f+1=>by
  obtain ⟨hB,hS,hT,hM⟩:=st_en T f
  obtain ⟨hL,_,_,_,hI,hA,_⟩:=ex_en T f
  refine ⟨fun i op=>?_,fun acc i op=>?_,fun i op=>?_,fun i op=>?_⟩
  ·rw[sBlock]
   exact EN.bind EN.begin fun _ _ _=>EN.bind (hS _ _ _) fun _ _ _=>EN.bind EN.end' fun _ _ _=>EN.ok
  ·rw[sStmts]
   exact EN.ite EN.ok (EN.bind (hT _ _) fun _ _ _=>hS _ _ _)
  ·rw[sStmt]
   exact EN.ite (EN.bind (hL _ _ _) fun _ _ _=>EN.bind (hB _ _) fun _ _ _=>EN.ite (EN.bind (hB _ _) fun _ _ _=>EN.ok) EN.ok) (EN.ite (EN.bind (hL _ _ _) fun _ _ _=>EN.bind (hB _ _) fun _ _ _=>EN.ok) (EN.bind (hM _ _) fun _ _ _=>EN.bind EN.need fun _ _ _=>EN.ok))
  ·rw[sSimple]
   exact EN.ite (EN.bind (hL _ _ _) fun _ _ _=>EN.ok) (EN.ite EN.ok (EN.bind EN.word fun _ _ _=>EN.ite (EN.bind (hA _ _) fun _ _ _=>EN.ok) (EN.ite (EN.bind (hI _ _) fun _ _ _=>EN.bind EN.need fun _ _ _=>EN.bind (hL _ _ _) fun _ _ _=>EN.ok) (EN.bind EN.need fun _ _ _=>EN.bind (hL _ _ _) fun _ _ _=>EN.ok))))
theorem vars_en (T:List Tok):∀ (f:Nat) (acc:List (List UInt8)) (i op:Nat),EN (sVars T f acc i op)
 |0,_,_,_=>EN.none
 |f+1,acc,i,op=>by
  rw[sVars]
  exact EN.ite (EN.bind (names_en T f _ _) fun _ _ _=>EN.bind EN.need fun _ _ _=>vars_en T f _ _ _) EN.ok
theorem func_en (T:List Tok) (f i op:Nat):EN (sFunc T f i op):=by
 unfold sFunc
 exact EN.bind EN.word fun _ _ _=>EN.bind EN.begin fun _ _ _=>EN.bind (EN.ite EN.ok (names_en T f _ _)) fun _ _ _=>EN.bind EN.end' fun _ _ _=>EN.bind EN.begin fun _ _ _=>EN.bind (vars_en T f _ _ _) fun _ _ _=>EN.bind ((st_en T f).2.1 _ _ _) fun _ _ _=>EN.bind EN.end' fun _ _ _=>EN.ok
theorem array_en (T:List Tok) (i op:Nat):EN (sArray T i op):=by
 unfold sArray
 exact EN.bind EN.word fun _ _ _=>EN.bind EN.begin fun _ _ _=>EN.bind EN.number fun _ _ _=>EN.bind EN.end' fun _ _ _=>EN.bind EN.need fun _ _ _=>EN.ok
theorem prog_en (T:List Tok):∀ (f:Nat) (p:Pr) (i op:Nat),EN (sProg T f p i op)
 |0,_,_,_=>EN.none
 |f+1,p,i,op=>by
  rw[sProg]
  exact EN.ite EN.ok (EN.ite (EN.bind (vars_en T f _ _ _) fun _ _ _=>prog_en T f _ _ _) (EN.ite (EN.bind (array_en T _ _) fun _ _ _=>prog_en T f _ _ _) (EN.ite (EN.bind (func_en T f _ _) fun _ _ _=>prog_en T f _ _ _) EN.syn)))
end Go.Stele
set_option maxRecDepth 100000
namespace Go.Stele
section
variable {T:List Tok}
theorem At.kw {T:List Tok} {i:Nat} {x:List UInt8} {ks:List KT} (h:At T i ((3,x)::ks)) (y:List UInt8):isTok T i [y]=decide (x=y):=by
 rw[h.tok]
 simp[tokIn]
theorem At.nm {T:List Tok} {i:Nat} {x:List UInt8} {ks:List KT} (h:At T i ((2,x)::ks)) (xs:List (List UInt8)):isTok T i xs=false:=by
 rw[h.tok,no_name]
theorem At.sgn {T:List Tok} {i:Nat} {c:UInt8} {ks:List KT} (h:At T i (sg c::ks)) (y:List UInt8):isTok T i [y]=decide ([c]=y):=by
 rw[h.tok]
 simp[tokIn,sg]
theorem expr0 {e:Ex} {ts ks:List KT} {d i op:Nat} {c:UInt8} (hc:c=41∨c=93∨c=44∨c=59∨c=123) (hp:PE e 0 ts d) (hd:d≤100-op) (hA:At T i (ts++sg c::ks)):Evt (fun f=>eLev T f 0 i op) (.ok e (i+ts.length) op):=
 qe e 0 ts d i op _ (by omega) hp hd hA (fol_sg hc _ _)
def QS (T:List Tok) (s:Sm):Prop:=∀ (ts:List KT) (d i op:Nat) (ks:List KT),PS s ts d→d≤100-op→At T i (ts++ks)→tokIn ks [kwElse]=false→Evt (fun f=>sStmt T f i op) (.ok s (i+ts.length) op)
theorem ps_first {s:Sm} {ts:List KT} {d:Nat} (h:PS s ts d):∃ t r,ts=t::r∧(t.1=2∨t=(3,kwReturn)∨t=(3,kwHalt)∨t=(3,kwIf)∨t=(3,kwWhile)):=by
 cases h with
 |assign h he=>exact ⟨_,_,rfl,.inl rfl⟩
 |store h hx he=>exact ⟨_,_,rfl,.inl rfl⟩
 |call h hl=>exact ⟨_,_,rfl,.inl rfl⟩
 |ret he=>exact ⟨_,_,rfl,.inr (.inl rfl)⟩
 |halt=>exact ⟨_,_,rfl,.inr (.inr (.inl rfl))⟩
 |ifElse he h1 h2 hne=>exact ⟨_,_,rfl,.inr (.inr (.inr (.inl rfl)))⟩
 |ifThen he h1=>exact ⟨_,_,rfl,.inr (.inr (.inr (.inl rfl)))⟩
 |«while» he h1=>exact ⟨_,_,rfl,.inr (.inr (.inr (.inr rfl)))⟩
theorem ps_no {s:Sm} {ts ks:List KT} {d:Nat} (h:PS s ts d) {y:List UInt8} (hy:y=[125]∨y=kwElse∨y=kwVar):tokIn (ts++ks) [y]=false:=by
 obtain ⟨t,r,e,h⟩:=ps_first h
 rw[e]
 rcases h with h|rfl|rfl|rfl|rfl
 ·simp[tokIn,h]
 all_goals rcases hy with rfl|rfl|rfl <;> exact rfl
theorem stmts_parse:∀ (l acc:List Sm) (ts ks:List KT) (d i op:Nat),(∀ s∈l,QS T s)→PSs l ts d→d≤100-op→At T i (ts++sg 125::ks)→Evt (fun f=>sStmts T f acc i op) (.ok (acc++l) (i+ts.length) op)
 |[],acc,ts,ks,d,i,op,hq,hp,hd,hA=>by
  cases hp with
  |nil=>
   refine ⟨1,fun f hf=>?_⟩
   obtain ⟨g,rfl⟩:∃ g,f=g+1:=⟨f-1,by omega⟩
   show sStmts T (g+1) acc i op=_
   rw[sStmts,if_pos (by rw[hA.tok];exact tokIn_sg 125),List.append_nil]
   rfl
 |s::l,acc,ts,ks,d,i,op,hq,hp,hd,hA=>by
  cases hp with
  |cons h hl=>
   rename_i t1 t2 d1 d2
   rw[List.append_assoc] at hA
   have he:tokIn (t2++sg 125::ks) [kwElse]=false:=by
    cases hl with
    |nil=>rfl
    |cons h' hl'=>rw[List.append_assoc];exact ps_no h' (.inr (.inl rfl))
   obtain ⟨f1,h1⟩:=hq s (List.mem_cons_self ..) t1 d1 i op _ h (by omega) hA he
   obtain ⟨f2,h2⟩:=stmts_parse l (acc++[s]) t2 ks d2 (i+t1.length) op (fun x hx=>hq x (List.mem_cons_of_mem _ hx)) hl (by omega) hA.skip
   refine ⟨f1+f2+1,fun f hf=>?_⟩
   obtain ⟨g,rfl⟩:∃ g,f=g+1:=⟨f-1,by omega⟩
   have h1':=h1 g (by omega)
   have h2':=h2 g (by omega)
   simp only at h1' h2'
   show sStmts T (g+1) acc i op=_
   rw[sStmts,if_neg (by rw[hA.tok,ps_no h (.inl rfl)];decide),h1']
   show sStmts T g (acc++[s]) (i+t1.length) op=_
   rw[h2',List.append_assoc,List.length_append,Nat.add_assoc]
   rfl
theorem block_parse {l:List Sm} {ts ks:List KT} {d i op:Nat} (hq:∀ s∈l,QS T s) (hp:PSs l ts d) (hd:d+1≤100-op) (hA:At T i (sg 123::(ts++sg 125::ks))):Evt (fun f=>sBlock T f i op) (.ok l (i+2+ts.length) op):=by
 obtain ⟨f1,h1⟩:=stmts_parse l [] ts ks d (i+1) (op+1) hq hp (by omega) hA.one
 refine ⟨f1+1,fun f hf=>?_⟩
 obtain ⟨g,rfl⟩:∃ g,f=g+1:=⟨f-1,by omega⟩
 have h1':=h1 g (by omega)
 simp only at h1'
 show sBlock T (g+1) i op=_
 rw[sBlock,hA.begin (by omega)]
 show obind (sStmts T g [] (i+1) (op+1)) _=_
 rw[h1']
 show obind (some (sEnd T [125] (i+1+ts.length) (op+1))) _=_
 rw[hA.one.skip.fin]
 show some (Res.ok l (i+1+ts.length+1) (op+1-1))=_
 congr 2
 omega
theorem simple_parse {i op i':Nat} {s:Sm} {ks ks':List KT} (hA:At T i ks) (h1:tokIn ks [kwIf]=false) (h2:tokIn ks [kwWhile]=false) (hA':At T i' (sg 59::ks')) (h:Evt (fun f=>sSimple T f i op) (.ok s i' op)):Evt (fun f=>sStmt T f i op) (.ok s (i'+1) op):=by
 obtain ⟨f0,h⟩:=h
 refine ⟨f0+1,fun f hf=>?_⟩
 obtain ⟨g,rfl⟩:∃ g,f=g+1:=⟨f-1,by omega⟩
 have h':=h g (by omega)
 simp only at h'
 show sStmt T (g+1) i op=_
 rw[sStmt,if_neg (by rw[hA.tok,h1];decide),if_neg (by rw[hA.tok,h2];decide),h']
 show obind (some (sNeed T [59] i' op)) _=_
 rw[hA'.need]
 rfl
theorem st_parse:∀ (n:Nat) (s:Sm),nSm s≤n→QS T s
 |0,.mk _ _ _ _ _ _,hn=>by rw[nSm] at hn;omega
 |n+1,s,hn=>by
  intro ts d i op ks hp hd hA hE
  cases hp with
  |assign h he=>
   rename_i s e t1
   have hA1:At T i ((2,s)::sg 61::(t1++sg 59::ks)):=by simpa only[List.cons_append,List.append_assoc,List.nil_append] using hA
   obtain ⟨f1,h1⟩:=expr0 (op:=op) (.inr (.inr (.inr (.inl rfl)))) he hd hA1.one.one
   have e1:i+((2,s)::sg 61::(t1++[sg 59])).length=i+1+1+t1.length+1:=by simp only[List.length_cons,List.length_append,List.length_nil];omega
   rw[e1]
   refine simple_parse hA1 (no_name _ _ _) (no_name _ _ _) hA1.one.one.skip ⟨f1+1,fun f hf=>?_⟩
   obtain ⟨g,rfl⟩:∃ g,f=g+1:=⟨f-1,by omega⟩
   have h1':=h1 g (by omega)
   simp only at h1'
   show sSimple T (g+1) i op=_
   rw[sSimple,if_neg (by rw[hA1.nm];decide),if_neg (by rw[hA1.nm];decide),hA1.word]
   show (if isTok T (i+1) [[40]] then _ else if isTok T (i+1) [[91]] then _ else obind (some (sNeed T [61] (i+1) op)) _)=_
   rw[if_neg (by rw[hA1.one.sgn];decide),if_neg (by rw[hA1.one.sgn];decide),hA1.one.need]
   show obind (eLev T g 0 (i+1+1) op) _=_
   rw[h1']
   rfl
  |store h hx he=>
   rename_i s x e t1 t2 d1 d2
   have hA1:At T i ((2,s)::sg 91::(t1++sg 93::sg 61::(t2++sg 59::ks))):=by simpa only[List.cons_append,List.append_assoc,List.nil_append] using hA
   obtain ⟨f1,h1⟩:=index_parse (op:=op) (qe x) hx (by omega) hA1.one
   have hA2:At T (i+1+2+t1.length) (sg 61::(t2++sg 59::ks)):=by
    have:=hA1.one.one.skip.one
    rw[show i+1+2+t1.length=i+1+1+t1.length+1 by omega]
    exact this
   obtain ⟨f2,h2⟩:=expr0 (op:=op) (.inr (.inr (.inr (.inl rfl)))) he (by omega) hA2.one
   have e1:i+((2,s)::sg 91::(t1++sg 93::sg 61::(t2++[sg 59]))).length=i+1+2+t1.length+1+t2.length+1:=by simp only[List.length_cons,List.length_append,List.length_nil];omega
   rw[e1]
   refine simple_parse hA1 (no_name _ _ _) (no_name _ _ _) hA2.one.skip ⟨f1+f2+1,fun f hf=>?_⟩
   obtain ⟨g,rfl⟩:∃ g,f=g+1:=⟨f-1,by omega⟩
   have h1':=h1 g (by omega)
   have h2':=h2 g (by omega)
   simp only at h1' h2'
   show sSimple T (g+1) i op=_
   rw[sSimple,if_neg (by rw[hA1.nm];decide),if_neg (by rw[hA1.nm];decide),hA1.word]
   show (if isTok T (i+1) [[40]] then _ else if isTok T (i+1) [[91]] then obind (eIndex T g (i+1) op) _ else _)=_
   rw[if_neg (by rw[hA1.one.sgn];decide),if_pos (by rw[hA1.one.sgn];decide),h1']
   show obind (some (sNeed T [61] (i+1+2+t1.length) op)) _=_
   rw[hA2.need]
   show obind (eLev T g 0 (i+1+2+t1.length+1) op) _=_
   rw[h2']
   rfl
  |call h hl=>
   rename_i s l t1 d1
   have hA1:At T i ((2,s)::sg 40::(t1++sg 41::sg 59::ks)):=by simpa only[List.cons_append,List.append_assoc,List.nil_append] using hA
   obtain ⟨f1,h1⟩:=args_parse (op:=op) (fun x _=>qe x) hl (by omega) hA1.one
   have hA2:At T (i+1+2+t1.length) (sg 59::ks):=by
    have:=hA1.one.one.skip.one
    rw[show i+1+2+t1.length=i+1+1+t1.length+1 by omega]
    exact this
   have e1:i+((2,s)::sg 40::(t1++[sg 41,sg 59])).length=i+1+2+t1.length+1:=by simp only[List.length_cons,List.length_append,List.length_nil];omega
   rw[e1]
   refine simple_parse hA1 (no_name _ _ _) (no_name _ _ _) hA2 ⟨f1+1,fun f hf=>?_⟩
   obtain ⟨g,rfl⟩:∃ g,f=g+1:=⟨f-1,by omega⟩
   have h1':=h1 g (by omega)
   simp only at h1'
   show sSimple T (g+1) i op=_
   rw[sSimple,if_neg (by rw[hA1.nm];decide),if_neg (by rw[hA1.nm];decide),hA1.word]
   show (if isTok T (i+1) [[40]] then obind (eArgs T g (i+1) op) _ else _)=_
   rw[if_pos (by rw[hA1.one.sgn];decide),h1']
   rfl
  |ret he=>
   rename_i e t1
   have hA1:At T i ((3,kwReturn)::(t1++sg 59::ks)):=by simpa only[List.cons_append,List.append_assoc,List.nil_append] using hA
   obtain ⟨f1,h1⟩:=expr0 (op:=op) (.inr (.inr (.inr (.inl rfl)))) he hd hA1.one
   have e1:i+((3,kwReturn)::(t1++[sg 59])).length=i+1+t1.length+1:=by simp only[List.length_cons,List.length_append,List.length_nil];omega
   rw[e1]
   refine simple_parse hA1 rfl rfl hA1.one.skip ⟨f1+1,fun f hf=>?_⟩
   obtain ⟨g,rfl⟩:∃ g,f=g+1:=⟨f-1,by omega⟩
   have h1':=h1 g (by omega)
   simp only at h1'
   show sSimple T (g+1) i op=_
   rw[sSimple,if_pos (by rw[hA1.kw];decide),h1']
   rfl
  |halt=>
   have hA1:At T i ((3,kwHalt)::sg 59::ks):=hA
   refine simple_parse hA1 rfl rfl hA1.one ⟨1,fun f hf=>?_⟩
   obtain ⟨g,rfl⟩:∃ g,f=g+1:=⟨f-1,by omega⟩
   show sSimple T (g+1) i op=_
   rw[sSimple,if_neg (by rw[hA1.kw];decide),if_pos (by rw[hA1.kw];decide)]
  |ifElse he h1 h2 hne=>
   rename_i e th el t0 t1 t2 d0 d1 d2
   simp only[nSm,nExs] at hn
   have hA1:At T i ((3,kwIf)::(t0++sg 123::(t1++sg 125::(3,kwElse)::sg 123::(t2++sg 125::ks)))):=by simpa only[List.cons_append,List.append_assoc,List.nil_append] using hA
   obtain ⟨f1,g1⟩:=expr0 (op:=op) (.inr (.inr (.inr (.inr rfl)))) he (by omega) hA1.one
   obtain ⟨f2,g2⟩:=block_parse (op:=op) (fun x hx=>st_parse n x (by have:=nSms_mem hx;omega)) h1 (by omega) hA1.one.skip
   have hA2:At T (i+1+t0.length+2+t1.length) ((3,kwElse)::sg 123::(t2++sg 125::ks)):=by
    have:=hA1.one.skip.one.skip.one
    rw[show i+1+t0.length+2+t1.length=i+1+t0.length+1+t1.length+1 by omega]
    exact this
   obtain ⟨f3,g3⟩:=block_parse (op:=op) (fun x hx=>st_parse n x (by have:=nSms_mem hx;omega)) h2 (by omega) hA2.one
   refine ⟨f1+f2+f3+1,fun f hf=>?_⟩
   obtain ⟨g,rfl⟩:∃ g,f=g+1:=⟨f-1,by omega⟩
   have g1':=g1 g (by omega)
   have g2':=g2 g (by omega)
   have g3':=g3 g (by omega)
   simp only at g1' g2' g3'
   show sStmt T (g+1) i op=_
   rw[sStmt,if_pos (by rw[hA1.kw];decide),g1']
   show obind (sBlock T g (i+1+t0.length) op) _=_
   rw[g2']
   show (if isTok T (i+1+t0.length+2+t1.length) [kwElse] then obind (sBlock T g (i+1+t0.length+2+t1.length+1) op) _ else _)=_
   rw[if_pos (by rw[hA2.kw];decide),g3']
   show some (Res.ok (Sm.mk 3 [] [] [e] th el) _ op)=_
   congr 2
   simp only[List.length_cons,List.length_append,List.length_nil]
   omega
  |ifThen he h1=>
   rename_i e th t0 t1 d0 d1
   simp only[nSm,nExs] at hn
   have hA1:At T i ((3,kwIf)::(t0++sg 123::(t1++sg 125::ks))):=by simpa only[List.cons_append,List.append_assoc,List.nil_append] using hA
   obtain ⟨f1,g1⟩:=expr0 (op:=op) (.inr (.inr (.inr (.inr rfl)))) he (by omega) hA1.one
   obtain ⟨f2,g2⟩:=block_parse (op:=op) (fun x hx=>st_parse n x (by have:=nSms_mem hx;omega)) h1 (by omega) hA1.one.skip
   have hA2:At T (i+1+t0.length+2+t1.length) ks:=by
    have:=hA1.one.skip.one.skip.one
    rw[show i+1+t0.length+2+t1.length=i+1+t0.length+1+t1.length+1 by omega]
    exact this
   refine ⟨f1+f2+1,fun f hf=>?_⟩
   obtain ⟨g,rfl⟩:∃ g,f=g+1:=⟨f-1,by omega⟩
   have g1':=g1 g (by omega)
   have g2':=g2 g (by omega)
   simp only at g1' g2'
   show sStmt T (g+1) i op=_
   rw[sStmt,if_pos (by rw[hA1.kw];decide),g1']
   show obind (sBlock T g (i+1+t0.length) op) _=_
   rw[g2']
   show (if isTok T (i+1+t0.length+2+t1.length) [kwElse] then _ else _)=_
   rw[if_neg (by rw[hA2.tok,hE];decide)]
   congr 2
   simp only[List.length_cons,List.length_append,List.length_nil]
   omega
  |«while» he h1=>
   rename_i e th t0 t1 d0 d1
   simp only[nSm,nExs] at hn
   have hA1:At T i ((3,kwWhile)::(t0++sg 123::(t1++sg 125::ks))):=by simpa only[List.cons_append,List.append_assoc,List.nil_append] using hA
   obtain ⟨f1,g1⟩:=expr0 (op:=op) (.inr (.inr (.inr (.inr rfl)))) he (by omega) hA1.one
   obtain ⟨f2,g2⟩:=block_parse (op:=op) (fun x hx=>st_parse n x (by have:=nSms_mem hx;omega)) h1 (by omega) hA1.one.skip
   refine ⟨f1+f2+1,fun f hf=>?_⟩
   obtain ⟨g,rfl⟩:∃ g,f=g+1:=⟨f-1,by omega⟩
   have g1':=g1 g (by omega)
   have g2':=g2 g (by omega)
   simp only at g1' g2'
   show sStmt T (g+1) i op=_
   rw[sStmt,if_neg (by rw[hA1.kw];decide),if_pos (by rw[hA1.kw];decide),g1']
   show obind (sBlock T g (i+1+t0.length) op) _=_
   rw[g2']
   show some (Res.ok (Sm.mk 4 [] [] [e] th []) _ op)=_
   congr 2
   simp only[List.length_cons,List.length_append,List.length_nil]
   omega
theorem qs (s:Sm):QS T s:=st_parse _ s (Nat.le_refl _)
/-! ### Declarations -/
theorem namesLoop_parse:∀ (l acc:List (List UInt8)) (ks:List KT) (i op:Nat),l≠[]→tokIn ks [[44]]=false→At T i (sg 44::(commas l++ks))→Evt (fun f=>sNamesLoop T f acc i op) (.ok (acc++l) (i+1+(commas l).length) op)
 |[],_,_,_,_,h,_,_=>absurd rfl h
 |[a],acc,ks,i,op,_,hk,hA=>by
  refine ⟨2,fun f hf=>?_⟩
  obtain ⟨g,rfl⟩:∃ g,f=g+2:=⟨f-2,by omega⟩
  have hA1:At T (i+1) ((2,a)::ks):=hA.one
  show sNamesLoop T (g+1+1) acc i op=_
  rw[sNamesLoop,if_pos (by rw[hA.tok,tokIn_sg]),hA1.word]
  show sNamesLoop T (g+1) (acc++[a]) (i+1+1) op=_
  rw[sNamesLoop,if_neg (by rw[hA1.one.tok,hk];decide)]
  rfl
 |a::b::l,acc,ks,i,op,_,hk,hA=>by
  have hA1:At T (i+1) ((2,a)::sg 44::(commas (b::l)++ks)):=hA.one
  obtain ⟨f1,h1⟩:=namesLoop_parse (b::l) (acc++[a]) ks (i+1+1) op (by simp) hk hA1.one
  refine ⟨f1+1,fun f hf=>?_⟩
  obtain ⟨g,rfl⟩:∃ g,f=g+1:=⟨f-1,by omega⟩
  have h1':=h1 g (by omega)
  simp only at h1'
  show sNamesLoop T (g+1) acc i op=_
  rw[sNamesLoop,if_pos (by rw[hA.tok,tokIn_sg]),hA1.word]
  show sNamesLoop T g (acc++[a]) (i+1+1) op=_
  rw[h1',List.append_assoc]
  congr 2
  simp only[commas,List.length_cons]
  omega
theorem names_parse {l:List (List UInt8)} {ks:List KT} {i op:Nat} (hl:l≠[]) (hk:tokIn ks [[44]]=false) (hA:At T i (commas l++ks)):Evt (fun f=>sNames T f i op) (.ok l (i+(commas l).length) op):=by
 match l,hl,hA with
 |[a],_,hA=>
  have hA1:At T i ((2,a)::ks):=hA
  refine ⟨1,fun f hf=>?_⟩
  obtain ⟨g,rfl⟩:∃ g,f=g+1:=⟨f-1,by omega⟩
  show sNames T (g+1) i op=_
  unfold sNames
  rw[hA1.word]
  show sNamesLoop T (g+1) [a] (i+1) op=_
  rw[sNamesLoop,if_neg (by rw[hA1.one.tok,hk];decide)]
  rfl
 |a::b::l,_,hA=>
  have hA1:At T i ((2,a)::sg 44::(commas (b::l)++ks)):=hA
  obtain ⟨f1,h1⟩:=namesLoop_parse (b::l) [a] ks (i+1) op (by simp) hk hA1.one
  refine ⟨f1,fun f hf=>?_⟩
  have h1':=h1 f hf
  simp only at h1'
  show sNames T f i op=_
  unfold sNames
  rw[hA1.word]
  show sNamesLoop T f [a] (i+1) op=_
  rw[h1']
  show some (Res.ok (a::b::l) _ op)=_
  congr 2
  simp only[commas,List.length_cons]
  omega
theorem vars_parse {l:List (List UInt8)} {ks:List KT} {i op:Nat} (hk:tokIn ks [kwVar]=false) (hA:At T i (varK l++ks)):Evt (fun f=>sVars T f [] i op) (.ok l (i+(varK l).length) op):=by
 unfold varK at hA ⊢
 by_cases hl:l=[]
 ·rw[if_pos hl] at hA ⊢
  subst hl
  refine ⟨1,fun f hf=>?_⟩
  obtain ⟨g,rfl⟩:∃ g,f=g+1:=⟨f-1,by omega⟩
  show sVars T (g+1) [] i op=_
  rw[sVars,if_neg (by rw[hA.tok];rw[List.nil_append,hk];decide)]
  rfl
 ·rw[if_neg hl] at hA ⊢
  have hA1:At T i ((3,kwVar)::(commas l++sg 59::ks)):=by simpa only[List.cons_append,List.append_assoc,List.nil_append] using hA
  obtain ⟨f1,h1⟩:=names_parse (op:=op) hl (by simp[tokIn,sg]) hA1.one
  refine ⟨f1+2,fun f hf=>?_⟩
  obtain ⟨g,rfl⟩:∃ g,f=g+2:=⟨f-2,by omega⟩
  have h1':=h1 (g+1) (by omega)
  simp only at h1'
  show sVars T (g+1+1) [] i op=_
  rw[sVars,if_pos (by rw[hA1.kw];decide),h1']
  show obind (some (sNeed T [59] (i+1+(commas l).length) op)) _=_
  rw[hA1.one.skip.need]
  show sVars T (g+1) ([]++l) (i+1+(commas l).length+1) op=_
  rw[sVars,if_neg (by rw[hA1.one.skip.one.tok,hk];decide),List.nil_append]
  congr 2
  simp only[List.length_cons,List.length_append,List.length_nil]
  omega
theorem func_parse {a:FnD} {ts ks:List KT} {d i:Nat} (hp:PF a ts d) (hd:d≤100) (hA:At T i (ts++ks)):isTok T i [kwFunc]=true∧isTok T i [kwArray]=false∧isTok T i [kwVar]=false∧Evt (fun f=>sFunc T f (i+1) 0) (.ok a (i+ts.length) 0):=by
 cases hp with
 |mk h hps hls hb=>
  rename_i nm ps ls b t1 d1
  have hA1:At T i ((3,kwFunc)::(2,nm)::sg 40::(commas ps++sg 41::sg 123::(varK ls++(t1++sg 125::ks)))):=by simpa only[List.cons_append,List.append_assoc,List.nil_append] using hA
  refine ⟨by rw[hA1.kw];decide,by rw[hA1.kw];decide,by rw[hA1.kw];decide,?_⟩
  have hA3:=hA1.one.one.one
  have key:Evt (fun f=>if isTok T (i+1+1+1) [[41]] then some (.ok [] (i+1+1+1) 1) else sNames T f (i+1+1+1) 1) (.ok ps (i+1+1+1+(commas ps).length) 1):=by
   by_cases hne:ps=[]
   ·subst hne
    refine ⟨0,fun f _=>?_⟩
    simp only
    rw[if_pos (by rw[hA3.tok];exact tokIn_sg 41)]
    rfl
   ·obtain ⟨f1,h1⟩:=names_parse (op:=1) hne (by simp[tokIn,sg]) hA3
    refine ⟨f1,fun f hf=>?_⟩
    simp only
    rw[if_neg ?_]
    ·exact h1 f hf
    ·rw[hA3.tok]
     match ps,hne with
     |[x],_=>simp[tokIn,commas]
     |x::y::r,_=>simp[tokIn,commas]
  obtain ⟨f1,h1⟩:=key
  have hA4:=hA3.skip
  have hv:tokIn (t1++sg 125::ks) [kwVar]=false:=by
   cases hb with
   |nil=>rfl
   |cons h' hl'=>rw[List.append_assoc];exact ps_no h' (.inr (.inr rfl))
  obtain ⟨f2,h2⟩:=vars_parse (op:=1) hv hA4.one.one
  obtain ⟨f3,h3⟩:=stmts_parse b [] t1 ks d1 _ 1 (fun x _=>qs x) hb (by omega) hA4.one.one.skip
  refine ⟨f1+f2+f3,fun f hf=>?_⟩
  have h1':=h1 f (by omega)
  have h2':=h2 f (by omega)
  have h3':=h3 f (by omega)
  simp only at h1' h2' h3'
  show sFunc T f (i+1) 0=_
  unfold sFunc
  rw[hA1.one.word]
  show obind (some (sBegin T [40] (i+1+1) 0)) _=_
  rw[hA1.one.one.begin (by omega)]
  show obind (if isTok T (i+1+1+1) [[41]] then some (.ok [] (i+1+1+1) 1) else sNames T f (i+1+1+1) 1) _=_
  rw[h1']
  show obind (some (sEnd T [41] (i+1+1+1+(commas ps).length) 1)) _=_
  rw[hA4.fin]
  show obind (some (sBegin T [123] (i+1+1+1+(commas ps).length+1) 0)) _=_
  rw[hA4.one.begin (by omega)]
  show obind (sVars T f [] (i+1+1+1+(commas ps).length+1+1) 1) _=_
  rw[h2']
  show obind (sStmts T f [] (i+1+1+1+(commas ps).length+1+1+(varK ls).length) 1) _=_
  rw[h3']
  show obind (some (sEnd T [125] (i+1+1+1+(commas ps).length+1+1+(varK ls).length+t1.length) 1)) _=_
  rw[hA4.one.one.skip.skip.fin]
  show some (Res.ok (FnD.mk nm ps ls b) _ 0)=_
  congr 2
  simp only[List.length_cons,List.length_append,List.length_nil]
  omega
theorem array_parse {a:Ar} {ks:List KT} {i:Nat} (h:NameOk a.name∧a.size<4294967296) (hA:At T i (arK a++ks)):isTok T i [kwArray]=true∧isTok T i [kwVar]=false∧sArray T (i+1) 0=some (.ok a (i+6) 0):=by
 have hA1:At T i ((3,kwArray)::(2,a.name)::sg 91::(1,Go.Lib.decDigits a.size)::sg 93::sg 59::ks):=hA
 refine ⟨by rw[hA1.kw];decide,by rw[hA1.kw];decide,?_⟩
 unfold sArray
 rw[hA1.one.word]
 show obind (some (sBegin T [91] (i+1+1) 0)) _=_
 rw[hA1.one.one.begin (by omega)]
 show obind (some (sNumber T (i+1+1+1) 1)) _=_
 rw[hA1.one.one.one.number h.2]
 show obind (some (sEnd T [93] (i+1+1+1+1) 1)) _=_
 rw[hA1.one.one.one.one.fin]
 show obind (some (sNeed T [59] (i+1+1+1+1+1) 0)) _=_
 rw[hA1.one.one.one.one.one.need]
 rfl
theorem At.lt {i:Nat} {t:KT} {ks:List KT} (h:At T i (t::ks)):i<T.length:=by
 obtain ⟨t',h1,_⟩:=h.get
 exact get_lt h1
theorem At.len {i:Nat} (h:At T i []):T.length≤i:=by
 have h1:((T.map kt).drop i).length=0:=by rw[show (T.map kt).drop i=[] from h];rfl
 rw[List.length_drop,List.length_map] at h1
 omega
theorem funcs_parse:∀ (l:List FnD) (ts:List KT) (p:Pr) (i:Nat),PFs l ts→At T i ts→∃ j,Evt (fun f=>sProg T f p i 0) (.ok { p with funcs:=p.funcs++l } j 0)
 |[],ts,p,i,h,hA=>by
  cases h with
  |nil=>
   refine ⟨i,1,fun f hf=>?_⟩
   obtain ⟨g,rfl⟩:∃ g,f=g+1:=⟨f-1,by omega⟩
   show sProg T (g+1) p i 0=_
   rw[sProg,if_pos hA.len,List.append_nil]
 |a::l,ts,p,i,h,hA=>by
  cases h with
  |cons hf hd hl=>
   obtain ⟨e1,e2,e3,f1,h1⟩:=func_parse hf hd hA
   obtain ⟨j,f2,h2⟩:=funcs_parse l _ { p with funcs:=p.funcs++[a] } _ hl hA.skip
   refine ⟨j,f1+f2+1,fun f hf=>?_⟩
   obtain ⟨g,rfl⟩:∃ g,f=g+1:=⟨f-1,by omega⟩
   have h1':=h1 g (by omega)
   have h2':=h2 g (by omega)
   simp only at h1' h2'
   show sProg T (g+1) p i 0=_
   rw[sProg,if_neg (by have:=isTok_lt e1;omega),if_neg (by rw[e3];decide),if_neg (by rw[e2];decide),if_pos e1,h1']
   show sProg T g { p with funcs:=p.funcs++[a] } _ 0=_
   rw[h2',List.append_assoc]
   rfl
theorem arrays_parse:∀ (l:List Ar) (fs:List FnD) (ts:List KT) (p:Pr) (i:Nat),ArsOk l→PFs fs ts→At T i ((l.map arK).flatten++ts)→∃ j,Evt (fun f=>sProg T f p i 0) (.ok ⟨p.vars,p.arrays++l,p.funcs++fs⟩ j 0)
 |[],fs,ts,p,i,_,hf,hA=>by
  rw[List.append_nil]
  exact funcs_parse fs ts p i hf hA
 |a::l,fs,ts,p,i,hl,hf,hA=>by
  rw[List.map_cons,List.flatten_cons,List.append_assoc] at hA
  obtain ⟨e1,e2,h1⟩:=array_parse (hl a (List.mem_cons_self ..)) hA
  obtain ⟨j,f2,h2⟩:=arrays_parse l fs ts { p with arrays:=p.arrays++[a] } _ (fun x hx=>hl x (List.mem_cons_of_mem _ hx)) hf hA.skip
  refine ⟨j,f2+1,fun f hf=>?_⟩
  obtain ⟨g,rfl⟩:∃ g,f=g+1:=⟨f-1,by omega⟩
  have h2':=h2 g (by omega)
  simp only at h2'
  show sProg T (g+1) p i 0=_
  rw[sProg,if_neg (by have:=isTok_lt e1;omega),if_neg (by rw[e2];decide),if_pos e1,h1]
  show sProg T g { p with arrays:=p.arrays++[a] } (i+6) 0=_
  have e6:(arK a).length=6:=rfl
  rw[e6] at h2'
  rw[h2',List.append_assoc]
  rfl
theorem prog_parse {p:Pr} {ts:List KT} (hp:PP p ts) (hA:At T 0 ts):∃ j,Evt (fun f=>sProg T f ⟨[],[],[]⟩ 0 0) (.ok p j 0):=by
 cases hp with
 |mk hv ha hf=>
  rename_i v a fs t1
  have hno:tokIn ((a.map arK).flatten++t1) [kwVar]=false:=by
   match a,hf with
   |x::r,_=>simp[tokIn,arK,kwArray,kwVar]
   |[],hf=>
    cases hf with
    |nil=>rfl
    |cons h _ _=>
     cases h with
     |mk _ _ _ _=>simp[tokIn,kwFunc,kwVar]
  by_cases hne:v=[]
  ·subst hne
   exact arrays_parse a fs t1 ⟨[],[],[]⟩ 0 ha hf hA
  ·obtain ⟨f1,h1⟩:=vars_parse (op:=0) hno hA
   obtain ⟨j,f2,h2⟩:=arrays_parse a fs t1 ⟨v,[],[]⟩ _ ha hf hA.skip
   have hA1:At T 0 ((3,kwVar)::(commas v++[sg 59]++((a.map arK).flatten++t1))):=by
    unfold varK at hA
    rw[if_neg hne] at hA
    exact hA
   refine ⟨j,f1+f2+1,fun f hf=>?_⟩
   obtain ⟨g,rfl⟩:∃ g,f=g+1:=⟨f-1,by omega⟩
   have h1':=h1 g (by omega)
   have h2':=h2 g (by omega)
   simp only at h1' h2'
   show sProg T (g+1) ⟨[],[],[]⟩ 0 0=_
   rw[sProg,if_neg (by have:=hA1.lt;omega),if_pos (by rw[hA1.kw];decide),h1']
   exact h2'
theorem print_read {p:Pr} {ts:List KT} {T:List Tok} (hp:PP p ts) (hT:T.map kt=ts) {F:Nat} {r:Res Pr} (hr:sProg T F ⟨[],[],[]⟩ 0 0=some r):∃ j,r=.ok p j 0:=by
 obtain ⟨j,f0,h⟩:=prog_parse (T:=T) hp (by show (T.map kt).drop 0=ts;rw[hT];rfl)
 have h1:=prog_le T F (F+f0) _ 0 0 (by omega) _ hr
 have h2:=h (F+f0) (by omega)
 simp only at h2
 rw[h1] at h2
 injection h2 with h2
 exact ⟨j,h2⟩
end
end Go.Stele
namespace Go.Stele
section
variable {T T':List Tok} {d c z m:Nat}
end
end Go.Stele
/- The parser in plain Lean: a main function with one assignment; parentheses and signs around an operand. -/
set_option maxRecDepth 100000
namespace Go.Stele
section
variable {T:List Tok}
end
end Go.Stele
/- The lexer and the parser in plain Lean: parentheses around an expression that stands alone in a body. -/
set_option maxRecDepth 100000
namespace Go.Stele
theorem tw_del {p:UInt8→Bool} {d:UInt8} (hp:p d=false) (b:List UInt8):∀ s:List UInt8,(s++d::b).takeWhile p=s.takeWhile p
 |[]=>by rw[List.nil_append,List.takeWhile_cons_of_neg (by simp[hp])];rfl
 |c::s=>by
  rw[List.cons_append]
  by_cases h:p c=true
  ·rw[List.takeWhile_cons_of_pos h,List.takeWhile_cons_of_pos h,tw_del hp b s]
  ·rw[List.takeWhile_cons_of_neg h,List.takeWhile_cons_of_neg h]
theorem pre_del {d:UInt8} (b:List UInt8):∀ (x s:List UInt8),d ∉ x→x.isPrefixOf (s++d::b)=x.isPrefixOf s
 |[],s,_=>by simp
 |c::x,[],h=>by
  have:¬ c=d:=fun hc=>h (by rw[hc];exact List.mem_cons_self ..)
  simp[List.isPrefixOf,this]
 |c::x,e::s,h=>by
  have:=pre_del b x s fun hx=>h (List.mem_cons_of_mem _ hx)
  simp only[List.cons_append,List.isPrefixOf,this]
theorem pre_del' {d:UInt8} (b:List UInt8) (c:UInt8) (s:List UInt8):∀ x:List UInt8,d ∉ x.tail→x.isPrefixOf (c::s++d::b)=x.isPrefixOf (c::s)
 |[],_=>by simp
 |a::x,h=>by
  have:=pre_del b x s h
  simp only[List.cons_append,List.isPrefixOf,this]
theorem find_del {d:UInt8} (b:List UInt8) (c:UInt8) (s:List UInt8):∀ L:List (List UInt8),(∀ x∈L,d ∉ x.tail)→L.find? (fun x=>x.isPrefixOf (c::s++d::b))=L.find? (fun x=>x.isPrefixOf (c::s))
 |[],_=>rfl
 |x::L,h=>by
  rw[List.find?_cons,List.find?_cons,pre_del' b c s x (h x (List.mem_cons_self ..)),find_del b c s L fun y hy=>h y (List.mem_cons_of_mem _ hy)]
end Go.Stele
/- The parser in plain Lean: constructs within constructs. -/
set_option maxRecDepth 100000
namespace Go.Stele
section
variable {bs:List Bool}
end
end Go.Stele
set_option maxRecDepth 100000
namespace Go.Stele
open Go.Lib
structure Fin2 (d:UInt8):Prop where
 digit:isDigit d=false
 inner:isInner d=false
 next:(isLetter d || decide (cv d=95))=false
 slash:d≠47
 signs:∀ x∈signs,d ∉ x.tail
theorem wordNext_fin {d:UInt8} (hd:Fin2 d) (b s:List UInt8) {n:Nat} (hn:n≤s.length):wordNext (s++d::b) n=wordNext s n:=by
 unfold wordNext
 rcases Nat.lt_or_ge n s.length with h|h
 ·rw[List.getElem?_append_left h]
 ·have:n=s.length:=by omega
  subst this
  rw[List.getElem?_append_right (Nat.le_refl _),List.getElem?_eq_none (Nat.le_refl _)]
  rw[Nat.sub_self,List.getElem?_cons_zero]
  exact hd.next
theorem lexToken_fin {d:UInt8} (hd:Fin2 d) (b:List UInt8) (c:UInt8) (r:List UInt8) (h:c=39→2≤r.length):lexToken (c::r++d::b)=lexToken (c::r):=by
 simp only[List.cons_append,lexToken]
 by_cases hc:isDigit c=true
 ·rw[if_pos hc,if_pos hc]
  unfold lexNumber
  have e1:(c::(r++d::b)).takeWhile isDigit=(c::r).takeWhile isDigit:=tw_del hd.digit b (c::r)
  have e2:=wordNext_fin hd b (c::r) (takeWhile_le isDigit (c::r))
  rw[List.cons_append] at e2
  rw[e1,e2]
 rw[if_neg hc,if_neg hc]
 by_cases hl:isLetter c=true
 ·rw[if_pos hl,if_pos hl]
  unfold lexName
  have e1:(c::(r++d::b)).takeWhile isInner=(c::r).takeWhile isInner:=tw_del hd.inner b (c::r)
  rw[e1]
 rw[if_neg hl,if_neg hl]
 by_cases hq:decide (cv c=39)=true
 ·rw[if_pos hq,if_pos hq]
  have h39:c=39:=by
   rw[decide_eq_true_eq] at hq
   apply UInt8.toNat_inj.1
   have:(c.toNat:Int)=39:=hq
   show c.toNat=39
   omega
  match r,h h39 with
  |x::y::r,_=>rfl
  |[x],h=>simp at h
  |[],h=>simp at h
 ·rw[if_neg hq,if_neg hq]
  unfold lexSign
  have e1:=find_del b c r signs hd.signs
  rw[List.cons_append] at e1
  rw[e1]
theorem skip_fin {d:UInt8} (hd:Fin2 d) (b:List UInt8) {c:UInt8} (r:List UInt8) (hw:isWhite c=false) (hsl:([47,47]:List UInt8).isPrefixOf (c::r)=false):skipLen (c::r++d::b)=0∧skipLen (c::r)=0:=by
 have e1:=pre_del' (d:=d) b c r [47,47] (by simp only[List.tail_cons,List.mem_singleton];exact hd.slash)
 unfold skipLen
 rw[e1,hsl,if_neg (by decide),if_neg (by decide),List.cons_append,List.takeWhile_cons_of_neg (by rw[hw];decide),List.takeWhile_cons_of_neg (by rw[hw];decide)]
 exact ⟨rfl,rfl⟩
def Lx (s:List UInt8) (ks:List KT):Prop:=∀ l:Int,∃ A,lexAt s l=.ok A∧A.map kt=ks
theorem Lx.nil:Lx [] []:=fun l=>⟨[],lexAt_nil l,rfl⟩
theorem Lx.white {c:UInt8} (hc:isWhite c=true) {b:List UInt8} {ks:List KT} (h:Lx b ks):Lx (c::b) ks:=fun l=>by
 rw[lexAt_white hc]
 exact h _
theorem Lx.whites:∀ {w b:List UInt8} {ks:List KT},(∀ c∈w,isWhite c=true)→Lx b ks→Lx (w++b) ks
 |[],_,_,_,h=>h
 |c::w,_,_,hw,h=>Lx.white (hw c (List.mem_cons_self ..)) (Lx.whites (fun x hx=>hw x (List.mem_cons_of_mem _ hx)) h)
theorem Lx.tok {x rest:List UInt8} {k:Int} {ks:List KT} (hne:x≠[]) (hs:skipLen (x++rest)=0) (ht:lexToken (x++rest)=(⟨k,x,0⟩,x.length,0)) (h:Lx rest ks):Lx (x++rest) ((k,x)::ks):=fun l=>by
 rw[←lexAt_eq (f:=(x++rest).length+1) (by omega),lexP,if_neg (by simp[hne]),if_pos hs,ht,if_neg (by simp)]
 simp only
 rw[List.drop_left,lexAt_eq (by rw[List.length_append];omega)]
 obtain ⟨A,h1,h2⟩:=h (l+(((x++rest).take x.length).count 10:Nat))
 rw[h1]
 exact ⟨_,rfl,by rw[List.map_cons,h2];rfl⟩
theorem Lx.del {x b:List UInt8} {k l0:Int} {d:UInt8} {ks:List KT} (ha:Again ⟨k,x,l0⟩) (hd:Fin2 d) (h:Lx (d::b) ks):Lx (x++d::b) ((k,x)::ks):=by
 obtain ⟨_,hne,hs,_,ht⟩:=ha
 simp only at hne hs ht
 obtain ⟨c,r,rfl⟩:=List.exists_cons_of_ne_nil hne
 obtain ⟨h47,hw⟩:=skip_zero hs
 have hw':isWhite c=false:=by
  cases h0:isWhite c with
  |false=>rfl
  |true=>rw[List.takeWhile_cons_of_pos h0] at hw;cases hw
 refine Lx.tok hne (skip_fin hd b r hw' h47).1 ?_ h
 rw[lexToken_fin hd b c r ?_]
 ·exact ht
 ·rintro rfl
  have h1:lexLiteral (39::r)=(⟨k,39::r,0⟩,(39::r).length,0):=ht
  match r,h1 with
  |[],h1=>simp[lexLiteral,tokErr] at h1
  |[_],h1=>simp[lexLiteral,tokErr] at h1
  |_::_::_,_=>simp
theorem Lx.sign {c:UInt8} (hc:c∈([40,41,91,93,44,59,123,125,45]:List UInt8)) {rest:List UInt8} {ks:List KT} (h:Lx rest ks):Lx (c::rest) (sg c::ks):=by
 have h1:skipLen (c::rest)=0:=by
  have:∀ c∈([40,41,91,93,44,59,123,125,45]:List UInt8),isWhite c=false∧c≠47:=by decide
  exact skip_head (this c hc).1 (this c hc).2
 have h2:lexToken (c::rest)=(⟨4,[c],0⟩,1,0):=by
  simp only[List.mem_cons,List.not_mem_nil,or_false] at hc
  rcases hc with rfl|rfl|rfl|rfl|rfl|rfl|rfl|rfl|rfl <;> rfl
 exact Lx.tok (x:=[c]) (by simp) h1 h2 h
theorem Lx.bang {c:UInt8} (hc:c≠61) {r:List UInt8} {ks:List KT} (h:Lx (c::r) ks):Lx (33::c::r) (sg 33::ks):=by
 have h1:skipLen (33::c::r)=0:=skip_head (by decide) (by decide)
 have h2:lexToken (33::c::r)=(⟨4,[33],0⟩,1,0):=by
  have h3:signs.find? (fun x=>x.isPrefixOf (33::c::r))=some [33]:=by
   have h4:((61:UInt8) == c)=false:=by
    rw[beq_eq_false_iff_ne]
    exact fun h=>hc h.symm
   simp[signs,List.isPrefixOf,h4]
  show lexSign (33::c::r)=_
  unfold lexSign
  rw[h3]
  rfl
 exact Lx.tok (x:=[33]) (by simp) h1 h2 h
theorem fin59:Fin2 59:=⟨by decide,by decide,by decide,by decide,by decide⟩
theorem fin41:Fin2 41:=⟨by decide,by decide,by decide,by decide,by decide⟩
theorem fin32:Fin2 32:=⟨by decide,by decide,by decide,by decide,by decide⟩
theorem fin40:Fin2 40:=⟨by decide,by decide,by decide,by decide,by decide⟩
theorem fin91:Fin2 91:=⟨by decide,by decide,by decide,by decide,by decide⟩
theorem fin93:Fin2 93:=⟨by decide,by decide,by decide,by decide,by decide⟩
theorem fin44:Fin2 44:=⟨by decide,by decide,by decide,by decide,by decide⟩
def DelS (s:List UInt8):Prop:=∃ d b,s=d::b∧Fin2 d
theorem Lx.delS {x s:List UInt8} {k l0:Int} {ks:List KT} (ha:Again ⟨k,x,l0⟩) (hd:DelS s) (h:Lx s ks):Lx (x++s) ((k,x)::ks):=by
 obtain ⟨d,b,rfl,hd⟩:=hd
 exact Lx.del ha hd h
theorem kw_again:∀ x∈keywords,x.length≤24∧x≠[]∧skipLen x=0∧(10:UInt8) ∉ x∧lexToken x=(⟨3,x,0⟩,x.length,0):=by decide +kernel
theorem again_kw {x:List UInt8} (h:x∈keywords):Again ⟨3,x,0⟩:=kw_again x h
theorem again_sg {x:List UInt8} (h:x∈signs):Again ⟨4,x,0⟩:=again_sign x h
theorem op_facts1:∀ s,s<6→∀ o∈lvOps s,o≠nNum∧o≠nVar∧o≠nElem∧o≠nCall:=by decide +kernel
theorem op_facts2:∀ s,s<6→∀ o∈lvOps s,o≠nNeg∧o≠nNot∧strengthP o=s∧o∈signs:=by decide +kernel
theorem op_facts (s:Nat) (hs:s<6) (o:List UInt8) (ho:o∈lvOps s):o≠nNum∧o≠nVar∧o≠nElem∧o≠nCall∧o≠nNeg∧o≠nNot∧strengthP o=s∧o∈signs:=by
 obtain ⟨h1,h2,h3,h4⟩:=op_facts1 s hs o ho
 exact ⟨h1,h2,h3,h4,op_facts2 s hs o ho⟩
theorem opnd_no {o t:List UInt8} {k:Nat} (h:k≤strengthP o):opnd (o,t) k=t:=by
 unfold opnd
 rw[if_neg (by simp only;omega)]
theorem opnd_yes {o t:List UInt8} {k:Nat} (h:strengthP o<k):opnd (o,t) k=[40]++t++[41]:=by
 unfold opnd
 rw[if_pos h]
theorem fE_num (n:Nat):fE (.mk nNum n [] [])=decDigits n:=by
 rw[fE_mk,fNode,if_pos rfl]
theorem fE_var (s:List UInt8):fE (.mk nVar 0 s [])=s:=by
 rw[fE_mk,fNode,if_neg (by decide),if_pos rfl]
theorem fE_elem (s:List UInt8) (a:Ex):fE (.mk nElem 0 s [a])=s++[91]++fE a++[93]:=by
 rw[fE_mk,fNode,if_neg (by decide),if_neg (by decide),if_pos ⟨rfl,rfl⟩]
 rfl
theorem fE_call (s:List UInt8) (l:List Ex):fE (.mk nCall 0 s l)=s++[40]++join (l.map fE) comSp++[41]:=by
 rw[fE_mk,fNode,if_neg (by decide),if_neg (by decide),if_neg (fun h=>absurd h.1 (by decide)),if_pos rfl,List.map_map]
 rfl
theorem fE_neg (a:Ex):fE (.mk nNeg 0 [] [a])=45::opnd (exOp a,fE a) 6:=by
 rw[fE_mk,fNode,if_neg (by decide),if_neg (by decide),if_neg (fun h=>absurd h.1 (by decide)),if_neg (by decide),if_pos ⟨rfl,rfl⟩]
 rfl
theorem fE_not (a:Ex):fE (.mk nNot 0 [] [a])=33::opnd (exOp a,fE a) 6:=by
 rw[fE_mk,fNode,if_neg (by decide),if_neg (by decide),if_neg (fun h=>absurd h.1 (by decide)),if_neg (by decide),if_neg (fun h=>absurd h.1 (by decide)),if_pos ⟨rfl,rfl⟩]
 rfl
theorem fE_bin {s:Nat} {o:List UInt8} (hs:s<6) (ho:o∈lvOps s) (a b:Ex):fE (.mk o 0 [] [a,b])=opnd (exOp a,fE a) (leftLv s)++[32]++o++[32]++opnd (exOp b,fE b) (s+1):=by
 obtain ⟨h1,h2,h3,h4,h5,h6,h7,_⟩:=op_facts s hs o ho
 rw[fE_mk,fNode,if_neg h1,if_neg h2,if_neg (fun h=>h3 h.1),if_neg h4,if_neg (fun h=>h5 h.1),if_neg (fun h=>h6 h.1),if_pos (by rfl),h7]
 rfl
theorem name_head {s:List UInt8} (h:NameOk s):∃ c r,s=c::r∧c≠61:=by
 obtain ⟨_,hne,_,_,ht⟩:=h
 obtain ⟨c,r,hr⟩:=List.exists_cons_of_ne_nil hne
 simp only at hr ht
 refine ⟨c,r,hr,?_⟩
 rintro rfl
 rw[hr] at ht
 have h1:lexSign (61::r)=(⟨2,61::r,0⟩,(61::r).length,0):=ht
 unfold lexSign at h1
 split at h1
 ·injection h1 with h1 _
  injection h1 with h1 _ _
  exact absurd h1 (by decide)
 ·injection h1 with h1 _
  injection h1 with h1 _ _
  exact absurd h1 (by decide)
theorem pe_head:∀ (n:Nat) (e:Ex),nEx e≤n→∀ (k:Nat) (ts:List KT) (d:Nat),k≤6→PE e k ts d→∃ c r,opnd (exOp e,fE e) k=c::r∧c≠61
 |0,.mk _ _ _ _,hn=>by rw[nEx] at hn;omega
 |n+1,e,hn=>by
  intro k ts d hk h
  cases h with
  |num h=>
   rename_i m
   show ∃ c r,opnd (nNum,fE _) k=_∧_
   rw[opnd_no (by rw[show strengthP nNum=7 from rfl];omega),fE_num]
   obtain ⟨c,r,hr⟩:=List.exists_cons_of_ne_nil (decDigits_ne m)
   refine ⟨c,r,hr,?_⟩
   rintro rfl
   have:=dec_digits m 61 (by rw[hr];exact List.mem_cons_self ..)
   exact absurd this (by decide)
  |var h=>
   show ∃ c r,opnd (nVar,fE _) k=_∧_
   rw[opnd_no (by rw[show strengthP nVar=7 from rfl];omega),fE_var]
   exact name_head h
  |elem h ha=>
   show ∃ c r,opnd (nElem,fE _) k=_∧_
   rw[opnd_no (by rw[show strengthP nElem=7 from rfl];omega),fE_elem]
   obtain ⟨c,r,rfl,hc⟩:=name_head h
   exact ⟨c,_,rfl,hc⟩
  |call h ha=>
   show ∃ c r,opnd (nCall,fE _) k=_∧_
   rw[opnd_no (by rw[show strengthP nCall=7 from rfl];omega),fE_call]
   obtain ⟨c,r,rfl,hc⟩:=name_head h
   exact ⟨c,_,rfl,hc⟩
  |neg ha=>
   show ∃ c r,opnd (nNeg,fE _) k=_∧_
   rw[opnd_no (by rw[show strengthP nNeg=6 from rfl];omega),fE_neg]
   exact ⟨_,_,rfl,by decide⟩
  |not ha=>
   show ∃ c r,opnd (nNot,fE _) k=_∧_
   rw[opnd_no (by rw[show strengthP nNot=6 from rfl];omega),fE_not]
   exact ⟨_,_,rfl,by decide⟩
  |par hs ho hk2 ha hb=>
   obtain ⟨_,_,_,_,_,_,h7,_⟩:=op_facts _ hs _ ho
   simp only[exOp]
   rw[opnd_yes (by omega)]
   exact ⟨_,_,rfl,by decide⟩
  |bin hs ho hk2 ha hb=>
   obtain ⟨_,_,_,_,_,_,h7,_⟩:=op_facts _ hs _ ho
   simp only[nEx,nExs] at hn
   simp only[exOp]
   rw[opnd_no (by omega),fE_bin hs ho]
   obtain ⟨c,r,hr,hc⟩:=pe_head n _ (by omega) _ _ _ (by unfold leftLv;split <;> omega) ha
   rw[hr]
   exact ⟨c,_,rfl,hc⟩
def LE (e:Ex):Prop:=∀ (k:Nat) (ts:List KT) (d:Nat) (rest:List UInt8) (ks:List KT),k≤6→PE e k ts d→DelS rest→Lx rest ks→Lx (opnd (exOp e,fE e) k++rest) (ts++ks)
theorem delS_cons {d:UInt8} (hd:Fin2 d) (b:List UInt8):DelS (d::b):=⟨d,b,rfl,hd⟩
theorem LE.zero {e:Ex} (h:LE e) {ts:List KT} {d:Nat} {rest:List UInt8} {ks:List KT} (hp:PE e 0 ts d) (hd:DelS rest) (hl:Lx rest ks):Lx (fE e++rest) (ts++ks):=by
 have:=h 0 ts d rest ks (by omega) hp hd hl
 rwa [opnd_no (Nat.zero_le _)] at this
theorem join_two (x y:List UInt8) (r:List (List UInt8)):join (x::y::r) comSp=x++(44::32::join (y::r) comSp):=by
 have h:join (x::y::r) comSp=x++comSp++join (y::r) comSp:=by simp[join]
 rw[h,List.append_assoc]
 rfl
theorem list_lex:∀ (l:List Ex) (ts:List KT) (d:Nat) (rest:List UInt8) (ks:List KT),(∀ x∈l,LE x)→PEs l ts d→DelS rest→Lx rest ks→Lx (join (l.map fE) comSp++rest) (ts++ks)
 |[],ts,d,rest,ks,_,hp,_,h=>by
  cases hp with
  |nil=>exact h
 |a::l,ts,d,rest,ks,hl,hp,hd,h=>by
  cases hp with
  |one ha=>
   rw[show List.map fE [a]=[fE a] from rfl,join_one]
   exact (hl a (List.mem_cons_self ..)).zero ha hd h
  |@more _ b l t1 t2 d1 d2 ha hr=>
   have h2:=list_lex (b::l) t2 d2 rest ks (fun x hx=>hl x (List.mem_cons_of_mem _ hx)) hr hd h
   rw[List.map_cons,List.map_cons,join_two,List.append_assoc,List.append_assoc]
   refine (hl a (List.mem_cons_self ..)).zero ha (delS_cons fin44 _) ?_
   exact Lx.sign (by decide) (Lx.white (by decide) h2)
theorem ex_lex:∀ (n:Nat) (e:Ex),nEx e≤n→LE e
 |0,.mk _ _ _ _,hn=>by rw[nEx] at hn;omega
 |n+1,e,hn=>by
  intro k ts d rest ks hk hp hd hl
  have bin:∀ {s:Nat} {o:List UInt8} {a b:Ex} {t1 t2:List KT} {d1 d2:Nat} {rest:List UInt8} {ks:List KT},nEx (.mk o 0 [] [a,b])≤n+1→s<6→o∈lvOps s→PE a (leftLv s) t1 d1→PE b (s+1) t2 d2→DelS rest→Lx rest ks →
    Lx (fE (.mk o 0 [] [a,b])++rest) ((t1++(4,o)::t2)++ks):=by
   intro s o a b t1 t2 d1 d2 rest ks hn hs ho pa pb hd hl
   obtain ⟨_,_,_,_,_,_,_,h8⟩:=op_facts s hs o ho
   simp only[nEx,nExs] at hn
   rw[fE_bin hs ho]
   have h2:=ex_lex n b (by omega) (s+1) t2 d2 rest ks (by omega) pb hd hl
   have h3:Lx (o++32::(opnd (exOp b,fE b) (s+1)++rest)) ((4,o)::(t2++ks)):=Lx.del (again_sg h8) fin32 (Lx.white (by decide) h2)
   have h4:=ex_lex n a (by omega) (leftLv s) t1 d1 (32::(o++32::(opnd (exOp b,fE b) (s+1)++rest))) _ (by unfold leftLv;split <;> omega) pa (delS_cons fin32 _) (Lx.white (by decide) h3)
   simpa only[List.append_assoc,List.cons_append,List.nil_append] using h4
  cases hp with
  |num h=>
   show Lx (opnd (nNum,fE _) k++rest) _
   rw[opnd_no (by rw[show strengthP nNum=7 from rfl];omega),fE_num]
   exact Lx.delS (again_dec h 0) hd hl
  |var h=>
   show Lx (opnd (nVar,fE _) k++rest) _
   rw[opnd_no (by rw[show strengthP nVar=7 from rfl];omega),fE_var]
   exact Lx.delS h hd hl
  |elem h ha=>
   rename_i s a t1 d1
   simp only[nEx,nExs] at hn
   show Lx (opnd (nElem,fE _) k++rest) _
   rw[opnd_no (by rw[show strengthP nElem=7 from rfl];omega),fE_elem]
   have h1:=(ex_lex n a (by omega)).zero ha (delS_cons fin93 rest) (Lx.sign (by decide) hl)
   have h2:=Lx.del h fin91 (Lx.sign (by decide) h1)
   simpa only[List.append_assoc,List.cons_append,List.nil_append] using h2
  |call h ha=>
   rename_i s l t1 d1
   simp only[nEx] at hn
   show Lx (opnd (nCall,fE _) k++rest) _
   rw[opnd_no (by rw[show strengthP nCall=7 from rfl];omega),fE_call]
   have h1:=list_lex l t1 d1 (41::rest) _ (fun x hx=>ex_lex n x (by have:=nExs_mem hx;omega)) ha (delS_cons fin41 rest) (Lx.sign (by decide) hl)
   have h2:=Lx.del h fin40 (Lx.sign (by decide) h1)
   simpa only[List.append_assoc,List.cons_append,List.nil_append] using h2
  |neg ha=>
   simp only[nEx,nExs] at hn
   show Lx (opnd (nNeg,fE _) k++rest) _
   rw[opnd_no (by rw[show strengthP nNeg=6 from rfl];omega),fE_neg]
   exact Lx.sign (by decide) (ex_lex n _ (by omega) 6 _ _ rest ks (by omega) ha hd hl)
  |not ha=>
   rename_i a t1 d1
   simp only[nEx,nExs] at hn
   show Lx (opnd (nNot,fE _) k++rest) _
   rw[opnd_no (by rw[show strengthP nNot=6 from rfl];omega),fE_not]
   have h1:=ex_lex n a (by omega) 6 _ _ rest ks (by omega) ha hd hl
   obtain ⟨c,r,hr,hc⟩:=pe_head _ a (Nat.le_refl _) _ _ _ (by omega) ha
   rw[hr] at h1 ⊢
   exact Lx.bang hc h1
  |par hs ho hk2 ha hb=>
   obtain ⟨_,_,_,_,_,_,h7,_⟩:=op_facts _ hs _ ho
   have h1:=bin hn hs ho ha hb (delS_cons fin41 rest) (Lx.sign (by decide) hl)
   simp only[exOp]
   rw[opnd_yes (by omega)]
   have h2:=Lx.sign (c:=40) (by decide) h1
   simpa only[List.append_assoc,List.cons_append,List.nil_append] using h2
  |bin hs ho hk2 ha hb=>
   obtain ⟨_,_,_,_,_,_,h7,_⟩:=op_facts _ hs _ ho
   simp only[exOp]
   rw[opnd_no (by omega)]
   exact bin hn hs ho ha hb hd hl
theorem le (e:Ex):LE e:=ex_lex _ e (Nat.le_refl _)
/-! ### Statements -/
def Ind (ind:List UInt8):Prop:=∀ c∈ind,isWhite c=true
theorem Ind.two {ind:List UInt8} (h:Ind ind):Ind (ind2 ind):=fun c hc=>by
 rcases List.mem_append.1 hc with h1|h1
 ·exact h c h1
 ·simp only[List.mem_cons,List.not_mem_nil,or_false,or_self] at h1
  subst h1
  decide
theorem fOne_one (e:Ex):fOne [e]=fE e:=by
 unfold fOne
 rw[show List.map fE [e]=[fE e] from rfl,join_one]
theorem kw {x b:List UInt8} {ks:List KT} (hx:x∈keywords) (h:Lx b ks):Lx (x++32::b) ((3,x)::ks):=Lx.del (again_kw hx) fin32 (Lx.white (by decide) h)
theorem ends {rest:List UInt8} {ks:List KT} (h:Lx rest ks):Lx (59::10::rest) (sg 59::ks):=Lx.sign (by decide) (Lx.white (by decide) h)
theorem opens {rest:List UInt8} {ks:List KT} (h:Lx rest ks):Lx (32::123::10::rest) (sg 123::ks):=Lx.white (by decide) (Lx.sign (by decide) (Lx.white (by decide) h))
theorem equals {rest:List UInt8} {ks:List KT} (h:Lx rest ks):Lx (61::32::rest) (sg 61::ks):=Lx.del (x:=[61]) (again_sg (by decide)) fin32 (Lx.white (by decide) h)
theorem sm_lex:∀ (n:Nat),(∀ (s:Sm),nSm s≤n→∀ (ts:List KT) (d:Nat) (ind rest:List UInt8) (ks:List KT),Ind ind→PS s ts d→Lx rest ks→Lx (fS ind s++rest) (ts++ks)) ∧
  (∀ (l:List Sm),nSms l≤n→∀ (ts:List KT) (d:Nat) (ind rest:List UInt8) (ks:List KT),Ind ind→PSs l ts d→Lx rest ks→Lx (fSs ind l++rest) (ts++ks))
 |0=>by
  refine ⟨fun s hn=>?_,fun l hn ts d ind rest ks hi hp h=>?_⟩
  ·obtain ⟨k,a,b,c,d,e⟩:=s
   rw[nSm] at hn
   omega
  ·cases hp with
   |nil=>exact h
   |cons h1 h2=>
    rename_i s _ _ _ _ _
    obtain ⟨k,a,b,c,d,e⟩:=s
    rw[nSms,nSm] at hn
    omega
 |n+1=>by
  obtain ⟨hS,hL⟩:=sm_lex n
  have hS':∀ (s:Sm),nSm s≤n+1→∀ (ts:List KT) (d:Nat) (ind rest:List UInt8) (ks:List KT),Ind ind→PS s ts d→Lx rest ks→Lx (fS ind s++rest) (ts++ks):=by
   intro s hn ts d ind rest ks hi hp h
   have hi2:=hi.two
   cases hp with
   |assign hs he=>
    rename_i s e t1
    have h1:=Lx.whites hi (Lx.del hs fin32 (Lx.white (by decide) (equals ((le e).zero he (delS_cons fin59 _) (ends h)))))
    rw[fS_mk,fLine,if_pos rfl,fOne_one]
    simpa only[List.append_assoc,List.cons_append,List.nil_append] using h1
   |store hs hx he=>
    rename_i s x e t1 t2 d1 d2
    have h1:=Lx.whites hi (Lx.del hs fin91 (Lx.sign (by decide) ((le x).zero hx (delS_cons fin93 _) (Lx.sign (by decide) (Lx.white (c:=32) (by decide) (equals ((le e).zero he (delS_cons fin59 _) (ends h))))))))
    rw[fS_mk,fLine,if_neg (by decide),if_pos rfl,fOne_one,fOne_one]
    simpa only[List.append_assoc,List.cons_append,List.nil_append] using h1
   |call hs hl=>
    rename_i s l t1 d1
    have h1:=Lx.whites hi (Lx.del hs fin40 (Lx.sign (by decide) (list_lex l t1 d1 _ _ (fun x _=>le x) hl (delS_cons fin41 _) (Lx.sign (by decide) (ends h)))))
    rw[fS_mk,fLine,if_neg (by decide),if_neg (by decide),if_pos rfl,fOne_one,fE_call]
    simpa only[List.append_assoc,List.cons_append,List.nil_append] using h1
   |ret he=>
    rename_i e t1
    have h1:=Lx.whites hi (kw (x:=kwReturn) (by decide) ((le e).zero he (delS_cons fin59 _) (ends h)))
    rw[fS_mk,fLine,if_neg (by decide),if_neg (by decide),if_neg (by decide),if_pos rfl,fOne_one]
    simpa only[kwReturn,List.append_assoc,List.cons_append,List.nil_append] using h1
   |halt=>
    have h1:=Lx.whites hi (Lx.del (again_kw (x:=kwHalt) (by decide)) fin59 (ends h))
    rw[fS_mk,fLine,if_neg (by decide),if_neg (by decide),if_neg (by decide),if_neg (by decide),if_pos rfl]
    simpa only[kwHalt,List.append_assoc,List.cons_append,List.nil_append] using h1
   |ifElse he g1 g2 hne=>
    rename_i e th el t0 t1 t2 d0 d1 d2
    simp only[nSm] at hn
    have k1:Lx (ind++125::10::rest) (sg 125::ks):=Lx.whites hi (Lx.sign (by decide) (Lx.white (by decide) h))
    have k2:=hL el (by omega) t2 d2 (ind2 ind) _ _ hi2 g2 k1
    have k3:=Lx.whites hi (Lx.sign (c:=125) (by decide) (Lx.white (c:=32) (by decide) (Lx.del (again_kw (x:=kwElse) (by decide)) fin32 (opens k2))))
    have k4:=hL th (by omega) t1 d1 (ind2 ind) _ _ hi2 g1 k3
    have h1:=Lx.whites hi (kw (x:=kwIf) (by decide) ((le e).zero he (delS_cons fin32 _) (opens k4)))
    have hem:el.isEmpty=false:=by cases el <;> simp_all
    rw[fS_mk,fLine,if_neg (by decide),if_neg (by decide),if_neg (by decide),if_neg (by decide),if_neg (by decide),if_pos (by decide),if_neg (by decide),fOne_one,hem,if_neg (by decide)]
    simpa only[kwIf,kwElse,List.append_assoc,List.cons_append,List.nil_append] using h1
   |ifThen he g1=>
    rename_i e th t0 t1 d0 d1
    simp only[nSm] at hn
    have k1:Lx (ind++125::10::rest) (sg 125::ks):=Lx.whites hi (Lx.sign (by decide) (Lx.white (by decide) h))
    have k4:=hL th (by omega) t1 d1 (ind2 ind) _ _ hi2 g1 k1
    have h1:=Lx.whites hi (kw (x:=kwIf) (by decide) ((le e).zero he (delS_cons fin32 _) (opens k4)))
    rw[fS_mk,fLine,if_neg (by decide),if_neg (by decide),if_neg (by decide),if_neg (by decide),if_neg (by decide),if_pos (by decide),if_neg (by decide),fOne_one,if_pos (by rfl)]
    simpa only[kwIf,List.append_assoc,List.cons_append,List.nil_append,List.append_nil] using h1
   |«while» he g1=>
    rename_i e th t0 t1 d0 d1
    simp only[nSm] at hn
    have k1:Lx (ind++125::10::rest) (sg 125::ks):=Lx.whites hi (Lx.sign (by decide) (Lx.white (by decide) h))
    have k4:=hL th (by omega) t1 d1 (ind2 ind) _ _ hi2 g1 k1
    have h1:=Lx.whites hi (kw (x:=kwWhile) (by decide) ((le e).zero he (delS_cons fin32 _) (opens k4)))
    rw[fS_mk,fLine,if_neg (by decide),if_neg (by decide),if_neg (by decide),if_neg (by decide),if_neg (by decide),if_pos (by decide),if_pos rfl,fOne_one,if_pos (by rfl)]
    simpa only[kwWhile,List.append_assoc,List.cons_append,List.nil_append,List.append_nil] using h1
  refine ⟨hS',fun l hn ts d ind rest ks hi hp h=>?_⟩
  cases hp with
  |nil=>exact h
  |cons h1 h2=>
   rename_i s l t1 t2 d1 d2
   have hpos:0<nSm s:=by obtain ⟨k,a,b,c,d,e⟩:=s;rw[nSm];omega
   rw[nSms] at hn
   rw[fSs,List.append_assoc,List.append_assoc]
   exact hS' s (by omega) t1 d1 ind _ _ hi h1 (hL l (by omega) t2 d2 ind rest ks hi h2 h)
theorem sms_lex {l:List Sm} {ts:List KT} {d:Nat} {ind rest:List UInt8} {ks:List KT} (hi:Ind ind) (hp:PSs l ts d) (h:Lx rest ks):Lx (fSs ind l++rest) (ts++ks):=(sm_lex _).2 l (Nat.le_refl _) ts d ind rest ks hi hp h
/-! ### Declarations -/
theorem names_lex:∀ (l:List (List UInt8)) (rest:List UInt8) (ks:List KT),AllOk l→DelS rest→Lx rest ks→Lx (join l comSp++rest) (commas l++ks)
 |[],rest,ks,_,_,h=>h
 |[a],rest,ks,ha,hd,h=>by
  rw[join_one]
  exact Lx.delS (ha a (List.mem_cons_self ..)) hd h
 |a::b::l,rest,ks,ha,hd,h=>by
  have h2:=names_lex (b::l) rest ks (fun x hx=>ha x (List.mem_cons_of_mem _ hx)) hd h
  rw[join_two,List.append_assoc]
  exact Lx.del (ha a (List.mem_cons_self ..)) fin44 (Lx.sign (by decide) (Lx.white (by decide) h2))
theorem vars_lex {l:List (List UInt8)} {rest:List UInt8} {ks:List KT} (hl:AllOk l) (h:Lx rest ks):Lx ((if l=[] then [] else varsT l)++rest) (varK l++ks):=by
 unfold varK
 split
 ·exact h
 ·have h1:=kw (x:=kwVar) (by decide) (names_lex l _ _ hl (delS_cons fin59 _) (ends h))
  unfold varsT
  simpa only[kwVar,List.append_assoc,List.cons_append,List.nil_append] using h1
theorem fn_lex {a:FnD} {ts:List KT} {d:Nat} {rest:List UInt8} {ks:List KT} (hp:PF a ts d) (h:Lx rest ks):Lx (fFn a++rest) (ts++ks):=by
 cases hp with
 |mk hn hps hls hb=>
  rename_i nm ps ls b t1 d1
  have k1:Lx (125::10::rest) (sg 125::ks):=Lx.sign (by decide) (Lx.white (by decide) h)
  have k2:=sms_lex (ind:=[32,32]) (by intro c hc;simp only[List.mem_cons,List.not_mem_nil,or_false,or_self] at hc;subst hc;decide) hb k1
  have k3:Lx ((if ls=[] then [] else [32,32]++varsT ls)++(fSs [32,32] b++125::10::rest)) (varK ls++(t1++sg 125::ks)):=by
   have:=vars_lex hls k2
   split
   ·rename_i hls0
    rwa [if_pos hls0] at this
   ·rename_i hls0
    rw[if_neg hls0] at this
    rw[List.append_assoc]
    exact Lx.white (by decide) (Lx.white (by decide) this)
  have k4:=names_lex ps _ _ hps (delS_cons fin41 _) (Lx.sign (by decide) (opens k3))
  have h1:=kw (x:=kwFunc) (by decide) (Lx.del hn fin40 (Lx.sign (by decide) k4))
  unfold fFn
  simpa only[kwFunc,List.append_assoc,List.cons_append,List.nil_append] using h1
theorem ar_lex {a:Ar} {rest:List UInt8} {ks:List KT} (ha:NameOk a.name∧a.size<4294967296) (h:Lx rest ks):Lx (fAr a++rest) (arK a++ks):=by
 have h1:=kw (x:=kwArray) (by decide) (Lx.del ha.1 fin91 (Lx.sign (by decide) (Lx.del (again_dec ha.2 0) fin93 (Lx.sign (by decide) (ends h)))))
 unfold fAr arK
 simpa only[kwArray,List.append_assoc,List.cons_append,List.nil_append] using h1
theorem ars_lex:∀ (l:List Ar) {rest:List UInt8} {ks:List KT},ArsOk l→Lx rest ks→Lx ((l.map fAr).flatten++rest) ((l.map arK).flatten++ks)
 |[],_,_,_,h=>h
 |a::l,_,_,hl,h=>by
  rw[List.map_cons,List.map_cons,List.flatten_cons,List.flatten_cons,List.append_assoc,List.append_assoc]
  exact ar_lex (hl a (List.mem_cons_self ..)) (ars_lex l (fun x hx=>hl x (List.mem_cons_of_mem _ hx)) h)
theorem fns_lex:∀ (l:List FnD) {ts:List KT} {rest:List UInt8} {ks:List KT},PFs l ts→Lx rest ks→Lx ((l.map fFn).flatten++rest) (ts++ks)
 |[],_,_,_,hp,h=>by
  cases hp with
  |nil=>exact h
 |a::l,_,_,_,hp,h=>by
  cases hp with
  |cons hf hd hl=>
   rw[List.map_cons,List.flatten_cons,List.append_assoc,List.append_assoc]
   exact fn_lex hf (fns_lex l hl h)
theorem print_lex {p:Pr} {ts:List KT} (hp:PP p ts):Lx (formatP p) ts:=by
 cases hp with
 |mk hv ha hf=>
  have h1:=vars_lex hv (ars_lex _ ha (fns_lex _ hf Lx.nil))
  unfold formatP
  simpa only[List.append_assoc,List.append_nil] using h1
end Go.Stele
namespace Go.Stele
open Go.Lib
def parseQ (s:List UInt8):Pr×Int:=match lexAt s 1 with
 |.error (l,e)=>(⟨[],[],[]⟩,e)
 |.ok T=>match sProg T (10 * T.length+20) ⟨[],[],[]⟩ 0 0 with
  |some (.ok p _ _)=>(p,0)
  |some (.err l e)=>(⟨[],[],[]⟩,e)
  |none=>(⟨[],[],[]⟩,0)
/-! ### Limits -/
/-! ### Input -/
/-! ### The given sources -/
/-! ### Unused declarations -/
theorem commas_ge (l:List (List UInt8)):l.length≤(commas l).length:=by rw[commas_len];omega
theorem varK_ge (l:List (List UInt8)):l.length≤(varK l).length:=by 
 rw[varK_len]
 by_cases h:l=[]
 ·rw[h];exact Nat.zero_le _
 ·rw[if_neg h];omega
end Go.Stele
namespace Go.Stele
/-! ### Functions -/
theorem fresh_zero:∀ (l k:List Nm),freshE k l=0→l.Nodup∧∀ s∈l,s ∉ k∧isNm s=true
 |[],k,_=>⟨List.nodup_nil,fun s hs=>(List.not_mem_nil hs).elim⟩
 |s::l,k,h=>by
  rw[freshE] at h
  split at h
  ·cases h
  rename_i h1
  split at h
  ·cases h
  rename_i h2
  obtain ⟨g1,g2⟩:=fresh_zero l (s::k) h
  refine ⟨List.nodup_cons.2 ⟨fun hm=>(g2 s hm).1 (List.mem_cons_self ..),g1⟩,fun x hx=>?_⟩
  rcases List.mem_cons.1 hx with rfl|hx
  ·exact ⟨h2,by simpa using h1⟩
  ·exact ⟨fun hm=>(g2 x hx).1 (List.mem_cons_of_mem _ hm),(g2 x hx).2⟩
end Go.Stele
namespace Go.Stele
theorem noDot {s:Nm} (h:isNm s=true):(46:UInt8) ∉ s:=by
 unfold isNm at h
 rw[Bool.and_eq_true] at h
 have h2:=h.2
 cases s with
 |nil=>exact List.not_mem_nil
 |cons c r=>
  simp only[Bool.and_eq_true] at h2
  intro hm
  rcases List.mem_cons.1 hm with rfl|hm
  ·exact absurd h2.1 (by decide)
  ·exact absurd (List.all_eq_true.1 h2.2 46 hm) (by decide)
theorem split_dot:∀ (a b x y:Nm),(46:UInt8) ∉ a→(46:UInt8) ∉ b→a++46::x=b++46::y→a=b∧x=y
 |[],[],x,y,_,_,h=>by
  injection h with _ h
  exact ⟨rfl,h⟩
 |[],d::b,x,y,_,hb,h=>by
  injection h with h1 _
  exact absurd (h1▸List.mem_cons_self ..) hb
 |c::a,[],x,y,ha,_,h=>by
  injection h with h1 _
  exact absurd (h1▸List.mem_cons_self ..) ha
 |c::a,d::b,x,y,ha,hb,h=>by
  injection h with h1 h2
  obtain ⟨e1,e2⟩:=split_dot a b x y (fun g=>ha (List.mem_cons_of_mem _ g)) (fun g=>hb (List.mem_cons_of_mem _ g)) h2
  exact ⟨by rw[h1,e1],e2⟩
end Go.Stele
namespace Go.Stele
def Lt (v:Nat):Prop:=v<4294967296
mutual
def numE:Ex→Prop
 |.mk op num name args=>Lt num∧numEs args
def numEs:List Ex→Prop
 |[]=>True
 |x::l=>numE x∧numEs l
end
mutual
def numS:Sm→Prop
 |.mk kind name index value thn els=>numEs index∧numEs value∧numSs thn∧numSs els
def numSs:List Sm→Prop
 |[]=>True
 |x::l=>numS x∧numSs l
end
end Go.Stele
namespace Go.Stele
theorem errFs_own {vars arrays later:List Nm}:∀ (fs:List FnD) (known:List FSum),errFs vars arrays later known fs=0→∀ f∈fs,(f.params++f.locals).Nodup∧∀ x∈f.params++f.locals,x ∉ vars++arrays++later
 |[],known,_,f,hf=>(List.not_mem_nil hf).elim
 |g::l,known,h,f,hf=>by
  rw[errFs] at h
  obtain ⟨h1,h2⟩:=orE_zero.1 h
  rcases List.mem_cons.1 hf with rfl|hf
  ·obtain ⟨g1,g2⟩:=fresh_zero _ _ (orE_zero.1 h1).1
   exact ⟨g1,fun x hx=>(g2 x hx).1⟩
  ·exact errFs_own l _ h2 f hf
theorem nodup_map {A B:Type} {g:A→B} (hg:∀ x y,g x=g y→x=y):∀ {l:List A},l.Nodup→(l.map g).Nodup
 |[],_=>List.nodup_nil
 |a::l,h=>by
  rw[List.nodup_cons] at h
  rw[List.map_cons,List.nodup_cons]
  refine ⟨fun hm=>?_,nodup_map hg h.2⟩
  obtain ⟨b,hb,he⟩:=List.mem_map.1 hm
  exact h.1 (hg _ _ he▸hb)
theorem own_nodup {fs:List FnD}:(fs.map (·.name)).Nodup→(∀ f∈fs,(46:UInt8) ∉ f.name)→(∀ f∈fs,(f.params++f.locals).Nodup)→((fs.map fun f=>(f.params++f.locals).map fun x=>f.name++[46]++x).flatten).Nodup:=by
 induction fs with
 |nil=>intro _ _ _;exact List.nodup_nil
 |cons f l ih=>
  intro h1 h2 h3
  rw[List.map_cons,List.nodup_cons] at h1
  rw[List.map_cons,List.flatten_cons,List.nodup_append]
  refine ⟨?_,ih h1.2 (fun g hg=>h2 g (List.mem_cons_of_mem _ hg)) (fun g hg=>h3 g (List.mem_cons_of_mem _ hg)),?_⟩
  ·exact nodup_map (fun x y hxy=>List.append_cancel_left hxy) (h3 f (List.mem_cons_self ..))
  ·intro a ha b hb he
   subst he
   obtain ⟨x,_,rfl⟩:=List.mem_map.1 ha
   obtain ⟨L,g1,g2⟩:=List.mem_flatten.1 hb
   obtain ⟨g,g3,rfl⟩:=List.mem_map.1 g1
   obtain ⟨y,_,g5⟩:=List.mem_map.1 g2
   have g6:g.name++46::y=f.name++46::x:=by simpa using g5
   obtain ⟨e1,_⟩:=split_dot _ _ _ _ (h2 g (List.mem_cons_of_mem _ g3)) (h2 f (List.mem_cons_self ..)) g6
   exact h1.1 (List.mem_map.2 ⟨g,g3,e1⟩)
theorem scal_nodup {vars arrays:List Nm} {fs:List FnD} (h:freshE [] (vars++arrays++fs.map (·.name))=0) (hf:errFs vars arrays (fs.map (·.name)) [] fs=0):(scalarsP vars fs).Nodup:=by
 obtain ⟨h1,h2⟩:=fresh_zero _ _ h
 have ho:=errFs_own fs [] hf
 unfold scalarsP
 rw[List.nodup_append]
 refine ⟨(List.nodup_append.1 (List.nodup_append.1 h1).1).1,own_nodup (List.nodup_append.1 h1).2.1 (fun f hf=>noDot (h2 _ (List.mem_append.2 (.inr (List.mem_map.2 ⟨f,hf,rfl⟩)))).2) fun f hf=>(ho f hf).1,?_⟩
 intro a ha b hb he
 subst he
 obtain ⟨L,g1,g2⟩:=List.mem_flatten.1 hb
 obtain ⟨g,g3,rfl⟩:=List.mem_map.1 g1
 obtain ⟨y,_,g5⟩:=List.mem_map.1 g2
 have:=noDot (h2 _ (List.mem_append.2 (.inl (List.mem_append.2 (.inl ha))))).2
 rw[←g5] at this
 exact absurd (by simp) this
end Go.Stele
namespace Go.Stele
def Known (fs:List FnD) (known:List FSum):Prop:=∀ k∈known,∃ g∈fs,g.name=k.name∧g.params.length=k.params
theorem body_valid {vars arrays later:List Nm} {all:List FnD}:∀ (fs:List FnD) (known:List FSum),errFs vars arrays later known fs=0→Known all known→(∀ f∈fs,f∈all)→∀ f∈fs,∃ kn,errSs (envF vars arrays later kn f) f.body=0∧Known all kn
 |[],known,_,_,_,f,hf=>(List.not_mem_nil hf).elim
 |g::l,known,h,hk,ha,f,hf=>by
  rw[errFs] at h
  obtain ⟨h1,h2⟩:=orE_zero.1 h
  rcases List.mem_cons.1 hf with rfl|hf
  ·exact ⟨known,(orE_zero.1 h1).2,hk⟩
  ·refine body_valid l _ h2 (fun k hk'=>?_) (fun x hx=>ha x (List.mem_cons_of_mem _ hx)) f hf
   rcases List.mem_append.1 hk' with g1|g1
   ·exact hk k g1
   ·rw[List.mem_singleton.1 g1]
    exact ⟨g,ha g (List.mem_cons_self ..),rfl,rfl⟩
theorem sizes_valid:∀ (l:List Int) (t:Int),0≤t→sizesE t l=0→∀ n∈l,0<n∧t+n≤150000
 |[],t,_,_,n,hn=>(List.not_mem_nil hn).elim
 |a::l,t,ht,h,n,hn=>by
  rw[sizesE] at h
  split at h
  ·cases h
  split at h
  ·cases h
  rcases List.mem_cons.1 hn with rfl|hn
  ·constructor <;> omega
  ·have:=sizes_valid l (t+a) (by omega) h n hn
   constructor <;> omega
structure Valid (p:Pr):Prop where
 names:freshE [] (p.vars++p.arrays.map (·.name)++p.funcs.map (·.name))=0
 sizes:∀ a∈p.arrays,0<a.size∧a.size≤150000
 own:∀ f∈p.funcs,(f.params++f.locals).Nodup∧∀ x∈f.params++f.locals,x ∉ p.vars++p.arrays.map (·.name)++p.funcs.map (·.name)
 bodies:∀ f∈p.funcs,∃ kn,errSs (envF p.vars (p.arrays.map (·.name)) (p.funcs.map (·.name)) kn f) f.body=0∧Known p.funcs kn
 keys:(scalarsP p.vars p.funcs).Nodup
 main:mainI p∈p.funcs∧(mainI p).name=[109,97,105,110]∧(mainI p).params=[]
 few:(scalarsP p.vars p.funcs).length≤8000
theorem valid_of {p:Pr} (h:checkPr p=0):Valid p:=by
 unfold checkPr checkP at h
 have e1:(p.arrays.map fun a=>(a.name,(a.size:Int))).map (·.1)=p.arrays.map (·.name):=by rw[List.map_map];rfl
 rw[e1] at h
 obtain ⟨h1,h⟩:=orE_zero.1 h
 obtain ⟨h2,h⟩:=orE_zero.1 h
 obtain ⟨h3,h4⟩:=orE_zero.1 h
 have hm:mainI p∈p.funcs∧(mainI p).name=[109,97,105,110]∧(mainI p).params=[]∧(scalarsP p.vars p.funcs).length≤8000:=by
  unfold mainE at h4
  split at h4
  ·rename_i f m hf hms
   split at h4
   ·rename_i h5
    split at h4
    ·rename_i h6
     have e:mainI p=f:=by unfold mainI;rw[hf];rfl
     rw[e]
     exact ⟨List.mem_of_getLast? hf,h5.1,h5.2,h6.1⟩
    ·cases h4
   ·cases h4
  ·cases h4
 refine ⟨h1,fun a ha=>?_,errFs_own _ _ h3,body_valid _ _ h3 (fun k hk=>(List.not_mem_nil hk).elim) (fun f hf=>hf),scal_nodup h1 h3,⟨hm.1,hm.2.1,hm.2.2.1⟩,hm.2.2.2⟩
 have:=sizes_valid _ 0 (by decide) h2 (a.size:Int) (by
  rw[List.map_map]
  exact List.mem_map.2 ⟨a,ha,rfl⟩)
 constructor <;> omega
end Go.Stele
namespace Go.Stele
def Few6 (n:Nat):Prop:=n≤2000000
mutual
def smE:Ex→Prop
 |.mk op num name args=>Few6 args.length∧smEs args
def smEs:List Ex→Prop
 |[]=>True
 |x::l=>smE x∧smEs l
end
mutual
def smS:Sm→Prop
 |.mk kind name index value thn els=>Few6 index.length∧Few6 value.length∧Few6 thn.length∧Few6 els.length∧smEs index∧smEs value∧smSs thn∧smSs els
def smSs:List Sm→Prop
 |[]=>True
 |x::l=>smS x∧smSs l
end
structure SmF (f:FnD):Prop where
 params:Few6 f.params.length
 locals:Few6 f.locals.length
 body:Few6 f.body.length
 stmts:smSs f.body
end Go.Stele
