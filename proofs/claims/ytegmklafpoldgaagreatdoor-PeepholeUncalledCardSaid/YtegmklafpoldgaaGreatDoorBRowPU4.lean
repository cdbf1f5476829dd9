/- Texts joined: LexCat, ParTok, LexJoin, ParFuel, ParNodes, RtPrint, ParExt. -/
import Derived.Lib.Join
import Derived.Test.YtegmklafpoldgaaGreatDoorBRowPU2
import Derived.Test.YtegmklafpoldgaaGreatDoorBRowPU3
set_option linter.unusedVariables false
set_option linter.unusedSimpArgs false
set_option maxRecDepth 100000
set_option maxHeartbeats 4000000
namespace Go.Stele
theorem skip_white {c:UInt8} (hc:isWhite c=true) (b:List UInt8):skipLen (c::b)=(b.takeWhile isWhite).length+1:=by
 have h47:([47,47]:List UInt8).isPrefixOf (c::b)=false:=by
  cases h:([47,47]:List UInt8).isPrefixOf (c::b) with
  |false=>rfl
  |true=>
   simp only[List.isPrefixOf,zBa,beq_iff_eq] at h
   rw[←h.1] at hc
   exact absurd hc zDd
 unfold skipLen
 rw[h47,if_neg zDd,List.takeWhile_cons_of_pos hc]
 try rfl
theorem lexP_fuel:∀ (f g:Nat) (s:List UInt8) (line:Int),s.length≤f→s.length≤g→lexP f s line=lexP g s line
 |0,g,s,line,hf,_=>by
  have:s=[]:=List.eq_nil_of_length_eq_zero (by omega)
  subst this
  cases g with
  |zero=>rfl
  |succ g=>rw[lexP,lexP,if_pos rfl]
 |f+1,0,s,line,_,hg=>by
  have:s=[]:=List.eq_nil_of_length_eq_zero (by omega)
  subst this
  rw[lexP,lexP,if_pos rfl]
 |f+1,g+1,s,line,hf,hg=>by
  rw[lexP,lexP]
  by_cases h0:s=[]
  ·rw[if_pos h0,if_pos h0]
  rw[if_neg h0,if_neg h0]
  by_cases hk:skipLen s=0
  ·rw[if_pos hk,if_pos hk]
   by_cases he:(lexToken s).2.2≠0
   ·rw[if_pos he,if_pos he]
   ·rw[if_neg he,if_neg he]
    obtain ⟨h1,h2⟩:=lexToken_size s (by simpa using he)
    rw[lexP_fuel f g _ _ (by rw[List.length_drop];omega) (by rw[List.length_drop];omega)]
  ·rw[if_neg hk,if_neg hk]
   exact lexP_fuel f g _ _ (by rw[List.length_drop];omega) (by rw[List.length_drop];omega)
def lexAt (s:List UInt8) (line:Int):Except (Int×Int) (List Tok):=lexP s.length s line
theorem lexAt_eq {f:Nat} {s:List UInt8} (h:s.length≤f) (line:Int):lexP f s line=lexAt s line:=lexP_fuel _ _ _ _ h (zNr _)
theorem lexAt_nil (line:Int):lexAt [] line=.ok []:=rfl
theorem lexAt_white {c:UInt8} (hc:isWhite c=true) (b:List UInt8) (line:Int):lexAt (c::b) line=lexAt b (line+(([c]:List UInt8).count 10:Nat)):=by
 rw[←lexAt_eq (f:=b.length+1) (by simp),lexP,if_neg (by simp),if_neg (by rw[skip_white hc];omega),skip_white hc,List.drop_succ_cons,List.take_succ_cons,lexAt_eq (by rw[List.length_drop];omega)]
 cases b with
 |nil=>simp[lexAt_nil]
 |cons d b=>
  by_cases hd:isWhite d=true
  ·rw[←lexAt_eq (f:=b.length+1) (s:=d::b) (by simp),lexP,if_neg (by simp),if_neg (by rw[skip_white hd];omega),skip_white hd,List.takeWhile_cons_of_pos hd,zLc,List.drop_succ_cons,List.take_succ_cons,lexAt_eq (by rw[List.length_drop];omega)]
   congr 1
   rw[List.count_cons,List.count_singleton,List.count_cons]
   omega
  ·rw[List.takeWhile_cons_of_neg hd]
   simp
theorem tw_app {p:UInt8→Bool} (hp:p 10=false) (b:List UInt8):∀ s:List UInt8,(s++10::b).takeWhile p=s.takeWhile p
 |[]=>by rw[List.nil_append,List.takeWhile_cons_of_neg (by simp[hp])];rfl
 |c::s=>by
  rw[List.cons_append]
  by_cases h:p c=true
  ·rw[List.takeWhile_cons_of_pos h,List.takeWhile_cons_of_pos h,tw_app hp b s]
  ·rw[List.takeWhile_cons_of_neg h,List.takeWhile_cons_of_neg h]
theorem pre_app (b:List UInt8):∀ (x s:List UInt8),(10:UInt8) ∉ x→x.isPrefixOf (s++10::b)=x.isPrefixOf s
 |[],s,_=>by simp
 |c::x,[],h=>by
  have:¬ c=10:=fun hc=>h (by rw[hc];exact List.mem_cons_self ..)
  simp[List.isPrefixOf,this]
 |c::x,d::s,h=>by
  have:=pre_app b x s fun hx=>h (zMo _ hx)
  simp only[List.cons_append,List.isPrefixOf,this]
theorem find_app (b s:List UInt8):∀ L:List (List UInt8),(∀ x∈L,(10:UInt8) ∉ x)→L.find? (fun x=>x.isPrefixOf (s++10::b))=L.find? (fun x=>x.isPrefixOf s)
 |[],_=>rfl
 |x::L,h=>by
  rw[List.find?_cons,List.find?_cons,pre_app b x s (h x zMs),find_app b s L fun y hy=>h y (zMo _ hy)]
theorem wordNext_app (b s:List UInt8) {n:Nat} (hn:n≤s.length):wordNext (s++10::b) n=wordNext s n:=by
 unfold wordNext
 rcases Nat.lt_or_ge n s.length with h|h
 ·rw[List.getElem?_append_left h]
 ·have:n=s.length:=by omega
  subst this
  rw[List.getElem?_append_right (zNr _),List.getElem?_eq_none (zNr _)]
  rw[Nat.sub_self,List.getElem?_cons_zero]
  try rfl
theorem lexToken_app (b s:List UInt8) (h:(lexToken s).2.2=0):lexToken (s++10::b)=lexToken s:=by
 match s with
 |[]=>simp[lexToken,tokErr] at h
 |c::r=>
  simp only[List.cons_append,lexToken] at h ⊢
  by_cases hc:isDigit c=true
  ·rw[if_pos hc,if_pos hc]
   unfold lexNumber
   have e1:(c::(r++10::b)).takeWhile isDigit=(c::r).takeWhile isDigit:=tw_app zDd b (c::r)
   have e2:=wordNext_app b (c::r) (takeWhile_le isDigit (c::r))
   rw[List.cons_append] at e2
   rw[e1,e2]
  rw[if_neg hc] at h ⊢
  rw[if_neg hc]
  by_cases hl:isLetter c=true
  ·rw[if_pos hl,if_pos hl]
   unfold lexName
   have e1:(c::(r++10::b)).takeWhile isInner=(c::r).takeWhile isInner:=tw_app zDd b (c::r)
   rw[e1]
  rw[if_neg hl] at h ⊢
  rw[if_neg hl]
  by_cases hq:decide (cv c=39)=true
  ·rw[if_pos hq] at h ⊢
   rw[if_pos hq]
   match r with
   |[]=>simp[lexLiteral,tokErr] at h
   |[d]=>simp[lexLiteral,tokErr] at h
   |d::e::r=>rfl
  ·rw[if_neg hq,if_neg hq]
   unfold lexSign
   have e1:=find_app b (c::r) signs zDd
   rw[List.cons_append] at e1
   rw[e1]
theorem lexAt_app (b:List UInt8):∀ (n:Nat) (s:List UInt8) (line:Int) (A:List Tok),s.length≤n→lexAt s line=.ok A→lexAt (s++10::b) line=(lexAt b (line+(s.count 10:Nat)+1)).map (A++·)
 |n,[],line,A,_,h=>by
  rw[lexAt_nil] at h
  cases h
  rw[List.nil_append,lexAt_white zDd]
  simp
  cases lexAt b (line+1) <;> rfl
 |0,c::r,_,_,hn,_=>by simp at hn
 |n+1,c::r,line,A,hn,h=>by
  by_cases hw:isWhite c=true
  ·rw[lexAt_white hw] at h
   rw[List.cons_append,lexAt_white hw,lexAt_app b n r _ A (by simpa using hn) h]
   rw[List.count_cons (l:=r),List.count_singleton]
   congr 2
   omega
  have hkeep:(c::r).takeWhile isWhite=[]:=List.takeWhile_cons_of_neg hw
  have hp:([47,47]:List UInt8).isPrefixOf (c::r++10::b)=([47,47]:List UInt8).isPrefixOf (c::r):=pre_app b [47,47] (c::r) zDd
  have hk:skipLen (c::r++10::b)=skipLen (c::r):=by
   unfold skipLen
   rw[hp,tw_app zDd,hkeep,List.cons_append,List.takeWhile_cons_of_neg hw]
  rw[←lexAt_eq (f:=n+1) hn,lexP,if_neg (by simp)] at h
  rw[←lexAt_eq (f:=(r++10::b).length+1) (by simp),lexP,if_neg (by simp),hk]
  by_cases hz:skipLen (c::r)=0
  ·rw[if_pos hz] at h ⊢
   by_cases he:(lexToken (c::r)).2.2≠0
   ·rw[if_pos he] at h
    cases h
   have he':(lexToken (c::r)).2.2=0:=by simpa using he
   rw[if_neg he] at h
   obtain ⟨h1,h2⟩:=lexToken_size _ he'
   rw[lexToken_app b _ he',if_neg he,List.drop_append_of_le_length h2,List.take_append_of_le_length h2]
   rw[lexAt_eq (by rw[List.length_drop];omega)] at h
   rw[lexAt_eq (by simp only[zLa,List.length_drop,zLc] at h2 ⊢;omega)]
   cases hx:lexAt ((c::r).drop (lexToken (c::r)).2.1) (line+(((c::r).take (lexToken (c::r)).2.1).count 10:Nat)) with
   |error e=>rw[hx] at h;cases h
   |ok A2=>
    rw[hx] at h
    cases h
    rw[lexAt_app b n _ _ A2 (by rw[List.length_drop];omega) hx]
    have hc:(c::r).count 10=((c::r).take (lexToken (c::r)).2.1).count 10+((c::r).drop (lexToken (c::r)).2.1).count 10:=by rw[←List.count_append,List.take_append_drop]
    rw[show line+(((c::r).take (lexToken (c::r)).2.1).count 10:Nat)+(((c::r).drop (lexToken (c::r)).2.1).count 10:Nat)+1=line+((c::r).count 10:Nat)+1 by rw[hc];omega]
    try cases lexAt b (line+((c::r).count 10:Nat)+1) <;> rfl
  ·rw[if_neg hz] at h ⊢
   have h2:=skipLen_le (c::r)
   rw[List.drop_append_of_le_length h2,List.take_append_of_le_length h2]
   rw[lexAt_eq (by rw[List.length_drop];omega)] at h
   rw[lexAt_eq (by simp only[zLa,List.length_drop,zLc] at h2 ⊢;omega)]
   rw[lexAt_app b n _ _ A (by rw[List.length_drop];omega) h]
   have hc:(c::r).count 10=((c::r).take (skipLen (c::r))).count 10+((c::r).drop (skipLen (c::r))).count 10:=by rw[←List.count_append,List.take_append_drop]
   congr 2
   rw[hc]
   omega
def kt (t:Tok):Int×List UInt8:=(t.kind,t.text)
theorem lexP_line:∀ (f:Nat) (s:List UInt8) (l1 l2:Int) (A:List Tok),lexP f s l1=.ok A→∃ B,lexP f s l2=.ok B∧B.map kt=A.map kt
 |0,_,_,_,_,h=>by
  cases h
  exact ⟨[],rfl,rfl⟩
 |f+1,s,l1,l2,A,h=>by
  rw[lexP] at h ⊢
  split at h
  ·rename_i h0
   cases h
   rw[if_pos h0]
   exact ⟨[],rfl,rfl⟩
  rename_i h0
  rw[if_neg h0]
  split at h
  ·rename_i hk
   rw[if_pos hk]
   split at h
   ·cases h
   ·rename_i he
    rw[if_neg he]
    cases hx:lexP f (s.drop (lexToken s).2.1) (l1+((s.take (lexToken s).2.1).count 10:Nat)) with
    |error e=>rw[hx] at h;cases h
    |ok A2=>
     rw[hx] at h
     cases h
     obtain ⟨B,h1,h2⟩:=lexP_line f _ _ (l2+((s.take (lexToken s).2.1).count 10:Nat)) A2 hx
     rw[h1]
     exact ⟨_,rfl,by rw[zMc,zMc,h2];try rfl⟩
  ·rename_i hk
   rw[if_neg hk]
   exact lexP_line f _ _ _ A h
end Go.Stele
namespace Go.Stele
open Go.Lib
theorem pu_append (M:Nat):∀ (l r:List UInt8) (acc u:Nat),parseUintM M acc l=.ok u→parseUintM M acc (l++r)=parseUintM M u r
 |[],r,acc,u,h=>by
  rw[parseUintM] at h
  cases h
  rfl
 |c::l,r,acc,u,h=>by
  rw[parseUintM] at h
  rw[List.cons_append,parseUintM]
  split at h
  ·rename_i hc
   rw[if_pos hc]
   split at h
   ·cases h
   ·rename_i h1
    rw[if_neg h1]
    split at h
    ·cases h
    ·rename_i h2
     rw[if_neg h2]
     exact pu_append M l r _ u h
  ·cases h
theorem digit_toNat {d:Nat} (h:d<10):(UInt8.ofNat (48+d)).toNat=48+d:=by
 rw[UInt8.toNat_ofNat']
 omega
theorem pu_dec (M:Nat) (hM:M≤4294967295) (u:Nat) (hu:u≤M):parseUintM M 0 (decDigits u)=.ok u:=by
 induction u using Nat.strongRecOn with
 |_ u ih=>
  have one:∀ a d,d<10→a * 10+d≤M→parseUintM M a [UInt8.ofNat (48+d)]=.ok (a * 10+d):=fun a d hd ha=>by
   rw[parseUintM,digit_toNat hd,if_pos (by omega),if_neg (by omega),if_neg (by omega),parseUintM]
   congr 1
   omega
  rw[decDigits]
  split
  ·have:=one 0 u (by assumption) (by omega)
   simpa using this
  ·rw[pu_append M _ _ 0 (u / 10) (ih (u / 10) (by omega) (by omega)),one _ _ (by omega) (by omega)]
   congr 1
   omega
theorem decDigits_ne (u:Nat):decDigits u≠[]:=by
 rw[decDigits]
 split <;> simp
theorem pu32_dec (u:Nat) (hu:u<4294967296):parseUintB 32 (decDigits u)=.ok u:=by
 rw[parseUintB,if_neg (decDigits_ne u)]
 exact pu_dec _ zDd u (by omega)
theorem nDigits_le:∀ (k u:Nat),u<10 ^ (k+1)→nDigits u≤k+1
 |0,u,h=>by rw[nDigits_small (by simpa using h)];omega
 |k+1,u,h=>by
  by_cases hu:u<10
  ·rw[nDigits_small hu];omega
  ·rw[nDigits_big hu]
   have:=nDigits_le k (u / 10) (by rw[Nat.pow_succ] at h;omega)
   omega
theorem dec_len {u:Nat} (hu:u<4294967296):(decDigits u).length≤10:=by
 rw[decDigits_length]
 exact nDigits_le 9 u (by omega)
theorem pu32_lt {l:List UInt8} {u:Nat} (h:parseUintB 32 l=.ok u):u<4294967296:=by
 have key:∀ (l:List UInt8) (acc u:Nat),acc≤4294967295→parseUintM 4294967295 acc l=.ok u→u≤4294967295:=by
  intro l
  induction l with
  |nil=>intro acc u ha h;rw[parseUintM] at h;cases h;exact ha
  |cons c l ih=>
   intro acc u ha h
   rw[parseUintM] at h
   split at h
   ·split at h
    ·cases h
    ·split at h
     ·cases h
     ·exact ih _ _ (by omega) h
   ·cases h
 rw[parseUintB] at h
 split at h
 ·cases h
 ·have:=key _ _ _ (by omega) h
  omega
def TokOk (t:Tok):Prop:=t.text.length≤100∧(t.kind=1→∃ u,u<4294967296∧parseUintB 32 t.text=.ok u∧t.text=decDigits u)
theorem lexToken_ok (s:List UInt8) (h:(lexToken s).2.2=0):TokOk (lexToken s).1:=by
 match s with
 |[]=>simp[lexToken,tokErr] at h
 |c::r=>
  simp only[lexToken] at h ⊢
  split at h <;> rename_i hc
  ·rw[if_pos hc]
   unfold lexNumber at h ⊢
   split at h
   ·simp[tokErr] at h
   ·rename_i hw
    rw[if_neg hw]
    split at h
    ·rename_i u hu
     have hlt:=pu32_lt hu
     exact ⟨by have:=dec_len hlt;simp only;omega,fun _=>⟨u,hlt,pu32_dec u hlt,rfl⟩⟩
    ·simp[tokErr] at h
  ·rw[if_neg hc]
   split at h <;> rename_i hl
   ·rw[if_pos hl]
    unfold lexName at h ⊢
    split at h
    ·simp[tokErr] at h
    ·rename_i hw
     rw[if_neg hw]
     refine ⟨by simp only;omega,fun hk=>?_⟩
     simp only at hk
     split at hk <;> cases hk
   ·rw[if_neg hl]
    split at h <;> rename_i hq
    ·rw[if_pos hq]
     unfold lexLiteral at h ⊢
     split at h
     ·split at h
      ·simp[tokErr] at h
      ·rename_i hx
       rename_i heq
       rename_i b _ _
       rw[if_neg hx]
       have hb:b.toNat<4294967296:=Nat.lt_trans (UInt8.toNat_lt b) zDd
       exact ⟨by have:=dec_len hb;simp only;omega,fun _=>⟨b.toNat,hb,pu32_dec _ hb,rfl⟩⟩
     ·simp[tokErr] at h
    ·rw[if_neg hq]
     unfold lexSign at h ⊢
     split at h
     ·rename_i x hx
      have h2:=List.mem_of_find?_eq_some hx
      have:∀ x∈signs,x.length≤100:=by decide
      exact ⟨this x h2,fun hk=>by cases hk⟩
     ·simp[tokErr] at h
theorem map_ok {A B:Type} {f:A→B} {r:Except (Int×Int) A} {b:B} (h:r.map f=.ok b):∃ a,r=.ok a∧f a=b:=by
 cases r with
 |ok a=>exact ⟨a,rfl,by injection h⟩
 |error e=>cases h
theorem lexP_ok:∀ (f:Nat) (s:List UInt8) (line:Int) (T:List Tok),lexP f s line=.ok T→T.length≤f∧∀ t∈T,TokOk t
 |0,s,line,T,h=>by
  rw[lexP] at h
  cases h
  exact ⟨zNr _,by simp⟩
 |f+1,s,line,T,h=>by
  rw[lexP] at h
  split at h
  ·cases h
   exact ⟨Nat.zero_le _,by simp⟩
  ·split at h
   ·split at h
    ·cases h
    ·rename_i he
     obtain ⟨T',h1,rfl⟩:=map_ok h
     obtain ⟨k1,k2⟩:=lexP_ok f _ _ _ h1
     refine ⟨by rw[zLc];omega,fun t ht=>?_⟩
     rcases zMi.1 ht with rfl|ht
     ·exact lexToken_ok s (by omega)
     ·exact k2 t ht
   ·obtain ⟨k1,k2⟩:=lexP_ok f _ _ _ h
    exact ⟨by omega,k2⟩
end Go.Stele
namespace Go.Stele
open Go.Lib
def Again (t:Tok):Prop:=t.text.length≤24∧t.text≠[]∧skipLen t.text=0∧(10:UInt8) ∉ t.text∧lexToken t.text=(⟨t.kind,t.text,0⟩,t.text.length,0)
theorem skip_head {c:UInt8} {r:List UInt8} (hw:isWhite c=false) (h47:c≠47):skipLen (c::r)=0:=by
 have h:([47,47]:List UInt8).isPrefixOf (c::r)=false:=by
  cases h:([47,47]:List UInt8).isPrefixOf (c::r) with
  |false=>rfl
  |true=>
   simp only[List.isPrefixOf,zBa,beq_iff_eq] at h
   exact absurd h.1.symm h47
 unfold skipLen
 rw[h,if_neg zDd,List.takeWhile_cons_of_neg (by rw[hw];decide)]
 try rfl
theorem digit_of {d:Nat} (h:d<10):isDigit (UInt8.ofNat (48+d))=true:=by
 have h1:(UInt8.ofNat (48+d)).toNat=48+d:=digit_toNat h
 unfold isDigit cv
 rw[h1]
 simp
 omega
theorem dec_digits (u:Nat):∀ c∈decDigits u,isDigit c=true:=by
 induction u using Nat.strongRecOn with
 |ind u ih=>
  intro c hc
  by_cases h:u<10
  ·rw[decDigits_one h] at hc
   rw[List.mem_singleton.1 hc]
   exact digit_of h
  ·rw[decDigits,dif_neg h] at hc
   rcases List.mem_append.1 hc with hc|hc
   ·exact ih (u / 10) (by omega) c hc
   ·rw[List.mem_singleton.1 hc]
    exact digit_of (by omega)
theorem digit_white {c:UInt8} (h:isDigit c=true):isWhite c=false∧c≠47:=by
 unfold isDigit at h
 rw[zBa,zDe,zDe] at h
 refine ⟨?_,fun hc=>?_⟩
 ·unfold isWhite
  simp only[Bool.or_eq_false_iff,decide_eq_false_iff_not]
  omega
 ·subst hc
  exact absurd h.1 zDd
theorem letter_white {c:UInt8} (h:isLetter c=true):isWhite c=false∧c≠47:=by
 unfold isLetter at h
 rw[zBa,zDe,zDe] at h
 refine ⟨?_,fun hc=>?_⟩
 ·unfold isWhite
  simp only[Bool.or_eq_false_iff,decide_eq_false_iff_not]
  omega
 ·subst hc
  exact absurd h.1 zDd
theorem tw_self {p:UInt8→Bool}:∀ {s:List UInt8},(∀ c∈s,p c=true)→s.takeWhile p=s
 |[],_=>rfl
 |c::s,h=>by rw[List.takeWhile_cons_of_pos (h c zMs),tw_self fun d hd=>h d (zMo _ hd)]
theorem tw_mem {p:UInt8→Bool}:∀ {s:List UInt8} {c:UInt8},c∈s.takeWhile p→p c=true
 |[],_,h=>by cases h
 |d::s,c,h=>by
  by_cases hd:p d=true
  ·rw[List.takeWhile_cons_of_pos hd] at h
   rcases zMi.1 h with rfl|h
   ·exact hd
   ·exact tw_mem h
  ·rw[List.takeWhile_cons_of_neg hd] at h
   cases h
theorem again_dec {u:Nat} (hu:u<4294967296) (l:Int):Again ⟨1,decDigits u,l⟩:=by
 have hd:=dec_digits u
 have hne:=decDigits_ne u
 refine ⟨by have:=dec_len hu;simp only;omega,hne,?_,fun h=>by have:=hd _ h;exact absurd this zDd,?_⟩
 ·show skipLen (decDigits u)=0
  cases hD:decDigits u with
  |nil=>exact absurd hD hne
  |cons c r=>
   have:=digit_white (hd c (by rw[hD];exact List.mem_cons_self ..))
   exact skip_head this.1 this.2
 ·show lexToken (decDigits u)=(⟨1,decDigits u,0⟩,(decDigits u).length,0)
  have h1:lexToken (decDigits u)=lexNumber (decDigits u):=by
   cases hD:decDigits u with
   |nil=>exact absurd hD hne
   |cons c r=>rw[lexToken,if_pos (hd c (by rw[hD];exact List.mem_cons_self ..))]
  rw[h1]
  unfold lexNumber
  rw[tw_self hd,pu32_dec u hu,if_neg]
  unfold wordNext
  rw[List.getElem?_eq_none (zNr _)]
  decide
theorem again_sign:∀ x∈signs,x.length≤24∧x≠[]∧skipLen x=0∧(10:UInt8) ∉ x∧lexToken x=(⟨4,x,0⟩,x.length,0):=by decide +kernel
theorem lexToken_again (s:List UInt8) (h:(lexToken s).2.2=0):Again (lexToken s).1:=by
 match s with
 |[]=>simp[lexToken,tokErr] at h
 |c::r=>
  simp only[lexToken] at h ⊢
  split at h <;> rename_i hc
  ·rw[if_pos hc]
   unfold lexNumber at h ⊢
   split at h
   ·simp[tokErr] at h
   ·rename_i hw
    rw[if_neg hw]
    split at h
    ·rename_i u hu
     exact again_dec (pu32_lt hu) 0
    ·simp[tokErr] at h
  ·rw[if_neg hc]
   split at h <;> rename_i hl
   ·rw[if_pos hl]
    unfold lexName at h ⊢
    split at h
    ·simp[tokErr] at h
    ·rename_i hw
     rw[if_neg hw]
     have hin:isInner c=true:=by simp[isInner,hl]
     have hW:(c::r).takeWhile isInner=c::r.takeWhile isInner:=List.takeWhile_cons_of_pos hin
     have hall:∀ d∈(c::r).takeWhile isInner,isInner d=true:=fun d hd=>tw_mem hd
     have hww:=letter_white hl
     refine ⟨by simp only;omega,by simp only;rw[hW];simp,by simp only;rw[hW];exact skip_head hww.1 hww.2,fun h10=>absurd (hall _ h10) zDd,?_⟩
     simp only
     have h1:lexToken ((c::r).takeWhile isInner)=lexName ((c::r).takeWhile isInner):=by
      rw[hW,lexToken,if_neg hc,if_pos hl]
     rw[h1]
     unfold lexName
     rw[tw_self hall,if_neg hw]
   ·rw[if_neg hl]
    split at h <;> rename_i hq
    ·rw[if_pos hq]
     unfold lexLiteral at h ⊢
     split at h
     ·split at h
      ·simp[tokErr] at h
      ·rename_i hx
       rename_i heq
       rename_i b _ _
       rw[if_neg hx]
       exact again_dec (Nat.lt_trans (UInt8.toNat_lt b) zDd) 0
     ·simp[tokErr] at h
    ·rw[if_neg hq]
     unfold lexSign at h ⊢
     split at h
     ·rename_i x hx
      exact again_sign x (List.mem_of_find?_eq_some hx)
     ·simp[tokErr] at h
theorem lexP_again:∀ (f:Nat) (s:List UInt8) (line:Int) (T:List Tok),lexP f s line=.ok T→∀ t∈T,Again t
 |0,s,line,T,h=>by
  rw[lexP] at h
  cases h
  simp
 |f+1,s,line,T,h=>by
  rw[lexP] at h
  split at h
  ·cases h
   simp
  ·split at h
   ·split at h
    ·cases h
    ·rename_i he
     obtain ⟨T',h1,rfl⟩:=map_ok h
     have k2:=lexP_again f _ _ _ h1
     intro t ht
     rcases zMi.1 ht with rfl|ht
     ·exact lexToken_again s (by omega)
     ·exact k2 t ht
   ·exact lexP_again f _ _ _ h
end Go.Stele
namespace Go.Stele
def Good {A:Type} (T:List Tok) (s:Bool) (i op:Nat) (r:Res A):Prop:=match r with
 |.ok _ i' op'=>i≤i'∧(s=true→i<i')∧(i≤T.length→i'≤T.length)∧op'=op
 |.err _ _=>True
def GoodO {A:Type} (T:List Tok) (s:Bool) (i op:Nat) (r:OR A):Prop:=∀ r',r=some r'→Good T s i op r'
theorem isTok_lt {T:List Tok} {i:Nat} {xs:List (List UInt8)} (h:isTok T i xs=true):i<T.length:=by
 rcases Nat.lt_or_ge i T.length with h1|h1
 ·exact h1
 ·rw[isTok,List.getElem?_eq_none h1] at h;cases h
theorem get_lt {T:List Tok} {i:Nat} {t:Tok} (h:T[i]? = some t):i<T.length:=(List.getElem?_eq_some_iff.1 h).1
theorem sWord_good (T:List Tok) (k:Int) (i op:Nat):Good T true i op (sWord T k i op):=by
 unfold sWord
 split
 ·rename_i t ht
  have:=get_lt ht
  split
  ·exact ⟨by omega,fun _=>by omega,fun _=>by omega,rfl⟩
  ·trivial
 ·trivial
theorem sNeed_good (T:List Tok) (x:List UInt8) (i op:Nat):Good T true i op (sNeed T x i op):=by
 unfold sNeed
 split
 ·rename_i h
  have:=isTok_lt h
  exact ⟨by omega,fun _=>by omega,fun _=>by omega,rfl⟩
 ·trivial
theorem sBegin_ok {T:List Tok} {x:List UInt8} {i op i' op':Nat} {u:Unit} (h:sBegin T x i op=.ok u i' op'):i'=i+1∧op'=op+1∧op<100∧i<T.length:=by
 unfold sBegin at h
 split at h
 ·rename_i h1
  have:=isTok_lt h1
  split at h
  ·cases h
  ·cases h
   exact ⟨rfl,rfl,by omega,this⟩
 ·cases h
theorem sEnd_ok {T:List Tok} {x:List UInt8} {i op i' op':Nat} {u:Unit} (h:sEnd T x i op=.ok u i' op'):i'=i+1∧op'=op-1∧i<T.length:=by
 unfold sEnd sNeed at h
 split at h
 ·rename_i h1
  have:=isTok_lt h1
  cases h
  exact ⟨rfl,rfl,this⟩
 ·cases h
theorem sNumber_good (T:List Tok) (i op:Nat):Good T true i op (sNumber T i op):=by
 have:=sWord_good T 1 i op
 unfold sNumber
 cases h:sWord T 1 i op with
 |ok v i' op'=>rw[h] at this;exact this
 |err l e=>trivial
theorem obind_some {A B:Type} {r:OR A} {f:A→Nat→Nat→OR B} {q:Res B} (h:obind r f=some q) :
  (∃ v i op,r=some (.ok v i op)∧f v i op=some q)∨(∃ l e,r=some (.err l e)∧q=.err l e):=by
 match r,h with
 |some (.ok v i op),h=>exact .inl ⟨v,i,op,rfl,h⟩
 |some (.err l e),h=>exact .inr ⟨l,e,rfl,by simpa [obind] using h.symm⟩
theorem good_bind {A B:Type} {T:List Tok} {s t:Bool} {i op j op1:Nat} {r:OR A} {f:A→Nat→Nat→OR B} (hr:GoodO T s j op1 r)
  (hf:∀ v i' ,r=some (.ok v i' op1)→j≤i'→(s=true→j<i')→(j≤T.length→i'≤T.length)→GoodO T t i op (f v i' op1)):GoodO T t i op (obind r f):=fun q hq=>by
 rcases obind_some hq with ⟨v,i',op',h1,h2⟩|⟨l,e,_,rfl⟩
 ·obtain ⟨g1,g2,g3,g4⟩:=hr _ h1
  subst g4
  exact hf v i' h1 g1 g2 g3 q h2
 ·trivial
theorem good_some {A:Type} {T:List Tok} {s:Bool} {i op:Nat} {r:Res A} (h:Good T s i op r):GoodO T s i op (some r):=fun r' hr=>by cases hr;exact h
theorem good_none {A:Type} {T:List Tok} {s:Bool} {i op:Nat}:GoodO (A:=A) T s i op none:=fun r' hr=>by cases hr
theorem GoodO.from {A:Type} {T:List Tok} {s t:Bool} {i j op:Nat} {r:OR A} (h:GoodO T s j op r) (hij:i≤j) (hs:t=true→i<j∨s=true) (hT:i≤T.length→j≤T.length):GoodO T t i op r:=fun r' hr=>by
 have:=h r' hr
 cases r' with
 |ok v i' op'=>
  obtain ⟨g1,g2,g3,g4⟩:=this
  refine ⟨by omega,fun ht=>?_,fun hi=>g3 (hT hi),g4⟩
  rcases hs ht with h1|h1
  ·omega
  ·have:=g2 h1;omega
 |err l e=>trivial
theorem sNamesLoop_good (T:List Tok):∀ (f:Nat) (acc:List (List UInt8)) (i op:Nat),GoodO T false i op (sNamesLoop T f acc i op)
 |0,_,_,_=>good_none
 |f+1,acc,i,op=>by
  rw[sNamesLoop]
  split
  ·rename_i h
   have:=isTok_lt h
   refine good_bind (good_some (sWord_good T 2 (i+1) op)) fun v i' _ h1 h2 h3=>?_
   exact (sNamesLoop_good T f _ i' op).from (by omega) (by simp) (fun _=>h3 (by omega))
  ·exact good_some ⟨by omega,by simp,fun h=>h,rfl⟩
theorem sNames_good (T:List Tok) (f i op:Nat):GoodO T true i op (sNames T f i op):=
 good_bind (good_some (sWord_good T 2 i op)) fun v i' _ h1 h2 h3=>(sNamesLoop_good T f _ i' op).from h1 (fun _=>.inl (h2 rfl)) h3
theorem good_wrap {A:Type} {T:List Tok} {s:Bool} {x y:List UInt8} {i op:Nat} {g:Nat→Nat→OR A} (hg:i<T.length→op<100→GoodO T s (i+1) (op+1) (g (i+1) (op+1))) :
  GoodO T true i op (obind (some (sBegin T x i op)) fun _ i' op'=>obind (g i' op') fun v i' op'=>obind (some (sEnd T y i' op')) fun _ i' op'=>some (.ok v i' op')):=fun q hq=>by
 rcases obind_some hq with ⟨v,i1,op1,h1,h2⟩|⟨l,e,_,rfl⟩
 ·injection h1 with h1
  obtain ⟨rfl,rfl,ho,hi⟩:=sBegin_ok h1
  rcases obind_some h2 with ⟨w,i2,op2,h3,h4⟩|⟨l,e,_,rfl⟩
  ·obtain ⟨g1,_,g3,rfl⟩:=hg hi ho _ h3
   rcases obind_some h4 with ⟨u,i3,op3,h5,h6⟩|⟨l,e,_,rfl⟩
   ·injection h5 with h5
    obtain ⟨rfl,rfl,hi2⟩:=sEnd_ok h5
    cases h6
    exact ⟨by omega,fun _=>by omega,fun _=>by omega,by omega⟩
   ·trivial
  ·trivial
 ·trivial
theorem ex_good (T:List Tok):∀ f:Nat,(∀ k i op,GoodO T true i op (eLev T f k i op))∧(∀ k e i op,GoodO T false i op (eLoop T f k e i op))∧(∀ i op,GoodO T true i op (eUnary T f i op)) ∧
  (∀ i op,GoodO T true i op (ePrim T f i op))∧(∀ i op,GoodO T true i op (eIndex T f i op))∧(∀ i op,GoodO T true i op (eArgs T f i op))∧(∀ acc i op,GoodO T false i op (eArgsLoop T f acc i op))
 |0=>⟨fun _ _ _=>by rw[eLev];exact good_none,fun _ _ _ _=>by rw[eLoop];exact good_none,fun _ _=>by rw[eUnary];exact good_none,fun _ _=>by rw[ePrim];exact good_none,fun _ _=>by rw[eIndex];exact good_none,fun _ _=>by rw[eArgs];exact good_none,fun _ _ _=>by rw[eArgsLoop];exact good_none⟩
 |f+1=>by
  obtain ⟨hL,hO,hU,hP,hI,hA,hB⟩:=ex_good T f
  have neg:∀ (x:List UInt8) (nm:List UInt8) (i op:Nat),GoodO T true i op (obind (some (sBegin T x i op)) fun _ i' op'=>obind (eUnary T f i' op') fun e i' op'=>some (.ok (Ex.mk nm 0 [] [e]) i' (op'-1))):=fun x nm i op q hq=>by
   rcases obind_some hq with ⟨v,i1,op1,h1,h2⟩|⟨l,e,_,rfl⟩
   ·injection h1 with h1
    obtain ⟨rfl,rfl,ho,hi⟩:=sBegin_ok h1
    rcases obind_some h2 with ⟨w,i2,op2,h3,h4⟩|⟨l,e,_,rfl⟩
    ·obtain ⟨g1,_,g3,rfl⟩:=hU _ _ _ h3
     cases h4
     exact ⟨by omega,fun _=>by omega,fun _=>g3 (by omega),by omega⟩
    ·trivial
   ·trivial
  refine ⟨fun k i op=>?_,fun k e i op=>?_,fun i op=>?_,fun i op=>?_,fun i op=>?_,fun i op=>?_,fun acc i op=>?_⟩
  ·rw[eLev]
   split
   ·exact hU i op
   ·exact good_bind (hL (k+1) i op) fun v i' _ h1 h2 h3=>(hO k v i' op).from h1 (fun _=>.inl (h2 rfl)) h3
  ·rw[eLoop]
   split
   ·rename_i h
    have:=isTok_lt h
    refine good_bind (hL (k+1) (i+1) op) fun v i' _ h1 h2 h3=>?_
    split
    ·exact good_some ⟨by omega,by simp,fun _=>h3 (by omega),rfl⟩
    ·exact (hO k _ i' op).from (by omega) (by simp) (fun _=>h3 (by omega))
   ·exact good_some ⟨by omega,by simp,fun h=>h,rfl⟩
  ·rw[eUnary]
   split
   ·exact neg _ _ _ _
   ·split
    ·exact neg _ _ _ _
    ·exact hP i op
  ·rw[ePrim]
   split
   ·exact good_wrap (g:=fun i op=>eLev T f 0 i op) fun _ _=>hL 0 _ _
   ·split
    ·exact good_bind (good_some (sNumber_good T i op)) fun v i' _ h1 h2 h3=>good_some ⟨h1,fun _=>h2 rfl,h3,rfl⟩
    ·refine good_bind (good_some (sWord_good T 2 i op)) fun v i' _ h1 h2 h3=>?_
     split
     ·exact good_bind (hI i' op) fun v i2 _ g1 g2 g3=>good_some ⟨by omega,fun _=>by have:=h2 rfl;omega,fun h=>g3 (h3 h),rfl⟩
     ·split
      ·exact good_bind (hA i' op) fun v i2 _ g1 g2 g3=>good_some ⟨by omega,fun _=>by have:=h2 rfl;omega,fun h=>g3 (h3 h),rfl⟩
      ·exact good_some ⟨h1,fun _=>h2 rfl,h3,rfl⟩
  ·rw[eIndex]
   exact good_wrap (g:=fun i op=>eLev T f 0 i op) fun _ _=>hL 0 _ _
  ·rw[eArgs]
   exact good_wrap (g:=fun i op=>eArgsLoop T f [] i op) fun _ _=>hB [] _ _
  ·rw[eArgsLoop]
   split
   ·exact good_some ⟨by omega,by simp,fun h=>h,rfl⟩
   ·refine good_bind (s:=false) (j:=i) (op1:=op) ?_ fun v i' _ h1 h2 h3=>?_
    ·split
     ·exact good_some ⟨by omega,by simp,fun h=>h,rfl⟩
     ·exact GoodO.from (good_some (sNeed_good T [44] i op)) (by omega) (by simp) (fun h=>h)
    ·exact good_bind (hL 0 i' op) fun v i2 _ g1 g2 g3=>(hB _ i2 op).from (by omega) (by simp) (fun h=>g3 (h3 h))
end Go.Stele
/- The parser in plain Lean: where statements end; enough fuel. -/
namespace Go.Stele
theorem st_good (T:List Tok):∀ f:Nat,(∀ i op,GoodO T true i op (sBlock T f i op))∧(∀ acc i op,GoodO T false i op (sStmts T f acc i op))∧(∀ i op,GoodO T true i op (sStmt T f i op))∧(∀ i op,GoodO T true i op (sSimple T f i op))
 |0=>⟨fun _ _=>by rw[sBlock];exact good_none,fun _ _ _=>by rw[sStmts];exact good_none,fun _ _=>by rw[sStmt];exact good_none,fun _ _=>by rw[sSimple];exact good_none⟩
 |f+1=>by
  obtain ⟨hB,hL,hS,hM⟩:=st_good T f
  obtain ⟨gL,_,_,_,gI,gA,_⟩:=ex_good T f
  refine ⟨fun i op=>?_,fun acc i op=>?_,fun i op=>?_,fun i op=>?_⟩
  ·rw[sBlock]
   exact good_wrap (g:=fun i op=>sStmts T f [] i op) fun _ _=>hL [] _ _
  ·rw[sStmts]
   split
   ·exact good_some ⟨by omega,by simp,fun h=>h,rfl⟩
   ·exact good_bind (hS i op) fun v i' _ h1 h2 h3=>(hL _ i' op).from h1 (by simp) h3
  ·rw[sStmt]
   split
   ·rename_i h
    have:=isTok_lt h
    refine good_bind (gL 0 (i+1) op) fun v i' _ h1 h2 h3=>good_bind (hB i' op) fun w i2 _ g1 g2 g3=>?_
    split
    ·rename_i h4
     have:=isTok_lt h4
     refine good_bind (hB (i2+1) op) fun x i3 _ k1 k2 k3=>good_some ⟨by omega,fun _=>by omega,fun _=>k3 (by omega),rfl⟩
    ·exact good_some ⟨by omega,fun _=>by omega,fun _=>g3 (h3 (by omega)),rfl⟩
   ·split
    ·rename_i h
     have:=isTok_lt h
     exact good_bind (gL 0 (i+1) op) fun v i' _ h1 h2 h3=>good_bind (hB i' op) fun w i2 _ g1 g2 g3=>good_some ⟨by omega,fun _=>by omega,fun _=>g3 (h3 (by omega)),rfl⟩
    ·exact good_bind (hM i op) fun v i' _ h1 h2 h3=>good_bind (good_some (sNeed_good T [59] i' op)) fun w i2 _ g1 g2 g3=>good_some ⟨by omega,fun _=>by have:=h2 rfl;omega,fun hh=>g3 (h3 hh),rfl⟩
  ·rw[sSimple]
   split
   ·rename_i h
    have:=isTok_lt h
    exact good_bind (gL 0 (i+1) op) fun v i' _ h1 h2 h3=>good_some ⟨by omega,fun _=>by omega,fun _=>h3 (by omega),rfl⟩
   ·split
    ·rename_i h
     have:=isTok_lt h
     exact good_some ⟨by omega,fun _=>by omega,fun _=>by omega,rfl⟩
    ·refine good_bind (good_some (sWord_good T 2 i op)) fun v i' _ h1 h2 h3=>?_
     split
     ·exact good_bind (gA i' op) fun w i2 _ g1 g2 g3=>good_some ⟨by omega,fun _=>by have:=h2 rfl;omega,fun hh=>g3 (h3 hh),rfl⟩
     ·split
      ·exact good_bind (gI i' op) fun w i2 _ g1 g2 g3=>good_bind (good_some (sNeed_good T [61] i2 op)) fun u i3 _ k1 k2 k3=>good_bind (gL 0 i3 op) fun x i4 _ m1 m2 m3=>
        good_some ⟨by omega,fun _=>by have:=h2 rfl;omega,fun hh=>m3 (k3 (g3 (h3 hh))),rfl⟩
      ·exact good_bind (good_some (sNeed_good T [61] i' op)) fun u i3 _ k1 k2 k3=>good_bind (gL 0 i3 op) fun x i4 _ m1 m2 m3=>
        good_some ⟨by omega,fun _=>by have:=h2 rfl;omega,fun hh=>m3 (k3 (h3 hh)),rfl⟩
theorem sVars_good (T:List Tok):∀ (f:Nat) (acc:List (List UInt8)) (i op:Nat),GoodO T (isTok T i [kwVar]) i op (sVars T f acc i op)
 |0,_,_,_=>by rw[sVars];exact good_none
 |f+1,acc,i,op=>by
  rw[sVars]
  split
  ·rename_i h
   have:=isTok_lt h
   exact good_bind (sNames_good T f (i+1) op) fun v i' _ h1 h2 h3=>good_bind (good_some (sNeed_good T [59] i' op)) fun u i2 _ g1 g2 g3=>
    (sVars_good T f _ i2 op).from (by omega) (fun _=>.inl (by omega)) (fun _=>g3 (h3 (by omega)))
  ·rename_i h
   exact good_some ⟨by omega,fun hh=>absurd hh h,fun h=>h,rfl⟩
/-! ### Enough fuel -/
def Ends {A:Type} (r:OR A):Prop:=∃ q,r=some q
theorem ends_bind {A B:Type} {r:OR A} {f:A→Nat→Nat→OR B} (h:Ends r) (k:∀ v i op,r=some (.ok v i op)→Ends (f v i op)):Ends (obind r f):=by
 obtain ⟨q,rfl⟩:=h
 cases q with
 |ok v i op=>exact k v i op rfl
 |err l e=>exact ⟨_,rfl⟩
theorem ends_some {A:Type} {r:Res A}:Ends (some r):=⟨_,rfl⟩
theorem ends_begin {B:Type} {T:List Tok} {x:List UInt8} {i op:Nat} {g:Unit→Nat→Nat→OR B} (k:i<T.length→op<100→Ends (g () (i+1) (op+1))):Ends (obind (some (sBegin T x i op)) g):=
 ends_bind ends_some fun v i1 op1 h1=>by
  injection h1 with h1
  obtain ⟨rfl,rfl,ho,hi⟩:=sBegin_ok h1
  exact k hi ho
theorem ex_ends (T:List Tok):∀ f:Nat,(∀ k i op,k≤6→i≤T.length→10 * (T.length-i)+20-k≤f→Ends (eLev T f k i op))∧(∀ k e i op,k≤5→i≤T.length→10 * (T.length-i)+11≤f→Ends (eLoop T f k e i op)) ∧
  (∀ i op,i≤T.length→10 * (T.length-i)+13≤f→Ends (eUnary T f i op))∧(∀ i op,i≤T.length→10 * (T.length-i)+12≤f→Ends (ePrim T f i op))∧(∀ i op,i≤T.length→10 * (T.length-i)+11≤f→Ends (eIndex T f i op)) ∧
  (∀ i op,i≤T.length→10 * (T.length-i)+12≤f→Ends (eArgs T f i op))∧(∀ acc i op,i≤T.length→10 * (T.length-i)+21≤f→Ends (eArgsLoop T f acc i op))
 |0=>⟨fun _ _ _ _ _ _=>by omega,fun _ _ _ _ _ _ _=>by omega,fun _ _ _ _=>by omega,fun _ _ _ _=>by omega,fun _ _ _ _=>by omega,fun _ _ _ _=>by omega,fun _ _ _ _ _=>by omega⟩
 |f+1=>by
  obtain ⟨hL,hO,hU,hP,hI,hA,hB⟩:=ex_ends T f
  obtain ⟨gL,gO,gU,gP,gI,gA,gB⟩:=ex_good T f
  have neg:∀ (x nm:List UInt8) (i op:Nat),10 * (T.length-i)+13≤f+1→Ends (obind (some (sBegin T x i op)) fun _ i' op'=>obind (eUnary T f i' op') fun e i' op'=>some (.ok (Ex.mk nm 0 [] [e]) i' (op'-1))):=fun x nm i op hf=>
   ends_begin fun hi ho=>ends_bind (hU _ _ (by omega) (by omega)) fun v i2 op2 _=>ends_some
  refine ⟨fun k i op hk hi hf=>?_,fun k e i op hk hi hf=>?_,fun i op hi hf=>?_,fun i op hi hf=>?_,fun i op hi hf=>?_,fun i op hi hf=>?_,fun acc i op hi hf=>?_⟩
  ·rw[eLev]
   split
   ·exact hU i op hi (by omega)
   ·refine ends_bind (hL (k+1) i op (by omega) hi (by omega)) fun v i' op' h=>?_
    obtain ⟨g1,g2,g3,rfl⟩:=gL (k+1) i op _ h
    have:=g2 rfl
    exact hO k v i' op' (by omega) (g3 hi) (by have:=g3 hi;omega)
  ·rw[eLoop]
   split
   ·rename_i h
    have:=isTok_lt h
    refine ends_bind (hL (k+1) (i+1) op (by omega) (by omega) (by omega)) fun v i' op' h=>?_
    obtain ⟨g1,g2,g3,rfl⟩:=gL (k+1) (i+1) op _ h
    have:=g3 (by omega)
    split
    ·exact ends_some
    ·exact hO k _ i' op' hk this (by omega)
   ·exact ends_some
  ·rw[eUnary]
   split
   ·exact neg _ _ _ _ hf
   ·split
    ·exact neg _ _ _ _ hf
    ·exact hP i op hi (by omega)
  ·rw[ePrim]
   split
   ·exact ends_begin fun hlt ho=>ends_bind (hL 0 _ _ (by omega) (by omega) (by omega)) fun v i2 op2 _=>ends_bind ends_some fun _ _ _ _=>ends_some
   ·split
    ·exact ends_bind ends_some fun _ _ _ _=>ends_some
    ·refine ends_bind ends_some fun v i' op' h=>?_
     injection h with h
     have hg:=sWord_good T 2 i op
     rw[h] at hg
     obtain ⟨h1,h2,h3,rfl⟩:=hg
     have:=h2 rfl
     have:=h3 hi
     split
     ·exact ends_bind (hI i' _ (by omega) (by omega)) fun _ _ _ _=>ends_some
     ·split
      ·exact ends_bind (hA i' _ (by omega) (by omega)) fun _ _ _ _=>ends_some
      ·exact ends_some
  ·rw[eIndex]
   exact ends_begin fun hlt ho=>ends_bind (hL 0 _ _ (by omega) (by omega) (by omega)) fun v i2 op2 _=>ends_bind ends_some fun _ _ _ _=>ends_some
  ·rw[eArgs]
   exact ends_begin fun hlt ho=>ends_bind (hB [] _ _ (by omega) (by omega)) fun v i2 op2 _=>ends_bind ends_some fun _ _ _ _=>ends_some
  ·rw[eArgsLoop]
   split
   ·exact ends_some
   ·refine ends_bind ends_some fun v i' op' h=>?_
    have hg:i≤i'∧i'≤T.length:=by
     injection h with h
     split at h
     ·cases h;exact ⟨zNr _,hi⟩
     ·have hg:=sNeed_good T [44] i op
      rw[h] at hg
      exact ⟨hg.1,hg.2.2.1 hi⟩
    refine ends_bind (hL 0 i' op' (by omega) hg.2 (by omega)) fun v2 i2 op2 h2=>?_
    obtain ⟨g1,g2,g3,rfl⟩:=gL 0 i' op' _ h2
    have:=g2 rfl
    have:=g3 hg.2
    exact hB _ i2 _ this (by omega)
theorem st_ends (T:List Tok):∀ f:Nat,(∀ i op,i≤T.length→10 * (T.length-i)+5≤f→Ends (sBlock T f i op))∧(∀ acc i op,i≤T.length→10 * (T.length-i)+14≤f→Ends (sStmts T f acc i op)) ∧
  (∀ i op,i≤T.length→10 * (T.length-i)+13≤f→Ends (sStmt T f i op))∧(∀ i op,i≤T.length→10 * (T.length-i)+12≤f→Ends (sSimple T f i op))
 |0=>⟨fun _ _ _ _=>by omega,fun _ _ _ _ _=>by omega,fun _ _ _ _=>by omega,fun _ _ _ _=>by omega⟩
 |f+1=>by
  obtain ⟨hB,hL,hS,hM⟩:=st_ends T f
  obtain ⟨eL,_,_,_,eI,eA,_⟩:=ex_ends T f
  obtain ⟨gL,_,_,_,gI,gA,_⟩:=ex_good T f
  obtain ⟨kB,kL,kS,kM⟩:=st_good T f
  refine ⟨fun i op hi hf=>?_,fun acc i op hi hf=>?_,fun i op hi hf=>?_,fun i op hi hf=>?_⟩
  ·rw[sBlock]
   exact ends_begin fun hlt ho=>ends_bind (hL [] _ _ (by omega) (by omega)) fun v i2 op2 _=>ends_bind ends_some fun _ _ _ _=>ends_some
  ·rw[sStmts]
   split
   ·exact ends_some
   ·refine ends_bind (hS i op hi (by omega)) fun v i' op' h=>?_
    obtain ⟨g1,g2,g3,rfl⟩:=kS i op _ h
    have:=g2 rfl
    have:=g3 hi
    exact hL _ i' _ (by omega) (by omega)
  ·rw[sStmt]
   split
   ·rename_i h
    have:=isTok_lt h
    refine ends_bind (eL 0 (i+1) op (by omega) (by omega) (by omega)) fun v i' op' h=>?_
    obtain ⟨g1,g2,g3,rfl⟩:=gL 0 (i+1) op _ h
    have:=g2 rfl
    have:=g3 (by omega)
    refine ends_bind (hB i' _ (by omega) (by omega)) fun v2 i2 op2 h2=>?_
    obtain ⟨q1,q2,q3,rfl⟩:=kB i' _ _ h2
    have:=q3 (by omega)
    split
    ·rename_i h4
     have:=isTok_lt h4
     exact ends_bind (hB (i2+1) _ (by omega) (by omega)) fun _ _ _ _=>ends_some
    ·exact ends_some
   ·split
    ·rename_i h
     have:=isTok_lt h
     refine ends_bind (eL 0 (i+1) op (by omega) (by omega) (by omega)) fun v i' op' h=>?_
     obtain ⟨g1,g2,g3,rfl⟩:=gL 0 (i+1) op _ h
     have:=g2 rfl
     have:=g3 (by omega)
     exact ends_bind (hB i' _ (by omega) (by omega)) fun v2 i2 op2 h2=>ends_some
    ·exact ends_bind (hM i op hi (by omega)) fun _ _ _ _=>ends_bind ends_some fun _ _ _ _=>ends_some
  ·rw[sSimple]
   split
   ·rename_i h
    have:=isTok_lt h
    exact ends_bind (eL 0 (i+1) op (by omega) (by omega) (by omega)) fun _ _ _ _=>ends_some
   ·split
    ·exact ends_some
    ·refine ends_bind ends_some fun v i' op' h=>?_
     injection h with h
     have hg:=sWord_good T 2 i op
     rw[h] at hg
     obtain ⟨h1,h2,h3,rfl⟩:=hg
     have:=h2 rfl
     have:=h3 hi
     split
     ·exact ends_bind (eA i' _ (by omega) (by omega)) fun _ _ _ _=>ends_some
     ·have tail:∀ (i2 op2:Nat) (g:Ex→Sm),i'≤i2→i2≤T.length→Ends (obind (some (sNeed T [61] i2 op2)) fun _ i' op'=>obind (eLev T f 0 i' op') fun e i' op'=>some (.ok (g e) i' op')):=fun i2 op2 g hi1 hi2=>by
       refine ends_bind ends_some fun v i3 op3 h3=>?_
       injection h3 with h3
       have hg:=sNeed_good T [61] i2 op2
       rw[h3] at hg
       have:=hg.2.2.1 hi2
       have:=hg.1
       exact ends_bind (eL 0 i3 _ (by omega) (by omega) (by omega)) fun _ _ _ _=>ends_some
      split
      ·refine ends_bind (eI i' _ (by omega) (by omega)) fun v2 i2 op2 h2=>?_
       obtain ⟨q1,q2,q3,rfl⟩:=gI i' _ _ h2
       exact tail i2 _ _ q1 (q3 (by omega))
      ·exact tail i' _ _ (zNr _) (by omega)
theorem sNamesLoop_ends (T:List Tok):∀ (f:Nat) (acc:List (List UInt8)) (i op:Nat),i≤T.length→T.length-i+1≤f→Ends (sNamesLoop T f acc i op)
 |0,_,_,_,_,h=>by omega
 |f+1,acc,i,op,hi,hf=>by
  rw[sNamesLoop]
  split
  ·rename_i h
   have:=isTok_lt h
   refine ends_bind ends_some fun v i' op' h=>?_
   injection h with h
   have hg:=sWord_good T 2 (i+1) op
   rw[h] at hg
   obtain ⟨h1,h2,h3,rfl⟩:=hg
   exact sNamesLoop_ends T f _ i' _ (h3 (by omega)) (by have:=h3 (by omega);omega)
  ·exact ends_some
theorem sNames_ends (T:List Tok) (f i op:Nat) (hi:i≤T.length) (hf:T.length-i+1≤f):Ends (sNames T f i op):=
 ends_bind ends_some fun v i' op' h=>by
  injection h with h
  have hg:=sWord_good T 2 i op
  rw[h] at hg
  obtain ⟨h1,h2,h3,rfl⟩:=hg
  exact sNamesLoop_ends T f _ i' _ (h3 hi) (by have:=h3 hi;omega)
theorem sVars_ends (T:List Tok):∀ (f:Nat) (acc:List (List UInt8)) (i op:Nat),i≤T.length→T.length-i+2≤f→Ends (sVars T f acc i op)
 |0,_,_,_,_,h=>by omega
 |f+1,acc,i,op,hi,hf=>by
  rw[sVars]
  split
  ·rename_i h
   have:=isTok_lt h
   refine ends_bind (sNames_ends T f (i+1) op (by omega) (by omega)) fun v i' op' h=>?_
   obtain ⟨g1,g2,g3,rfl⟩:=sNames_good T f (i+1) op _ h
   have:=g3 (by omega)
   refine ends_bind ends_some fun v i2 op2 h2=>?_
   injection h2 with h2
   have hg:=sNeed_good T [59] i' op'
   rw[h2] at hg
   obtain ⟨h1,h2,h3,rfl⟩:=hg
   have:=h3 (by omega)
   exact sVars_ends T f _ i2 _ (by omega) (by omega)
  ·exact ends_some
theorem obind_word {B:Type} {T:List Tok} {k:Int} {i op:Nat} {g:List UInt8→Nat→Nat→OR B} (h:∀ s,i<T.length→Ends (g s (i+1) op)):Ends (obind (some (sWord T k i op)) g):=
 ends_bind ends_some fun v i' op' hw=>by
  injection hw with hw
  unfold sWord at hw
  split at hw
  ·rename_i t ht
   have:=get_lt ht
   split at hw
   ·cases hw;exact h _ this
   ·cases hw
  ·cases hw
theorem obind_end {B:Type} {T:List Tok} {x:List UInt8} {i op:Nat} {g:Unit→Nat→Nat→OR B} (h:i<T.length→Ends (g () (i+1) (op-1))):Ends (obind (some (sEnd T x i op)) g):=
 ends_bind ends_some fun v i' op' hw=>by
  injection hw with hw
  obtain ⟨rfl,rfl,hlt⟩:=sEnd_ok hw
  exact h hlt
theorem sFunc_ends (T:List Tok) (f i op:Nat) (hi:i≤T.length) (hf:10 * (T.length-i)+14≤f):Ends (sFunc T f i op):=by
 unfold sFunc
 refine obind_word fun s h1=>ends_begin fun h2 h3=>ends_bind ?_ fun v i2 op2 h4=>obind_end fun h5=>ends_begin fun h6 h7=>ends_bind (sVars_ends T f [] _ _ (by omega) ?_) fun v2 i3 op3 h8=>ends_bind ((st_ends T f).2.1 [] _ _ ?_ ?_) fun v3 i4 op4 h9=>ends_bind ends_some fun _ _ _ _=>ends_some
 ·split
  ·exact ends_some
  ·exact sNames_ends T f _ _ (by omega) (by omega)
 ·have:i+1+1≤i2:=by
   split at h4
   ·cases h4;omega
   ·exact (sNames_good T f _ _ _ h4).1
  omega
 ·exact (sVars_good T f _ _ _ _ h8).2.2.1 (by omega)
 ·have:i+1+1≤i2:=by
   split at h4
   ·cases h4;omega
   ·exact (sNames_good T f _ _ _ h4).1
  have:=(sVars_good T f _ _ _ _ h8).1
  omega
theorem sFunc_good (T:List Tok) (f i op:Nat):GoodO T true i op (sFunc T f i op):=by
 intro q hq0
 unfold sFunc at hq0
 cases q with
 |err l e=>trivial
 |ok v i9 op9=>
  rcases obind_some hq0 with ⟨s,i1,op1,h1,hq1⟩|⟨l,e,_,h⟩
  ·injection h1 with h1
   have g1:=sWord_good T 2 i op
   rw[h1] at g1
   obtain ⟨a1,a2,a3,rfl⟩:=g1
   have:=a2 rfl
   rcases obind_some hq1 with ⟨_,i2,op2,h2,hq2⟩|⟨l,e,_,h⟩
   ·injection h2 with h2
    obtain ⟨rfl,rfl,b1,b2⟩:=sBegin_ok h2
    rcases obind_some hq2 with ⟨ps,i3,op3,h3,hq3⟩|⟨l,e,_,h⟩
    ·have c:i1+1≤i3∧(i1+1≤T.length→i3≤T.length)∧op3=op1+1:=by
      split at h3
      ·cases h3;exact ⟨zNr _,fun h=>h,rfl⟩
      ·obtain ⟨c1,_,c3,c4⟩:=sNames_good T f _ _ _ h3
       exact ⟨c1,c3,c4⟩
     obtain ⟨c1,c2,rfl⟩:=c
     rcases obind_some hq3 with ⟨_,i4,op4,h4,hq4⟩|⟨l,e,_,h⟩
     ·injection h4 with h4
      obtain ⟨rfl,rfl,d1⟩:=sEnd_ok h4
      rcases obind_some hq4 with ⟨_,i5,op5,h5,hq5⟩|⟨l,e,_,h⟩
      ·injection h5 with h5
       obtain ⟨rfl,rfl,e1,e2⟩:=sBegin_ok h5
       rcases obind_some hq5 with ⟨ls,i6,op6,h6,hq6⟩|⟨l,e,_,h⟩
       ·obtain ⟨f1,_,f3,rfl⟩:=sVars_good T f _ _ _ _ h6
        have:=f3 (by omega)
        rcases obind_some hq6 with ⟨bs,i7,op7,h7,hq7⟩|⟨l,e,_,h⟩
        ·obtain ⟨k1,_,k3,rfl⟩:=(st_good T f).2.1 _ _ _ _ h7
         have:=k3 (by omega)
         rcases obind_some hq7 with ⟨_,i8,op8,h8,hq8⟩|⟨l,e,_,h⟩
         ·injection h8 with h8
          obtain ⟨rfl,rfl,m1⟩:=sEnd_ok h8
          cases hq8
          exact ⟨by omega,fun _=>by omega,fun _=>by omega,by omega⟩
         ·cases h
        ·cases h
       ·cases h
      ·cases h
     ·cases h
    ·cases h
   ·cases h
  ·cases h
theorem sArray_good (T:List Tok) (i op:Nat):GoodO T true i op (sArray T i op):=by
 intro q hq0
 unfold sArray at hq0
 cases q with
 |err l e=>trivial
 |ok v i9 op9=>
  rcases obind_some hq0 with ⟨s,i1,op1,h1,hq1⟩|⟨l,e,_,h⟩
  ·injection h1 with h1
   have g1:=sWord_good T 2 i op
   rw[h1] at g1
   obtain ⟨a1,a2,a3,rfl⟩:=g1
   have:=a2 rfl
   rcases obind_some hq1 with ⟨_,i2,op2,h2,hq2⟩|⟨l,e,_,h⟩
   ·injection h2 with h2
    obtain ⟨rfl,rfl,b1,b2⟩:=sBegin_ok h2
    rcases obind_some hq2 with ⟨ps,i3,op3,h3,hq3⟩|⟨l,e,_,h⟩
    ·injection h3 with h3
     have g3:=sNumber_good T (i1+1) (op1+1)
     rw[h3] at g3
     obtain ⟨c1,c2,c3,rfl⟩:=g3
     have:=c2 rfl
     rcases obind_some hq3 with ⟨_,i4,op4,h4,hq4⟩|⟨l,e,_,h⟩
     ·injection h4 with h4
      obtain ⟨rfl,rfl,d1⟩:=sEnd_ok h4
      rcases obind_some hq4 with ⟨_,i5,op5,h5,hq5⟩|⟨l,e,_,h⟩
      ·injection h5 with h5
       have g5:=sNeed_good T [59] (i3+1) op4
       rw[h5] at g5
       obtain ⟨e1,e2,e3,rfl⟩:=g5
       have:=e2 rfl
       have:=e3 (by omega)
       cases hq5
       exact ⟨by omega,fun _=>by omega,fun _=>by omega,by omega⟩
      ·cases h
     ·cases h
    ·cases h
   ·cases h
  ·cases h
theorem sArray_ends (T:List Tok) (i op:Nat):Ends (sArray T i op):=by
 unfold sArray
 exact obind_word fun s _=>ends_begin fun _ _=>ends_bind ends_some fun _ _ _ _=>ends_bind ends_some fun _ _ _ _=>ends_bind ends_some fun _ _ _ _=>ends_some
theorem sProg_ends (T:List Tok):∀ (f:Nat) (p:Pr) (i op:Nat),i≤T.length→10 * (T.length-i)+20≤f→Ends (sProg T f p i op)
 |0,_,_,_,_,h=>by omega
 |f+1,p,i,op,hi,hf=>by
  rw[sProg]
  split
  ·exact ends_some
  ·split
   ·rename_i h
    have:=isTok_lt h
    refine ends_bind (sVars_ends T f _ i op hi (by omega)) fun v i' op' h2=>?_
    obtain ⟨g1,g2,g3,rfl⟩:=sVars_good T f _ i op _ h2
    have:=g2 h
    have:=g3 hi
    exact sProg_ends T f _ i' _ (by omega) (by omega)
   ·split
    ·rename_i h
     have:=isTok_lt h
     refine ends_bind (sArray_ends T _ _) fun v i' op' h2=>?_
     obtain ⟨g1,g2,g3,rfl⟩:=sArray_good T _ _ _ h2
     have:=g3 (by omega)
     exact sProg_ends T f _ i' _ (by omega) (by omega)
    ·split
     ·rename_i h
      have:=isTok_lt h
      refine ends_bind (sFunc_ends T f _ _ (by omega) (by omega)) fun v i' op' h2=>?_
      obtain ⟨g1,g2,g3,rfl⟩:=sFunc_good T f _ _ _ h2
      have:=g3 (by omega)
      exact sProg_ends T f _ i' _ (by omega) (by omega)
     ·exact ends_some
end Go.Stele
namespace Go.Stele
theorem nd_word {T:List Tok} {k:Int} {i op:Nat} {s:List UInt8} {i' op':Nat} (h:some (sWord T k i op)=some (.ok s i' op')):i'=i+1∧op'=op:=by
 injection h with h
 unfold sWord at h
 split at h
 ·split at h
  ·cases h;exact ⟨rfl,rfl⟩
  ·cases h
 ·cases h
theorem nd_need {T:List Tok} {x:List UInt8} {i op:Nat} {u:Unit} {i' op':Nat} (h:some (sNeed T x i op)=some (.ok u i' op')):i'=i+1∧op'=op:=by
 injection h with h
 unfold sNeed at h
 split at h
 ·cases h;exact ⟨rfl,rfl⟩
 ·cases h
end Go.Stele
namespace Go.Stele
abbrev KT:=Int×List UInt8
def sg (c:UInt8):KT:=(4,[c])
def NameOk (x:List UInt8):Prop:=Again ⟨2,x,0⟩
mutual
inductive PE:Ex→Nat→List KT→Nat→Prop
 |num {n k:Nat} (h:n<4294967296):PE (.mk nNum n [] []) k [(1,Go.Lib.decDigits n)] 0
 |var {s:List UInt8} {k:Nat} (h:NameOk s):PE (.mk nVar 0 s []) k [(2,s)] 0
 |elem {s:List UInt8} {k:Nat} {a:Ex} {ts:List KT} {d:Nat} (h:NameOk s) (ha:PE a 0 ts d):PE (.mk nElem 0 s [a]) k ((2,s)::sg 91::(ts++[sg 93])) (d+1)
 |call {s:List UInt8} {k:Nat} {l:List Ex} {ts:List KT} {d:Nat} (h:NameOk s) (hl:PEs l ts d):PE (.mk nCall 0 s l) k ((2,s)::sg 40::(ts++[sg 41])) (d+1)
 |neg {k:Nat} {a:Ex} {ts:List KT} {d:Nat} (ha:PE a 6 ts d):PE (.mk nNeg 0 [] [a]) k (sg 45::ts) (d+1)
 |not {k:Nat} {a:Ex} {ts:List KT} {d:Nat} (ha:PE a 6 ts d):PE (.mk nNot 0 [] [a]) k (sg 33::ts) (d+1)
 |bin {s k:Nat} {op:List UInt8} {a b:Ex} {t1 t2:List KT} {d1 d2:Nat} (hs:s<6) (ho:op∈lvOps s) (hk:k≤s) (ha:PE a (leftLv s) t1 d1) (hb:PE b (s+1) t2 d2):PE (.mk op 0 [] [a,b]) k (t1++(4,op)::t2) (max d1 d2)
 |par {s k:Nat} {op:List UInt8} {a b:Ex} {t1 t2:List KT} {d1 d2:Nat} (hs:s<6) (ho:op∈lvOps s) (hk:s<k) (ha:PE a (leftLv s) t1 d1) (hb:PE b (s+1) t2 d2):PE (.mk op 0 [] [a,b]) k (sg 40::((t1++(4,op)::t2)++[sg 41])) (max d1 d2+1)
inductive PEs:List Ex→List KT→Nat→Prop
 |nil:PEs [] [] 0
 |one {a:Ex} {ts:List KT} {d:Nat} (ha:PE a 0 ts d):PEs [a] ts d
 |more {a b:Ex} {l:List Ex} {t1 t2:List KT} {d1 d2:Nat} (ha:PE a 0 t1 d1) (hl:PEs (b::l) t2 d2):PEs (a::b::l) (t1++sg 44::t2) (max d1 d2)
end
theorem PE.weak {e:Ex} {k k':Nat} {ts:List KT} {d:Nat} (h:PE e k ts d) (hk:k'≤k):∃ ts' d',PE e k' ts' d'∧ts'.length≤ts.length∧d'≤d:=by
 cases h with
 |num h=>exact ⟨_,_,.num h,zNr _,zNr _⟩
 |var h=>exact ⟨_,_,.var h,zNr _,zNr _⟩
 |elem h ha=>exact ⟨_,_,.elem h ha,zNr _,zNr _⟩
 |call h ha=>exact ⟨_,_,.call h ha,zNr _,zNr _⟩
 |neg ha=>exact ⟨_,_,.neg ha,zNr _,zNr _⟩
 |not ha=>exact ⟨_,_,.not ha,zNr _,zNr _⟩
 |bin hs ho hk2 ha hb=>exact ⟨_,_,.bin hs ho (by omega) ha hb,zNr _,zNr _⟩
 |par hs ho hk2 ha hb=>
  rename_i s _ _ _ _ _ _ _
  by_cases h2:k'≤s
  ·exact ⟨_,_,.bin hs ho h2 ha hb,by simp only[zLa,zLc,zLn];omega,by omega⟩
  ·exact ⟨_,_,.par hs ho (by omega) ha hb,zNr _,zNr _⟩
theorem PE.paren {e:Ex} {ts:List KT} {d:Nat} (h:PE e 0 ts d):∃ ts' d',PE e 6 ts' d'∧ts'.length≤ts.length+2∧d'≤d+1:=by
 cases h with
 |num h=>exact ⟨_,_,.num h,by omega,by omega⟩
 |var h=>exact ⟨_,_,.var h,by omega,by omega⟩
 |elem h ha=>exact ⟨_,_,.elem h ha,by omega,by omega⟩
 |call h ha=>exact ⟨_,_,.call h ha,by omega,by omega⟩
 |neg ha=>exact ⟨_,_,.neg ha,by omega,by omega⟩
 |not ha=>exact ⟨_,_,.not ha,by omega,by omega⟩
 |bin hs ho hk2 ha hb=>exact ⟨_,_,.par hs ho hs ha hb,by simp only[zLa,zLc,zLn];omega,by omega⟩
 |par hs ho hk2 ha hb=>omega
theorem PEs.snoc:∀ {l:List Ex} {a:Ex} {t0 t1:List KT} {d0 d1:Nat},PEs l t0 d0→PE a 0 t1 d1→∃ t,PEs (l++[a]) t (max d0 d1)∧t.length=t0.length+(if l=[] then 0 else 1)+t1.length:=by
 intro l
 induction l with
 |nil=>
  intro a t0 t1 d0 d1 h h1
  cases h with
  |nil=>exact ⟨t1,by rw[Nat.zero_max];exact .one h1,by simp⟩
 |cons b l ih=>
  intro a t0 t1 d0 d1 h h1
  cases h with
  |one hb=>exact ⟨_,.more hb (.one h1),by simp only[zLa,zLc];simp;omega⟩
  |more hb hl=>
   obtain ⟨t,g1,g2⟩:=ih hl h1
   exact ⟨_,by rw[Nat.max_assoc];exact .more hb g1,by simp only[zLa,zLc,g2];simp;omega⟩
/-! ### What is read can be printed -/
def Wh {A:Type} (P:A→Nat→Nat→Prop) (r:OR A):Prop:=∀ v i op,r=some (.ok v i op)→P v i op
theorem wh_bind {A B:Type} {r:OR A} {k:A→Nat→Nat→OR B} {P:A→Nat→Nat→Prop} {Q:B→Nat→Nat→Prop} (hr:Wh P r) (hk:∀ v i op,P v i op→Wh Q (k v i op)):Wh Q (obind r k):=fun v i op h=>by
 rcases obind_some h with ⟨w,i1,op1,h1,h2⟩|⟨_,_,_,h2⟩
 ·exact hk _ _ _ (hr _ _ _ h1) v i op h2
 ·cases h2
theorem wh_any {A B:Type} {r:OR A} {k:A→Nat→Nat→OR B} {Q:B→Nat→Nat→Prop} (hk:∀ v i op,r=some (.ok v i op)→Wh Q (k v i op)):Wh Q (obind r k):=wh_bind (fun _ _ _ h=>h) hk
theorem wh_ok {A:Type} {P:A→Nat→Nat→Prop} {v:A} {i op:Nat} (h:P v i op):Wh P (some (.ok v i op)):=fun _ _ _ e=>by cases e;exact h
theorem wh_none {A:Type} {P:A→Nat→Nat→Prop}:Wh P none:=fun _ _ _ e=>by cases e
theorem wh_mono {A:Type} {P Q:A→Nat→Nat→Prop} {r:OR A} (h:Wh P r) (hPQ:∀ v i op,P v i op→Q v i op):Wh Q r:=fun v i op e=>hPQ _ _ _ (h v i op e)
theorem wh_begin {B:Type} {T:List Tok} {x:List UInt8} {i op:Nat} {k:Unit→Nat→Nat→OR B} {Q:B→Nat→Nat→Prop} (hk:op<100→Wh Q (k () (i+1) (op+1))):Wh Q (obind (some (sBegin T x i op)) k):=wh_any fun v i1 op1 h=>by
 injection h with h
 obtain ⟨rfl,rfl,h3,_⟩:=sBegin_ok h
 exact hk h3
theorem wh_end {B:Type} {T:List Tok} {x:List UInt8} {i op:Nat} {k:Unit→Nat→Nat→OR B} {Q:B→Nat→Nat→Prop} (hk:Wh Q (k () (i+1) (op-1))):Wh Q (obind (some (sEnd T x i op)) k):=wh_any fun v i1 op1 h=>by
 injection h with h
 obtain ⟨rfl,rfl,_⟩:=sEnd_ok h
 exact hk
theorem wh_need {B:Type} {T:List Tok} {x:List UInt8} {i op:Nat} {k:Unit→Nat→Nat→OR B} {Q:B→Nat→Nat→Prop} (hk:Wh Q (k () (i+1) op)):Wh Q (obind (some (sNeed T x i op)) k):=wh_any fun v i1 op1 h=>by
 obtain ⟨rfl,rfl⟩:=nd_need h
 exact hk
theorem word_again {T:List Tok} (hT:∀ t∈T,Again t) {i op i' op':Nat} {s:List UInt8} (h:sWord T 2 i op=.ok s i' op'):NameOk s∧i'=i+1∧op'=op:=by
 unfold sWord at h
 split at h
 ·rename_i t ht
  split at h
  ·rename_i hk
   cases h
   have:=hT t (List.mem_of_getElem? ht)
   refine ⟨?_,rfl,rfl⟩
   unfold NameOk
   unfold Again at this ⊢
   rw[hk] at this
   exact this
  ·cases h
 ·cases h
theorem wh_name {B:Type} {T:List Tok} (hT:∀ t∈T,Again t) {i op:Nat} {k:List UInt8→Nat→Nat→OR B} {Q:B→Nat→Nat→Prop} (hk:∀ s,NameOk s→Wh Q (k s (i+1) op)):Wh Q (obind (some (sWord T 2 i op)) k):=wh_any fun v i1 op1 h=>by
 injection h with h
 obtain ⟨h1,rfl,rfl⟩:=word_again hT h
 exact hk v h1
theorem numOf_lt (s:List UInt8):numOf s<4294967296:=by
 unfold numOf
 split
 ·rename_i u h
  exact pu32_lt h
 ·decide
theorem wh_number {B:Type} {T:List Tok} {i op:Nat} {k:Nat→Nat→Nat→OR B} {Q:B→Nat→Nat→Prop} (hk:∀ n,n<4294967296→Wh Q (k n (i+1) op)):Wh Q (obind (some (sNumber T i op)) k):=wh_any fun v i1 op1 h=>by
 injection h with h
 unfold sNumber Res.bind at h
 split at h
 ·rename_i h1
  cases h
  obtain ⟨rfl,rfl⟩:=nd_word (congrArg some h1)
  exact hk _ (numOf_lt _)
 ·cases h
theorem isTok_text {T:List Tok} {i:Nat} {xs:List (List UInt8)} (h:isTok T i xs=true):textAt T i∈xs:=by
 unfold isTok at h
 unfold textAt
 split at h
 ·rename_i t ht
  simp only[zBa] at h
  simpa using h.2
 ·cases h
def SE (k i op:Nat) (e:Ex) (i' op':Nat):Prop:=op'=op∧∃ ts d,PE e k ts d∧ts.length+i≤i'∧d≤100-op
def SX (i op:Nat) (e:Ex) (i' op':Nat):Prop:=op'=op∧∃ ts d,PE e 0 ts d∧ts.length+2+i≤i'∧d+1≤100-op
def SA (i op:Nat) (l:List Ex) (i' op':Nat):Prop:=op'=op∧∃ ts d,PEs l ts d∧ts.length+2+i≤i'∧d+1≤100-op
def SL (i op:Nat) (l:List Ex) (i' op':Nat):Prop:=op'=op∧∃ ts d,PEs l ts d∧ts.length+i≤i'∧d≤100-op
theorem ex_src {T:List Tok} (hT:∀ t∈T,Again t):∀ f:Nat,(∀ k i op,k≤6→Wh (SE k i op) (eLev T f k i op))∧(∀ k e i0 i op ts d,k<6→PE e (leftLv k) ts d→ts.length+i0≤i→d≤100-op→Wh (SE k i0 op) (eLoop T f k e i op)) ∧
  (∀ i op,Wh (SE 6 i op) (eUnary T f i op))∧(∀ i op,Wh (SE 6 i op) (ePrim T f i op))∧(∀ i op,Wh (SX i op) (eIndex T f i op))∧(∀ i op,Wh (SA i op) (eArgs T f i op)) ∧
  (∀ acc i0 i op ts d,PEs acc ts d→ts.length+i0≤i→d≤100-op→Wh (SL i0 op) (eArgsLoop T f acc i op))
 |0=>⟨fun _ _ _ _=>by rw[eLev];exact wh_none,fun _ _ _ _ _ _ _ _ _ _ _=>by rw[eLoop];exact wh_none,fun _ _=>by rw[eUnary];exact wh_none,fun _ _=>by rw[ePrim];exact wh_none,fun _ _=>by rw[eIndex];exact wh_none,fun _ _=>by rw[eArgs];exact wh_none,fun _ _ _ _ _ _ _ _ _=>by rw[eArgsLoop];exact wh_none⟩
 |f+1=>by
  obtain ⟨hL,hO,hU,hP,hI,hA,hB⟩:=ex_src hT f
  refine ⟨fun k i op hk=>?_,fun k e i0 i op ts d hk hP0 hts hd=>?_,fun i op=>?_,fun i op=>?_,fun i op=>?_,fun i op=>?_,fun acc i0 i op ts d hP0 hts hd=>?_⟩
  ·rw[eLev]
   split
   ·rename_i h6
    subst h6
    exact hU i op
   ·refine wh_bind (hL (k+1) i op (by omega)) fun v i' op' h=>?_
    obtain ⟨rfl,ts,d,h1,h2,h3⟩:=h
    obtain ⟨ts',d',g1,g2,g3⟩:=h1.weak (k':=leftLv k) (by unfold leftLv;split <;> omega)
    exact hO k v i i' _ ts' d' (by omega) g1 (by omega) (by omega)
  ·rw[eLoop]
   split
   ·rename_i ht
    refine wh_bind (hL (k+1) (i+1) op (by omega)) fun v i' op' h=>?_
    obtain ⟨rfl,t2,d2,h1,h2,h3⟩:=h
    have hb:PE (.mk (textAt T i) 0 [] [e,v]) k (ts++(4,textAt T i)::t2) (max d d2):=.bin hk (isTok_text ht) (zNr _) hP0 h1
    split
    ·exact wh_ok ⟨rfl,_,_,hb,by simp only[zLa,zLc];omega,by omega⟩
    ·rename_i h22
     refine hO k _ i0 i' _ _ _ hk (by rw[leftLv,if_neg h22];exact hb) (by simp only[zLa,zLc];omega) (by omega)
   ·obtain ⟨ts',d',g1,g2,g3⟩:=hP0.weak (k':=k) (by unfold leftLv;split <;> omega)
    exact wh_ok ⟨rfl,ts',d',g1,by omega,by omega⟩
  ·rw[eUnary]
   split
   ·refine wh_begin fun ho=>wh_bind (hU (i+1) (op+1)) fun v i' op' h=>?_
    obtain ⟨rfl,ts,d,h1,h2,h3⟩:=h
    exact wh_ok ⟨by omega,_,_,.neg h1,by simp only[zLc];omega,by omega⟩
   ·split
    ·refine wh_begin fun ho=>wh_bind (hU (i+1) (op+1)) fun v i' op' h=>?_
     obtain ⟨rfl,ts,d,h1,h2,h3⟩:=h
     exact wh_ok ⟨by omega,_,_,.not h1,by simp only[zLc];omega,by omega⟩
    ·exact hP i op
  ·rw[ePrim]
   split
   ·refine wh_begin fun ho=>wh_bind (hL 0 (i+1) (op+1) (by omega)) fun v i' op' h=>wh_end ?_
    obtain ⟨rfl,ts,d,h1,h2,h3⟩:=h
    obtain ⟨ts',d',g1,g2,g3⟩:=h1.paren
    exact wh_ok ⟨by omega,ts',d',g1,by omega,by omega⟩
   ·split
    ·exact wh_number fun n hn=>wh_ok ⟨rfl,_,_,.num hn,by simp only[zLc,zLn];omega,by omega⟩
    ·refine wh_name hT fun s hs=>?_
     split
     ·refine wh_bind (hI (i+1) op) fun v i' op' h=>?_
      obtain ⟨rfl,ts,d,h1,h2,h3⟩:=h
      exact wh_ok ⟨rfl,_,_,.elem hs h1,by simp only[zLc,zLa,zLn];omega,by omega⟩
     ·split
      ·refine wh_bind (hA (i+1) op) fun v i' op' h=>?_
       obtain ⟨rfl,ts,d,h1,h2,h3⟩:=h
       exact wh_ok ⟨rfl,_,_,.call hs h1,by simp only[zLc,zLa,zLn];omega,by omega⟩
      ·exact wh_ok ⟨rfl,_,_,.var hs,by simp only[zLc,zLn];omega,by omega⟩
  ·rw[eIndex]
   refine wh_begin fun ho=>wh_bind (hL 0 (i+1) (op+1) (by omega)) fun v i' op' h=>wh_end ?_
   obtain ⟨rfl,ts,d,h1,h2,h3⟩:=h
   exact wh_ok ⟨by omega,ts,d,h1,by omega,by omega⟩
  ·rw[eArgs]
   refine wh_begin fun ho=>wh_bind (hB [] (i+1) (i+1) (op+1) [] 0 .nil (by simp) (by omega)) fun v i' op' h=>wh_end ?_
   obtain ⟨rfl,ts,d,h1,h2,h3⟩:=h
   exact wh_ok ⟨by omega,ts,d,h1,by omega,by omega⟩
  ·rw[eArgsLoop]
   split
   ·exact wh_ok ⟨rfl,ts,d,hP0,by omega,by omega⟩
   ·refine wh_any fun _ i1 op1 h1=>?_
    have hi:i1=i+(if acc=[] then 0 else 1)∧op1=op:=by
     injection h1 with h1
     split at h1
     ·rename_i ha
      cases h1
      rw[if_pos ha]
      exact ⟨rfl,rfl⟩
     ·rename_i ha
      rw[if_neg ha]
      exact nd_need (congrArg some h1)
    obtain ⟨rfl,rfl⟩:=hi
    refine wh_bind (hL 0 _ op1 (by omega)) fun v i' op' h=>?_
    obtain ⟨rfl,t2,d2,h1,h2,h3⟩:=h
    obtain ⟨t,g1,g2⟩:=hP0.snoc h1
    exact hB _ i0 i' _ t _ g1 (by omega) (by omega)
/-! ### Statements -/
mutual
inductive PS:Sm→List KT→Nat→Prop
 |assign {s:List UInt8} {e:Ex} {ts:List KT} {d:Nat} (h:NameOk s) (he:PE e 0 ts d):PS (.mk 1 s [] [e] [] []) ((2,s)::sg 61::(ts++[sg 59])) d
 |store {s:List UInt8} {x e:Ex} {t1 t2:List KT} {d1 d2:Nat} (h:NameOk s) (hx:PE x 0 t1 d1) (he:PE e 0 t2 d2):PS (.mk 2 s [x] [e] [] []) ((2,s)::sg 91::(t1++sg 93::sg 61::(t2++[sg 59]))) (max (d1+1) d2)
 |call {s:List UInt8} {l:List Ex} {ts:List KT} {d:Nat} (h:NameOk s) (hl:PEs l ts d):PS (.mk 6 [] [] [.mk nCall 0 s l] [] []) ((2,s)::sg 40::(ts++[sg 41,sg 59])) (d+1)
 |ret {e:Ex} {ts:List KT} {d:Nat} (he:PE e 0 ts d):PS (.mk 5 [] [] [e] [] []) ((3,kwReturn)::(ts++[sg 59])) d
 |halt:PS (.mk 7 [] [] [] [] []) [(3,kwHalt),sg 59] 0
 |ifElse {e:Ex} {th el:List Sm} {ts t1 t2:List KT} {d d1 d2:Nat} (he:PE e 0 ts d) (h1:PSs th t1 d1) (h2:PSs el t2 d2) (hne:el≠[]) :
   PS (.mk 3 [] [] [e] th el) ((3,kwIf)::(ts++sg 123::(t1++sg 125::(3,kwElse)::sg 123::(t2++[sg 125])))) (max d (max (d1+1) (d2+1)))
 |ifThen {e:Ex} {th:List Sm} {ts t1:List KT} {d d1:Nat} (he:PE e 0 ts d) (h1:PSs th t1 d1):PS (.mk 3 [] [] [e] th []) ((3,kwIf)::(ts++sg 123::(t1++[sg 125]))) (max d (d1+1))
 |while {e:Ex} {th:List Sm} {ts t1:List KT} {d d1:Nat} (he:PE e 0 ts d) (h1:PSs th t1 d1):PS (.mk 4 [] [] [e] th []) ((3,kwWhile)::(ts++sg 123::(t1++[sg 125]))) (max d (d1+1))
inductive PSs:List Sm→List KT→Nat→Prop
 |nil:PSs [] [] 0
 |cons {s:Sm} {l:List Sm} {t1 t2:List KT} {d1 d2:Nat} (h:PS s t1 d1) (hl:PSs l t2 d2):PSs (s::l) (t1++t2) (max d1 d2)
end
theorem PSs.snoc:∀ {l:List Sm} {a:Sm} {t0 t1:List KT} {d0 d1:Nat},PSs l t0 d0→PS a t1 d1→PSs (l++[a]) (t0++t1) (max d0 d1):=by
 intro l
 induction l with
 |nil=>
  intro a t0 t1 d0 d1 h h1
  cases h with
  |nil=>
   have:=PSs.cons h1 .nil
   rw[zLz,Nat.max_zero] at this
   rw[Nat.zero_max]
   exact this
 |cons b l ih=>
  intro a t0 t1 d0 d1 h h1
  cases h with
  |cons hb hl=>
   rw[zAs,Nat.max_assoc]
   exact .cons hb (ih hl h1)
def SS (i op:Nat) (s:Sm) (i' op':Nat):Prop:=op'=op∧∃ ts d,PS s ts d∧ts.length+i≤i'∧d≤100-op
def SM (i op:Nat) (s:Sm) (i' op':Nat):Prop:=op'=op∧∃ ts d,PS s ts d∧ts.length+i≤i'+1∧d≤100-op
def SSs (i op:Nat) (s:List Sm) (i' op':Nat):Prop:=op'=op∧∃ ts d,PSs s ts d∧ts.length+i≤i'∧d≤100-op
def SB (i op:Nat) (s:List Sm) (i' op':Nat):Prop:=op'=op∧∃ ts d,PSs s ts d∧ts.length+2+i≤i'∧d+1≤100-op
theorem st_src {T:List Tok} (hT:∀ t∈T,Again t):∀ f:Nat,(∀ i op,Wh (SB i op) (sBlock T f i op))∧(∀ acc i0 i op ts d,PSs acc ts d→ts.length+i0≤i→d≤100-op→Wh (SSs i0 op) (sStmts T f acc i op)) ∧
  (∀ i op,Wh (SS i op) (sStmt T f i op))∧(∀ i op,Wh (SM i op) (sSimple T f i op))
 |0=>⟨fun _ _=>by rw[sBlock];exact wh_none,fun _ _ _ _ _ _ _ _ _=>by rw[sStmts];exact wh_none,fun _ _=>by rw[sStmt];exact wh_none,fun _ _=>by rw[sSimple];exact wh_none⟩
 |f+1=>by
  obtain ⟨hB,hL,hS,hM⟩:=st_src hT f
  obtain ⟨eL,_,_,_,eI,eA,_⟩:=ex_src hT f
  refine ⟨fun i op=>?_,fun acc i0 i op ts d hP0 hts hd=>?_,fun i op=>?_,fun i op=>?_⟩
  ·rw[sBlock]
   refine wh_begin fun ho=>wh_bind (hL [] (i+1) (i+1) (op+1) [] 0 .nil (by simp) (by omega)) fun v i' op' h=>wh_end ?_
   obtain ⟨rfl,ts,d,h1,h2,h3⟩:=h
   exact wh_ok ⟨by omega,ts,d,h1,by omega,by omega⟩
  ·rw[sStmts]
   split
   ·exact wh_ok ⟨rfl,ts,d,hP0,hts,hd⟩
   ·refine wh_bind (hS i op) fun v i' op' h=>?_
    obtain ⟨rfl,t2,d2,h1,h2,h3⟩:=h
    exact hL _ i0 i' _ _ _ (hP0.snoc h1) (by simp only[zLa];omega) (by omega)
  ·rw[sStmt]
   split
   ·refine wh_bind (eL 0 (i+1) op (by omega)) fun v i1 op1 h=>?_
    obtain ⟨rfl,t1,d1,g1,g2,g3⟩:=h
    refine wh_bind (hB i1 _) fun th i2 op2 h=>?_
    obtain ⟨rfl,t2,d2,k1,k2,k3⟩:=h
    split
    ·refine wh_bind (hB (i2+1) _) fun el i3 op3 h=>?_
     obtain ⟨rfl,t3,d3,l1,l2,l3⟩:=h
     by_cases hne:el=[]
     ·subst hne
      exact wh_ok ⟨rfl,_,_,.ifThen g1 k1,by simp only[zLc,zLa,zLn];omega,by omega⟩
     ·exact wh_ok ⟨rfl,_,_,.ifElse g1 k1 l1 hne,by simp only[zLc,zLa,zLn];omega,by omega⟩
    ·exact wh_ok ⟨rfl,_,_,.ifThen g1 k1,by simp only[zLc,zLa,zLn];omega,by omega⟩
   ·split
    ·refine wh_bind (eL 0 (i+1) op (by omega)) fun v i1 op1 h=>?_
     obtain ⟨rfl,t1,d1,g1,g2,g3⟩:=h
     refine wh_bind (hB i1 _) fun th i2 op2 h=>?_
     obtain ⟨rfl,t2,d2,k1,k2,k3⟩:=h
     exact wh_ok ⟨rfl,_,_,.while g1 k1,by simp only[zLc,zLa,zLn];omega,by omega⟩
    ·refine wh_bind (hM i op) fun v i1 op1 h=>wh_need ?_
     obtain ⟨rfl,t1,d1,g1,g2,g3⟩:=h
     exact wh_ok ⟨rfl,_,_,g1,by omega,by omega⟩
  ·rw[sSimple]
   split
   ·refine wh_bind (eL 0 (i+1) op (by omega)) fun v i1 op1 h=>?_
    obtain ⟨rfl,t1,d1,g1,g2,g3⟩:=h
    exact wh_ok ⟨rfl,_,_,.ret g1,by simp only[zLc,zLa,zLn];omega,by omega⟩
   ·split
    ·exact wh_ok ⟨rfl,_,_,.halt,by simp only[zLc,zLa,zLn];omega,by omega⟩
    ·refine wh_name hT fun s hs=>?_
     split
     ·refine wh_bind (eA (i+1) op) fun v i1 op1 h=>?_
      obtain ⟨rfl,t1,d1,g1,g2,g3⟩:=h
      exact wh_ok ⟨rfl,_,_,.call hs g1,by simp only[zLc,zLa,zLn];omega,by omega⟩
     ·split
      ·refine wh_bind (eI (i+1) op) fun v i1 op1 h=>wh_need ?_
       obtain ⟨rfl,t1,d1,g1,g2,g3⟩:=h
       refine wh_bind (eL 0 (i1+1) _ (by omega)) fun e i2 op2 h=>?_
       obtain ⟨rfl,t2,d2,k1,k2,k3⟩:=h
       exact wh_ok ⟨rfl,_,_,.store hs g1 k1,by simp only[zLc,zLa,zLn];omega,by omega⟩
      ·refine wh_need (wh_bind (eL 0 (i+1+1) op (by omega)) fun e i2 op2 h=>?_)
       obtain ⟨rfl,t2,d2,k1,k2,k3⟩:=h
       exact wh_ok ⟨rfl,_,_,.assign hs k1,by simp only[zLc,zLa,zLn];omega,by omega⟩
/-! ### Declarations -/
def commas:List (List UInt8)→List KT
 |[]=>[]
 |[a]=>[(2,a)]
 |a::b::l=>(2,a)::sg 44::commas (b::l)
theorem commas_len:∀ l:List (List UInt8),(commas l).length=2 * l.length-1
 |[]=>rfl
 |[a]=>rfl
 |a::b::l=>by
  rw[commas,zLc,zLc,commas_len (b::l)]
  simp only[zLc]
  omega
def varK (l:List (List UInt8)):List KT:=if l=[] then [] else (3,kwVar)::(commas l++[sg 59])
theorem varK_len (l:List (List UInt8)):(varK l).length=if l=[] then 0 else 2 * l.length+1:=by
 unfold varK
 split
 ·rfl
 ·rename_i h
  have:0<l.length:=List.length_pos_iff.2 h
  simp only[zLc,zLa,commas_len,zLn]
  omega
def AllOk (l:List (List UInt8)):Prop:=∀ x∈l,NameOk x
theorem AllOk.app {a b:List (List UInt8)} (ha:AllOk a) (hb:AllOk b):AllOk (a++b):=fun x hx=>by
 rcases List.mem_append.1 hx with h|h
 ·exact ha x h
 ·exact hb x h
inductive PF:FnD→List KT→Nat→Prop
 |mk {nm:List UInt8} {ps ls:List (List UInt8)} {b:List Sm} {ts:List KT} {d:Nat} (h:NameOk nm) (hp:AllOk ps) (hl:AllOk ls) (hb:PSs b ts d) :
   PF ⟨nm,ps,ls,b⟩ ((3,kwFunc)::(2,nm)::sg 40::(commas ps++sg 41::sg 123::(varK ls++(ts++[sg 125])))) (d+1)
inductive PFs:List FnD→List KT→Prop
 |nil:PFs [] []
 |cons {f:FnD} {l:List FnD} {t1 t2:List KT} {d:Nat} (h:PF f t1 d) (hd:d≤100) (hl:PFs l t2):PFs (f::l) (t1++t2)
def arK (a:Ar):List KT:=[(3,kwArray),(2,a.name),sg 91,(1,Go.Lib.decDigits a.size),sg 93,sg 59]
def ArsOk (l:List Ar):Prop:=∀ a∈l,NameOk a.name∧a.size<4294967296
inductive PP:Pr→List KT→Prop
 |mk {v:List (List UInt8)} {a:List Ar} {f:List FnD} {ts:List KT} (hv:AllOk v) (ha:ArsOk a) (hf:PFs f ts):PP ⟨v,a,f⟩ (varK v++((a.map arK).flatten++ts))
theorem PFs.snoc:∀ {l:List FnD} {a:FnD} {t0 t1:List KT} {d:Nat},PFs l t0→PF a t1 d→d≤100→PFs (l++[a]) (t0++t1):=by
 intro l
 induction l with
 |nil=>
  intro a t0 t1 d h h1 hd
  cases h with
  |nil=>
   have:=PFs.cons h1 hd .nil
   rw[zLz] at this
   exact this
 |cons b l ih=>
  intro a t0 t1 d h h1 hd
  cases h with
  |cons hb hd' hl=>
   rw[zAs]
   exact .cons hb hd' (ih hl h1 hd)
theorem namesLoop_src {T:List Tok} (hT:∀ t∈T,Again t):∀ (f:Nat) (acc:List (List UInt8)) (i op:Nat),AllOk acc→Wh (fun l i' op'=>op'=op∧AllOk l∧acc.length≤l.length∧2 * l.length+i≤2 * acc.length+i') (sNamesLoop T f acc i op)
 |0,_,_,_,_=>by rw[sNamesLoop];exact wh_none
 |f+1,acc,i,op,ha=>by
  rw[sNamesLoop]
  split
  ·refine wh_name hT fun s hs=>wh_mono (namesLoop_src hT f (acc++[s]) (i+1+1) op (ha.app fun x hx=>by cases List.mem_singleton.1 hx;exact hs)) fun l i' op' h=>?_
   obtain ⟨rfl,h1,h2,h3⟩:=h
   rw[zLa,List.length_singleton] at h2 h3
   exact ⟨rfl,h1,by omega,by omega⟩
  ·exact wh_ok ⟨rfl,ha,zNr _,by omega⟩
theorem names_src {T:List Tok} (hT:∀ t∈T,Again t) (f i op:Nat):Wh (fun l i' op'=>op'=op∧AllOk l∧0<l.length∧2 * l.length+i≤1+i') (sNames T f i op):=
 wh_name hT fun s hs=>wh_mono (namesLoop_src hT f [s] (i+1) op fun x hx=>by cases List.mem_singleton.1 hx;exact hs) fun l i' op' h=>by
  obtain ⟨rfl,h1,h2,h3⟩:=h
  rw[List.length_singleton] at h2 h3
  exact ⟨rfl,h1,by omega,by omega⟩
theorem vars_src {T:List Tok} (hT:∀ t∈T,Again t):∀ (f:Nat) (acc:List (List UInt8)) (i op:Nat),AllOk acc→Wh (fun l i' op'=>op'=op∧AllOk l∧acc.length≤l.length∧(if acc.length=l.length then i≤i' else 2 * l.length+1+i≤2 * acc.length+i')) (sVars T f acc i op)
 |0,_,_,_,_=>by rw[sVars];exact wh_none
 |f+1,acc,i,op,ha=>by
  rw[sVars]
  split
  ·refine wh_bind (names_src hT f (i+1) op) fun l i1 op1 h=>wh_need ?_
   obtain ⟨rfl,h1,h2,h3⟩:=h
   refine wh_mono (vars_src hT f (acc++l) (i1+1) _ (ha.app h1)) fun l2 i' op' h=>?_
   obtain ⟨rfl,g1,g2,g3⟩:=h
   rw[zLa] at g2 g3
   refine ⟨rfl,g1,by omega,?_⟩
   rw[if_neg (by omega)]
   split at g3 <;> omega
  ·exact wh_ok ⟨rfl,ha,zNr _,by rw[if_pos rfl];omega⟩
theorem func_src {T:List Tok} (hT:∀ t∈T,Again t) (f i:Nat):Wh (fun a i' op'=>op'=0∧∃ ts d,PF a ts d∧d≤100∧ts.length+i≤i'+1) (sFunc T f i 0):=by
 unfold sFunc
 refine wh_name hT fun nm hnm=>wh_begin fun _=>wh_bind (P:=fun ps i' op'=>op'=1∧AllOk ps∧2 * ps.length-1+(i+1+1)≤i') ?_ fun ps i1 op1 h=>wh_end (wh_begin fun _=>?_)
 ·split
  ·exact wh_ok ⟨rfl,(fun x hx=>by cases hx),by simp⟩
  ·exact wh_mono (names_src hT f _ _) fun l i' op' h=>⟨h.1,h.2.1,by omega⟩
 obtain ⟨rfl,h1,h2⟩:=h
 refine wh_bind (vars_src hT f [] _ _ fun x hx=>by cases hx) fun ls i2 op2 h=>?_
 obtain ⟨rfl,g1,_,g3⟩:=h
 refine wh_bind ((st_src hT f).2.1 [] i2 i2 _ [] 0 .nil (by simp) (by omega)) fun b i3 op3 h=>wh_end ?_
 obtain ⟨rfl,ts,d,k1,k2,k3⟩:=h
 refine wh_ok ⟨by omega,_,_,.mk hnm h1 g1 k1,by omega,?_⟩
 simp only[zLc,zLa,zLn,commas_len,varK_len] at g3 ⊢
 by_cases hl:ls=[]
 ·subst hl
  simp only[zLn,if_pos] at g3 ⊢
  omega
 ·have:¬ 0=ls.length:=fun h=>hl (List.eq_nil_of_length_eq_zero h.symm)
  rw[if_neg this] at g3
  rw[if_neg hl]
  omega
theorem array_src {T:List Tok} (hT:∀ t∈T,Again t) (i:Nat):Wh (fun a i' op'=>op'=0∧NameOk a.name∧a.size<4294967296∧5+i≤i') (sArray T i 0):=by
 unfold sArray
 exact wh_name hT fun nm hnm=>wh_begin fun _=>wh_number fun n hn=>wh_end (wh_need (wh_ok ⟨rfl,hnm,hn,by omega⟩))
def ntK (v:Nat) (a:Nat) (t:Nat):Nat:=(if v=0 then 0 else 2 * v+1)+6 * a+t
theorem prog_src {T:List Tok} (hT:∀ t∈T,Again t):∀ (f:Nat) (v:List (List UInt8)) (a:List Ar) (fs:List FnD) (ts:List KT) (i:Nat),AllOk v→ArsOk a→PFs fs ts→ntK v.length a.length ts.length≤i→i≤T.length →
  Wh (fun q _ _=>∃ v' a' f' t',q=⟨v',a',f'⟩∧AllOk v'∧ArsOk a'∧PFs f' t'∧ntK v'.length a'.length t'.length≤T.length) (sProg T f ⟨v,a,fs⟩ i 0)
 |0,_,_,_,_,_,_,_,_,_,_=>by rw[sProg];exact wh_none
 |f+1,v,a,fs,ts,i,hv,ha,hf,hi,hT'=>by
  rw[sProg]
  split
  ·exact wh_ok ⟨_,_,_,_,rfl,hv,ha,hf,by omega⟩
  rename_i hlt
  split
  ·rename_i hw
   refine wh_any fun l i1 op1 h1=>?_
   have hg:=(sVars_good T f [] i 0 _ h1).2.2.1 hT'
   obtain ⟨rfl,g1,_,g3⟩:=vars_src hT f [] i 0 (fun x hx=>by cases hx) _ _ _ h1
   refine prog_src hT f (v++l) a fs ts i1 (hv.app g1) ha hf ?_ hg
   rw[zLa]
   simp only[zLn] at g3
   unfold ntK at hi ⊢
   split at g3
   ·rename_i h0
    rw[←h0,Nat.add_zero]
    omega
   ·rw[if_neg (by omega)]
    split at hi <;> omega
  ·split
   ·refine wh_any fun l i1 op1 h1=>?_
    have hg:=(sArray_good T (i+1) 0 _ h1).2.2.1 (by omega)
    obtain ⟨rfl,g1,g2,g3⟩:=array_src hT (i+1) _ _ _ h1
    refine prog_src hT f v (a++[l]) fs ts i1 hv (fun x hx=>?_) hf ?_ hg
    ·rcases List.mem_append.1 hx with h|h
     ·exact ha x h
     ·cases List.mem_singleton.1 h;exact ⟨g1,g2⟩
    ·rw[zLa,List.length_singleton]
     unfold ntK at hi ⊢
     omega
   ·split
    ·refine wh_any fun l i1 op1 h1=>?_
     have hg:=(sFunc_good T f (i+1) 0 _ h1).2.2.1 (by omega)
     obtain ⟨rfl,t1,d,g1,g2,g3⟩:=func_src hT f (i+1) _ _ _ h1
     refine prog_src hT f v a (fs++[l]) (ts++t1) i1 hv ha (hf.snoc g1 g2) ?_ hg
     rw[zLa]
     unfold ntK at hi ⊢
     omega
    ·exact fun _ _ _ e=>by cases e
theorem arK_len:∀ a:List Ar,((a.map arK).flatten).length=6 * a.length
 |[]=>rfl
 |a::l=>by
  rw[zMc,List.flatten_cons,zLa,arK_len l,zLc]
  simp only[arK,zLc,zLn]
  omega
theorem src_print {T:List Tok} (hT:∀ t∈T,Again t) {f i op:Nat} {p:Pr} (h:sProg T f ⟨[],[],[]⟩ 0 0=some (.ok p i op)):∃ ts,PP p ts∧ts.length≤T.length:=by
 obtain ⟨v,a,fs,t,rfl,h1,h2,h3,h4⟩:=prog_src hT f [] [] [] [] 0 (fun x hx=>by cases hx) (fun x hx=>by cases hx) .nil (by simp[ntK]) (Nat.zero_le _) _ _ _ h
 refine ⟨_,.mk h1 h2 h3,?_⟩
 simp only[zLa,varK_len,arK_len]
 unfold ntK at h4
 by_cases hv:v=[]
 ·subst hv
  simp only[zLn,if_pos] at h4 ⊢
  omega
 ·have:¬ v.length=0:=fun h=>hv (List.eq_nil_of_length_eq_zero h)
  rw[if_neg this] at h4
  rw[if_neg hv]
  omega
end Go.Stele
namespace Go.Stele
def LeO {A:Type} (r r':OR A):Prop:=∀ q,r=some q→r'=some q
theorem LeO.rfl' {A:Type} {r:OR A}:LeO r r:=fun _ h=>h
theorem LeO.none {A:Type} {r:OR A}:LeO none r:=fun _ h=>by cases h
theorem LeO.bind {A B:Type} {r r':OR A} {f f':A→Nat→Nat→OR B} (h:LeO r r') (hf:∀ v i op,LeO (f v i op) (f' v i op)):LeO (obind r f) (obind r' f'):=fun q hq=>by
 rcases obind_some hq with ⟨v,i,op,h1,h2⟩|⟨l,e,h1,rfl⟩
 ·rw[h _ h1]
  exact hf _ _ _ _ h2
 ·rw[h _ h1]
  try rfl
theorem LeO.ite {A:Type} {c:Prop} [Decidable c] {a b a' b':OR A} (h1:LeO a a') (h2:LeO b b'):LeO (if c then a else b) (if c then a' else b'):=by
 split
 ·exact h1
 ·exact h2
theorem namesLoop_le (T:List Tok):∀ (f g:Nat) (acc:List (List UInt8)) (i op:Nat),f≤g→LeO (sNamesLoop T f acc i op) (sNamesLoop T g acc i op)
 |0,_,_,_,_,_=>LeO.none
 |f+1,0,_,_,_,h=>by omega
 |f+1,g+1,acc,i,op,h=>by
  rw[sNamesLoop,sNamesLoop]
  exact LeO.ite (LeO.bind LeO.rfl' fun v i op=>namesLoop_le T f g _ i op (by omega)) LeO.rfl'
theorem names_le (T:List Tok) (f g i op:Nat) (h:f≤g):LeO (sNames T f i op) (sNames T g i op):=LeO.bind LeO.rfl' fun v i op=>namesLoop_le T f g _ i op h
theorem ex_le (T:List Tok):∀ f g:Nat,f≤g→(∀ k i op,LeO (eLev T f k i op) (eLev T g k i op))∧(∀ k e i op,LeO (eLoop T f k e i op) (eLoop T g k e i op))∧(∀ i op,LeO (eUnary T f i op) (eUnary T g i op)) ∧
  (∀ i op,LeO (ePrim T f i op) (ePrim T g i op))∧(∀ i op,LeO (eIndex T f i op) (eIndex T g i op))∧(∀ i op,LeO (eArgs T f i op) (eArgs T g i op))∧(∀ acc i op,LeO (eArgsLoop T f acc i op) (eArgsLoop T g acc i op))
 |0,g,_=>⟨fun _ _ _=>by rw[eLev];exact LeO.none,fun _ _ _ _=>by rw[eLoop];exact LeO.none,fun _ _=>by rw[eUnary];exact LeO.none,fun _ _=>by rw[ePrim];exact LeO.none,fun _ _=>by rw[eIndex];exact LeO.none,fun _ _=>by rw[eArgs];exact LeO.none,fun _ _ _=>by rw[eArgsLoop];exact LeO.none⟩
 |f+1,0,h=>by omega
 |f+1,g+1,h=>by
  obtain ⟨hL,hO,hU,hP,hI,hA,hB⟩:=ex_le T f g (by omega)
  refine ⟨fun k i op=>?_,fun k e i op=>?_,fun i op=>?_,fun i op=>?_,fun i op=>?_,fun i op=>?_,fun acc i op=>?_⟩
  ·rw[eLev,eLev]
   exact LeO.ite (hU _ _) (LeO.bind (hL _ _ _) fun _ _ _=>hO _ _ _ _)
  ·rw[eLoop,eLoop]
   exact LeO.ite (LeO.bind (hL _ _ _) fun _ _ _=>LeO.ite LeO.rfl' (hO _ _ _ _)) LeO.rfl'
  ·rw[eUnary,eUnary]
   exact LeO.ite (LeO.bind LeO.rfl' fun _ _ _=>LeO.bind (hU _ _) fun _ _ _=>LeO.rfl') (LeO.ite (LeO.bind LeO.rfl' fun _ _ _=>LeO.bind (hU _ _) fun _ _ _=>LeO.rfl') (hP _ _))
  ·rw[ePrim,ePrim]
   exact LeO.ite (LeO.bind LeO.rfl' fun _ _ _=>LeO.bind (hL _ _ _) fun _ _ _=>LeO.rfl') (LeO.ite LeO.rfl' (LeO.bind LeO.rfl' fun _ _ _=>LeO.ite (LeO.bind (hI _ _) fun _ _ _=>LeO.rfl') (LeO.ite (LeO.bind (hA _ _) fun _ _ _=>LeO.rfl') LeO.rfl')))
  ·rw[eIndex,eIndex]
   exact LeO.bind LeO.rfl' fun _ _ _=>LeO.bind (hL _ _ _) fun _ _ _=>LeO.rfl'
  ·rw[eArgs,eArgs]
   exact LeO.bind LeO.rfl' fun _ _ _=>LeO.bind (hB _ _ _) fun _ _ _=>LeO.rfl'
  ·rw[eArgsLoop,eArgsLoop]
   exact LeO.ite LeO.rfl' (LeO.bind LeO.rfl' fun _ _ _=>LeO.bind (hL _ _ _) fun _ _ _=>hB _ _ _)
theorem st_le (T:List Tok):∀ f g:Nat,f≤g→(∀ i op,LeO (sBlock T f i op) (sBlock T g i op))∧(∀ acc i op,LeO (sStmts T f acc i op) (sStmts T g acc i op))∧(∀ i op,LeO (sStmt T f i op) (sStmt T g i op))∧(∀ i op,LeO (sSimple T f i op) (sSimple T g i op))
 |0,g,_=>⟨fun _ _=>by rw[sBlock];exact LeO.none,fun _ _ _=>by rw[sStmts];exact LeO.none,fun _ _=>by rw[sStmt];exact LeO.none,fun _ _=>by rw[sSimple];exact LeO.none⟩
 |f+1,0,h=>by omega
 |f+1,g+1,h=>by
  obtain ⟨hB,hS,hT,hM⟩:=st_le T f g (by omega)
  obtain ⟨hL,_,_,_,hI,hA,_⟩:=ex_le T f g (by omega)
  refine ⟨fun i op=>?_,fun acc i op=>?_,fun i op=>?_,fun i op=>?_⟩
  ·rw[sBlock,sBlock]
   exact LeO.bind LeO.rfl' fun _ _ _=>LeO.bind (hS _ _ _) fun _ _ _=>LeO.rfl'
  ·rw[sStmts,sStmts]
   exact LeO.ite LeO.rfl' (LeO.bind (hT _ _) fun _ _ _=>hS _ _ _)
  ·rw[sStmt,sStmt]
   exact LeO.ite (LeO.bind (hL _ _ _) fun _ _ _=>LeO.bind (hB _ _) fun _ _ _=>LeO.ite (LeO.bind (hB _ _) fun _ _ _=>LeO.rfl') LeO.rfl') (LeO.ite (LeO.bind (hL _ _ _) fun _ _ _=>LeO.bind (hB _ _) fun _ _ _=>LeO.rfl') (LeO.bind (hM _ _) fun _ _ _=>LeO.rfl'))
  ·rw[sSimple,sSimple]
   exact LeO.ite (LeO.bind (hL _ _ _) fun _ _ _=>LeO.rfl') (LeO.ite LeO.rfl' (LeO.bind LeO.rfl' fun _ _ _=>LeO.ite (LeO.bind (hA _ _) fun _ _ _=>LeO.rfl') (LeO.ite (LeO.bind (hI _ _) fun _ _ _=>LeO.bind LeO.rfl' fun _ _ _=>LeO.bind (hL _ _ _) fun _ _ _=>LeO.rfl') (LeO.bind LeO.rfl' fun _ _ _=>LeO.bind (hL _ _ _) fun _ _ _=>LeO.rfl'))))
theorem vars_le (T:List Tok):∀ (f g:Nat) (acc:List (List UInt8)) (i op:Nat),f≤g→LeO (sVars T f acc i op) (sVars T g acc i op)
 |0,_,_,_,_,_=>LeO.none
 |f+1,0,_,_,_,h=>by omega
 |f+1,g+1,acc,i,op,h=>by
  rw[sVars,sVars]
  exact LeO.ite (LeO.bind (names_le T f g _ _ (by omega)) fun _ _ _=>LeO.bind LeO.rfl' fun _ _ _=>vars_le T f g _ _ _ (by omega)) LeO.rfl'
theorem func_le (T:List Tok) (f g i op:Nat) (h:f≤g):LeO (sFunc T f i op) (sFunc T g i op):=by
 unfold sFunc
 exact LeO.bind LeO.rfl' fun _ _ _=>LeO.bind LeO.rfl' fun _ _ _=>LeO.bind (LeO.ite LeO.rfl' (names_le T f g _ _ h)) fun _ _ _=>LeO.bind LeO.rfl' fun _ _ _=>LeO.bind LeO.rfl' fun _ _ _=>
  LeO.bind (vars_le T f g _ _ _ h) fun _ _ _=>LeO.bind ((st_le T f g h).2.1 _ _ _) fun _ _ _=>LeO.rfl'
theorem prog_le (T:List Tok):∀ (f g:Nat) (p:Pr) (i op:Nat),f≤g→LeO (sProg T f p i op) (sProg T g p i op)
 |0,_,_,_,_,_=>LeO.none
 |f+1,0,_,_,_,h=>by omega
 |f+1,g+1,p,i,op,h=>by
  rw[sProg,sProg]
  exact LeO.ite LeO.rfl' (LeO.ite (LeO.bind (vars_le T f g _ _ _ (by omega)) fun _ _ _=>prog_le T f g _ _ _ (by omega)) (LeO.ite (LeO.bind LeO.rfl' fun _ _ _=>prog_le T f g _ _ _ (by omega))
   (LeO.ite (LeO.bind (func_le T f g _ _ (by omega)) fun _ _ _=>prog_le T f g _ _ _ (by omega)) LeO.rfl')))
def Ag (T T':List Tok) (d m:Nat):Prop:=∀ j,j<m→∃ t t',T[j]? = some t∧T'[j+d]? = some t'∧t'.kind=t.kind∧t'.text=t.text
section
variable {T T':List Tok} {d m:Nat}
theorem Ag.isTok (h:Ag T T' d m) {i:Nat} (hi:i<m) (xs:List (List UInt8)):isTok T' (i+d) xs=isTok T i xs:=by
 obtain ⟨t,t',h1,h2,h3,h4⟩:=h i hi
 unfold Go.Stele.isTok
 rw[h1,h2]
 simp only[h3,h4]
theorem Ag.text (h:Ag T T' d m) {i:Nat} (hi:i<m):textAt T' (i+d)=textAt T i:=by
 obtain ⟨t,t',h1,h2,h3,h4⟩:=h i hi
 unfold textAt
 rw[h1,h2]
 exact h4
theorem Ag.kind (h:Ag T T' d m) {i:Nat} (hi:i<m):kindAt T' (i+d)=kindAt T i:=by
 obtain ⟨t,t',h1,h2,h3,h4⟩:=h i hi
 unfold kindAt
 rw[h1,h2]
 exact h3
def Ext {A:Type} (d m:Nat) (b:Bool) (i:Nat) (r r':OR A):Prop:=∀ v i' op',r=some (.ok v i' op')→i≤i'∧(b=true→i<i')∧(i'<m∨(b=true∧i'≤m)→r'=some (.ok v (i'+d) op'))
theorem Ext.none {A:Type} {b:Bool} {i:Nat} {r':OR A}:Ext d m b i none r':=fun _ _ _ h=>by cases h
theorem Ext.ok {A:Type} {i op:Nat} {v:A}:Ext d m false i (some (.ok v i op)) (some (.ok v (i+d) op)):=fun _ _ _ h=>by
 cases h
 exact ⟨zNr _,by simp,fun _=>rfl⟩
theorem Ext.bind {A B:Type} {b1 b:Bool} {i:Nat} {r r':OR A} {f f':A→Nat→Nat→OR B} (hr:Ext d m b1 i r r') (hf:∀ v i1 op1,i≤i1→(b1=true→i<i1)→Ext d m b i1 (f v i1 op1) (f' v (i1+d) op1)) :
  Ext d m b i (obind r f) (obind r' f'):=fun v i' op' h=>by
 rcases obind_some h with ⟨w,i1,op1,h1,h2⟩|⟨l,e,_,h1⟩
 ·obtain ⟨g1,g2,g3⟩:=hr _ _ _ h1
  obtain ⟨k1,k2,k3⟩:=hf _ _ op1 g1 g2 _ _ _ h2
  refine ⟨by omega,fun hb=>by have:=k2 hb;omega,fun hm=>?_⟩
  rw[g3 (.inl (by
   rcases hm with hm|⟨hb,hm⟩
   ·omega
   ·have:=k2 hb;omega))]
  exact k3 hm
 ·cases h1
theorem Ext.weak {A:Type} {b:Bool} {i j:Nat} {r r':OR A} (h:Ext d m b j r r') (hij:i≤j):Ext d m b i r r':=fun v i' op' hv=>by
 obtain ⟨g1,g2,g3⟩:=h _ _ _ hv
 exact ⟨by omega,fun hb=>by have:=g2 hb;omega,g3⟩
theorem Ext.soft {A:Type} {b:Bool} {i:Nat} {r r':OR A} (h:Ext d m true i r r'):Ext d m b i r r':=fun v i' op' hv=>by
 obtain ⟨g1,g2,g3⟩:=h _ _ _ hv
 exact ⟨g1,fun _=>g2 rfl,fun hm=>g3 (.inr ⟨rfl,by rcases hm with hm|hm <;> omega⟩)⟩
theorem Ext.eq {A:Type} {b:Bool} {i:Nat} {r r' r2:OR A} (h:Ext d m b i r r') (he:i<m→r2=r'):Ext d m b i r r2:=fun v i' op' hv=>by
 obtain ⟨g1,g2,g3⟩:=h _ _ _ hv
 refine ⟨g1,g2,fun hm=>?_⟩
 rw[he (by
  rcases hm with hm|⟨hb,hm⟩
  ·omega
  ·have:=g2 hb;omega)]
 exact g3 hm
theorem Ext.ite {A:Type} {b:Bool} {i:Nat} {c c':Prop} [Decidable c] [Decidable c'] {x y x' y':OR A} (hc:i<m→(c' ↔ c)) (hx:c→Ext d m b i x x') (hy:¬c→Ext d m b i y y') :
  Ext d m b i (if c then x else y) (if c' then x' else y'):=by
 by_cases h:c
 ·refine Ext.eq (r':=x') ?_ fun hi=>by rw[if_pos ((hc hi).2 h)]
  rw[if_pos h]
  exact hx h
 ·refine Ext.eq (r':=y') ?_ fun hi=>by rw[if_neg (fun hh=>h ((hc hi).1 hh))]
  rw[if_neg h]
  exact hy h
theorem Ext.tok {A:Type} {b:Bool} (hA:Ag T T' d m) {i:Nat} {xs:List (List UInt8)} {x y x' y':OR A} (hx:Ext d m b i x x') (hy:Ext d m b i y y') :
  Ext d m b i (if isTok T i xs then x else y) (if isTok T' (i+d) xs then x' else y'):=Ext.ite (fun hi=>by rw[hA.isTok hi]) (fun _=>hx) (fun _=>hy)
theorem word_ext (hA:Ag T T' d m) (k:Int) (i op:Nat):Ext d m true i (some (sWord T k i op)) (some (sWord T' k (i+d) op)):=fun v i' op' h=>by
 unfold sWord at h
 split at h
 ·rename_i t ht
  split at h
  ·rename_i hk
   cases h
   refine ⟨by omega,fun _=>by omega,fun hm=>?_⟩
   obtain ⟨t1,t',h1,h2,h3,h4⟩:=hA i (by omega)
   rw[ht] at h1
   cases h1
   unfold sWord
   rw[h2]
   simp only[h3,h4,if_pos hk]
   rw[show i+d+1=i+1+d by omega]
  ·cases h
 ·cases h
theorem need_ext (hA:Ag T T' d m) (x:List UInt8) (i op:Nat):Ext d m true i (some (sNeed T x i op)) (some (sNeed T' x (i+d) op)):=fun v i' op' h=>by
 unfold sNeed at h
 split at h
 ·rename_i ht
  cases h
  refine ⟨by omega,fun _=>by omega,fun hm=>?_⟩
  unfold sNeed
  rw[hA.isTok (by omega),if_pos ht,show i+d+1=i+1+d by omega]
 ·cases h
theorem begin_ext (hA:Ag T T' d m) (x:List UInt8) (i op:Nat):Ext d m true i (some (sBegin T x i op)) (some (sBegin T' x (i+d) op)):=fun v i' op' h=>by
 unfold sBegin at h
 split at h
 ·rename_i ht
  split at h
  ·cases h
  ·rename_i ho
   cases h
   refine ⟨by omega,fun _=>by omega,fun hm=>?_⟩
   unfold sBegin
   rw[hA.isTok (by omega),if_pos ht,if_neg ho,show i+d+1=i+1+d by omega]
 ·cases h
theorem end_ext (hA:Ag T T' d m) (x:List UInt8) (i op:Nat):Ext d m true i (some (sEnd T x i op)) (some (sEnd T' x (i+d) op)):=fun v i' op' h=>by
 unfold sEnd sNeed at h
 split at h
 ·rename_i ht
  cases h
  refine ⟨by omega,fun _=>by omega,fun hm=>?_⟩
  unfold sEnd sNeed
  rw[hA.isTok (by omega),if_pos ht,show i+d+1=i+1+d by omega]
  try rfl
 ·cases h
theorem number_ext (hA:Ag T T' d m) (i op:Nat):Ext d m true i (some (sNumber T i op)) (some (sNumber T' (i+d) op)):=fun v i' op' h=>by
 have h0:=word_ext hA 1 i op
 unfold sNumber at h
 cases hw:sWord T 1 i op with
 |err l e=>rw[hw] at h;cases h
 |ok s i1 op1=>
  rw[hw] at h
  cases h
  obtain ⟨g1,g2,g3⟩:=h0 _ _ _ (congrArg some hw)
  refine ⟨g1,g2,fun hm=>?_⟩
  have:=g3 hm
  injection this with this
  unfold sNumber
  rw[this]
  try rfl
theorem namesLoop_ext (hA:Ag T T' d m):∀ (f g:Nat) (acc:List (List UInt8)) (i op:Nat),f≤g→Ext d m false i (sNamesLoop T f acc i op) (sNamesLoop T' g acc (i+d) op)
 |0,_,_,_,_,_=>Ext.none
 |f+1,0,_,_,_,h=>by omega
 |f+1,g+1,acc,i,op,h=>by
  rw[sNamesLoop,sNamesLoop]
  refine Ext.tok hA (Ext.bind (b1:=true) ?_ fun v i1 op1 _ _=>namesLoop_ext hA f g _ _ _ (by omega)) Ext.ok
  rw[show i+d+1=i+1+d by omega]
  exact (word_ext hA 2 (i+1) op).weak (by omega)
theorem names_ext (hA:Ag T T' d m) (f g i op:Nat) (h:f≤g):Ext d m false i (sNames T f i op) (sNames T' g (i+d) op):=
 Ext.bind (word_ext hA 2 i op) fun v i1 op1 _ _=>namesLoop_ext hA f g _ _ _ h
theorem wrap_ext (hA:Ag T T' d m) {A B:Type} {x y:List UInt8} {i op:Nat} {g g':Nat→Nat→OR A} {k:A→B} {b:Bool} (hg:∀ i1 op1,i≤i1→Ext d m b i1 (g i1 op1) (g' (i1+d) op1)) :
  Ext d m true i (obind (some (sBegin T x i op)) fun _ i' op'=>obind (g i' op') fun v i' op'=>obind (some (sEnd T y i' op')) fun _ i' op'=>some (.ok (k v) i' op'))
   (obind (some (sBegin T' x (i+d) op)) fun _ i' op'=>obind (g' i' op') fun v i' op'=>obind (some (sEnd T' y i' op')) fun _ i' op'=>some (.ok (k v) i' op')):=by
 refine Ext.bind (begin_ext hA x i op) fun _ i1 op1 h1 _=>Ext.bind (hg i1 op1 h1) fun v i2 op2 h2 _=>?_
 intro w i' op' h
 rcases obind_some h with ⟨u,i3,op3,h3,h4⟩|⟨l,e,_,h4⟩
 ·cases h4
  obtain ⟨g1,g2,g3⟩:=end_ext hA y i2 op2 _ _ _ h3
  refine ⟨g1,g2,fun hm=>?_⟩
  rw[g3 hm]
  try rfl
 ·cases h4
theorem ex_ext (hA:Ag T T' d m):∀ f g:Nat,f≤g→(∀ k i op,Ext d m false i (eLev T f k i op) (eLev T' g k (i+d) op))∧(∀ k e i op,Ext d m false i (eLoop T f k e i op) (eLoop T' g k e (i+d) op)) ∧
  (∀ i op,Ext d m false i (eUnary T f i op) (eUnary T' g (i+d) op))∧(∀ i op,Ext d m false i (ePrim T f i op) (ePrim T' g (i+d) op))∧(∀ i op,Ext d m true i (eIndex T f i op) (eIndex T' g (i+d) op)) ∧
  (∀ i op,Ext d m true i (eArgs T f i op) (eArgs T' g (i+d) op))∧(∀ acc i op,Ext d m false i (eArgsLoop T f acc i op) (eArgsLoop T' g acc (i+d) op))
 |0,g,_=>⟨fun _ _ _=>by rw[eLev];exact Ext.none,fun _ _ _ _=>by rw[eLoop];exact Ext.none,fun _ _=>by rw[eUnary];exact Ext.none,fun _ _=>by rw[ePrim];exact Ext.none,fun _ _=>by rw[eIndex];exact Ext.none,fun _ _=>by rw[eArgs];exact Ext.none,fun _ _ _=>by rw[eArgsLoop];exact Ext.none⟩
 |f+1,0,h=>by omega
 |f+1,g+1,h=>by
  obtain ⟨hL,hO,hU,hP,hI,hR,hB⟩:=ex_ext hA f g (by omega)
  refine ⟨fun k i op=>?_,fun k e i op=>?_,fun i op=>?_,fun i op=>?_,fun i op=>?_,fun i op=>?_,fun acc i op=>?_⟩
  ·rw[eLev,eLev]
   exact Ext.ite (fun _=>Iff.rfl) (fun _=>hU _ _) (fun _=>Ext.bind (hL _ _ _) fun _ _ _ _ _=>hO _ _ _ _)
  ·rw[eLoop,eLoop]
   refine Ext.tok hA ?_ Ext.ok
   refine Ext.eq (r':=obind (eLev T' g (k+1) (i+d+1) op) fun e2 i' op'=>if k=2 then some (.ok (.mk (textAt T i) 0 [] [e,e2]) i' op') else eLoop T' g k (.mk (textAt T i) 0 [] [e,e2]) i' op') ?_ fun hi=>by rw[hA.text hi]
   rw[show i+d+1=i+1+d by omega]
   exact Ext.bind ((hL _ _ _).weak (by omega)) fun _ _ _ _ _=>Ext.ite (fun _=>Iff.rfl) (fun _=>Ext.ok) (fun _=>hO _ _ _ _)
  ·rw[eUnary,eUnary]
   exact Ext.tok hA (Ext.bind (begin_ext hA _ _ _) fun _ _ _ _ _=>Ext.bind (hU _ _) fun _ _ _ _ _=>Ext.ok) (Ext.tok hA (Ext.bind (begin_ext hA _ _ _) fun _ _ _ _ _=>Ext.bind (hU _ _) fun _ _ _ _ _=>Ext.ok) (hP _ _))
  ·rw[ePrim,ePrim]
   refine Ext.tok hA (wrap_ext (k:=fun e=>e) (g:=eLev T f 0) (g':=eLev T' g 0) hA fun _ _ _=>hL 0 _ _).soft ?_
   refine Ext.ite (fun hi=>by rw[hA.kind hi]) (fun _=>Ext.bind (number_ext hA _ _) fun _ _ _ _ _=>Ext.ok) (fun _=>?_)
   exact Ext.bind (word_ext hA 2 _ _) fun _ _ _ _ _=>Ext.tok hA (Ext.bind (hI _ _) fun _ _ _ _ _=>Ext.ok) (Ext.tok hA (Ext.bind (hR _ _) fun _ _ _ _ _=>Ext.ok) Ext.ok)
  ·rw[eIndex,eIndex]
   exact wrap_ext (k:=fun e=>e) (g:=eLev T f 0) (g':=eLev T' g 0) hA fun _ _ _=>hL 0 _ _
  ·rw[eArgs,eArgs]
   exact wrap_ext (k:=fun e=>e) (g:=eArgsLoop T f []) (g':=eArgsLoop T' g []) hA fun _ _ _=>hB [] _ _
  ·rw[eArgsLoop,eArgsLoop]
   refine Ext.tok hA Ext.ok (Ext.bind (b1:=false) ?_ fun _ _ _ _ _=>Ext.bind (hL _ _ _) fun _ _ _ _ _=>hB _ _ _)
   split
   ·exact Ext.ok
   ·exact (need_ext hA _ _ _).soft
theorem st_ext (hA:Ag T T' d m):∀ f g:Nat,f≤g→(∀ i op,Ext d m true i (sBlock T f i op) (sBlock T' g (i+d) op))∧(∀ acc i op,Ext d m false i (sStmts T f acc i op) (sStmts T' g acc (i+d) op)) ∧
  (∀ i op,Ext d m false i (sStmt T f i op) (sStmt T' g (i+d) op))∧(∀ i op,Ext d m false i (sSimple T f i op) (sSimple T' g (i+d) op))
 |0,g,_=>⟨fun _ _=>by rw[sBlock];exact Ext.none,fun _ _ _=>by rw[sStmts];exact Ext.none,fun _ _=>by rw[sStmt];exact Ext.none,fun _ _=>by rw[sSimple];exact Ext.none⟩
 |f+1,0,h=>by omega
 |f+1,g+1,h=>by
  obtain ⟨hB,hS,hT,hM⟩:=st_ext hA f g (by omega)
  obtain ⟨hL,_,_,_,hI,hR,_⟩:=ex_ext hA f g (by omega)
  refine ⟨fun i op=>?_,fun acc i op=>?_,fun i op=>?_,fun i op=>?_⟩
  ·rw[sBlock,sBlock]
   exact wrap_ext (k:=fun e=>e) (g:=sStmts T f []) (g':=sStmts T' g []) hA fun _ _ _=>hS [] _ _
  ·rw[sStmts,sStmts]
   exact Ext.tok hA Ext.ok (Ext.bind (hT _ _) fun _ _ _ _ _=>hS _ _ _)
  ·rw[sStmt,sStmt]
   rw[show i+d+1=i+1+d by omega]
   refine Ext.tok hA (Ext.bind ((hL _ _ _).weak (by omega)) fun _ i1 _ _ _=>Ext.bind (hB _ _) fun _ i2 _ _ _=>?_) (Ext.tok hA (Ext.bind ((hL _ _ _).weak (by omega)) fun _ _ _ _ _=>Ext.bind (hB _ _) fun _ _ _ _ _=>Ext.ok) (Ext.bind (hM _ _) fun _ _ _ _ _=>Ext.bind (need_ext hA _ _ _) fun _ _ _ _ _=>Ext.ok))
   rw[show i2+d+1=i2+1+d by omega]
   exact Ext.tok hA (Ext.bind ((hB _ _).weak (by omega)) fun _ _ _ _ _=>Ext.ok) Ext.ok
  ·rw[sSimple,sSimple]
   rw[show i+d+1=i+1+d by omega]
   exact Ext.tok hA (Ext.bind ((hL _ _ _).weak (by omega)) fun _ _ _ _ _=>Ext.ok) (Ext.tok hA (Ext.weak (Ext.ok (i:=i+1)) (by omega)) (Ext.bind (word_ext hA 2 _ _) fun _ _ _ _ _=>Ext.tok hA (Ext.bind (hR _ _) fun _ _ _ _ _=>Ext.ok)
    (Ext.tok hA (Ext.bind (hI _ _) fun _ _ _ _ _=>Ext.bind (need_ext hA _ _ _) fun _ _ _ _ _=>Ext.bind (hL _ _ _) fun _ _ _ _ _=>Ext.ok) (Ext.bind (need_ext hA _ _ _) fun _ _ _ _ _=>Ext.bind (hL _ _ _) fun _ _ _ _ _=>Ext.ok))))
theorem vars_ext (hA:Ag T T' d m):∀ (f g:Nat) (acc:List (List UInt8)) (i op:Nat),f≤g→Ext d m false i (sVars T f acc i op) (sVars T' g acc (i+d) op)
 |0,_,_,_,_,_=>Ext.none
 |f+1,0,_,_,_,h=>by omega
 |f+1,g+1,acc,i,op,h=>by
  rw[sVars,sVars,show i+d+1=i+1+d by omega]
  exact Ext.tok hA (Ext.bind ((names_ext hA f g _ _ (by omega)).weak (by omega)) fun _ _ _ _ _=>Ext.bind (need_ext hA _ _ _) fun _ _ _ _ _=>vars_ext hA f g _ _ _ (by omega)) Ext.ok
theorem last_ext {A B:Type} {i:Nat} {r r':OR A} {k:A→B} {o:Nat→Nat} (h:Ext d m true i r r'):Ext d m true i (obind r fun v i op=>some (.ok (k v) i (o op))) (obind r' fun v i op=>some (.ok (k v) i (o op))):=fun w i' op' hw=>by
 rcases obind_some hw with ⟨u,i3,op3,h3,h4⟩|⟨l,e,_,h4⟩
 ·cases h4
  obtain ⟨g1,g2,g3⟩:=h _ _ _ h3
  refine ⟨g1,g2,fun hm=>?_⟩
  rw[g3 hm]
  try rfl
 ·cases h4
theorem func_ext (hA:Ag T T' d m) (f g i op:Nat) (h:f≤g):Ext d m true i (sFunc T f i op) (sFunc T' g (i+d) op):=by
 unfold sFunc
 refine Ext.bind (word_ext hA 2 _ _) fun _ _ _ _ _=>Ext.bind (begin_ext hA _ _ _) fun _ _ _ _ _=>Ext.bind (b1:=false) (Ext.tok hA Ext.ok (names_ext hA f g _ _ h)) fun _ _ _ _ _=>Ext.bind (end_ext hA _ _ _) fun _ _ _ _ _=>
  Ext.bind (begin_ext hA _ _ _) fun _ _ _ _ _=>Ext.bind (vars_ext hA f g _ _ _ h) fun _ _ _ _ _=>Ext.bind ((st_ext hA f g h).2.1 _ _ _) fun _ _ _ _ _=>last_ext (o:=fun x=>x) (end_ext hA _ _ _)
theorem array_ext (hA:Ag T T' d m) (i op:Nat):Ext d m true i (sArray T i op) (sArray T' (i+d) op):=by
 unfold sArray
 refine Ext.bind (word_ext hA 2 _ _) fun _ _ _ _ _=>Ext.bind (begin_ext hA _ _ _) fun _ _ _ _ _=>Ext.bind (number_ext hA _ _) fun _ _ _ _ _=>Ext.bind (end_ext hA _ _ _) fun _ _ _ _ _=>last_ext (o:=fun x=>x) (need_ext hA _ _ _)
end
def EN {A:Type} (r:OR A):Prop:=∀ l e,r=some (.err l e)→¬ e=0
theorem EN.none {A:Type}:EN (none:OR A):=fun _ _ h=>by cases h
theorem EN.ok {A:Type} {v:A} {i op:Nat}:EN (some (.ok v i op)):=fun _ _ h=>by cases h
theorem EN.bind {A B:Type} {r:OR A} {f:A→Nat→Nat→OR B} (h:EN r) (hf:∀ v i op,EN (f v i op)):EN (obind r f):=fun l e hq=>by
 rcases obind_some hq with ⟨v,i,op,_,h2⟩|⟨l',e',h1,h2⟩
 ·exact hf _ _ _ _ _ h2
 ·cases h2
  exact h _ _ h1
theorem EN.ite {A:Type} {c:Prop} [Decidable c] {a b:OR A} (h1:EN a) (h2:EN b):EN (if c then a else b):=by
 split
 ·exact h1
 ·exact h2
theorem EN.syn {A:Type} {T:List Tok} {i:Nat}:EN (A:=A) (some (synErr T i)):=fun l e h=>by
 cases h
 decide
theorem EN.word {T:List Tok} {k:Int} {i op:Nat}:EN (some (sWord T k i op)):=by
 unfold sWord
 split
 ·split
  ·exact EN.ok
  ·exact EN.syn
 ·exact EN.syn
theorem EN.need {T:List Tok} {x:List UInt8} {i op:Nat}:EN (some (sNeed T x i op)):=by
 unfold sNeed
 split
 ·exact EN.ok
 ·exact EN.syn
theorem EN.begin {T:List Tok} {x:List UInt8} {i op:Nat}:EN (some (sBegin T x i op)):=by
 unfold sBegin
 split
 ·split
  ·intro l e h
   cases h
   decide
  ·exact EN.ok
 ·exact EN.syn
theorem EN.end' {T:List Tok} {x:List UInt8} {i op:Nat}:EN (some (sEnd T x i op)):=by
 unfold sEnd sNeed
 split
 ·exact EN.ok
 ·exact EN.syn
theorem EN.number {T:List Tok} {i op:Nat}:EN (some (sNumber T i op)):=by
 unfold sNumber sWord
 split
 ·split
  ·exact EN.ok
  ·exact EN.syn
 ·exact EN.syn
theorem namesLoop_en (T:List Tok):∀ (f:Nat) (acc:List (List UInt8)) (i op:Nat),EN (sNamesLoop T f acc i op)
 |0,_,_,_=>EN.none
 |f+1,acc,i,op=>by
  rw[sNamesLoop]
  exact EN.ite (EN.bind EN.word fun _ _ _=>namesLoop_en T f _ _ _) EN.ok
theorem names_en (T:List Tok) (f i op:Nat):EN (sNames T f i op):=EN.bind EN.word fun _ _ _=>namesLoop_en T f _ _ _
theorem ex_en (T:List Tok):∀ f:Nat,(∀ k i op,EN (eLev T f k i op))∧(∀ k e i op,EN (eLoop T f k e i op))∧(∀ i op,EN (eUnary T f i op))∧(∀ i op,EN (ePrim T f i op))∧(∀ i op,EN (eIndex T f i op))∧(∀ i op,EN (eArgs T f i op))∧(∀ acc i op,EN (eArgsLoop T f acc i op))
 |0=>⟨fun _ _ _=>by rw[eLev];exact EN.none,fun _ _ _ _=>by rw[eLoop];exact EN.none,fun _ _=>by rw[eUnary];exact EN.none,fun _ _=>by rw[ePrim];exact EN.none,fun _ _=>by rw[eIndex];exact EN.none,fun _ _=>by rw[eArgs];exact EN.none,fun _ _ _=>by rw[eArgsLoop];exact EN.none⟩
 |f+1=>by
  obtain ⟨hL,hO,hU,hP,hI,hA,hB⟩:=ex_en T f
  refine ⟨fun k i op=>?_,fun k e i op=>?_,fun i op=>?_,fun i op=>?_,fun i op=>?_,fun i op=>?_,fun acc i op=>?_⟩
  ·rw[eLev]
   exact EN.ite (hU _ _) (EN.bind (hL _ _ _) fun _ _ _=>hO _ _ _ _)
  ·rw[eLoop]
   exact EN.ite (EN.bind (hL _ _ _) fun _ _ _=>EN.ite EN.ok (hO _ _ _ _)) EN.ok
  ·rw[eUnary]
   exact EN.ite (EN.bind EN.begin fun _ _ _=>EN.bind (hU _ _) fun _ _ _=>EN.ok) (EN.ite (EN.bind EN.begin fun _ _ _=>EN.bind (hU _ _) fun _ _ _=>EN.ok) (hP _ _))
  ·rw[ePrim]
   exact EN.ite (EN.bind EN.begin fun _ _ _=>EN.bind (hL _ _ _) fun _ _ _=>EN.bind EN.end' fun _ _ _=>EN.ok) (EN.ite (EN.bind EN.number fun _ _ _=>EN.ok) (EN.bind EN.word fun _ _ _=>EN.ite (EN.bind (hI _ _) fun _ _ _=>EN.ok) (EN.ite (EN.bind (hA _ _) fun _ _ _=>EN.ok) EN.ok)))
  ·rw[eIndex]
   exact EN.bind EN.begin fun _ _ _=>EN.bind (hL _ _ _) fun _ _ _=>EN.bind EN.end' fun _ _ _=>EN.ok
  ·rw[eArgs]
   exact EN.bind EN.begin fun _ _ _=>EN.bind (hB _ _ _) fun _ _ _=>EN.bind EN.end' fun _ _ _=>EN.ok
  ·rw[eArgsLoop]
   refine EN.ite EN.ok (EN.bind ?_ fun _ _ _=>EN.bind (hL _ _ _) fun _ _ _=>hB _ _ _)
   split
   ·exact EN.ok
   ·exact EN.need
theorem st_en (T:List Tok):∀ f:Nat,(∀ i op,EN (sBlock T f i op))∧(∀ acc i op,EN (sStmts T f acc i op))∧(∀ i op,EN (sStmt T f i op))∧(∀ i op,EN (sSimple T f i op))
 |0=>⟨fun _ _=>by rw[sBlock];exact EN.none,fun _ _ _=>by rw[sStmts];exact EN.none,fun _ _=>by rw[sStmt];exact EN.none,fun _ _=>by rw[sSimple];exact EN.none⟩
 |f+1=>by
  obtain ⟨hB,hS,hT,hM⟩:=st_en T f
  obtain ⟨hL,_,_,_,hI,hA,_⟩:=ex_en T f
  refine ⟨fun i op=>?_,fun acc i op=>?_,fun i op=>?_,fun i op=>?_⟩
  ·rw[sBlock]
   exact EN.bind EN.begin fun _ _ _=>EN.bind (hS _ _ _) fun _ _ _=>EN.bind EN.end' fun _ _ _=>EN.ok
  ·rw[sStmts]
   exact EN.ite EN.ok (EN.bind (hT _ _) fun _ _ _=>hS _ _ _)
  ·rw[sStmt]
   exact EN.ite (EN.bind (hL _ _ _) fun _ _ _=>EN.bind (hB _ _) fun _ _ _=>EN.ite (EN.bind (hB _ _) fun _ _ _=>EN.ok) EN.ok) (EN.ite (EN.bind (hL _ _ _) fun _ _ _=>EN.bind (hB _ _) fun _ _ _=>EN.ok) (EN.bind (hM _ _) fun _ _ _=>EN.bind EN.need fun _ _ _=>EN.ok))
  ·rw[sSimple]
   exact EN.ite (EN.bind (hL _ _ _) fun _ _ _=>EN.ok) (EN.ite EN.ok (EN.bind EN.word fun _ _ _=>EN.ite (EN.bind (hA _ _) fun _ _ _=>EN.ok) (EN.ite (EN.bind (hI _ _) fun _ _ _=>EN.bind EN.need fun _ _ _=>EN.bind (hL _ _ _) fun _ _ _=>EN.ok) (EN.bind EN.need fun _ _ _=>EN.bind (hL _ _ _) fun _ _ _=>EN.ok))))
theorem vars_en (T:List Tok):∀ (f:Nat) (acc:List (List UInt8)) (i op:Nat),EN (sVars T f acc i op)
 |0,_,_,_=>EN.none
 |f+1,acc,i,op=>by
  rw[sVars]
  exact EN.ite (EN.bind (names_en T f _ _) fun _ _ _=>EN.bind EN.need fun _ _ _=>vars_en T f _ _ _) EN.ok
theorem func_en (T:List Tok) (f i op:Nat):EN (sFunc T f i op):=by
 unfold sFunc
 exact EN.bind EN.word fun _ _ _=>EN.bind EN.begin fun _ _ _=>EN.bind (EN.ite EN.ok (names_en T f _ _)) fun _ _ _=>EN.bind EN.end' fun _ _ _=>EN.bind EN.begin fun _ _ _=>EN.bind (vars_en T f _ _ _) fun _ _ _=>EN.bind ((st_en T f).2.1 _ _ _) fun _ _ _=>EN.bind EN.end' fun _ _ _=>EN.ok
theorem array_en (T:List Tok) (i op:Nat):EN (sArray T i op):=by
 unfold sArray
 exact EN.bind EN.word fun _ _ _=>EN.bind EN.begin fun _ _ _=>EN.bind EN.number fun _ _ _=>EN.bind EN.end' fun _ _ _=>EN.bind EN.need fun _ _ _=>EN.ok
theorem prog_en (T:List Tok):∀ (f:Nat) (p:Pr) (i op:Nat),EN (sProg T f p i op)
 |0,_,_,_=>EN.none
 |f+1,p,i,op=>by
  rw[sProg]
  exact EN.ite EN.ok (EN.ite (EN.bind (vars_en T f _ _ _) fun _ _ _=>prog_en T f _ _ _) (EN.ite (EN.bind (array_en T _ _) fun _ _ _=>prog_en T f _ _ _) (EN.ite (EN.bind (func_en T f _ _) fun _ _ _=>prog_en T f _ _ _) EN.syn)))
end Go.Stele
