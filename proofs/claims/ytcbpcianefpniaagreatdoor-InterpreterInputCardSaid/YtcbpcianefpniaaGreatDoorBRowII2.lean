/- Texts joined: ChkSpec, FmtSpec, LexCat, ParTok, LexJoin, ParFuel, ParNodes, RtPrint, ParName, InpWord, InpLaw, ChkRef2, InpKey, InpBnd, InpNodup, InpValid, InpAwake, InpOut, InpShort, InpSmall, InpW1, InpW2, InpW3. -/
import Derived.Lib.Join
import Derived.Lib.Replace
import Derived.KernelRfl
import Derived.Deep.WholeRow
import Derived.Test.YtcbpcianefpniaaGreatDoorBRowII1
set_option linter.unusedVariables false
set_option linter.unusedSimpArgs false
namespace Go.Stele
abbrev Nm:=List UInt8
def noName:List Nm:=keywords++[[105,110],[111,117,116]]
def isNm (s:Nm):Bool:=decide (s.length≤24) && !noName.contains s && (match s with
 |[]=>false
 |c::r=>isLetter c && r.all isInner)
structure FSum where
 name:Nm
 params:Nat
 need:Nat
 depth:Nat
structure CEnv where
 vars:List Nm
 arrays:List Nm
 later:List Nm
 own:List Nm
 funcs:List FSum
def CEnv.globals (c:CEnv):List Nm:=c.vars++c.arrays++c.later
def CEnv.fn (c:CEnv) (name:Nm):Option FSum:=c.funcs.find? fun f=>decide (f.name=name)
def orE (a b:Int):Int:=if a≠0 then a else b
def binOps:List Nm:=[[124,124],[38,38],[61,61],[33,61],[60],[62],[60,61],[62,61],[94],[43],[45],[42],[47],[37]]
def opnds (op:Nm):Int:=if op=nNum∨op=nVar then 0 else if op=nElem∨op=nNeg∨op=nNot then 1 else if op=nCall then -1 else if op∈binOps then 2 else -2
def scalarE (c:CEnv) (name:Nm):Int:=if name∈c.vars∨name∈c.own then 0 else if name∈c.globals then 10 else 7
def arrayE (c:CEnv) (name:Nm):Int:=if name∈c.arrays then 0 else if name∈c.globals∨name∈c.own then 10 else 7
def callE (c:CEnv) (name:Nm) (n:Nat):Int:=
 if name=[105,110] then (if n=0 then 0 else 1)
 else if name=[111,117,116] then (if n=1 then 0 else 1)
 else match c.fn name with
  |some f=>if n=f.params then 0 else 1
  |none=>if name∈c.vars∨name∈c.arrays∨name∈c.own then 10 else 7
def useE (c:CEnv) (op name:Nm) (n:Nat):Int:=if op=nVar then scalarE c name else if op=nElem then arrayE c name else if op=nCall then callE c name n else 0
mutual
def errE (c:CEnv):Ex→Int
 |.mk op num name args=>if opnds op = -1∨opnds op=args.length then orE (errEs c args) (useE c op name args.length) else 3
def errEs (c:CEnv):List Ex→Int
 |[]=>0
 |x::l=>orE (errE c x) (errEs c l)
end
def stair:Nat→List Nat→Nat→Nat
 |i,[],m=>m
 |i,n::l,m=>stair (i+1) l (max m (i+n))
def callN (c:CEnv) (name:Nm) (ns:List Nat):Nat:=
 if name=[105,110] then 1
 else if name=[111,117,116] then ns.headD 0
 else match c.fn name with
  |some f=>stair 0 ns (max (f.params+1) f.need)
  |none=>0
def opN (c:CEnv) (op name:Nm) (ns:List Nat):Nat:=
 if op=nNum∨op=nVar then 1
 else if op=nElem∨op=nNeg then 1+ns.headD 0
 else if op=nCall then callN c name ns
 else if op=nNot then max 2 (ns.headD 0)
 else if op=[62]∨op=[60,61] then max (max 3 (ns.headD 0)) (1+ns.tail.headD 0)
 else if op=[33,61] then max (max 3 (1+ns.headD 0)) (2+ns.tail.headD 0)
 else if op=[38,38] then max (1+ns.headD 0) (2+ns.tail.headD 0)
 else if op=[124,124] then max (2+ns.headD 0) (3+ns.tail.headD 0)
 else max (max 2 (ns.headD 0)) (1+ns.tail.headD 0)
mutual
def needE (c:CEnv):Ex→Nat
 |.mk op num name args=>opN c op name (needEs c args)
def needEs (c:CEnv):List Ex→List Nat
 |[]=>[]
 |x::l=>needE c x::needEs c l
end
def callD (c:CEnv) (op name:Nm):Nat:=if op=nCall∧name≠[105,110]∧name≠[111,117,116] then (match c.fn name with
 |some f=>f.depth+1
 |none=>0) else 0
mutual
def depE (c:CEnv):Ex→Nat
 |.mk op num name args=>max (depEs c args) (callD c op name)
def depEs (c:CEnv):List Ex→Nat
 |[]=>0
 |x::l=>max (depE c x) (depEs c l)
end
def exOp1:Ex→Nm
 |.mk op _ _ _=>op
def formS:Sm→Bool
 |.mk kind name index value thn els=>
  if kind=1 then decide (name≠[]∧index.length=0∧value.length=1∧thn.length=0∧els.length=0)
  else if kind=2 then decide (name≠[]∧index.length=1∧value.length=1∧thn.length=0∧els.length=0)
  else if kind=3 then decide (name=[]∧index.length=0∧value.length=1)
  else if kind=4 then decide (name=[]∧index.length=0∧value.length=1∧els.length=0)
  else if kind=5 then decide (name=[]∧index.length=0∧value.length=1∧thn.length=0∧els.length=0)
  else if kind=6 then decide (name=[]∧index.length=0∧value.length=1∧thn.length=0∧els.length=0∧exOp1 (value.headD default)=nCall)
  else if kind=7 then decide (name=[]∧index.length=0∧value.length=0∧thn.length=0∧els.length=0)
  else false
mutual
def errS (c:CEnv):Sm→Int
 |.mk kind name index value thn els=>if formS (.mk kind name index value thn els)=false then 3
  else orE (errEs c value) (orE (errEs c index) (orE (if kind=1 then scalarE c name else if kind=2 then arrayE c name else 0) (orE (errSs c thn) (errSs c els))))
def errSs (c:CEnv):List Sm→Int
 |[]=>0
 |s::l=>orE (errS c s) (errSs c l)
end
mutual
def needS (c:CEnv):Sm→Nat
 |.mk kind name index value thn els=>
  if kind=7 then 0
  else if kind=2 then max (needE c (value.headD default)) (2+needE c (index.headD default))
  else if kind=5 then needE c (value.headD default)
  else max 2 (max (max (needE c (value.headD default)) (needSs c thn)) (needSs c els))
def needSs (c:CEnv):List Sm→Nat
 |[]=>0
 |s::l=>max (needS c s) (needSs c l)
end
mutual
def depS (c:CEnv):Sm→Nat
 |.mk kind name index value thn els=>max (max (depEs c value) (depEs c index)) (max (depSs c thn) (depSs c els))
def depSs (c:CEnv):List Sm→Nat
 |[]=>0
 |s::l=>max (depS c s) (depSs c l)
end
def freshE:List Nm→List Nm→Int
 |known,[]=>0
 |known,s::l=>if isNm s=false then 7 else if s∈known then 8 else freshE (s::known) l
def sizesE:Int→List Int→Int
 |total,[]=>0
 |total,n::l=>if n≤0 then 2 else if 150000-total<n then 6 else sizesE (total+n) l
def envF (vars arrays later:List Nm) (known:List FSum) (f:FnD):CEnv:=⟨vars,arrays,later,f.params++f.locals,known⟩
def errF (vars arrays later:List Nm) (known:List FSum) (f:FnD):Int:=orE (freshE (vars++arrays++later) (f.params++f.locals)) (errSs (envF vars arrays later known f) f.body)
def sumF (vars arrays later:List Nm) (known:List FSum) (f:FnD):FSum:=⟨f.name,f.params.length,max (max 2 (f.params.length+1)) (needSs (envF vars arrays later known f) f.body),max 1 (depSs (envF vars arrays later known f) f.body)⟩
def errFs (vars arrays later:List Nm):List FSum→List FnD→Int
 |known,[]=>0
 |known,f::l=>orE (errF vars arrays later known f) (errFs vars arrays later (known++[sumF vars arrays later known f]) l)
def sumFs (vars arrays later:List Nm):List FSum→List FnD→List FSum
 |known,[]=>known
 |known,f::l=>sumFs vars arrays later (known++[sumF vars arrays later known f]) l
def scalarsP (vars:List Nm) (fs:List FnD):List Nm:=vars++(fs.map fun f=>(f.params++f.locals).map fun x=>f.name++[46]++x).flatten
def mainE (vars:List Nm) (fs:List FnD) (sums:List FSum):Int:=match fs.getLast?,sums.getLast? with
 |some f,some m=>if f.name=[109,97,105,110]∧f.params=[] then (if (scalarsP vars fs).length≤8000∧m.need≤200∧m.depth≤60 then 0 else 6) else 9
 |_,_=>9
def checkP (vars:List Nm) (arrays:List (Nm×Int)) (fs:List FnD):Int:=
 orE (freshE [] (vars++arrays.map (·.1)++fs.map (·.name))) (orE (sizesE 0 (arrays.map (·.2)))
  (orE (errFs vars (arrays.map (·.1)) (fs.map (·.name)) [] fs) (mainE vars fs (sumFs vars (arrays.map (·.1)) (fs.map (·.name)) [] fs))))
def checkPr (p:Pr):Int:=checkP p.vars (p.arrays.map fun a=>(a.name,(a.size:Int))) p.funcs
theorem orE_zero {a b:Int}:orE a b=0 ↔ a=0∧b=0:=by
 unfold orE
 split
 ·constructor
  ·intro h;contradiction
  ·rintro ⟨h,_⟩;contradiction
 ·constructor
  ·intro h;exact ⟨by omega,h⟩
  ·rintro ⟨_,h⟩;exact h
end Go.Stele
namespace Go.Stele
def leftLv (k:Nat):Nat:=if k=2 then k+1 else k
end Go.Stele
namespace Go.Stele
def lexAt (s:List UInt8) (line:Int):Except (Int×Int) (List Tok):=lexP s.length s line
end Go.Stele
namespace Go.Stele
open Go.Lib
theorem pu_append (M:Nat):∀ (l r:List UInt8) (acc u:Nat),parseUintM M acc l=.ok u→parseUintM M acc (l++r)=parseUintM M u r
 |[],r,acc,u,h=>by
  rw[parseUintM] at h
  cases h
  rfl
 |c::l,r,acc,u,h=>by
  rw[parseUintM] at h
  rw[List.cons_append,parseUintM]
  split at h
  ·rename_i hc
   rw[if_pos hc]
   split at h
   ·cases h
   ·rename_i h1
    rw[if_neg h1]
    split at h
    ·cases h
    ·rename_i h2
     rw[if_neg h2]
     exact pu_append M l r _ u h
  ·cases h
theorem digit_toNat {d:Nat} (h:d<10):(UInt8.ofNat (48+d)).toNat=48+d:=by
 rw[UInt8.toNat_ofNat']
 omega
theorem pu_dec (M:Nat) (hM:M≤4294967295) (u:Nat) (hu:u≤M):parseUintM M 0 (decDigits u)=.ok u:=by
 induction u using Nat.strongRecOn with
 |_ u ih=>
  have one:∀ a d,d<10→a * 10+d≤M→parseUintM M a [UInt8.ofNat (48+d)]=.ok (a * 10+d):=fun a d hd ha=>by
   rw[parseUintM,digit_toNat hd,if_pos (by omega),if_neg (by omega),if_neg (by omega),parseUintM]
   congr 1
   omega
  rw[decDigits]
  split
  ·have:=one 0 u (by assumption) (by omega)
   simpa using this
  ·rw[pu_append M _ _ 0 (u / 10) (ih (u / 10) (by omega) (by omega)),one _ _ (by omega) (by omega)]
   congr 1
   omega
theorem decDigits_ne (u:Nat):decDigits u≠[]:=by
 rw[decDigits]
 split <;> simp
theorem pu32_dec (u:Nat) (hu:u<4294967296):parseUintB 32 (decDigits u)=.ok u:=by
 rw[parseUintB,if_neg (decDigits_ne u)]
 exact pu_dec _ (by decide) u (by omega)
theorem nDigits_le:∀ (k u:Nat),u<10 ^ (k+1)→nDigits u≤k+1
 |0,u,h=>by rw[nDigits_small (by simpa using h)];omega
 |k+1,u,h=>by
  by_cases hu:u<10
  ·rw[nDigits_small hu];omega
  ·rw[nDigits_big hu]
   have:=nDigits_le k (u / 10) (by rw[Nat.pow_succ] at h;omega)
   omega
theorem dec_len {u:Nat} (hu:u<4294967296):(decDigits u).length≤10:=by
 rw[decDigits_length]
 exact nDigits_le 9 u (by omega)
theorem pu32_lt {l:List UInt8} {u:Nat} (h:parseUintB 32 l=.ok u):u<4294967296:=by
 have key:∀ (l:List UInt8) (acc u:Nat),acc≤4294967295→parseUintM 4294967295 acc l=.ok u→u≤4294967295:=by
  intro l
  induction l with
  |nil=>intro acc u ha h;rw[parseUintM] at h;cases h;exact ha
  |cons c l ih=>
   intro acc u ha h
   rw[parseUintM] at h
   split at h
   ·split at h
    ·cases h
    ·split at h
     ·cases h
     ·exact ih _ _ (by omega) h
   ·cases h
 rw[parseUintB] at h
 split at h
 ·cases h
 ·have:=key _ _ _ (by omega) h
  omega
def TokOk (t:Tok):Prop:=t.text.length≤100∧(t.kind=1→∃ u,u<4294967296∧parseUintB 32 t.text=.ok u∧t.text=decDigits u)
theorem lexToken_ok (s:List UInt8) (h:(lexToken s).2.2=0):TokOk (lexToken s).1:=by
 match s with
 |[]=>simp[lexToken,tokErr] at h
 |c::r=>
  simp only[lexToken] at h ⊢
  split at h <;> rename_i hc
  ·rw[if_pos hc]
   unfold lexNumber at h ⊢
   split at h
   ·simp[tokErr] at h
   ·rename_i hw
    rw[if_neg hw]
    split at h
    ·rename_i u hu
     have hlt:=pu32_lt hu
     exact ⟨by have:=dec_len hlt;simp only;omega,fun _=>⟨u,hlt,pu32_dec u hlt,rfl⟩⟩
    ·simp[tokErr] at h
  ·rw[if_neg hc]
   split at h <;> rename_i hl
   ·rw[if_pos hl]
    unfold lexName at h ⊢
    split at h
    ·simp[tokErr] at h
    ·rename_i hw
     rw[if_neg hw]
     refine ⟨by simp only;omega,fun hk=>?_⟩
     simp only at hk
     split at hk <;> cases hk
   ·rw[if_neg hl]
    split at h <;> rename_i hq
    ·rw[if_pos hq]
     unfold lexLiteral at h ⊢
     split at h
     ·split at h
      ·simp[tokErr] at h
      ·rename_i hx
       rename_i heq
       rename_i b _ _
       rw[if_neg hx]
       have hb:b.toNat<4294967296:=Nat.lt_trans (UInt8.toNat_lt b) (by decide)
       exact ⟨by have:=dec_len hb;simp only;omega,fun _=>⟨b.toNat,hb,pu32_dec _ hb,rfl⟩⟩
     ·simp[tokErr] at h
    ·rw[if_neg hq]
     unfold lexSign at h ⊢
     split at h
     ·rename_i x hx
      have h2:=List.mem_of_find?_eq_some hx
      have:∀ x∈signs,x.length≤100:=by decide
      exact ⟨this x h2,fun hk=>by cases hk⟩
     ·simp[tokErr] at h
theorem map_ok {A B:Type} {f:A→B} {r:Except (Int×Int) A} {b:B} (h:r.map f=.ok b):∃ a,r=.ok a∧f a=b:=by
 cases r with
 |ok a=>exact ⟨a,rfl,by injection h⟩
 |error e=>cases h
theorem lexP_ok:∀ (f:Nat) (s:List UInt8) (line:Int) (T:List Tok),lexP f s line=.ok T→T.length≤f∧∀ t∈T,TokOk t
 |0,s,line,T,h=>by
  rw[lexP] at h
  cases h
  exact ⟨Nat.le_refl _,by simp⟩
 |f+1,s,line,T,h=>by
  rw[lexP] at h
  split at h
  ·cases h
   exact ⟨Nat.zero_le _,by simp⟩
  ·split at h
   ·split at h
    ·cases h
    ·rename_i he
     obtain ⟨T',h1,rfl⟩:=map_ok h
     obtain ⟨k1,k2⟩:=lexP_ok f _ _ _ h1
     refine ⟨by rw[List.length_cons];omega,fun t ht=>?_⟩
     rcases List.mem_cons.1 ht with rfl|ht
     ·exact lexToken_ok s (by omega)
     ·exact k2 t ht
   ·obtain ⟨k1,k2⟩:=lexP_ok f _ _ _ h
    exact ⟨by omega,k2⟩
end Go.Stele
namespace Go.Stele
open Go.Lib
def Again (t:Tok):Prop:=t.text.length≤24∧t.text≠[]∧skipLen t.text=0∧(10:UInt8) ∉ t.text∧lexToken t.text=(⟨t.kind,t.text,0⟩,t.text.length,0)
theorem skip_head {c:UInt8} {r:List UInt8} (hw:isWhite c=false) (h47:c≠47):skipLen (c::r)=0:=by
 have h:([47,47]:List UInt8).isPrefixOf (c::r)=false:=by
  cases h:([47,47]:List UInt8).isPrefixOf (c::r) with
  |false=>rfl
  |true=>
   simp only[List.isPrefixOf,Bool.and_eq_true,beq_iff_eq] at h
   exact absurd h.1.symm h47
 unfold skipLen
 rw[h,if_neg (by decide),List.takeWhile_cons_of_neg (by rw[hw];decide)]
 rfl
theorem digit_of {d:Nat} (h:d<10):isDigit (UInt8.ofNat (48+d))=true:=by
 have h1:(UInt8.ofNat (48+d)).toNat=48+d:=digit_toNat h
 unfold isDigit cv
 rw[h1]
 simp
 omega
theorem dec_digits (u:Nat):∀ c∈decDigits u,isDigit c=true:=by
 induction u using Nat.strongRecOn with
 |ind u ih=>
  intro c hc
  by_cases h:u<10
  ·rw[decDigits_one h] at hc
   rw[List.mem_singleton.1 hc]
   exact digit_of h
  ·rw[decDigits,dif_neg h] at hc
   rcases List.mem_append.1 hc with hc|hc
   ·exact ih (u / 10) (by omega) c hc
   ·rw[List.mem_singleton.1 hc]
    exact digit_of (by omega)
theorem digit_white {c:UInt8} (h:isDigit c=true):isWhite c=false∧c≠47:=by
 unfold isDigit at h
 rw[Bool.and_eq_true,decide_eq_true_eq,decide_eq_true_eq] at h
 refine ⟨?_,fun hc=>?_⟩
 ·unfold isWhite
  simp only[Bool.or_eq_false_iff,decide_eq_false_iff_not]
  omega
 ·subst hc
  exact absurd h.1 (by decide)
theorem letter_white {c:UInt8} (h:isLetter c=true):isWhite c=false∧c≠47:=by
 unfold isLetter at h
 rw[Bool.and_eq_true,decide_eq_true_eq,decide_eq_true_eq] at h
 refine ⟨?_,fun hc=>?_⟩
 ·unfold isWhite
  simp only[Bool.or_eq_false_iff,decide_eq_false_iff_not]
  omega
 ·subst hc
  exact absurd h.1 (by decide)
theorem tw_self {p:UInt8→Bool}:∀ {s:List UInt8},(∀ c∈s,p c=true)→s.takeWhile p=s
 |[],_=>rfl
 |c::s,h=>by rw[List.takeWhile_cons_of_pos (h c (List.mem_cons_self ..)),tw_self fun d hd=>h d (List.mem_cons_of_mem _ hd)]
theorem tw_mem {p:UInt8→Bool}:∀ {s:List UInt8} {c:UInt8},c∈s.takeWhile p→p c=true
 |[],_,h=>by cases h
 |d::s,c,h=>by
  by_cases hd:p d=true
  ·rw[List.takeWhile_cons_of_pos hd] at h
   rcases List.mem_cons.1 h with rfl|h
   ·exact hd
   ·exact tw_mem h
  ·rw[List.takeWhile_cons_of_neg hd] at h
   cases h
theorem again_dec {u:Nat} (hu:u<4294967296) (l:Int):Again ⟨1,decDigits u,l⟩:=by
 have hd:=dec_digits u
 have hne:=decDigits_ne u
 refine ⟨by have:=dec_len hu;simp only;omega,hne,?_,fun h=>by have:=hd _ h;exact absurd this (by decide),?_⟩
 ·show skipLen (decDigits u)=0
  cases hD:decDigits u with
  |nil=>exact absurd hD hne
  |cons c r=>
   have:=digit_white (hd c (by rw[hD];exact List.mem_cons_self ..))
   exact skip_head this.1 this.2
 ·show lexToken (decDigits u)=(⟨1,decDigits u,0⟩,(decDigits u).length,0)
  have h1:lexToken (decDigits u)=lexNumber (decDigits u):=by
   cases hD:decDigits u with
   |nil=>exact absurd hD hne
   |cons c r=>rw[lexToken,if_pos (hd c (by rw[hD];exact List.mem_cons_self ..))]
  rw[h1]
  unfold lexNumber
  rw[tw_self hd,pu32_dec u hu,if_neg]
  unfold wordNext
  rw[List.getElem?_eq_none (Nat.le_refl _)]
  decide
theorem again_sign:∀ x∈signs,x.length≤24∧x≠[]∧skipLen x=0∧(10:UInt8) ∉ x∧lexToken x=(⟨4,x,0⟩,x.length,0):=by decide +kernel
theorem lexToken_again (s:List UInt8) (h:(lexToken s).2.2=0):Again (lexToken s).1:=by
 match s with
 |[]=>simp[lexToken,tokErr] at h
 |c::r=>
  simp only[lexToken] at h ⊢
  split at h <;> rename_i hc
  ·rw[if_pos hc]
   unfold lexNumber at h ⊢
   split at h
   ·simp[tokErr] at h
   ·rename_i hw
    rw[if_neg hw]
    split at h
    ·rename_i u hu
     exact again_dec (pu32_lt hu) 0
    ·simp[tokErr] at h
  ·rw[if_neg hc]
   split at h <;> rename_i hl
   ·rw[if_pos hl]
    unfold lexName at h ⊢
    split at h
    ·simp[tokErr] at h
    ·rename_i hw
     rw[if_neg hw]
     have hin:isInner c=true:=by simp[isInner,hl]
     have hW:(c::r).takeWhile isInner=c::r.takeWhile isInner:=List.takeWhile_cons_of_pos hin
     have hall:∀ d∈(c::r).takeWhile isInner,isInner d=true:=fun d hd=>tw_mem hd
     have hww:=letter_white hl
     refine ⟨by simp only;omega,by simp only;rw[hW];simp,by simp only;rw[hW];exact skip_head hww.1 hww.2,fun h10=>absurd (hall _ h10) (by decide),?_⟩
     simp only
     have h1:lexToken ((c::r).takeWhile isInner)=lexName ((c::r).takeWhile isInner):=by
      rw[hW,lexToken,if_neg hc,if_pos hl]
     rw[h1]
     unfold lexName
     rw[tw_self hall,if_neg hw]
   ·rw[if_neg hl]
    split at h <;> rename_i hq
    ·rw[if_pos hq]
     unfold lexLiteral at h ⊢
     split at h
     ·split at h
      ·simp[tokErr] at h
      ·rename_i hx
       rename_i heq
       rename_i b _ _
       rw[if_neg hx]
       exact again_dec (Nat.lt_trans (UInt8.toNat_lt b) (by decide)) 0
     ·simp[tokErr] at h
    ·rw[if_neg hq]
     unfold lexSign at h ⊢
     split at h
     ·rename_i x hx
      exact again_sign x (List.mem_of_find?_eq_some hx)
     ·simp[tokErr] at h
theorem lexP_again:∀ (f:Nat) (s:List UInt8) (line:Int) (T:List Tok),lexP f s line=.ok T→∀ t∈T,Again t
 |0,s,line,T,h=>by
  rw[lexP] at h
  cases h
  simp
 |f+1,s,line,T,h=>by
  rw[lexP] at h
  split at h
  ·cases h
   simp
  ·split at h
   ·split at h
    ·cases h
    ·rename_i he
     obtain ⟨T',h1,rfl⟩:=map_ok h
     have k2:=lexP_again f _ _ _ h1
     intro t ht
     rcases List.mem_cons.1 ht with rfl|ht
     ·exact lexToken_again s (by omega)
     ·exact k2 t ht
   ·exact lexP_again f _ _ _ h
end Go.Stele
namespace Go.Stele
def Good {A:Type} (T:List Tok) (s:Bool) (i op:Nat) (r:Res A):Prop:=match r with
 |.ok _ i' op'=>i≤i'∧(s=true→i<i')∧(i≤T.length→i'≤T.length)∧op'=op
 |.err _ _=>True
def GoodO {A:Type} (T:List Tok) (s:Bool) (i op:Nat) (r:OR A):Prop:=∀ r',r=some r'→Good T s i op r'
theorem isTok_lt {T:List Tok} {i:Nat} {xs:List (List UInt8)} (h:isTok T i xs=true):i<T.length:=by
 rcases Nat.lt_or_ge i T.length with h1|h1
 ·exact h1
 ·rw[isTok,List.getElem?_eq_none h1] at h;cases h
theorem get_lt {T:List Tok} {i:Nat} {t:Tok} (h:T[i]? = some t):i<T.length:=(List.getElem?_eq_some_iff.1 h).1
theorem sWord_good (T:List Tok) (k:Int) (i op:Nat):Good T true i op (sWord T k i op):=by
 unfold sWord
 split
 ·rename_i t ht
  have:=get_lt ht
  split
  ·exact ⟨by omega,fun _=>by omega,fun _=>by omega,rfl⟩
  ·trivial
 ·trivial
theorem sNeed_good (T:List Tok) (x:List UInt8) (i op:Nat):Good T true i op (sNeed T x i op):=by
 unfold sNeed
 split
 ·rename_i h
  have:=isTok_lt h
  exact ⟨by omega,fun _=>by omega,fun _=>by omega,rfl⟩
 ·trivial
theorem sBegin_ok {T:List Tok} {x:List UInt8} {i op i' op':Nat} {u:Unit} (h:sBegin T x i op=.ok u i' op'):i'=i+1∧op'=op+1∧op<100∧i<T.length:=by
 unfold sBegin at h
 split at h
 ·rename_i h1
  have:=isTok_lt h1
  split at h
  ·cases h
  ·cases h
   exact ⟨rfl,rfl,by omega,this⟩
 ·cases h
theorem sEnd_ok {T:List Tok} {x:List UInt8} {i op i' op':Nat} {u:Unit} (h:sEnd T x i op=.ok u i' op'):i'=i+1∧op'=op-1∧i<T.length:=by
 unfold sEnd sNeed at h
 split at h
 ·rename_i h1
  have:=isTok_lt h1
  cases h
  exact ⟨rfl,rfl,this⟩
 ·cases h
theorem sNumber_good (T:List Tok) (i op:Nat):Good T true i op (sNumber T i op):=by
 have:=sWord_good T 1 i op
 unfold sNumber
 cases h:sWord T 1 i op with
 |ok v i' op'=>rw[h] at this;exact this
 |err l e=>trivial
theorem obind_some {A B:Type} {r:OR A} {f:A→Nat→Nat→OR B} {q:Res B} (h:obind r f=some q) :
  (∃ v i op,r=some (.ok v i op)∧f v i op=some q)∨(∃ l e,r=some (.err l e)∧q=.err l e):=by
 match r,h with
 |some (.ok v i op),h=>exact .inl ⟨v,i,op,rfl,h⟩
 |some (.err l e),h=>exact .inr ⟨l,e,rfl,by simpa [obind] using h.symm⟩
theorem good_bind {A B:Type} {T:List Tok} {s t:Bool} {i op j op1:Nat} {r:OR A} {f:A→Nat→Nat→OR B} (hr:GoodO T s j op1 r)
  (hf:∀ v i' ,r=some (.ok v i' op1)→j≤i'→(s=true→j<i')→(j≤T.length→i'≤T.length)→GoodO T t i op (f v i' op1)):GoodO T t i op (obind r f):=fun q hq=>by
 rcases obind_some hq with ⟨v,i',op',h1,h2⟩|⟨l,e,_,rfl⟩
 ·obtain ⟨g1,g2,g3,g4⟩:=hr _ h1
  subst g4
  exact hf v i' h1 g1 g2 g3 q h2
 ·trivial
theorem good_some {A:Type} {T:List Tok} {s:Bool} {i op:Nat} {r:Res A} (h:Good T s i op r):GoodO T s i op (some r):=fun r' hr=>by cases hr;exact h
theorem good_none {A:Type} {T:List Tok} {s:Bool} {i op:Nat}:GoodO (A:=A) T s i op none:=fun r' hr=>by cases hr
theorem GoodO.from {A:Type} {T:List Tok} {s t:Bool} {i j op:Nat} {r:OR A} (h:GoodO T s j op r) (hij:i≤j) (hs:t=true→i<j∨s=true) (hT:i≤T.length→j≤T.length):GoodO T t i op r:=fun r' hr=>by
 have:=h r' hr
 cases r' with
 |ok v i' op'=>
  obtain ⟨g1,g2,g3,g4⟩:=this
  refine ⟨by omega,fun ht=>?_,fun hi=>g3 (hT hi),g4⟩
  rcases hs ht with h1|h1
  ·omega
  ·have:=g2 h1;omega
 |err l e=>trivial
theorem sNamesLoop_good (T:List Tok):∀ (f:Nat) (acc:List (List UInt8)) (i op:Nat),GoodO T false i op (sNamesLoop T f acc i op)
 |0,_,_,_=>good_none
 |f+1,acc,i,op=>by
  rw[sNamesLoop]
  split
  ·rename_i h
   have:=isTok_lt h
   refine good_bind (good_some (sWord_good T 2 (i+1) op)) fun v i' _ h1 h2 h3=>?_
   exact (sNamesLoop_good T f _ i' op).from (by omega) (by simp) (fun _=>h3 (by omega))
  ·exact good_some ⟨by omega,by simp,fun h=>h,rfl⟩
theorem sNames_good (T:List Tok) (f i op:Nat):GoodO T true i op (sNames T f i op):=
 good_bind (good_some (sWord_good T 2 i op)) fun v i' _ h1 h2 h3=>(sNamesLoop_good T f _ i' op).from h1 (fun _=>.inl (h2 rfl)) h3
theorem good_wrap {A:Type} {T:List Tok} {s:Bool} {x y:List UInt8} {i op:Nat} {g:Nat→Nat→OR A} (hg:i<T.length→op<100→GoodO T s (i+1) (op+1) (g (i+1) (op+1))) :
  GoodO T true i op (obind (some (sBegin T x i op)) fun _ i' op'=>obind (g i' op') fun v i' op'=>obind (some (sEnd T y i' op')) fun _ i' op'=>some (.ok v i' op')):=fun q hq=>by
 rcases obind_some hq with ⟨v,i1,op1,h1,h2⟩|⟨l,e,_,rfl⟩
 ·injection h1 with h1
  obtain ⟨rfl,rfl,ho,hi⟩:=sBegin_ok h1
  rcases obind_some h2 with ⟨w,i2,op2,h3,h4⟩|⟨l,e,_,rfl⟩
  ·obtain ⟨g1,_,g3,rfl⟩:=hg hi ho _ h3
   rcases obind_some h4 with ⟨u,i3,op3,h5,h6⟩|⟨l,e,_,rfl⟩
   ·injection h5 with h5
    obtain ⟨rfl,rfl,hi2⟩:=sEnd_ok h5
    cases h6
    exact ⟨by omega,fun _=>by omega,fun _=>by omega,by omega⟩
   ·trivial
  ·trivial
 ·trivial
theorem ex_good (T:List Tok):∀ f:Nat,(∀ k i op,GoodO T true i op (eLev T f k i op))∧(∀ k e i op,GoodO T false i op (eLoop T f k e i op))∧(∀ i op,GoodO T true i op (eUnary T f i op)) ∧
  (∀ i op,GoodO T true i op (ePrim T f i op))∧(∀ i op,GoodO T true i op (eIndex T f i op))∧(∀ i op,GoodO T true i op (eArgs T f i op))∧(∀ acc i op,GoodO T false i op (eArgsLoop T f acc i op))
 |0=>⟨fun _ _ _=>by rw[eLev];exact good_none,fun _ _ _ _=>by rw[eLoop];exact good_none,fun _ _=>by rw[eUnary];exact good_none,fun _ _=>by rw[ePrim];exact good_none,fun _ _=>by rw[eIndex];exact good_none,fun _ _=>by rw[eArgs];exact good_none,fun _ _ _=>by rw[eArgsLoop];exact good_none⟩
 |f+1=>by
  obtain ⟨hL,hO,hU,hP,hI,hA,hB⟩:=ex_good T f
  have neg:∀ (x:List UInt8) (nm:List UInt8) (i op:Nat),GoodO T true i op (obind (some (sBegin T x i op)) fun _ i' op'=>obind (eUnary T f i' op') fun e i' op'=>some (.ok (Ex.mk nm 0 [] [e]) i' (op'-1))):=fun x nm i op q hq=>by
   rcases obind_some hq with ⟨v,i1,op1,h1,h2⟩|⟨l,e,_,rfl⟩
   ·injection h1 with h1
    obtain ⟨rfl,rfl,ho,hi⟩:=sBegin_ok h1
    rcases obind_some h2 with ⟨w,i2,op2,h3,h4⟩|⟨l,e,_,rfl⟩
    ·obtain ⟨g1,_,g3,rfl⟩:=hU _ _ _ h3
     cases h4
     exact ⟨by omega,fun _=>by omega,fun _=>g3 (by omega),by omega⟩
    ·trivial
   ·trivial
  refine ⟨fun k i op=>?_,fun k e i op=>?_,fun i op=>?_,fun i op=>?_,fun i op=>?_,fun i op=>?_,fun acc i op=>?_⟩
  ·rw[eLev]
   split
   ·exact hU i op
   ·exact good_bind (hL (k+1) i op) fun v i' _ h1 h2 h3=>(hO k v i' op).from h1 (fun _=>.inl (h2 rfl)) h3
  ·rw[eLoop]
   split
   ·rename_i h
    have:=isTok_lt h
    refine good_bind (hL (k+1) (i+1) op) fun v i' _ h1 h2 h3=>?_
    split
    ·exact good_some ⟨by omega,by simp,fun _=>h3 (by omega),rfl⟩
    ·exact (hO k _ i' op).from (by omega) (by simp) (fun _=>h3 (by omega))
   ·exact good_some ⟨by omega,by simp,fun h=>h,rfl⟩
  ·rw[eUnary]
   split
   ·exact neg _ _ _ _
   ·split
    ·exact neg _ _ _ _
    ·exact hP i op
  ·rw[ePrim]
   split
   ·exact good_wrap (g:=fun i op=>eLev T f 0 i op) fun _ _=>hL 0 _ _
   ·split
    ·exact good_bind (good_some (sNumber_good T i op)) fun v i' _ h1 h2 h3=>good_some ⟨h1,fun _=>h2 rfl,h3,rfl⟩
    ·refine good_bind (good_some (sWord_good T 2 i op)) fun v i' _ h1 h2 h3=>?_
     split
     ·exact good_bind (hI i' op) fun v i2 _ g1 g2 g3=>good_some ⟨by omega,fun _=>by have:=h2 rfl;omega,fun h=>g3 (h3 h),rfl⟩
     ·split
      ·exact good_bind (hA i' op) fun v i2 _ g1 g2 g3=>good_some ⟨by omega,fun _=>by have:=h2 rfl;omega,fun h=>g3 (h3 h),rfl⟩
      ·exact good_some ⟨h1,fun _=>h2 rfl,h3,rfl⟩
  ·rw[eIndex]
   exact good_wrap (g:=fun i op=>eLev T f 0 i op) fun _ _=>hL 0 _ _
  ·rw[eArgs]
   exact good_wrap (g:=fun i op=>eArgsLoop T f [] i op) fun _ _=>hB [] _ _
  ·rw[eArgsLoop]
   split
   ·exact good_some ⟨by omega,by simp,fun h=>h,rfl⟩
   ·refine good_bind (s:=false) (j:=i) (op1:=op) ?_ fun v i' _ h1 h2 h3=>?_
    ·split
     ·exact good_some ⟨by omega,by simp,fun h=>h,rfl⟩
     ·exact GoodO.from (good_some (sNeed_good T [44] i op)) (by omega) (by simp) (fun h=>h)
    ·exact good_bind (hL 0 i' op) fun v i2 _ g1 g2 g3=>(hB _ i2 op).from (by omega) (by simp) (fun h=>g3 (h3 h))
end Go.Stele
/- The parser in plain Lean: where statements end; enough fuel. -/
namespace Go.Stele
theorem st_good (T:List Tok):∀ f:Nat,(∀ i op,GoodO T true i op (sBlock T f i op))∧(∀ acc i op,GoodO T false i op (sStmts T f acc i op))∧(∀ i op,GoodO T true i op (sStmt T f i op))∧(∀ i op,GoodO T true i op (sSimple T f i op))
 |0=>⟨fun _ _=>by rw[sBlock];exact good_none,fun _ _ _=>by rw[sStmts];exact good_none,fun _ _=>by rw[sStmt];exact good_none,fun _ _=>by rw[sSimple];exact good_none⟩
 |f+1=>by
  obtain ⟨hB,hL,hS,hM⟩:=st_good T f
  obtain ⟨gL,_,_,_,gI,gA,_⟩:=ex_good T f
  refine ⟨fun i op=>?_,fun acc i op=>?_,fun i op=>?_,fun i op=>?_⟩
  ·rw[sBlock]
   exact good_wrap (g:=fun i op=>sStmts T f [] i op) fun _ _=>hL [] _ _
  ·rw[sStmts]
   split
   ·exact good_some ⟨by omega,by simp,fun h=>h,rfl⟩
   ·exact good_bind (hS i op) fun v i' _ h1 h2 h3=>(hL _ i' op).from h1 (by simp) h3
  ·rw[sStmt]
   split
   ·rename_i h
    have:=isTok_lt h
    refine good_bind (gL 0 (i+1) op) fun v i' _ h1 h2 h3=>good_bind (hB i' op) fun w i2 _ g1 g2 g3=>?_
    split
    ·rename_i h4
     have:=isTok_lt h4
     refine good_bind (hB (i2+1) op) fun x i3 _ k1 k2 k3=>good_some ⟨by omega,fun _=>by omega,fun _=>k3 (by omega),rfl⟩
    ·exact good_some ⟨by omega,fun _=>by omega,fun _=>g3 (h3 (by omega)),rfl⟩
   ·split
    ·rename_i h
     have:=isTok_lt h
     exact good_bind (gL 0 (i+1) op) fun v i' _ h1 h2 h3=>good_bind (hB i' op) fun w i2 _ g1 g2 g3=>good_some ⟨by omega,fun _=>by omega,fun _=>g3 (h3 (by omega)),rfl⟩
    ·exact good_bind (hM i op) fun v i' _ h1 h2 h3=>good_bind (good_some (sNeed_good T [59] i' op)) fun w i2 _ g1 g2 g3=>good_some ⟨by omega,fun _=>by have:=h2 rfl;omega,fun hh=>g3 (h3 hh),rfl⟩
  ·rw[sSimple]
   split
   ·rename_i h
    have:=isTok_lt h
    exact good_bind (gL 0 (i+1) op) fun v i' _ h1 h2 h3=>good_some ⟨by omega,fun _=>by omega,fun _=>h3 (by omega),rfl⟩
   ·split
    ·rename_i h
     have:=isTok_lt h
     exact good_some ⟨by omega,fun _=>by omega,fun _=>by omega,rfl⟩
    ·refine good_bind (good_some (sWord_good T 2 i op)) fun v i' _ h1 h2 h3=>?_
     split
     ·exact good_bind (gA i' op) fun w i2 _ g1 g2 g3=>good_some ⟨by omega,fun _=>by have:=h2 rfl;omega,fun hh=>g3 (h3 hh),rfl⟩
     ·split
      ·exact good_bind (gI i' op) fun w i2 _ g1 g2 g3=>good_bind (good_some (sNeed_good T [61] i2 op)) fun u i3 _ k1 k2 k3=>good_bind (gL 0 i3 op) fun x i4 _ m1 m2 m3=>
        good_some ⟨by omega,fun _=>by have:=h2 rfl;omega,fun hh=>m3 (k3 (g3 (h3 hh))),rfl⟩
      ·exact good_bind (good_some (sNeed_good T [61] i' op)) fun u i3 _ k1 k2 k3=>good_bind (gL 0 i3 op) fun x i4 _ m1 m2 m3=>
        good_some ⟨by omega,fun _=>by have:=h2 rfl;omega,fun hh=>m3 (k3 (h3 hh)),rfl⟩
theorem sVars_good (T:List Tok):∀ (f:Nat) (acc:List (List UInt8)) (i op:Nat),GoodO T (isTok T i [kwVar]) i op (sVars T f acc i op)
 |0,_,_,_=>by rw[sVars];exact good_none
 |f+1,acc,i,op=>by
  rw[sVars]
  split
  ·rename_i h
   have:=isTok_lt h
   exact good_bind (sNames_good T f (i+1) op) fun v i' _ h1 h2 h3=>good_bind (good_some (sNeed_good T [59] i' op)) fun u i2 _ g1 g2 g3=>
    (sVars_good T f _ i2 op).from (by omega) (fun _=>.inl (by omega)) (fun _=>g3 (h3 (by omega)))
  ·rename_i h
   exact good_some ⟨by omega,fun hh=>absurd hh h,fun h=>h,rfl⟩
/-! ### Enough fuel -/
def Ends {A:Type} (r:OR A):Prop:=∃ q,r=some q
theorem ends_bind {A B:Type} {r:OR A} {f:A→Nat→Nat→OR B} (h:Ends r) (k:∀ v i op,r=some (.ok v i op)→Ends (f v i op)):Ends (obind r f):=by
 obtain ⟨q,rfl⟩:=h
 cases q with
 |ok v i op=>exact k v i op rfl
 |err l e=>exact ⟨_,rfl⟩
theorem ends_some {A:Type} {r:Res A}:Ends (some r):=⟨_,rfl⟩
theorem ends_begin {B:Type} {T:List Tok} {x:List UInt8} {i op:Nat} {g:Unit→Nat→Nat→OR B} (k:i<T.length→op<100→Ends (g () (i+1) (op+1))):Ends (obind (some (sBegin T x i op)) g):=
 ends_bind ends_some fun v i1 op1 h1=>by
  injection h1 with h1
  obtain ⟨rfl,rfl,ho,hi⟩:=sBegin_ok h1
  exact k hi ho
theorem ex_ends (T:List Tok):∀ f:Nat,(∀ k i op,k≤6→i≤T.length→10 * (T.length-i)+20-k≤f→Ends (eLev T f k i op))∧(∀ k e i op,k≤5→i≤T.length→10 * (T.length-i)+11≤f→Ends (eLoop T f k e i op)) ∧
  (∀ i op,i≤T.length→10 * (T.length-i)+13≤f→Ends (eUnary T f i op))∧(∀ i op,i≤T.length→10 * (T.length-i)+12≤f→Ends (ePrim T f i op))∧(∀ i op,i≤T.length→10 * (T.length-i)+11≤f→Ends (eIndex T f i op)) ∧
  (∀ i op,i≤T.length→10 * (T.length-i)+12≤f→Ends (eArgs T f i op))∧(∀ acc i op,i≤T.length→10 * (T.length-i)+21≤f→Ends (eArgsLoop T f acc i op))
 |0=>⟨fun _ _ _ _ _ _=>by omega,fun _ _ _ _ _ _ _=>by omega,fun _ _ _ _=>by omega,fun _ _ _ _=>by omega,fun _ _ _ _=>by omega,fun _ _ _ _=>by omega,fun _ _ _ _ _=>by omega⟩
 |f+1=>by
  obtain ⟨hL,hO,hU,hP,hI,hA,hB⟩:=ex_ends T f
  obtain ⟨gL,gO,gU,gP,gI,gA,gB⟩:=ex_good T f
  have neg:∀ (x nm:List UInt8) (i op:Nat),10 * (T.length-i)+13≤f+1→Ends (obind (some (sBegin T x i op)) fun _ i' op'=>obind (eUnary T f i' op') fun e i' op'=>some (.ok (Ex.mk nm 0 [] [e]) i' (op'-1))):=fun x nm i op hf=>
   ends_begin fun hi ho=>ends_bind (hU _ _ (by omega) (by omega)) fun v i2 op2 _=>ends_some
  refine ⟨fun k i op hk hi hf=>?_,fun k e i op hk hi hf=>?_,fun i op hi hf=>?_,fun i op hi hf=>?_,fun i op hi hf=>?_,fun i op hi hf=>?_,fun acc i op hi hf=>?_⟩
  ·rw[eLev]
   split
   ·exact hU i op hi (by omega)
   ·refine ends_bind (hL (k+1) i op (by omega) hi (by omega)) fun v i' op' h=>?_
    obtain ⟨g1,g2,g3,rfl⟩:=gL (k+1) i op _ h
    have:=g2 rfl
    exact hO k v i' op' (by omega) (g3 hi) (by have:=g3 hi;omega)
  ·rw[eLoop]
   split
   ·rename_i h
    have:=isTok_lt h
    refine ends_bind (hL (k+1) (i+1) op (by omega) (by omega) (by omega)) fun v i' op' h=>?_
    obtain ⟨g1,g2,g3,rfl⟩:=gL (k+1) (i+1) op _ h
    have:=g3 (by omega)
    split
    ·exact ends_some
    ·exact hO k _ i' op' hk this (by omega)
   ·exact ends_some
  ·rw[eUnary]
   split
   ·exact neg _ _ _ _ hf
   ·split
    ·exact neg _ _ _ _ hf
    ·exact hP i op hi (by omega)
  ·rw[ePrim]
   split
   ·exact ends_begin fun hlt ho=>ends_bind (hL 0 _ _ (by omega) (by omega) (by omega)) fun v i2 op2 _=>ends_bind ends_some fun _ _ _ _=>ends_some
   ·split
    ·exact ends_bind ends_some fun _ _ _ _=>ends_some
    ·refine ends_bind ends_some fun v i' op' h=>?_
     injection h with h
     have hg:=sWord_good T 2 i op
     rw[h] at hg
     obtain ⟨h1,h2,h3,rfl⟩:=hg
     have:=h2 rfl
     have:=h3 hi
     split
     ·exact ends_bind (hI i' _ (by omega) (by omega)) fun _ _ _ _=>ends_some
     ·split
      ·exact ends_bind (hA i' _ (by omega) (by omega)) fun _ _ _ _=>ends_some
      ·exact ends_some
  ·rw[eIndex]
   exact ends_begin fun hlt ho=>ends_bind (hL 0 _ _ (by omega) (by omega) (by omega)) fun v i2 op2 _=>ends_bind ends_some fun _ _ _ _=>ends_some
  ·rw[eArgs]
   exact ends_begin fun hlt ho=>ends_bind (hB [] _ _ (by omega) (by omega)) fun v i2 op2 _=>ends_bind ends_some fun _ _ _ _=>ends_some
  ·rw[eArgsLoop]
   split
   ·exact ends_some
   ·refine ends_bind ends_some fun v i' op' h=>?_
    have hg:i≤i'∧i'≤T.length:=by
     injection h with h
     split at h
     ·cases h;exact ⟨Nat.le_refl _,hi⟩
     ·have hg:=sNeed_good T [44] i op
      rw[h] at hg
      exact ⟨hg.1,hg.2.2.1 hi⟩
    refine ends_bind (hL 0 i' op' (by omega) hg.2 (by omega)) fun v2 i2 op2 h2=>?_
    obtain ⟨g1,g2,g3,rfl⟩:=gL 0 i' op' _ h2
    have:=g2 rfl
    have:=g3 hg.2
    exact hB _ i2 _ this (by omega)
theorem st_ends (T:List Tok):∀ f:Nat,(∀ i op,i≤T.length→10 * (T.length-i)+5≤f→Ends (sBlock T f i op))∧(∀ acc i op,i≤T.length→10 * (T.length-i)+14≤f→Ends (sStmts T f acc i op)) ∧
  (∀ i op,i≤T.length→10 * (T.length-i)+13≤f→Ends (sStmt T f i op))∧(∀ i op,i≤T.length→10 * (T.length-i)+12≤f→Ends (sSimple T f i op))
 |0=>⟨fun _ _ _ _=>by omega,fun _ _ _ _ _=>by omega,fun _ _ _ _=>by omega,fun _ _ _ _=>by omega⟩
 |f+1=>by
  obtain ⟨hB,hL,hS,hM⟩:=st_ends T f
  obtain ⟨eL,_,_,_,eI,eA,_⟩:=ex_ends T f
  obtain ⟨gL,_,_,_,gI,gA,_⟩:=ex_good T f
  obtain ⟨kB,kL,kS,kM⟩:=st_good T f
  refine ⟨fun i op hi hf=>?_,fun acc i op hi hf=>?_,fun i op hi hf=>?_,fun i op hi hf=>?_⟩
  ·rw[sBlock]
   exact ends_begin fun hlt ho=>ends_bind (hL [] _ _ (by omega) (by omega)) fun v i2 op2 _=>ends_bind ends_some fun _ _ _ _=>ends_some
  ·rw[sStmts]
   split
   ·exact ends_some
   ·refine ends_bind (hS i op hi (by omega)) fun v i' op' h=>?_
    obtain ⟨g1,g2,g3,rfl⟩:=kS i op _ h
    have:=g2 rfl
    have:=g3 hi
    exact hL _ i' _ (by omega) (by omega)
  ·rw[sStmt]
   split
   ·rename_i h
    have:=isTok_lt h
    refine ends_bind (eL 0 (i+1) op (by omega) (by omega) (by omega)) fun v i' op' h=>?_
    obtain ⟨g1,g2,g3,rfl⟩:=gL 0 (i+1) op _ h
    have:=g2 rfl
    have:=g3 (by omega)
    refine ends_bind (hB i' _ (by omega) (by omega)) fun v2 i2 op2 h2=>?_
    obtain ⟨q1,q2,q3,rfl⟩:=kB i' _ _ h2
    have:=q3 (by omega)
    split
    ·rename_i h4
     have:=isTok_lt h4
     exact ends_bind (hB (i2+1) _ (by omega) (by omega)) fun _ _ _ _=>ends_some
    ·exact ends_some
   ·split
    ·rename_i h
     have:=isTok_lt h
     refine ends_bind (eL 0 (i+1) op (by omega) (by omega) (by omega)) fun v i' op' h=>?_
     obtain ⟨g1,g2,g3,rfl⟩:=gL 0 (i+1) op _ h
     have:=g2 rfl
     have:=g3 (by omega)
     exact ends_bind (hB i' _ (by omega) (by omega)) fun v2 i2 op2 h2=>ends_some
    ·exact ends_bind (hM i op hi (by omega)) fun _ _ _ _=>ends_bind ends_some fun _ _ _ _=>ends_some
  ·rw[sSimple]
   split
   ·rename_i h
    have:=isTok_lt h
    exact ends_bind (eL 0 (i+1) op (by omega) (by omega) (by omega)) fun _ _ _ _=>ends_some
   ·split
    ·exact ends_some
    ·refine ends_bind ends_some fun v i' op' h=>?_
     injection h with h
     have hg:=sWord_good T 2 i op
     rw[h] at hg
     obtain ⟨h1,h2,h3,rfl⟩:=hg
     have:=h2 rfl
     have:=h3 hi
     split
     ·exact ends_bind (eA i' _ (by omega) (by omega)) fun _ _ _ _=>ends_some
     ·have tail:∀ (i2 op2:Nat) (g:Ex→Sm),i'≤i2→i2≤T.length→Ends (obind (some (sNeed T [61] i2 op2)) fun _ i' op'=>obind (eLev T f 0 i' op') fun e i' op'=>some (.ok (g e) i' op')):=fun i2 op2 g hi1 hi2=>by
       refine ends_bind ends_some fun v i3 op3 h3=>?_
       injection h3 with h3
       have hg:=sNeed_good T [61] i2 op2
       rw[h3] at hg
       have:=hg.2.2.1 hi2
       have:=hg.1
       exact ends_bind (eL 0 i3 _ (by omega) (by omega) (by omega)) fun _ _ _ _=>ends_some
      split
      ·refine ends_bind (eI i' _ (by omega) (by omega)) fun v2 i2 op2 h2=>?_
       obtain ⟨q1,q2,q3,rfl⟩:=gI i' _ _ h2
       exact tail i2 _ _ q1 (q3 (by omega))
      ·exact tail i' _ _ (Nat.le_refl _) (by omega)
theorem sNamesLoop_ends (T:List Tok):∀ (f:Nat) (acc:List (List UInt8)) (i op:Nat),i≤T.length→T.length-i+1≤f→Ends (sNamesLoop T f acc i op)
 |0,_,_,_,_,h=>by omega
 |f+1,acc,i,op,hi,hf=>by
  rw[sNamesLoop]
  split
  ·rename_i h
   have:=isTok_lt h
   refine ends_bind ends_some fun v i' op' h=>?_
   injection h with h
   have hg:=sWord_good T 2 (i+1) op
   rw[h] at hg
   obtain ⟨h1,h2,h3,rfl⟩:=hg
   exact sNamesLoop_ends T f _ i' _ (h3 (by omega)) (by have:=h3 (by omega);omega)
  ·exact ends_some
theorem sNames_ends (T:List Tok) (f i op:Nat) (hi:i≤T.length) (hf:T.length-i+1≤f):Ends (sNames T f i op):=
 ends_bind ends_some fun v i' op' h=>by
  injection h with h
  have hg:=sWord_good T 2 i op
  rw[h] at hg
  obtain ⟨h1,h2,h3,rfl⟩:=hg
  exact sNamesLoop_ends T f _ i' _ (h3 hi) (by have:=h3 hi;omega)
theorem sVars_ends (T:List Tok):∀ (f:Nat) (acc:List (List UInt8)) (i op:Nat),i≤T.length→T.length-i+2≤f→Ends (sVars T f acc i op)
 |0,_,_,_,_,h=>by omega
 |f+1,acc,i,op,hi,hf=>by
  rw[sVars]
  split
  ·rename_i h
   have:=isTok_lt h
   refine ends_bind (sNames_ends T f (i+1) op (by omega) (by omega)) fun v i' op' h=>?_
   obtain ⟨g1,g2,g3,rfl⟩:=sNames_good T f (i+1) op _ h
   have:=g3 (by omega)
   refine ends_bind ends_some fun v i2 op2 h2=>?_
   injection h2 with h2
   have hg:=sNeed_good T [59] i' op'
   rw[h2] at hg
   obtain ⟨h1,h2,h3,rfl⟩:=hg
   have:=h3 (by omega)
   exact sVars_ends T f _ i2 _ (by omega) (by omega)
  ·exact ends_some
theorem obind_word {B:Type} {T:List Tok} {k:Int} {i op:Nat} {g:List UInt8→Nat→Nat→OR B} (h:∀ s,i<T.length→Ends (g s (i+1) op)):Ends (obind (some (sWord T k i op)) g):=
 ends_bind ends_some fun v i' op' hw=>by
  injection hw with hw
  unfold sWord at hw
  split at hw
  ·rename_i t ht
   have:=get_lt ht
   split at hw
   ·cases hw;exact h _ this
   ·cases hw
  ·cases hw
theorem obind_end {B:Type} {T:List Tok} {x:List UInt8} {i op:Nat} {g:Unit→Nat→Nat→OR B} (h:i<T.length→Ends (g () (i+1) (op-1))):Ends (obind (some (sEnd T x i op)) g):=
 ends_bind ends_some fun v i' op' hw=>by
  injection hw with hw
  obtain ⟨rfl,rfl,hlt⟩:=sEnd_ok hw
  exact h hlt
theorem sFunc_ends (T:List Tok) (f i op:Nat) (hi:i≤T.length) (hf:10 * (T.length-i)+14≤f):Ends (sFunc T f i op):=by
 unfold sFunc
 refine obind_word fun s h1=>ends_begin fun h2 h3=>ends_bind ?_ fun v i2 op2 h4=>obind_end fun h5=>ends_begin fun h6 h7=>ends_bind (sVars_ends T f [] _ _ (by omega) ?_) fun v2 i3 op3 h8=>ends_bind ((st_ends T f).2.1 [] _ _ ?_ ?_) fun v3 i4 op4 h9=>ends_bind ends_some fun _ _ _ _=>ends_some
 ·split
  ·exact ends_some
  ·exact sNames_ends T f _ _ (by omega) (by omega)
 ·have:i+1+1≤i2:=by
   split at h4
   ·cases h4;omega
   ·exact (sNames_good T f _ _ _ h4).1
  omega
 ·exact (sVars_good T f _ _ _ _ h8).2.2.1 (by omega)
 ·have:i+1+1≤i2:=by
   split at h4
   ·cases h4;omega
   ·exact (sNames_good T f _ _ _ h4).1
  have:=(sVars_good T f _ _ _ _ h8).1
  omega
theorem sFunc_good (T:List Tok) (f i op:Nat):GoodO T true i op (sFunc T f i op):=by
 intro q hq0
 unfold sFunc at hq0
 cases q with
 |err l e=>trivial
 |ok v i9 op9=>
  rcases obind_some hq0 with ⟨s,i1,op1,h1,hq1⟩|⟨l,e,_,h⟩
  ·injection h1 with h1
   have g1:=sWord_good T 2 i op
   rw[h1] at g1
   obtain ⟨a1,a2,a3,rfl⟩:=g1
   have:=a2 rfl
   rcases obind_some hq1 with ⟨_,i2,op2,h2,hq2⟩|⟨l,e,_,h⟩
   ·injection h2 with h2
    obtain ⟨rfl,rfl,b1,b2⟩:=sBegin_ok h2
    rcases obind_some hq2 with ⟨ps,i3,op3,h3,hq3⟩|⟨l,e,_,h⟩
    ·have c:i1+1≤i3∧(i1+1≤T.length→i3≤T.length)∧op3=op1+1:=by
      split at h3
      ·cases h3;exact ⟨Nat.le_refl _,fun h=>h,rfl⟩
      ·obtain ⟨c1,_,c3,c4⟩:=sNames_good T f _ _ _ h3
       exact ⟨c1,c3,c4⟩
     obtain ⟨c1,c2,rfl⟩:=c
     rcases obind_some hq3 with ⟨_,i4,op4,h4,hq4⟩|⟨l,e,_,h⟩
     ·injection h4 with h4
      obtain ⟨rfl,rfl,d1⟩:=sEnd_ok h4
      rcases obind_some hq4 with ⟨_,i5,op5,h5,hq5⟩|⟨l,e,_,h⟩
      ·injection h5 with h5
       obtain ⟨rfl,rfl,e1,e2⟩:=sBegin_ok h5
       rcases obind_some hq5 with ⟨ls,i6,op6,h6,hq6⟩|⟨l,e,_,h⟩
       ·obtain ⟨f1,_,f3,rfl⟩:=sVars_good T f _ _ _ _ h6
        have:=f3 (by omega)
        rcases obind_some hq6 with ⟨bs,i7,op7,h7,hq7⟩|⟨l,e,_,h⟩
        ·obtain ⟨k1,_,k3,rfl⟩:=(st_good T f).2.1 _ _ _ _ h7
         have:=k3 (by omega)
         rcases obind_some hq7 with ⟨_,i8,op8,h8,hq8⟩|⟨l,e,_,h⟩
         ·injection h8 with h8
          obtain ⟨rfl,rfl,m1⟩:=sEnd_ok h8
          cases hq8
          exact ⟨by omega,fun _=>by omega,fun _=>by omega,by omega⟩
         ·cases h
        ·cases h
       ·cases h
      ·cases h
     ·cases h
    ·cases h
   ·cases h
  ·cases h
theorem sArray_good (T:List Tok) (i op:Nat):GoodO T true i op (sArray T i op):=by
 intro q hq0
 unfold sArray at hq0
 cases q with
 |err l e=>trivial
 |ok v i9 op9=>
  rcases obind_some hq0 with ⟨s,i1,op1,h1,hq1⟩|⟨l,e,_,h⟩
  ·injection h1 with h1
   have g1:=sWord_good T 2 i op
   rw[h1] at g1
   obtain ⟨a1,a2,a3,rfl⟩:=g1
   have:=a2 rfl
   rcases obind_some hq1 with ⟨_,i2,op2,h2,hq2⟩|⟨l,e,_,h⟩
   ·injection h2 with h2
    obtain ⟨rfl,rfl,b1,b2⟩:=sBegin_ok h2
    rcases obind_some hq2 with ⟨ps,i3,op3,h3,hq3⟩|⟨l,e,_,h⟩
    ·injection h3 with h3
     have g3:=sNumber_good T (i1+1) (op1+1)
     rw[h3] at g3
     obtain ⟨c1,c2,c3,rfl⟩:=g3
     have:=c2 rfl
     rcases obind_some hq3 with ⟨_,i4,op4,h4,hq4⟩|⟨l,e,_,h⟩
     ·injection h4 with h4
      obtain ⟨rfl,rfl,d1⟩:=sEnd_ok h4
      rcases obind_some hq4 with ⟨_,i5,op5,h5,hq5⟩|⟨l,e,_,h⟩
      ·injection h5 with h5
       have g5:=sNeed_good T [59] (i3+1) op4
       rw[h5] at g5
       obtain ⟨e1,e2,e3,rfl⟩:=g5
       have:=e2 rfl
       have:=e3 (by omega)
       cases hq5
       exact ⟨by omega,fun _=>by omega,fun _=>by omega,by omega⟩
      ·cases h
     ·cases h
    ·cases h
   ·cases h
  ·cases h
theorem sArray_ends (T:List Tok) (i op:Nat):Ends (sArray T i op):=by
 unfold sArray
 exact obind_word fun s _=>ends_begin fun _ _=>ends_bind ends_some fun _ _ _ _=>ends_bind ends_some fun _ _ _ _=>ends_bind ends_some fun _ _ _ _=>ends_some
theorem sProg_ends (T:List Tok):∀ (f:Nat) (p:Pr) (i op:Nat),i≤T.length→10 * (T.length-i)+20≤f→Ends (sProg T f p i op)
 |0,_,_,_,_,h=>by omega
 |f+1,p,i,op,hi,hf=>by
  rw[sProg]
  split
  ·exact ends_some
  ·split
   ·rename_i h
    have:=isTok_lt h
    refine ends_bind (sVars_ends T f _ i op hi (by omega)) fun v i' op' h2=>?_
    obtain ⟨g1,g2,g3,rfl⟩:=sVars_good T f _ i op _ h2
    have:=g2 h
    have:=g3 hi
    exact sProg_ends T f _ i' _ (by omega) (by omega)
   ·split
    ·rename_i h
     have:=isTok_lt h
     refine ends_bind (sArray_ends T _ _) fun v i' op' h2=>?_
     obtain ⟨g1,g2,g3,rfl⟩:=sArray_good T _ _ _ h2
     have:=g3 (by omega)
     exact sProg_ends T f _ i' _ (by omega) (by omega)
    ·split
     ·rename_i h
      have:=isTok_lt h
      refine ends_bind (sFunc_ends T f _ _ (by omega) (by omega)) fun v i' op' h2=>?_
      obtain ⟨g1,g2,g3,rfl⟩:=sFunc_good T f _ _ _ h2
      have:=g3 (by omega)
      exact sProg_ends T f _ i' _ (by omega) (by omega)
     ·exact ends_some
end Go.Stele
namespace Go.Stele
theorem nd_word {T:List Tok} {k:Int} {i op:Nat} {s:List UInt8} {i' op':Nat} (h:some (sWord T k i op)=some (.ok s i' op')):i'=i+1∧op'=op:=by
 injection h with h
 unfold sWord at h
 split at h
 ·split at h
  ·cases h;exact ⟨rfl,rfl⟩
  ·cases h
 ·cases h
theorem nd_need {T:List Tok} {x:List UInt8} {i op:Nat} {u:Unit} {i' op':Nat} (h:some (sNeed T x i op)=some (.ok u i' op')):i'=i+1∧op'=op:=by
 injection h with h
 unfold sNeed at h
 split at h
 ·cases h;exact ⟨rfl,rfl⟩
 ·cases h
end Go.Stele
namespace Go.Stele
abbrev KT:=Int×List UInt8
def sg (c:UInt8):KT:=(4,[c])
def NameOk (x:List UInt8):Prop:=Again ⟨2,x,0⟩
mutual
inductive PE:Ex→Nat→List KT→Nat→Prop
 |num {n k:Nat} (h:n<4294967296):PE (.mk nNum n [] []) k [(1,Go.Lib.decDigits n)] 0
 |var {s:List UInt8} {k:Nat} (h:NameOk s):PE (.mk nVar 0 s []) k [(2,s)] 0
 |elem {s:List UInt8} {k:Nat} {a:Ex} {ts:List KT} {d:Nat} (h:NameOk s) (ha:PE a 0 ts d):PE (.mk nElem 0 s [a]) k ((2,s)::sg 91::(ts++[sg 93])) (d+1)
 |call {s:List UInt8} {k:Nat} {l:List Ex} {ts:List KT} {d:Nat} (h:NameOk s) (hl:PEs l ts d):PE (.mk nCall 0 s l) k ((2,s)::sg 40::(ts++[sg 41])) (d+1)
 |neg {k:Nat} {a:Ex} {ts:List KT} {d:Nat} (ha:PE a 6 ts d):PE (.mk nNeg 0 [] [a]) k (sg 45::ts) (d+1)
 |not {k:Nat} {a:Ex} {ts:List KT} {d:Nat} (ha:PE a 6 ts d):PE (.mk nNot 0 [] [a]) k (sg 33::ts) (d+1)
 |bin {s k:Nat} {op:List UInt8} {a b:Ex} {t1 t2:List KT} {d1 d2:Nat} (hs:s<6) (ho:op∈lvOps s) (hk:k≤s) (ha:PE a (leftLv s) t1 d1) (hb:PE b (s+1) t2 d2):PE (.mk op 0 [] [a,b]) k (t1++(4,op)::t2) (max d1 d2)
 |par {s k:Nat} {op:List UInt8} {a b:Ex} {t1 t2:List KT} {d1 d2:Nat} (hs:s<6) (ho:op∈lvOps s) (hk:s<k) (ha:PE a (leftLv s) t1 d1) (hb:PE b (s+1) t2 d2):PE (.mk op 0 [] [a,b]) k (sg 40::((t1++(4,op)::t2)++[sg 41])) (max d1 d2+1)
inductive PEs:List Ex→List KT→Nat→Prop
 |nil:PEs [] [] 0
 |one {a:Ex} {ts:List KT} {d:Nat} (ha:PE a 0 ts d):PEs [a] ts d
 |more {a b:Ex} {l:List Ex} {t1 t2:List KT} {d1 d2:Nat} (ha:PE a 0 t1 d1) (hl:PEs (b::l) t2 d2):PEs (a::b::l) (t1++sg 44::t2) (max d1 d2)
end
theorem PE.weak {e:Ex} {k k':Nat} {ts:List KT} {d:Nat} (h:PE e k ts d) (hk:k'≤k):∃ ts' d',PE e k' ts' d'∧ts'.length≤ts.length∧d'≤d:=by
 cases h with
 |num h=>exact ⟨_,_,.num h,Nat.le_refl _,Nat.le_refl _⟩
 |var h=>exact ⟨_,_,.var h,Nat.le_refl _,Nat.le_refl _⟩
 |elem h ha=>exact ⟨_,_,.elem h ha,Nat.le_refl _,Nat.le_refl _⟩
 |call h ha=>exact ⟨_,_,.call h ha,Nat.le_refl _,Nat.le_refl _⟩
 |neg ha=>exact ⟨_,_,.neg ha,Nat.le_refl _,Nat.le_refl _⟩
 |not ha=>exact ⟨_,_,.not ha,Nat.le_refl _,Nat.le_refl _⟩
 |bin hs ho hk2 ha hb=>exact ⟨_,_,.bin hs ho (by omega) ha hb,Nat.le_refl _,Nat.le_refl _⟩
 |par hs ho hk2 ha hb=>
  rename_i s _ _ _ _ _ _ _
  by_cases h2:k'≤s
  ·exact ⟨_,_,.bin hs ho h2 ha hb,by simp only[List.length_append,List.length_cons,List.length_nil];omega,by omega⟩
  ·exact ⟨_,_,.par hs ho (by omega) ha hb,Nat.le_refl _,Nat.le_refl _⟩
theorem PE.paren {e:Ex} {ts:List KT} {d:Nat} (h:PE e 0 ts d):∃ ts' d',PE e 6 ts' d'∧ts'.length≤ts.length+2∧d'≤d+1:=by
 cases h with
 |num h=>exact ⟨_,_,.num h,by omega,by omega⟩
 |var h=>exact ⟨_,_,.var h,by omega,by omega⟩
 |elem h ha=>exact ⟨_,_,.elem h ha,by omega,by omega⟩
 |call h ha=>exact ⟨_,_,.call h ha,by omega,by omega⟩
 |neg ha=>exact ⟨_,_,.neg ha,by omega,by omega⟩
 |not ha=>exact ⟨_,_,.not ha,by omega,by omega⟩
 |bin hs ho hk2 ha hb=>exact ⟨_,_,.par hs ho hs ha hb,by simp only[List.length_append,List.length_cons,List.length_nil];omega,by omega⟩
 |par hs ho hk2 ha hb=>omega
theorem PEs.snoc:∀ {l:List Ex} {a:Ex} {t0 t1:List KT} {d0 d1:Nat},PEs l t0 d0→PE a 0 t1 d1→∃ t,PEs (l++[a]) t (max d0 d1)∧t.length=t0.length+(if l=[] then 0 else 1)+t1.length:=by
 intro l
 induction l with
 |nil=>
  intro a t0 t1 d0 d1 h h1
  cases h with
  |nil=>exact ⟨t1,by rw[Nat.zero_max];exact .one h1,by simp⟩
 |cons b l ih=>
  intro a t0 t1 d0 d1 h h1
  cases h with
  |one hb=>exact ⟨_,.more hb (.one h1),by simp only[List.length_append,List.length_cons];simp;omega⟩
  |more hb hl=>
   obtain ⟨t,g1,g2⟩:=ih hl h1
   exact ⟨_,by rw[Nat.max_assoc];exact .more hb g1,by simp only[List.length_append,List.length_cons,g2];simp;omega⟩
/-! ### What is read can be printed -/
def Wh {A:Type} (P:A→Nat→Nat→Prop) (r:OR A):Prop:=∀ v i op,r=some (.ok v i op)→P v i op
theorem wh_bind {A B:Type} {r:OR A} {k:A→Nat→Nat→OR B} {P:A→Nat→Nat→Prop} {Q:B→Nat→Nat→Prop} (hr:Wh P r) (hk:∀ v i op,P v i op→Wh Q (k v i op)):Wh Q (obind r k):=fun v i op h=>by
 rcases obind_some h with ⟨w,i1,op1,h1,h2⟩|⟨_,_,_,h2⟩
 ·exact hk _ _ _ (hr _ _ _ h1) v i op h2
 ·cases h2
theorem wh_any {A B:Type} {r:OR A} {k:A→Nat→Nat→OR B} {Q:B→Nat→Nat→Prop} (hk:∀ v i op,r=some (.ok v i op)→Wh Q (k v i op)):Wh Q (obind r k):=wh_bind (fun _ _ _ h=>h) hk
theorem wh_ok {A:Type} {P:A→Nat→Nat→Prop} {v:A} {i op:Nat} (h:P v i op):Wh P (some (.ok v i op)):=fun _ _ _ e=>by cases e;exact h
theorem wh_none {A:Type} {P:A→Nat→Nat→Prop}:Wh P none:=fun _ _ _ e=>by cases e
theorem wh_mono {A:Type} {P Q:A→Nat→Nat→Prop} {r:OR A} (h:Wh P r) (hPQ:∀ v i op,P v i op→Q v i op):Wh Q r:=fun v i op e=>hPQ _ _ _ (h v i op e)
theorem wh_begin {B:Type} {T:List Tok} {x:List UInt8} {i op:Nat} {k:Unit→Nat→Nat→OR B} {Q:B→Nat→Nat→Prop} (hk:op<100→Wh Q (k () (i+1) (op+1))):Wh Q (obind (some (sBegin T x i op)) k):=wh_any fun v i1 op1 h=>by
 injection h with h
 obtain ⟨rfl,rfl,h3,_⟩:=sBegin_ok h
 exact hk h3
theorem wh_end {B:Type} {T:List Tok} {x:List UInt8} {i op:Nat} {k:Unit→Nat→Nat→OR B} {Q:B→Nat→Nat→Prop} (hk:Wh Q (k () (i+1) (op-1))):Wh Q (obind (some (sEnd T x i op)) k):=wh_any fun v i1 op1 h=>by
 injection h with h
 obtain ⟨rfl,rfl,_⟩:=sEnd_ok h
 exact hk
theorem wh_need {B:Type} {T:List Tok} {x:List UInt8} {i op:Nat} {k:Unit→Nat→Nat→OR B} {Q:B→Nat→Nat→Prop} (hk:Wh Q (k () (i+1) op)):Wh Q (obind (some (sNeed T x i op)) k):=wh_any fun v i1 op1 h=>by
 obtain ⟨rfl,rfl⟩:=nd_need h
 exact hk
theorem word_again {T:List Tok} (hT:∀ t∈T,Again t) {i op i' op':Nat} {s:List UInt8} (h:sWord T 2 i op=.ok s i' op'):NameOk s∧i'=i+1∧op'=op:=by
 unfold sWord at h
 split at h
 ·rename_i t ht
  split at h
  ·rename_i hk
   cases h
   have:=hT t (List.mem_of_getElem? ht)
   refine ⟨?_,rfl,rfl⟩
   unfold NameOk
   unfold Again at this ⊢
   rw[hk] at this
   exact this
  ·cases h
 ·cases h
theorem wh_name {B:Type} {T:List Tok} (hT:∀ t∈T,Again t) {i op:Nat} {k:List UInt8→Nat→Nat→OR B} {Q:B→Nat→Nat→Prop} (hk:∀ s,NameOk s→Wh Q (k s (i+1) op)):Wh Q (obind (some (sWord T 2 i op)) k):=wh_any fun v i1 op1 h=>by
 injection h with h
 obtain ⟨h1,rfl,rfl⟩:=word_again hT h
 exact hk v h1
theorem numOf_lt (s:List UInt8):numOf s<4294967296:=by
 unfold numOf
 split
 ·rename_i u h
  exact pu32_lt h
 ·decide
theorem wh_number {B:Type} {T:List Tok} {i op:Nat} {k:Nat→Nat→Nat→OR B} {Q:B→Nat→Nat→Prop} (hk:∀ n,n<4294967296→Wh Q (k n (i+1) op)):Wh Q (obind (some (sNumber T i op)) k):=wh_any fun v i1 op1 h=>by
 injection h with h
 unfold sNumber Res.bind at h
 split at h
 ·rename_i h1
  cases h
  obtain ⟨rfl,rfl⟩:=nd_word (congrArg some h1)
  exact hk _ (numOf_lt _)
 ·cases h
theorem isTok_text {T:List Tok} {i:Nat} {xs:List (List UInt8)} (h:isTok T i xs=true):textAt T i∈xs:=by
 unfold isTok at h
 unfold textAt
 split at h
 ·rename_i t ht
  simp only[Bool.and_eq_true] at h
  simpa using h.2
 ·cases h
def SE (k i op:Nat) (e:Ex) (i' op':Nat):Prop:=op'=op∧∃ ts d,PE e k ts d∧ts.length+i≤i'∧d≤100-op
def SX (i op:Nat) (e:Ex) (i' op':Nat):Prop:=op'=op∧∃ ts d,PE e 0 ts d∧ts.length+2+i≤i'∧d+1≤100-op
def SA (i op:Nat) (l:List Ex) (i' op':Nat):Prop:=op'=op∧∃ ts d,PEs l ts d∧ts.length+2+i≤i'∧d+1≤100-op
def SL (i op:Nat) (l:List Ex) (i' op':Nat):Prop:=op'=op∧∃ ts d,PEs l ts d∧ts.length+i≤i'∧d≤100-op
theorem ex_src {T:List Tok} (hT:∀ t∈T,Again t):∀ f:Nat,(∀ k i op,k≤6→Wh (SE k i op) (eLev T f k i op))∧(∀ k e i0 i op ts d,k<6→PE e (leftLv k) ts d→ts.length+i0≤i→d≤100-op→Wh (SE k i0 op) (eLoop T f k e i op)) ∧
  (∀ i op,Wh (SE 6 i op) (eUnary T f i op))∧(∀ i op,Wh (SE 6 i op) (ePrim T f i op))∧(∀ i op,Wh (SX i op) (eIndex T f i op))∧(∀ i op,Wh (SA i op) (eArgs T f i op)) ∧
  (∀ acc i0 i op ts d,PEs acc ts d→ts.length+i0≤i→d≤100-op→Wh (SL i0 op) (eArgsLoop T f acc i op))
 |0=>⟨fun _ _ _ _=>by rw[eLev];exact wh_none,fun _ _ _ _ _ _ _ _ _ _ _=>by rw[eLoop];exact wh_none,fun _ _=>by rw[eUnary];exact wh_none,fun _ _=>by rw[ePrim];exact wh_none,fun _ _=>by rw[eIndex];exact wh_none,fun _ _=>by rw[eArgs];exact wh_none,fun _ _ _ _ _ _ _ _ _=>by rw[eArgsLoop];exact wh_none⟩
 |f+1=>by
  obtain ⟨hL,hO,hU,hP,hI,hA,hB⟩:=ex_src hT f
  refine ⟨fun k i op hk=>?_,fun k e i0 i op ts d hk hP0 hts hd=>?_,fun i op=>?_,fun i op=>?_,fun i op=>?_,fun i op=>?_,fun acc i0 i op ts d hP0 hts hd=>?_⟩
  ·rw[eLev]
   split
   ·rename_i h6
    subst h6
    exact hU i op
   ·refine wh_bind (hL (k+1) i op (by omega)) fun v i' op' h=>?_
    obtain ⟨rfl,ts,d,h1,h2,h3⟩:=h
    obtain ⟨ts',d',g1,g2,g3⟩:=h1.weak (k':=leftLv k) (by unfold leftLv;split <;> omega)
    exact hO k v i i' _ ts' d' (by omega) g1 (by omega) (by omega)
  ·rw[eLoop]
   split
   ·rename_i ht
    refine wh_bind (hL (k+1) (i+1) op (by omega)) fun v i' op' h=>?_
    obtain ⟨rfl,t2,d2,h1,h2,h3⟩:=h
    have hb:PE (.mk (textAt T i) 0 [] [e,v]) k (ts++(4,textAt T i)::t2) (max d d2):=.bin hk (isTok_text ht) (Nat.le_refl _) hP0 h1
    split
    ·exact wh_ok ⟨rfl,_,_,hb,by simp only[List.length_append,List.length_cons];omega,by omega⟩
    ·rename_i h22
     refine hO k _ i0 i' _ _ _ hk (by rw[leftLv,if_neg h22];exact hb) (by simp only[List.length_append,List.length_cons];omega) (by omega)
   ·obtain ⟨ts',d',g1,g2,g3⟩:=hP0.weak (k':=k) (by unfold leftLv;split <;> omega)
    exact wh_ok ⟨rfl,ts',d',g1,by omega,by omega⟩
  ·rw[eUnary]
   split
   ·refine wh_begin fun ho=>wh_bind (hU (i+1) (op+1)) fun v i' op' h=>?_
    obtain ⟨rfl,ts,d,h1,h2,h3⟩:=h
    exact wh_ok ⟨by omega,_,_,.neg h1,by simp only[List.length_cons];omega,by omega⟩
   ·split
    ·refine wh_begin fun ho=>wh_bind (hU (i+1) (op+1)) fun v i' op' h=>?_
     obtain ⟨rfl,ts,d,h1,h2,h3⟩:=h
     exact wh_ok ⟨by omega,_,_,.not h1,by simp only[List.length_cons];omega,by omega⟩
    ·exact hP i op
  ·rw[ePrim]
   split
   ·refine wh_begin fun ho=>wh_bind (hL 0 (i+1) (op+1) (by omega)) fun v i' op' h=>wh_end ?_
    obtain ⟨rfl,ts,d,h1,h2,h3⟩:=h
    obtain ⟨ts',d',g1,g2,g3⟩:=h1.paren
    exact wh_ok ⟨by omega,ts',d',g1,by omega,by omega⟩
   ·split
    ·exact wh_number fun n hn=>wh_ok ⟨rfl,_,_,.num hn,by simp only[List.length_cons,List.length_nil];omega,by omega⟩
    ·refine wh_name hT fun s hs=>?_
     split
     ·refine wh_bind (hI (i+1) op) fun v i' op' h=>?_
      obtain ⟨rfl,ts,d,h1,h2,h3⟩:=h
      exact wh_ok ⟨rfl,_,_,.elem hs h1,by simp only[List.length_cons,List.length_append,List.length_nil];omega,by omega⟩
     ·split
      ·refine wh_bind (hA (i+1) op) fun v i' op' h=>?_
       obtain ⟨rfl,ts,d,h1,h2,h3⟩:=h
       exact wh_ok ⟨rfl,_,_,.call hs h1,by simp only[List.length_cons,List.length_append,List.length_nil];omega,by omega⟩
      ·exact wh_ok ⟨rfl,_,_,.var hs,by simp only[List.length_cons,List.length_nil];omega,by omega⟩
  ·rw[eIndex]
   refine wh_begin fun ho=>wh_bind (hL 0 (i+1) (op+1) (by omega)) fun v i' op' h=>wh_end ?_
   obtain ⟨rfl,ts,d,h1,h2,h3⟩:=h
   exact wh_ok ⟨by omega,ts,d,h1,by omega,by omega⟩
  ·rw[eArgs]
   refine wh_begin fun ho=>wh_bind (hB [] (i+1) (i+1) (op+1) [] 0 .nil (by simp) (by omega)) fun v i' op' h=>wh_end ?_
   obtain ⟨rfl,ts,d,h1,h2,h3⟩:=h
   exact wh_ok ⟨by omega,ts,d,h1,by omega,by omega⟩
  ·rw[eArgsLoop]
   split
   ·exact wh_ok ⟨rfl,ts,d,hP0,by omega,by omega⟩
   ·refine wh_any fun _ i1 op1 h1=>?_
    have hi:i1=i+(if acc=[] then 0 else 1)∧op1=op:=by
     injection h1 with h1
     split at h1
     ·rename_i ha
      cases h1
      rw[if_pos ha]
      exact ⟨rfl,rfl⟩
     ·rename_i ha
      rw[if_neg ha]
      exact nd_need (congrArg some h1)
    obtain ⟨rfl,rfl⟩:=hi
    refine wh_bind (hL 0 _ op1 (by omega)) fun v i' op' h=>?_
    obtain ⟨rfl,t2,d2,h1,h2,h3⟩:=h
    obtain ⟨t,g1,g2⟩:=hP0.snoc h1
    exact hB _ i0 i' _ t _ g1 (by omega) (by omega)
/-! ### Statements -/
mutual
inductive PS:Sm→List KT→Nat→Prop
 |assign {s:List UInt8} {e:Ex} {ts:List KT} {d:Nat} (h:NameOk s) (he:PE e 0 ts d):PS (.mk 1 s [] [e] [] []) ((2,s)::sg 61::(ts++[sg 59])) d
 |store {s:List UInt8} {x e:Ex} {t1 t2:List KT} {d1 d2:Nat} (h:NameOk s) (hx:PE x 0 t1 d1) (he:PE e 0 t2 d2):PS (.mk 2 s [x] [e] [] []) ((2,s)::sg 91::(t1++sg 93::sg 61::(t2++[sg 59]))) (max (d1+1) d2)
 |call {s:List UInt8} {l:List Ex} {ts:List KT} {d:Nat} (h:NameOk s) (hl:PEs l ts d):PS (.mk 6 [] [] [.mk nCall 0 s l] [] []) ((2,s)::sg 40::(ts++[sg 41,sg 59])) (d+1)
 |ret {e:Ex} {ts:List KT} {d:Nat} (he:PE e 0 ts d):PS (.mk 5 [] [] [e] [] []) ((3,kwReturn)::(ts++[sg 59])) d
 |halt:PS (.mk 7 [] [] [] [] []) [(3,kwHalt),sg 59] 0
 |ifElse {e:Ex} {th el:List Sm} {ts t1 t2:List KT} {d d1 d2:Nat} (he:PE e 0 ts d) (h1:PSs th t1 d1) (h2:PSs el t2 d2) (hne:el≠[]) :
   PS (.mk 3 [] [] [e] th el) ((3,kwIf)::(ts++sg 123::(t1++sg 125::(3,kwElse)::sg 123::(t2++[sg 125])))) (max d (max (d1+1) (d2+1)))
 |ifThen {e:Ex} {th:List Sm} {ts t1:List KT} {d d1:Nat} (he:PE e 0 ts d) (h1:PSs th t1 d1):PS (.mk 3 [] [] [e] th []) ((3,kwIf)::(ts++sg 123::(t1++[sg 125]))) (max d (d1+1))
 |while {e:Ex} {th:List Sm} {ts t1:List KT} {d d1:Nat} (he:PE e 0 ts d) (h1:PSs th t1 d1):PS (.mk 4 [] [] [e] th []) ((3,kwWhile)::(ts++sg 123::(t1++[sg 125]))) (max d (d1+1))
inductive PSs:List Sm→List KT→Nat→Prop
 |nil:PSs [] [] 0
 |cons {s:Sm} {l:List Sm} {t1 t2:List KT} {d1 d2:Nat} (h:PS s t1 d1) (hl:PSs l t2 d2):PSs (s::l) (t1++t2) (max d1 d2)
end
theorem PSs.snoc:∀ {l:List Sm} {a:Sm} {t0 t1:List KT} {d0 d1:Nat},PSs l t0 d0→PS a t1 d1→PSs (l++[a]) (t0++t1) (max d0 d1):=by
 intro l
 induction l with
 |nil=>
  intro a t0 t1 d0 d1 h h1
  cases h with
  |nil=>
   have:=PSs.cons h1 .nil
   rw[List.append_nil,Nat.max_zero] at this
   rw[Nat.zero_max]
   exact this
 |cons b l ih=>
  intro a t0 t1 d0 d1 h h1
  cases h with
  |cons hb hl=>
   rw[List.append_assoc,Nat.max_assoc]
   exact .cons hb (ih hl h1)
def SS (i op:Nat) (s:Sm) (i' op':Nat):Prop:=op'=op∧∃ ts d,PS s ts d∧ts.length+i≤i'∧d≤100-op
def SM (i op:Nat) (s:Sm) (i' op':Nat):Prop:=op'=op∧∃ ts d,PS s ts d∧ts.length+i≤i'+1∧d≤100-op
def SSs (i op:Nat) (s:List Sm) (i' op':Nat):Prop:=op'=op∧∃ ts d,PSs s ts d∧ts.length+i≤i'∧d≤100-op
def SB (i op:Nat) (s:List Sm) (i' op':Nat):Prop:=op'=op∧∃ ts d,PSs s ts d∧ts.length+2+i≤i'∧d+1≤100-op
theorem st_src {T:List Tok} (hT:∀ t∈T,Again t):∀ f:Nat,(∀ i op,Wh (SB i op) (sBlock T f i op))∧(∀ acc i0 i op ts d,PSs acc ts d→ts.length+i0≤i→d≤100-op→Wh (SSs i0 op) (sStmts T f acc i op)) ∧
  (∀ i op,Wh (SS i op) (sStmt T f i op))∧(∀ i op,Wh (SM i op) (sSimple T f i op))
 |0=>⟨fun _ _=>by rw[sBlock];exact wh_none,fun _ _ _ _ _ _ _ _ _=>by rw[sStmts];exact wh_none,fun _ _=>by rw[sStmt];exact wh_none,fun _ _=>by rw[sSimple];exact wh_none⟩
 |f+1=>by
  obtain ⟨hB,hL,hS,hM⟩:=st_src hT f
  obtain ⟨eL,_,_,_,eI,eA,_⟩:=ex_src hT f
  refine ⟨fun i op=>?_,fun acc i0 i op ts d hP0 hts hd=>?_,fun i op=>?_,fun i op=>?_⟩
  ·rw[sBlock]
   refine wh_begin fun ho=>wh_bind (hL [] (i+1) (i+1) (op+1) [] 0 .nil (by simp) (by omega)) fun v i' op' h=>wh_end ?_
   obtain ⟨rfl,ts,d,h1,h2,h3⟩:=h
   exact wh_ok ⟨by omega,ts,d,h1,by omega,by omega⟩
  ·rw[sStmts]
   split
   ·exact wh_ok ⟨rfl,ts,d,hP0,hts,hd⟩
   ·refine wh_bind (hS i op) fun v i' op' h=>?_
    obtain ⟨rfl,t2,d2,h1,h2,h3⟩:=h
    exact hL _ i0 i' _ _ _ (hP0.snoc h1) (by simp only[List.length_append];omega) (by omega)
  ·rw[sStmt]
   split
   ·refine wh_bind (eL 0 (i+1) op (by omega)) fun v i1 op1 h=>?_
    obtain ⟨rfl,t1,d1,g1,g2,g3⟩:=h
    refine wh_bind (hB i1 _) fun th i2 op2 h=>?_
    obtain ⟨rfl,t2,d2,k1,k2,k3⟩:=h
    split
    ·refine wh_bind (hB (i2+1) _) fun el i3 op3 h=>?_
     obtain ⟨rfl,t3,d3,l1,l2,l3⟩:=h
     by_cases hne:el=[]
     ·subst hne
      exact wh_ok ⟨rfl,_,_,.ifThen g1 k1,by simp only[List.length_cons,List.length_append,List.length_nil];omega,by omega⟩
     ·exact wh_ok ⟨rfl,_,_,.ifElse g1 k1 l1 hne,by simp only[List.length_cons,List.length_append,List.length_nil];omega,by omega⟩
    ·exact wh_ok ⟨rfl,_,_,.ifThen g1 k1,by simp only[List.length_cons,List.length_append,List.length_nil];omega,by omega⟩
   ·split
    ·refine wh_bind (eL 0 (i+1) op (by omega)) fun v i1 op1 h=>?_
     obtain ⟨rfl,t1,d1,g1,g2,g3⟩:=h
     refine wh_bind (hB i1 _) fun th i2 op2 h=>?_
     obtain ⟨rfl,t2,d2,k1,k2,k3⟩:=h
     exact wh_ok ⟨rfl,_,_,.while g1 k1,by simp only[List.length_cons,List.length_append,List.length_nil];omega,by omega⟩
    ·refine wh_bind (hM i op) fun v i1 op1 h=>wh_need ?_
     obtain ⟨rfl,t1,d1,g1,g2,g3⟩:=h
     exact wh_ok ⟨rfl,_,_,g1,by omega,by omega⟩
  ·rw[sSimple]
   split
   ·refine wh_bind (eL 0 (i+1) op (by omega)) fun v i1 op1 h=>?_
    obtain ⟨rfl,t1,d1,g1,g2,g3⟩:=h
    exact wh_ok ⟨rfl,_,_,.ret g1,by simp only[List.length_cons,List.length_append,List.length_nil];omega,by omega⟩
   ·split
    ·exact wh_ok ⟨rfl,_,_,.halt,by simp only[List.length_cons,List.length_append,List.length_nil];omega,by omega⟩
    ·refine wh_name hT fun s hs=>?_
     split
     ·refine wh_bind (eA (i+1) op) fun v i1 op1 h=>?_
      obtain ⟨rfl,t1,d1,g1,g2,g3⟩:=h
      exact wh_ok ⟨rfl,_,_,.call hs g1,by simp only[List.length_cons,List.length_append,List.length_nil];omega,by omega⟩
     ·split
      ·refine wh_bind (eI (i+1) op) fun v i1 op1 h=>wh_need ?_
       obtain ⟨rfl,t1,d1,g1,g2,g3⟩:=h
       refine wh_bind (eL 0 (i1+1) _ (by omega)) fun e i2 op2 h=>?_
       obtain ⟨rfl,t2,d2,k1,k2,k3⟩:=h
       exact wh_ok ⟨rfl,_,_,.store hs g1 k1,by simp only[List.length_cons,List.length_append,List.length_nil];omega,by omega⟩
      ·refine wh_need (wh_bind (eL 0 (i+1+1) op (by omega)) fun e i2 op2 h=>?_)
       obtain ⟨rfl,t2,d2,k1,k2,k3⟩:=h
       exact wh_ok ⟨rfl,_,_,.assign hs k1,by simp only[List.length_cons,List.length_append,List.length_nil];omega,by omega⟩
/-! ### Declarations -/
def commas:List (List UInt8)→List KT
 |[]=>[]
 |[a]=>[(2,a)]
 |a::b::l=>(2,a)::sg 44::commas (b::l)
theorem commas_len:∀ l:List (List UInt8),(commas l).length=2 * l.length-1
 |[]=>rfl
 |[a]=>rfl
 |a::b::l=>by
  rw[commas,List.length_cons,List.length_cons,commas_len (b::l)]
  simp only[List.length_cons]
  omega
def varK (l:List (List UInt8)):List KT:=if l=[] then [] else (3,kwVar)::(commas l++[sg 59])
theorem varK_len (l:List (List UInt8)):(varK l).length=if l=[] then 0 else 2 * l.length+1:=by
 unfold varK
 split
 ·rfl
 ·rename_i h
  have:0<l.length:=List.length_pos_iff.2 h
  simp only[List.length_cons,List.length_append,commas_len,List.length_nil]
  omega
def AllOk (l:List (List UInt8)):Prop:=∀ x∈l,NameOk x
theorem AllOk.app {a b:List (List UInt8)} (ha:AllOk a) (hb:AllOk b):AllOk (a++b):=fun x hx=>by
 rcases List.mem_append.1 hx with h|h
 ·exact ha x h
 ·exact hb x h
inductive PF:FnD→List KT→Nat→Prop
 |mk {nm:List UInt8} {ps ls:List (List UInt8)} {b:List Sm} {ts:List KT} {d:Nat} (h:NameOk nm) (hp:AllOk ps) (hl:AllOk ls) (hb:PSs b ts d) :
   PF ⟨nm,ps,ls,b⟩ ((3,kwFunc)::(2,nm)::sg 40::(commas ps++sg 41::sg 123::(varK ls++(ts++[sg 125])))) (d+1)
inductive PFs:List FnD→List KT→Prop
 |nil:PFs [] []
 |cons {f:FnD} {l:List FnD} {t1 t2:List KT} {d:Nat} (h:PF f t1 d) (hd:d≤100) (hl:PFs l t2):PFs (f::l) (t1++t2)
def arK (a:Ar):List KT:=[(3,kwArray),(2,a.name),sg 91,(1,Go.Lib.decDigits a.size),sg 93,sg 59]
def ArsOk (l:List Ar):Prop:=∀ a∈l,NameOk a.name∧a.size<4294967296
inductive PP:Pr→List KT→Prop
 |mk {v:List (List UInt8)} {a:List Ar} {f:List FnD} {ts:List KT} (hv:AllOk v) (ha:ArsOk a) (hf:PFs f ts):PP ⟨v,a,f⟩ (varK v++((a.map arK).flatten++ts))
theorem PFs.snoc:∀ {l:List FnD} {a:FnD} {t0 t1:List KT} {d:Nat},PFs l t0→PF a t1 d→d≤100→PFs (l++[a]) (t0++t1):=by
 intro l
 induction l with
 |nil=>
  intro a t0 t1 d h h1 hd
  cases h with
  |nil=>
   have:=PFs.cons h1 hd .nil
   rw[List.append_nil] at this
   exact this
 |cons b l ih=>
  intro a t0 t1 d h h1 hd
  cases h with
  |cons hb hd' hl=>
   rw[List.append_assoc]
   exact .cons hb hd' (ih hl h1 hd)
theorem namesLoop_src {T:List Tok} (hT:∀ t∈T,Again t):∀ (f:Nat) (acc:List (List UInt8)) (i op:Nat),AllOk acc→Wh (fun l i' op'=>op'=op∧AllOk l∧acc.length≤l.length∧2 * l.length+i≤2 * acc.length+i') (sNamesLoop T f acc i op)
 |0,_,_,_,_=>by rw[sNamesLoop];exact wh_none
 |f+1,acc,i,op,ha=>by
  rw[sNamesLoop]
  split
  ·refine wh_name hT fun s hs=>wh_mono (namesLoop_src hT f (acc++[s]) (i+1+1) op (ha.app fun x hx=>by cases List.mem_singleton.1 hx;exact hs)) fun l i' op' h=>?_
   obtain ⟨rfl,h1,h2,h3⟩:=h
   rw[List.length_append,List.length_singleton] at h2 h3
   exact ⟨rfl,h1,by omega,by omega⟩
  ·exact wh_ok ⟨rfl,ha,Nat.le_refl _,by omega⟩
theorem names_src {T:List Tok} (hT:∀ t∈T,Again t) (f i op:Nat):Wh (fun l i' op'=>op'=op∧AllOk l∧0<l.length∧2 * l.length+i≤1+i') (sNames T f i op):=
 wh_name hT fun s hs=>wh_mono (namesLoop_src hT f [s] (i+1) op fun x hx=>by cases List.mem_singleton.1 hx;exact hs) fun l i' op' h=>by
  obtain ⟨rfl,h1,h2,h3⟩:=h
  rw[List.length_singleton] at h2 h3
  exact ⟨rfl,h1,by omega,by omega⟩
theorem vars_src {T:List Tok} (hT:∀ t∈T,Again t):∀ (f:Nat) (acc:List (List UInt8)) (i op:Nat),AllOk acc→Wh (fun l i' op'=>op'=op∧AllOk l∧acc.length≤l.length∧(if acc.length=l.length then i≤i' else 2 * l.length+1+i≤2 * acc.length+i')) (sVars T f acc i op)
 |0,_,_,_,_=>by rw[sVars];exact wh_none
 |f+1,acc,i,op,ha=>by
  rw[sVars]
  split
  ·refine wh_bind (names_src hT f (i+1) op) fun l i1 op1 h=>wh_need ?_
   obtain ⟨rfl,h1,h2,h3⟩:=h
   refine wh_mono (vars_src hT f (acc++l) (i1+1) _ (ha.app h1)) fun l2 i' op' h=>?_
   obtain ⟨rfl,g1,g2,g3⟩:=h
   rw[List.length_append] at g2 g3
   refine ⟨rfl,g1,by omega,?_⟩
   rw[if_neg (by omega)]
   split at g3 <;> omega
  ·exact wh_ok ⟨rfl,ha,Nat.le_refl _,by rw[if_pos rfl];omega⟩
theorem func_src {T:List Tok} (hT:∀ t∈T,Again t) (f i:Nat):Wh (fun a i' op'=>op'=0∧∃ ts d,PF a ts d∧d≤100∧ts.length+i≤i'+1) (sFunc T f i 0):=by
 unfold sFunc
 refine wh_name hT fun nm hnm=>wh_begin fun _=>wh_bind (P:=fun ps i' op'=>op'=1∧AllOk ps∧2 * ps.length-1+(i+1+1)≤i') ?_ fun ps i1 op1 h=>wh_end (wh_begin fun _=>?_)
 ·split
  ·exact wh_ok ⟨rfl,(fun x hx=>by cases hx),by simp⟩
  ·exact wh_mono (names_src hT f _ _) fun l i' op' h=>⟨h.1,h.2.1,by omega⟩
 obtain ⟨rfl,h1,h2⟩:=h
 refine wh_bind (vars_src hT f [] _ _ fun x hx=>by cases hx) fun ls i2 op2 h=>?_
 obtain ⟨rfl,g1,_,g3⟩:=h
 refine wh_bind ((st_src hT f).2.1 [] i2 i2 _ [] 0 .nil (by simp) (by omega)) fun b i3 op3 h=>wh_end ?_
 obtain ⟨rfl,ts,d,k1,k2,k3⟩:=h
 refine wh_ok ⟨by omega,_,_,.mk hnm h1 g1 k1,by omega,?_⟩
 simp only[List.length_cons,List.length_append,List.length_nil,commas_len,varK_len] at g3 ⊢
 by_cases hl:ls=[]
 ·subst hl
  simp only[List.length_nil,if_pos] at g3 ⊢
  omega
 ·have:¬ 0=ls.length:=fun h=>hl (List.eq_nil_of_length_eq_zero h.symm)
  rw[if_neg this] at g3
  rw[if_neg hl]
  omega
theorem array_src {T:List Tok} (hT:∀ t∈T,Again t) (i:Nat):Wh (fun a i' op'=>op'=0∧NameOk a.name∧a.size<4294967296∧5+i≤i') (sArray T i 0):=by
 unfold sArray
 exact wh_name hT fun nm hnm=>wh_begin fun _=>wh_number fun n hn=>wh_end (wh_need (wh_ok ⟨rfl,hnm,hn,by omega⟩))
def ntK (v:Nat) (a:Nat) (t:Nat):Nat:=(if v=0 then 0 else 2 * v+1)+6 * a+t
theorem prog_src {T:List Tok} (hT:∀ t∈T,Again t):∀ (f:Nat) (v:List (List UInt8)) (a:List Ar) (fs:List FnD) (ts:List KT) (i:Nat),AllOk v→ArsOk a→PFs fs ts→ntK v.length a.length ts.length≤i→i≤T.length →
  Wh (fun q _ _=>∃ v' a' f' t',q=⟨v',a',f'⟩∧AllOk v'∧ArsOk a'∧PFs f' t'∧ntK v'.length a'.length t'.length≤T.length) (sProg T f ⟨v,a,fs⟩ i 0)
 |0,_,_,_,_,_,_,_,_,_,_=>by rw[sProg];exact wh_none
 |f+1,v,a,fs,ts,i,hv,ha,hf,hi,hT'=>by
  rw[sProg]
  split
  ·exact wh_ok ⟨_,_,_,_,rfl,hv,ha,hf,by omega⟩
  rename_i hlt
  split
  ·rename_i hw
   refine wh_any fun l i1 op1 h1=>?_
   have hg:=(sVars_good T f [] i 0 _ h1).2.2.1 hT'
   obtain ⟨rfl,g1,_,g3⟩:=vars_src hT f [] i 0 (fun x hx=>by cases hx) _ _ _ h1
   refine prog_src hT f (v++l) a fs ts i1 (hv.app g1) ha hf ?_ hg
   rw[List.length_append]
   simp only[List.length_nil] at g3
   unfold ntK at hi ⊢
   split at g3
   ·rename_i h0
    rw[←h0,Nat.add_zero]
    omega
   ·rw[if_neg (by omega)]
    split at hi <;> omega
  ·split
   ·refine wh_any fun l i1 op1 h1=>?_
    have hg:=(sArray_good T (i+1) 0 _ h1).2.2.1 (by omega)
    obtain ⟨rfl,g1,g2,g3⟩:=array_src hT (i+1) _ _ _ h1
    refine prog_src hT f v (a++[l]) fs ts i1 hv (fun x hx=>?_) hf ?_ hg
    ·rcases List.mem_append.1 hx with h|h
     ·exact ha x h
     ·cases List.mem_singleton.1 h;exact ⟨g1,g2⟩
    ·rw[List.length_append,List.length_singleton]
     unfold ntK at hi ⊢
     omega
   ·split
    ·refine wh_any fun l i1 op1 h1=>?_
     have hg:=(sFunc_good T f (i+1) 0 _ h1).2.2.1 (by omega)
     obtain ⟨rfl,t1,d,g1,g2,g3⟩:=func_src hT f (i+1) _ _ _ h1
     refine prog_src hT f v a (fs++[l]) (ts++t1) i1 hv ha (hf.snoc g1 g2) ?_ hg
     rw[List.length_append]
     unfold ntK at hi ⊢
     omega
    ·exact fun _ _ _ e=>by cases e
theorem arK_len:∀ a:List Ar,((a.map arK).flatten).length=6 * a.length
 |[]=>rfl
 |a::l=>by
  rw[List.map_cons,List.flatten_cons,List.length_append,arK_len l,List.length_cons]
  simp only[arK,List.length_cons,List.length_nil]
  omega
theorem src_print {T:List Tok} (hT:∀ t∈T,Again t) {f i op:Nat} {p:Pr} (h:sProg T f ⟨[],[],[]⟩ 0 0=some (.ok p i op)):∃ ts,PP p ts∧ts.length≤T.length:=by
 obtain ⟨v,a,fs,t,rfl,h1,h2,h3,h4⟩:=prog_src hT f [] [] [] [] 0 (fun x hx=>by cases hx) (fun x hx=>by cases hx) .nil (by simp[ntK]) (Nat.zero_le _) _ _ _ h
 refine ⟨_,.mk h1 h2 h3,?_⟩
 simp only[List.length_append,varK_len,arK_len]
 unfold ntK at h4
 by_cases hv:v=[]
 ·subst hv
  simp only[List.length_nil,if_pos] at h4 ⊢
  omega
 ·have:¬ v.length=0:=fun h=>hv (List.eq_nil_of_length_eq_zero h)
  rw[if_neg this] at h4
  rw[if_neg hv]
  omega
end Go.Stele
namespace Go.Stele
mutual
def nmE (Q:List UInt8→Prop):Ex→Prop
 |.mk op num name args=>Q name∧nmEs Q args
def nmEs (Q:List UInt8→Prop):List Ex→Prop
 |[]=>True
 |x::l=>nmE Q x∧nmEs Q l
end
mutual
def nmS (Q:List UInt8→Prop):Sm→Prop
 |.mk kind name index value thn els=>Q name∧nmEs Q index∧nmEs Q value∧nmSs Q thn∧nmSs Q els
def nmSs (Q:List UInt8→Prop):List Sm→Prop
 |[]=>True
 |x::l=>nmS Q x∧nmSs Q l
end
structure nmF (Q:List UInt8→Prop) (f:FnD):Prop where
 name:Q f.name
 params:∀ x∈f.params,Q x
 locals:∀ x∈f.locals,Q x
 body:nmSs Q f.body
structure nmP (Q:List UInt8→Prop) (p:Pr):Prop where
 vars:∀ x∈p.vars,Q x
 arrays:∀ a∈p.arrays,Q a.name
 funcs:∀ f∈p.funcs,nmF Q f
theorem nmEs_snoc {Q:List UInt8→Prop} {a:Ex} (ha:nmE Q a):∀ {l:List Ex},nmEs Q l→nmEs Q (l++[a])
 |[],_=>⟨ha,trivial⟩
 |x::l,h=>⟨h.1,nmEs_snoc ha h.2⟩
theorem nmSs_snoc {Q:List UInt8→Prop} {a:Sm} (ha:nmS Q a):∀ {l:List Sm},nmSs Q l→nmSs Q (l++[a])
 |[],_=>⟨ha,trivial⟩
 |x::l,h=>⟨h.1,nmSs_snoc ha h.2⟩
section
variable {T:List Tok} {Q:List UInt8→Prop}
def Nms (T:List Tok) (Q:List UInt8→Prop):Prop:=Q []∧∀ t∈T,t.kind=2→Q t.text
theorem wh_word (hT:Nms T Q) {i op:Nat}:Wh (fun s _ _=>Q s) (some (sWord T 2 i op)):=fun v i' op' h=>by
 injection h with h
 unfold sWord at h
 split at h
 ·rename_i t ht
  split at h
  ·rename_i hk
   cases h
   exact hT.2 t (List.mem_of_getElem? ht) hk
  ·cases h
 ·cases h
theorem wh_do {A B:Type} {r:OR A} {k:A→Nat→Nat→OR B} {R:B→Nat→Nat→Prop} (hk:∀ v i op,Wh R (k v i op)):Wh R (obind r k):=wh_any fun v i op _=>hk v i op
theorem ex_nms (hT:Nms T Q):∀ f:Nat,(∀ k i op,Wh (fun e _ _=>nmE Q e) (eLev T f k i op))∧(∀ k e i op,nmE Q e→Wh (fun e _ _=>nmE Q e) (eLoop T f k e i op)) ∧
  (∀ i op,Wh (fun e _ _=>nmE Q e) (eUnary T f i op))∧(∀ i op,Wh (fun e _ _=>nmE Q e) (ePrim T f i op))∧(∀ i op,Wh (fun e _ _=>nmE Q e) (eIndex T f i op))∧(∀ i op,Wh (fun l _ _=>nmEs Q l) (eArgs T f i op)) ∧
  (∀ acc i op,nmEs Q acc→Wh (fun l _ _=>nmEs Q l) (eArgsLoop T f acc i op))
 |0=>⟨fun _ _ _=>by rw[eLev];exact wh_none,fun _ _ _ _ _=>by rw[eLoop];exact wh_none,fun _ _=>by rw[eUnary];exact wh_none,fun _ _=>by rw[ePrim];exact wh_none,fun _ _=>by rw[eIndex];exact wh_none,fun _ _=>by rw[eArgs];exact wh_none,fun _ _ _ _=>by rw[eArgsLoop];exact wh_none⟩
 |f+1=>by
  obtain ⟨hL,hO,hU,hP,hI,hA,hB⟩:=ex_nms hT f
  refine ⟨fun k i op=>?_,fun k e i op hP0=>?_,fun i op=>?_,fun i op=>?_,fun i op=>?_,fun i op=>?_,fun acc i op hP0=>?_⟩
  ·rw[eLev]
   split
   ·exact hU i op
   ·exact wh_bind (hL _ _ _) fun v i' op' h=>hO _ _ _ _ h
  ·rw[eLoop]
   split
   ·refine wh_bind (hL _ _ _) fun v i' op' h=>?_
    have hb:nmE Q (.mk (textAt T i) 0 [] [e,v]):=⟨hT.1,hP0,h,trivial⟩
    split
    ·exact wh_ok hb
    ·exact hO _ _ _ _ hb
   ·exact wh_ok hP0
  ·rw[eUnary]
   split
   ·exact wh_do fun _ _ _=>wh_bind (hU _ _) fun v i' op' h=>wh_ok ⟨hT.1,h,trivial⟩
   ·split
    ·exact wh_do fun _ _ _=>wh_bind (hU _ _) fun v i' op' h=>wh_ok ⟨hT.1,h,trivial⟩
    ·exact hP i op
  ·rw[ePrim]
   split
   ·exact wh_do fun _ _ _=>wh_bind (hL _ _ _) fun v i' op' h=>wh_do fun _ _ _=>wh_ok h
   ·split
    ·exact wh_do fun _ _ _=>wh_ok ⟨hT.1,trivial⟩
    ·refine wh_bind (wh_word hT) fun s _ _ hs=>?_
     split
     ·exact wh_bind (hI _ _) fun v i' op' h=>wh_ok ⟨hs,h,trivial⟩
     ·split
      ·exact wh_bind (hA _ _) fun v i' op' h=>wh_ok ⟨hs,h⟩
      ·exact wh_ok ⟨hs,trivial⟩
  ·rw[eIndex]
   exact wh_do fun _ _ _=>wh_bind (hL _ _ _) fun v i' op' h=>wh_do fun _ _ _=>wh_ok h
  ·rw[eArgs]
   exact wh_do fun _ _ _=>wh_bind (hB [] _ _ trivial) fun v i' op' h=>wh_do fun _ _ _=>wh_ok h
  ·rw[eArgsLoop]
   split
   ·exact wh_ok hP0
   ·exact wh_do fun _ _ _=>wh_bind (hL _ _ _) fun v i' op' h=>hB _ _ _ (nmEs_snoc h hP0)
theorem st_nms (hT:Nms T Q):∀ f:Nat,(∀ i op,Wh (fun l _ _=>nmSs Q l) (sBlock T f i op))∧(∀ acc i op,nmSs Q acc→Wh (fun l _ _=>nmSs Q l) (sStmts T f acc i op)) ∧
  (∀ i op,Wh (fun s _ _=>nmS Q s) (sStmt T f i op))∧(∀ i op,Wh (fun s _ _=>nmS Q s) (sSimple T f i op))
 |0=>⟨fun _ _=>by rw[sBlock];exact wh_none,fun _ _ _ _=>by rw[sStmts];exact wh_none,fun _ _=>by rw[sStmt];exact wh_none,fun _ _=>by rw[sSimple];exact wh_none⟩
 |f+1=>by
  obtain ⟨hB,hL,hS,hM⟩:=st_nms hT f
  obtain ⟨eL,_,_,_,eI,eA,_⟩:=ex_nms hT f
  refine ⟨fun i op=>?_,fun acc i op hP0=>?_,fun i op=>?_,fun i op=>?_⟩
  ·rw[sBlock]
   exact wh_do fun _ _ _=>wh_bind (hL [] _ _ trivial) fun v i' op' h=>wh_do fun _ _ _=>wh_ok h
  ·rw[sStmts]
   split
   ·exact wh_ok hP0
   ·exact wh_bind (hS i op) fun v i' op' h=>hL _ _ _ (nmSs_snoc h hP0)
  ·rw[sStmt]
   split
   ·refine wh_bind (eL 0 _ _) fun v i1 op1 h=>wh_bind (hB _ _) fun th i2 op2 h2=>?_
    split
    ·exact wh_bind (hB _ _) fun el i3 op3 h3=>wh_ok ⟨hT.1,trivial,⟨h,trivial⟩,h2,h3⟩
    ·exact wh_ok ⟨hT.1,trivial,⟨h,trivial⟩,h2,trivial⟩
   ·split
    ·exact wh_bind (eL 0 _ _) fun v i1 op1 h=>wh_bind (hB _ _) fun th i2 op2 h2=>wh_ok ⟨hT.1,trivial,⟨h,trivial⟩,h2,trivial⟩
    ·exact wh_bind (hM i op) fun v i1 op1 h=>wh_do fun _ _ _=>wh_ok h
  ·rw[sSimple]
   split
   ·exact wh_bind (eL 0 _ _) fun v i1 op1 h=>wh_ok ⟨hT.1,trivial,⟨h,trivial⟩,trivial,trivial⟩
   ·split
    ·exact wh_ok ⟨hT.1,trivial,trivial,trivial,trivial⟩
    ·refine wh_bind (wh_word hT) fun s _ _ hs=>?_
     split
     ·exact wh_bind (eA _ _) fun v i1 op1 h=>wh_ok ⟨hT.1,trivial,⟨⟨hs,h⟩,trivial⟩,trivial,trivial⟩
     ·split
      ·exact wh_bind (eI _ _) fun v i1 op1 h=>wh_do fun _ _ _=>wh_bind (eL 0 _ _) fun e i2 op2 h2=>wh_ok ⟨hs,⟨h,trivial⟩,⟨h2,trivial⟩,trivial,trivial⟩
      ·exact wh_do fun _ _ _=>wh_bind (eL 0 _ _) fun e i2 op2 h2=>wh_ok ⟨hs,trivial,⟨h2,trivial⟩,trivial,trivial⟩
theorem mem_snoc {l:List (List UInt8)} {s:List UInt8} (h:∀ x∈l,Q x) (hs:Q s):∀ x∈l++[s],Q x:=fun x hx=>by
 rcases List.mem_append.1 hx with h1|h1
 ·exact h x h1
 ·rw[List.mem_singleton.1 h1];exact hs
theorem namesLoop_nms (hT:Nms T Q):∀ (f:Nat) (acc:List (List UInt8)) (i op:Nat),(∀ x∈acc,Q x)→Wh (fun l _ _=>∀ x∈l,Q x) (sNamesLoop T f acc i op)
 |0,acc,i,op,_=>by rw[sNamesLoop];exact wh_none
 |f+1,acc,i,op,h=>by
  rw[sNamesLoop]
  split
  ·exact wh_bind (wh_word hT) fun s _ _ hs=>namesLoop_nms hT f _ _ _ (mem_snoc h hs)
  ·exact wh_ok h
theorem names_nms (hT:Nms T Q) (f i op:Nat):Wh (fun l _ _=>∀ x∈l,Q x) (sNames T f i op):=by
 unfold sNames
 exact wh_bind (wh_word hT) fun s _ _ hs=>namesLoop_nms hT f _ _ _ fun x hx=>by rw[List.mem_singleton.1 hx];exact hs
theorem vars_nms (hT:Nms T Q):∀ (f:Nat) (acc:List (List UInt8)) (i op:Nat),(∀ x∈acc,Q x)→Wh (fun l _ _=>∀ x∈l,Q x) (sVars T f acc i op)
 |0,acc,i,op,_=>by rw[sVars];exact wh_none
 |f+1,acc,i,op,h=>by
  rw[sVars]
  split
  ·exact wh_bind (names_nms hT f _ _) fun l _ _ hl=>wh_do fun _ _ _=>vars_nms hT f _ _ _ fun x hx=>by
    rcases List.mem_append.1 hx with h1|h1
    ·exact h x h1
    ·exact hl x h1
  ·exact wh_ok h
theorem func_nms (hT:Nms T Q) (f i op:Nat):Wh (fun a _ _=>nmF Q a) (sFunc T f i op):=by
 unfold sFunc
 refine wh_bind (wh_word hT) fun nm _ _ hnm=>wh_do fun _ _ _=>wh_bind (P:=fun l _ _=>∀ x∈l,Q x) ?_ fun ps _ _ hps=>wh_do fun _ _ _=>wh_do fun _ _ _=>wh_bind (vars_nms hT f [] _ _ fun x hx=>by cases hx) fun ls _ _ hls=>wh_bind ((st_nms hT f).2.1 [] _ _ trivial) fun b _ _ hb=>wh_do fun _ _ _=>wh_ok ⟨hnm,hps,hls,hb⟩
 split
 ·exact wh_ok fun x hx=>by cases hx
 ·exact names_nms hT f _ _
theorem array_nms (hT:Nms T Q) (i op:Nat):Wh (fun a _ _=>Q a.name) (sArray T i op):=by
 unfold sArray
 exact wh_bind (wh_word hT) fun nm _ _ hnm=>wh_do fun _ _ _=>wh_do fun _ _ _=>wh_do fun _ _ _=>wh_do fun _ _ _=>wh_ok hnm
theorem prog_nms (hT:Nms T Q):∀ (f:Nat) (p:Pr) (i op:Nat),nmP Q p→Wh (fun q _ _=>nmP Q q) (sProg T f p i op)
 |0,_,_,_,_=>by rw[sProg];exact wh_none
 |f+1,p,i,op,hp=>by
  rw[sProg]
  split
  ·exact wh_ok hp
  split
  ·exact wh_bind (vars_nms hT f [] _ _ fun x hx=>by cases hx) fun l _ _ hl=>prog_nms hT f _ _ _ ⟨fun x hx=>by
    rcases List.mem_append.1 hx with h1|h1
    ·exact hp.vars x h1
    ·exact hl x h1,hp.arrays,hp.funcs⟩
  split
  ·exact wh_bind (array_nms hT _ _) fun a _ _ ha=>prog_nms hT f _ _ _ ⟨hp.vars,fun x hx=>by
    rcases List.mem_append.1 hx with h1|h1
    ·exact hp.arrays x h1
    ·rw[List.mem_singleton.1 h1];exact ha,hp.funcs⟩
  split
  ·exact wh_bind (func_nms hT f _ _) fun a _ _ ha=>prog_nms hT f _ _ _ ⟨hp.vars,hp.arrays,fun x hx=>by
    rcases List.mem_append.1 hx with h1|h1
    ·exact hp.funcs x h1
    ·rw[List.mem_singleton.1 h1];exact ha⟩
  ·exact fun _ _ _ e=>by cases e
end
theorem nmP_none {Q:List UInt8→Prop}:nmP Q ⟨[],[],[]⟩:=⟨(fun x hx=>(List.not_mem_nil hx).elim),(fun x hx=>(List.not_mem_nil hx).elim),(fun x hx=>(List.not_mem_nil hx).elim)⟩
/-! ### A program without the word "in" reads nothing -/
def NotIn (s:List UInt8):Prop:=s≠[105,110]
mutual
theorem nm_noInE:∀ x:Ex,nmE NotIn x→noInE x=true
 |.mk op num name args,h=>by
  rw[noInE,nm_noInEs args h.2,Bool.and_true,decide_eq_false (fun hc=>h.1 hc.2)]
  rfl
theorem nm_noInEs:∀ l:List Ex,nmEs NotIn l→noInEs l=true
 |[],_=>rfl
 |x::l,h=>by rw[noInEs,nm_noInE x h.1,nm_noInEs l h.2];rfl
end
mutual
theorem nm_noInS:∀ x:Sm,nmS NotIn x→noInS x=true
 |.mk kind name index value thn els,h=>by
  rw[noInS,nm_noInEs index h.2.1,nm_noInEs value h.2.2.1,nm_noInSs thn h.2.2.2.1,nm_noInSs els h.2.2.2.2]
  rfl
theorem nm_noInSs:∀ l:List Sm,nmSs NotIn l→noInSs l=true
 |[],_=>rfl
 |x::l,h=>by rw[noInSs,nm_noInS x h.1,nm_noInSs l h.2];rfl
end
theorem run_words {T:List Tok} (hT:∀ t∈T,t.kind=2→t.text≠[105,110]) {f i op:Nat} {p:Pr} (h:sProg T f ⟨[],[],[]⟩ 0 0=some (.ok p i op)) (inp inp':List Nat) (limit:Nat):runI p inp limit=runI p inp' limit:=
 run_noin p (fun g hg=>nm_noInSs _ ((prog_nms (Q:=NotIn) ⟨by unfold NotIn;decide,hT⟩ f _ 0 0 nmP_none p i op h).funcs g hg).body) inp inp' limit
end Go.Stele
namespace Go.Stele
open Go.Lib
theorem last_app {u v:List UInt8} (hv:v≠[]):(u++v).getLast? = v.getLast? := by
 rw[List.getLast?_append]
 cases h:v.getLast? with
 |none=>exact absurd (List.getLast?_eq_none_iff.1 h) hv
 |some c=>rfl
theorem drop_tw {p:UInt8→Bool}:∀ {s:List UInt8} {c:UInt8} {r:List UInt8},s.drop (s.takeWhile p).length=c::r→p c=false
 |[],c,r,h=>by cases h
 |a::s,c,r,h=>by
  by_cases ha:p a=true
  ·rw[List.takeWhile_cons_of_pos ha,List.length_cons,List.drop_succ_cons] at h
   exact drop_tw h
  ·rw[List.takeWhile_cons_of_neg ha,List.length_nil,List.drop_zero] at h
   cases h
   simpa using ha
theorem take_tw (p:UInt8→Bool) (s:List UInt8):s.take (s.takeWhile p).length=s.takeWhile p:=(List.prefix_iff_eq_take.1 (List.takeWhile_prefix p)).symm
theorem last_tw {p:UInt8→Bool} {s:List UInt8} {c:UInt8} (hc:p c=false):(s.takeWhile p).getLast? ≠ some c:=fun h=>by
 have:=tw_mem (List.mem_of_getLast? h)
 rw[hc] at this
 cases this
theorem token_last {s:List UInt8} {c:UInt8} {r:List UInt8} (h:(lexToken s).2.2=0) (hd:s.drop (lexToken s).2.1=c::r) (hc:isLetter c=true):(s.take (lexToken s).2.1).getLast? ≠ some 97:=by
 cases s with
 |nil=>simp at hd
 |cons a t=>
  simp only[lexToken] at h hd ⊢
  split at h
  ·rename_i h1
   rw[if_pos h1] at hd ⊢
   unfold lexNumber at h hd ⊢
   split at h
   ·cases h
   ·rename_i h2
    rw[if_neg h2] at hd ⊢
    split at h
    ·rename_i u hu
     simp only[hu] at hd ⊢
     rw[take_tw]
     exact last_tw (by decide)
    ·cases h
  ·rename_i h1
   rw[if_neg h1] at hd ⊢
   split at h
   ·rename_i h2
    rw[if_pos h2] at hd ⊢
    unfold lexName at h hd ⊢
    split at h
    ·cases h
    ·rename_i h3
     rw[if_neg h3] at hd ⊢
     simp only at hd ⊢
     have:=drop_tw hd
     unfold isInner at this
     rw[hc] at this
     cases this
   ·rename_i h2
    rw[if_neg h2] at hd ⊢
    split at h
    ·rename_i h3
     rw[if_pos h3] at hd ⊢
     match t,h,hd with
     |[],h,_=>cases h
     |[_],h,_=>cases h
     |b::d::t',h,hd=>
      simp only[lexLiteral] at h ⊢
      split at h
      ·cases h
      ·rename_i h4
       rw[if_neg h4]
       intro he
       simp only[List.take_succ_cons,List.take_zero,List.getLast?_cons_cons,List.getLast?_singleton,Option.some.injEq] at he
       subst he
       simp[cv] at h4
    ·rename_i h3
     rw[if_neg h3] at hd ⊢
     unfold lexSign at h hd ⊢
     split at h
     ·rename_i x hx
      simp only[hx] at hd ⊢
      have hm:=List.mem_of_find?_eq_some hx
      have hp:=List.find?_some hx
      have hp':x <+: a::t:=List.isPrefixOf_iff_prefix.1 hp
      rw[←List.prefix_iff_eq_take.1 hp']
      exact (by decide:∀ x∈signs,x.getLast? ≠ some 97) x hm
     ·cases h
theorem skip_last {s:List UInt8} {c:UInt8} {r:List UInt8} (hd:s.drop (skipLen s)=c::r) (hc:isLetter c=true):(s.take (skipLen s)).getLast? ≠ some 97:=by
 unfold skipLen at hd ⊢
 split at hd
 ·rename_i h1
  have h2:=drop_tw hd
  unfold notNl at h2
  unfold isLetter at hc
  simp at h2 hc
  omega
 ·rename_i h1
  rw[if_neg h1,take_tw]
  exact last_tw (by decide)
theorem token_name {s:List UInt8} (h:(lexToken s).1.kind=2):(lexToken s).1.text=s.take (lexToken s).2.1∧∃ c r,(lexToken s).1.text=c::r∧isLetter c=true:=by
 cases s with
 |nil=>cases h
 |cons a t=>
  simp only[lexToken] at h ⊢
  split at h
  ·rename_i h1
   unfold lexNumber at h
   split at h
   ·cases h
   ·split at h <;> cases h
  ·rename_i h1
   rw[if_neg h1]
   split at h
   ·rename_i h2
    rw[if_pos h2]
    unfold lexName at h ⊢
    split at h
    ·cases h
    ·rename_i h3
     rw[if_neg h3]
     simp only
     refine ⟨(take_tw _ _).symm,a,t.takeWhile isInner,?_,h2⟩
     rw[List.takeWhile_cons_of_pos (by unfold isInner;rw[h2];rfl)]
   ·split at h
    ·match t,h with
     |[],h=>cases h
     |[_],h=>cases h
     |b::d::t',h=>
      simp only[lexLiteral] at h
      split at h <;> cases h
    ·unfold lexSign at h
     split at h <;> cases h
theorem name_stands:∀ (f:Nat) (s:List UInt8) (line:Int) (T:List Tok),lexP f s line=.ok T→∀ t∈T,t.kind=2→(∃ c r,t.text=c::r∧isLetter c=true)∧∃ u v,s=u++t.text++v∧u.getLast? ≠ some 97
 |0,s,line,T,h,t,ht,hk=>by
  rw[lexP] at h
  cases h
  cases ht
 |f+1,s,line,T,h,t,ht,hk=>by
  rw[lexP] at h
  split at h
  ·cases h;cases ht
  split at h
  ·split at h
   ·cases h
   ·rename_i h1 h2 h3
    have h3':(lexToken s).2.2=0:=by simpa using h3
    obtain ⟨T',hT',rfl⟩:=map_ok h
    rcases List.mem_cons.1 ht with rfl|ht
    ·obtain ⟨g1,c,r,g2,g3⟩:=token_name (s:=s) hk
     refine ⟨⟨c,r,g2,g3⟩,[],s.drop (lexToken s).2.1,?_,by simp⟩
     simp only[List.nil_append]
     rw[g1,List.take_append_drop]
    ·obtain ⟨⟨c,r,g1,g2⟩,u,v,g3,g4⟩:=name_stands f _ _ _ hT' t ht hk
     refine ⟨⟨c,r,g1,g2⟩,s.take (lexToken s).2.1++u,v,?_,?_⟩
     ·rw[List.append_assoc,List.append_assoc,←List.append_assoc u,←g3,List.take_append_drop]
     ·by_cases hu:u=[]
      ·subst hu
       rw[List.append_nil]
       rw[g1,List.nil_append,List.cons_append] at g3
       exact token_last h3' g3 g2
      ·rw[last_app hu]
       exact g4
  ·obtain ⟨⟨c,r,g1,g2⟩,u,v,g3,g4⟩:=name_stands f _ _ _ h t ht hk
   refine ⟨⟨c,r,g1,g2⟩,s.take (skipLen s)++u,v,?_,?_⟩
   ·rw[List.append_assoc,List.append_assoc,←List.append_assoc u,←g3,List.take_append_drop]
   ·by_cases hu:u=[]
    ·subst hu
     rw[List.append_nil]
     rw[g1,List.nil_append,List.cons_append] at g3
     exact skip_last g3 g2
    ·rw[last_app hu]
     exact g4
/-! ### Contains, ReplaceAll -/
theorem contains_split (u x v:List UInt8):contains (u++x++v) x=true:=by
 unfold contains
 rw[decide_eq_true_eq]
 rcases index_spec (u++x++v) x with ⟨_,h⟩|⟨i,h,_⟩
 ·have:=h u.length (by simp only[List.length_append];omega)
  unfold occAt at this
  rw[List.append_assoc,List.drop_left] at this
  rw[List.isPrefixOf_iff_prefix.2 (List.prefix_append x v)] at this
  cases this
 ·omega
def mainW:List UInt8:=[109,97,105,110]
def inW:List UInt8:=[105,110]
theorem occ_get {s:List UInt8} {i:Nat} (h:occAt s mainW i=true):s[i]? = some 109∧s[i+1]? = some 97∧s[i+2]? = some 105∧s[i+3]? = some 110:=by
 unfold occAt at h
 obtain ⟨w,hw⟩:=List.isPrefixOf_iff_prefix.1 h
 have hg:∀ k,s[i+k]? = (mainW++w)[k]? := fun k=>by rw[hw,List.getElem?_drop]
 exact ⟨hg 0,hg 1,hg 2,hg 3⟩
theorem keep_in:∀ (n:Nat) (u v:List UInt8),u.length<n→u.getLast? ≠ some 97→∃ u' v',replaceK mainW [] (count (u++inW++v) mainW) (u++inW++v)=u'++inW++v'
 |0,u,v,hn,hu=>by omega
 |n+1,u,v,hn,hu=>by
  rcases index_spec (u++inW++v) mainW with ⟨h,_⟩|⟨i,h,h1,h2,_⟩
  ·rw[count_miss h]
   exact ⟨u,v,rfl⟩
  ·rw[count_hit (by decide) h,Nat.add_comm,replaceK_hit _ _ _ _ i h,show mainW.length=4 from rfl,List.append_nil]
   obtain ⟨g0,g1,g2,g3⟩:=occ_get h2
   have hl0:(u++inW++v)[u.length]? = some 105:=by rw[List.append_assoc,List.getElem?_append_right (Nat.le_refl _),Nat.sub_self];rfl
   have hl1:(u++inW++v)[u.length+1]? = some 110:=by rw[List.append_assoc,List.getElem?_append_right (by omega),Nat.add_sub_cancel_left];rfl
   by_cases c1:i+4≤u.length
   ·have e1:(u++inW++v).drop (i+4)=u.drop (i+4)++inW++v:=by rw[List.append_assoc,List.drop_append_of_le_length c1,List.append_assoc]
    rw[e1]
    obtain ⟨u',v',hr⟩:=keep_in n (u.drop (i+4)) v (by rw[List.length_drop];omega) (by
     intro hc
     have hne:u.drop (i+4)≠[]:=fun h0=>by rw[h0] at hc;cases hc
     have:=last_app (u:=u.take (i+4)) hne
     rw[List.take_append_drop,hc] at this
     exact hu this)
    rw[hr]
    exact ⟨(u++inW++v).take i++u',v',by simp only[List.append_assoc]⟩
   by_cases c2:u.length+2≤i
   ·have e1:(u++inW++v).take i=u++inW++v.take (i-(u.length+2)):=by
     rw[List.take_append,List.take_of_length_le (by simp only[List.length_append,inW,List.length_cons,List.length_nil];omega),List.length_append]
     rfl
    rw[e1]
    exact ⟨u,_,List.append_assoc _ _ _⟩
   exfalso
   have hcase:i=u.length+1∨i=u.length∨i+1=u.length∨i+2=u.length∨i+3=u.length:=by omega
   rcases hcase with rfl|rfl|hi|hi|hi
   ·rw[hl1] at g0;cases g0
   ·rw[hl0] at g0;cases g0
   ·rw[hi,hl0] at g1;cases g1
   ·apply hu
    rw[List.getLast?_eq_getElem?,show u.length-1=i+1 by omega]
    rw[List.append_assoc,List.getElem?_append_left (by omega)] at g1
    exact g1
   ·rw[hi,hl0] at g3;cases g3
theorem no_in {s:List UInt8} (h:contains (replaceAll s mainW []) inW=false) {T:List Tok} {line:Int} (hT:lexAt s line=.ok T):∀ t∈T,t.kind=2→t.text≠[105,110]:=fun t ht hk he=>by
 obtain ⟨_,u,v,h1,h2⟩:=name_stands _ _ _ _ hT t ht hk
 rw[he] at h1
 have h3:replaceAll s mainW []=replaceK mainW [] (count s mainW) s:=by
  unfold replaceAll replace replaceNum
  rw[if_neg (by decide),if_pos (Or.inl (by decide))]
 rw[h3,h1] at h
 obtain ⟨u',v',h4⟩:=keep_in (u.length+1) u v (by omega) h2
 have h5:replaceK mainW [] (count (u++[105,110]++v) mainW) (u++[105,110]++v)=u'++inW++v':=h4
 rw[h5,contains_split] at h
 cases h
theorem input_free {s:List UInt8} (h:contains (replaceAll s mainW []) inW=false) {T:List Tok} {line:Int} (hT:lexAt s line=.ok T) {f i op:Nat} {p:Pr} (hp:sProg T f ⟨[],[],[]⟩ 0 0=some (.ok p i op)) (inp inp':List Nat) (limit:Nat):runI p inp limit=runI p inp' limit:=
 run_words (no_in h hT) hp inp inp' limit
end Go.Stele
namespace Go.Stele
open Go.Lib
def parseQ (s:List UInt8):Pr×Int:=match lexAt s 1 with
 |.error (l,e)=>(⟨[],[],[]⟩,e)
 |.ok T=>match sProg T (10 * T.length+20) ⟨[],[],[]⟩ 0 0 with
  |some (.ok p _ _)=>(p,0)
  |some (.err l e)=>(⟨[],[],[]⟩,e)
  |none=>(⟨[],[],[]⟩,0)
def limitI (p:Pr) (inp:List Nat) (steps:Int):OutI:=if 100000000<steps then ⟨[],6,0⟩ else if steps≤0 then ⟨[],13,0⟩ else runI p inp steps.toNat
def sourceI (s:List UInt8) (inp:List Nat) (steps:Int):OutI:=
 if (parseQ s).2≠0 then ⟨[],(parseQ s).2,0⟩ else if checkPr (parseQ s).1≠0 then ⟨[],checkPr (parseQ s).1,0⟩ else limitI (parseQ s).1 inp steps
theorem source_ok {s:List UInt8} {p:Pr} (h:parseQ s=(p,0)) (hc:checkPr p=0) (inp:List Nat) (steps:Int):sourceI s inp steps=limitI p inp steps:=by
 unfold sourceI
 rw[h,if_neg (by simp),hc,if_neg (by simp)]
/-! ### Limits -/
/-! ### Input -/
theorem pad_law (s:List UInt8) (inp:List Nat) (n:Nat) (steps:Int):sourceI s inp steps=sourceI s (inp++List.replicate n 4294967295) steps:=by
 unfold sourceI limitI
 rw[←run_pad]
theorem free_law {s:List UInt8} (h:contains (replaceAll s mainW []) inW=false) (inp inp':List Nat) (steps:Int):sourceI s inp steps=sourceI s inp' steps:=by
 by_cases he:(parseQ s).2=0
 ·have hr:∀ n,runI (parseQ s).1 inp n=runI (parseQ s).1 inp' n:=fun n=>by
   unfold parseQ
   cases hT:lexAt s 1 with
   |error x=>
    obtain ⟨l,e⟩:=x
    exact run_noin _ (fun f hf=>(List.not_mem_nil hf).elim) _ _ _
   |ok T=>
    simp only
    split
    ·rename_i p i op hp
     exact input_free h hT hp _ _ _
    ·exact run_noin _ (fun f hf=>(List.not_mem_nil hf).elim) _ _ _
    ·exact run_noin _ (fun f hf=>(List.not_mem_nil hf).elim) _ _ _
  unfold sourceI limitI
  rw[hr]
 ·unfold sourceI
  rw[if_pos he,if_pos he]
/-! ### The given sources -/
/-! ### Unused declarations -/
theorem commas_ge (l:List (List UInt8)):l.length≤(commas l).length:=by rw[commas_len];omega
theorem varK_ge (l:List (List UInt8)):l.length≤(varK l).length:=by 
 rw[varK_len]
 by_cases h:l=[]
 ·rw[h];exact Nat.zero_le _
 ·rw[if_neg h];omega
end Go.Stele
namespace Go.Stele
/-! ### Functions -/
theorem fresh_zero:∀ (l k:List Nm),freshE k l=0→l.Nodup∧∀ s∈l,s ∉ k∧isNm s=true
 |[],k,_=>⟨List.nodup_nil,fun s hs=>(List.not_mem_nil hs).elim⟩
 |s::l,k,h=>by
  rw[freshE] at h
  split at h
  ·cases h
  rename_i h1
  split at h
  ·cases h
  rename_i h2
  obtain ⟨g1,g2⟩:=fresh_zero l (s::k) h
  refine ⟨List.nodup_cons.2 ⟨fun hm=>(g2 s hm).1 (List.mem_cons_self ..),g1⟩,fun x hx=>?_⟩
  rcases List.mem_cons.1 hx with rfl|hx
  ·exact ⟨h2,by simpa using h1⟩
  ·exact ⟨fun hm=>(g2 x hx).1 (List.mem_cons_of_mem _ hm),(g2 x hx).2⟩
end Go.Stele
namespace Go.Stele
theorem noDot {s:Nm} (h:isNm s=true):(46:UInt8) ∉ s:=by
 unfold isNm at h
 rw[Bool.and_eq_true] at h
 have h2:=h.2
 cases s with
 |nil=>exact List.not_mem_nil
 |cons c r=>
  simp only[Bool.and_eq_true] at h2
  intro hm
  rcases List.mem_cons.1 hm with rfl|hm
  ·exact absurd h2.1 (by decide)
  ·exact absurd (List.all_eq_true.1 h2.2 46 hm) (by decide)
theorem split_dot:∀ (a b x y:Nm),(46:UInt8) ∉ a→(46:UInt8) ∉ b→a++46::x=b++46::y→a=b∧x=y
 |[],[],x,y,_,_,h=>by
  injection h with _ h
  exact ⟨rfl,h⟩
 |[],d::b,x,y,_,hb,h=>by
  injection h with h1 _
  exact absurd (h1▸List.mem_cons_self ..) hb
 |c::a,[],x,y,ha,_,h=>by
  injection h with h1 _
  exact absurd (h1▸List.mem_cons_self ..) ha
 |c::a,d::b,x,y,ha,hb,h=>by
  injection h with h1 h2
  obtain ⟨e1,e2⟩:=split_dot a b x y (fun g=>ha (List.mem_cons_of_mem _ g)) (fun g=>hb (List.mem_cons_of_mem _ g)) h2
  exact ⟨by rw[h1,e1],e2⟩
theorem nodup_inj {fs:List FnD} (h:(fs.map (·.name)).Nodup) {f g:FnD} (hf:f∈fs) (hg:g∈fs) (he:f.name=g.name):f=g:=by
 induction fs with
 |nil=>cases hf
 |cons a l ih=>
  rw[List.map_cons,List.nodup_cons] at h
  rcases List.mem_cons.1 hf with rfl|hf'
  ·rcases List.mem_cons.1 hg with rfl|hg'
   ·rfl
   ·exact absurd (List.mem_map.2 ⟨g,hg',he.symm⟩) h.1
  ·rcases List.mem_cons.1 hg with rfl|hg'
   ·exact absurd (List.mem_map.2 ⟨f,hf',he⟩) h.1
   ·exact ih h.2 hf' hg'
theorem own_key {vars arrays:List Nm} {fs:List FnD} (h:freshE [] (vars++arrays++fs.map (·.name))=0) {f:FnD} (hf:f∈fs) (name:Nm):f.name++[46]++name∈scalarsP vars fs ↔ name∈f.params++f.locals:=by
 obtain ⟨h1,h2⟩:=fresh_zero _ _ h
 have hd:∀ g∈fs,(46:UInt8) ∉ g.name:=fun g hg=>noDot (h2 _ (List.mem_append.2 (.inr (List.mem_map.2 ⟨g,hg,rfl⟩)))).2
 unfold scalarsP
 rw[List.mem_append]
 constructor
 ·rintro (g|g)
  ·have:=noDot (h2 _ (List.mem_append.2 (.inl (List.mem_append.2 (.inl g))))).2
   exact absurd (by simp) this
  ·obtain ⟨l,g1,g2⟩:=List.mem_flatten.1 g
   obtain ⟨k,g3,rfl⟩:=List.mem_map.1 g1
   obtain ⟨x,g4,g5⟩:=List.mem_map.1 g2
   have g6:k.name++46::x=f.name++46::name:=by simpa using g5
   obtain ⟨e1,rfl⟩:=split_dot _ _ _ _ (hd k g3) (hd f hf) g6
   rw[←nodup_inj (List.nodup_append.1 h1).2.1 g3 hf e1]
   exact g4
 ·intro g
  exact .inr (List.mem_flatten.2 ⟨_,List.mem_map.2 ⟨f,hf,rfl⟩,List.mem_map.2 ⟨name,g,rfl⟩⟩)
theorem key_eq {vars arrays:List Nm} {fs:List FnD} (h:freshE [] (vars++arrays++fs.map (·.name))=0) {f:FnD} (hf:f∈fs) (name:Nm):(if f.name++[46]++name∈scalarsP vars fs then f.name++[46]++name else name)=keyI f name:=by
 unfold keyI
 simp only[own_key h hf,List.mem_append]
theorem key_placed {vars arrays:List Nm} {fs:List FnD} {known:List FSum} {f:FnD} (hf:f∈fs) {name:Nm} (h:scalarE (envF vars arrays (fs.map (·.name)) known f) name=0):keyI f name∈scalarsP vars fs:=by
 unfold scalarE at h
 unfold keyI scalarsP
 rw[List.mem_append]
 split at h
 ·rename_i h1
  split
  ·rename_i h2
   exact .inr (List.mem_flatten.2 ⟨_,List.mem_map.2 ⟨f,hf,rfl⟩,List.mem_map.2 ⟨name,List.mem_append.2 h2,rfl⟩⟩)
  ·rename_i h2
   rcases h1 with h1|h1
   ·exact .inl h1
   ·exact absurd (List.mem_append.1 h1) h2
 ·split at h <;> cases h
theorem fnI_mem {P:Pr} {f:FnD} (h:(P.funcs.map (·.name)).Nodup) (hf:f∈P.funcs):fnI P f.name=f:=by
 unfold fnI
 cases hg:P.funcs.find? fun g=>decide (g.name=f.name) with
 |none=>exact absurd (List.find?_eq_none.1 hg f hf) (by simp)
 |some g=>exact nodup_inj h (List.mem_of_find?_eq_some hg) hf (of_decide_eq_true (List.find?_some (p:=fun g:FnD=>decide (g.name=f.name)) hg))
end Go.Stele
namespace Go.Stele
def Lt (v:Nat):Prop:=v<4294967296
mutual
def numE:Ex→Prop
 |.mk op num name args=>Lt num∧numEs args
def numEs:List Ex→Prop
 |[]=>True
 |x::l=>numE x∧numEs l
end
mutual
def numS:Sm→Prop
 |.mk kind name index value thn els=>numEs index∧numEs value∧numSs thn∧numSs els
def numSs:List Sm→Prop
 |[]=>True
 |x::l=>numS x∧numSs l
end
theorem numEs_mem:∀ {l:List Ex} {x:Ex},numEs l→x∈l→numE x
 |a::l,x,h,hx=>by
  rcases List.mem_cons.1 hx with rfl|hx
  ·exact h.1
  ·exact numEs_mem h.2 hx
theorem numSs_mem:∀ {l:List Sm} {x:Sm},numSs l→x∈l→numS x
 |a::l,x,h,hx=>by
  rcases List.mem_cons.1 hx with rfl|hx
  ·exact h.1
  ·exact numSs_mem h.2 hx
theorem numE_head {l:List Ex} (h:numEs l):numE (l.headD default):=by
 cases l with
 |nil=>exact ⟨by unfold Lt;decide,trivial⟩
 |cons a l=>exact h.1
structure Bnd (s:IS):Prop where
 sc:∀ k,Lt (s.sc k)
 ar:∀ x,∀ v∈s.ar x,Lt v
 inp:∀ v∈s.inp,Lt v
def Bd {A:Type} (P:A→Prop):IR A→Prop
 |.ok v s=>P v∧Bnd s
 |.stop _ _=>True
theorem Bd.bind {A B:Type} {P:A→Prop} {Q:B→Prop} {r:IR A} {f:A→IS→IR B} (h:Bd P r) (hf:∀ v s,P v→Bnd s→Bd Q (f v s)):Bd Q (r.bind f):=by
 cases r with
 |ok v s=>exact hf v s h.1 h.2
 |stop e s=>trivial
def OptLt (r:Option Nat):Prop:=∀ v,r=some v→Lt v
theorem OptLt.none:OptLt none:=fun _ h=>by cases h
theorem OptLt.some {v:Nat} (h:Lt v):OptLt (some v):=fun _ e=>by cases e;exact h
theorem tick_bd {s:IS} (h:Bnd s):Bd (fun _=>True) (tick s):=by
 unfold tick
 split
 ·trivial
 ·exact ⟨trivial,h.sc,h.ar,h.inp⟩
theorem mapR_bd {A:Type} {g:A→IS→IR Nat}:∀ (l:List A) (s:IS),(∀ a∈l,∀ s,Bnd s→Bd Lt (g a s))→Bnd s→Bd (fun vs=>∀ v∈vs,Lt v) (mapR g l s)
 |[],s,_,hs=>⟨fun v hv=>(List.not_mem_nil hv).elim,hs⟩
 |a::l,s,h,hs=>by
  unfold mapR
  refine (h a (List.mem_cons_self ..) s hs).bind fun v s hv hs=>(mapR_bd l s (fun b hb=>h b (List.mem_cons_of_mem _ hb)) hs).bind fun vs s hvs hs=>⟨fun x hx=>?_,hs⟩
  rcases List.mem_cons.1 hx with rfl|hx
  ·exact hv
  ·exact hvs x hx
theorem blkR_bd {g:Sm→IS→IR (Option Nat)}:∀ (l:List Sm) (s:IS),(∀ a∈l,∀ s,Bnd s→Bd OptLt (g a s))→Bnd s→Bd OptLt (blkR g l s)
 |[],s,_,hs=>⟨OptLt.none,hs⟩
 |a::l,s,h,hs=>by
  unfold blkR
  refine (h a (List.mem_cons_self ..) s hs).bind fun r s hr hs=>?_
  cases r with
  |some v=>exact ⟨hr,hs⟩
  |none=>exact blkR_bd l s (fun b hb=>h b (List.mem_cons_of_mem _ hb)) hs
theorem whlR_bd {c:IS→IR Nat} {b:IS→IR (Option Nat)} (hc:∀ s,Bnd s→Bd Lt (c s)) (hb:∀ s,Bnd s→Bd OptLt (b s)):∀ (m v:Nat) (s:IS),Bnd s→Bd OptLt (whlR c b m v s)
 |0,v,s,hs=>by
  unfold whlR
  split
  ·exact ⟨OptLt.none,hs⟩
  ·trivial
 |m+1,v,s,hs=>by
  unfold whlR
  split
  ·exact ⟨OptLt.none,hs⟩
  ·refine (hb s hs).bind fun r s hr hs=>?_
   cases r with
   |some x=>exact ⟨hr,hs⟩
   |none=>exact (hc s hs).bind fun v s _ hs=>whlR_bd hc hb m v s hs
theorem b2n_lt (b:Bool):Lt (b2n b):=by unfold b2n Lt;split <;> decide
theorem binI_lt {op:List UInt8} {a b v:Nat} (ha:Lt a) (hb:Lt b) (h:binI op a b=some v):Lt v:=by
 have hm:∀ n:Nat,Lt (n % 4294967296):=fun n=>Nat.mod_lt _ (by decide)
 have hx:Lt (a ^^^ b):=Nat.xor_lt_two_pow (n:=32) ha hb
 have hi:∀ {c:Prop} [Decidable c] {x y:Option Nat},OptLt x→OptLt y→OptLt (if c then x else y):=fun h1 h2=>by
  split
  ·exact h1
  ·exact h2
 have hB:∀ b,OptLt (some (b2n b)):=fun b=>OptLt.some (b2n_lt b)
 have:OptLt (binI op a b):=hi (OptLt.some (hm _)) (hi (OptLt.some (hm _)) (hi (OptLt.some (hm _)) (hi (OptLt.some hx) (hi (hB _) (hi (hB _) (hi (hB _) (hi (hB _) (hi (hB _) (hi (hB _) (hi (hB _) (hi (hB _) (hi OptLt.none
  (hi (OptLt.some (Nat.lt_of_le_of_lt (Nat.div_le_self _ _) ha)) (OptLt.some (Nat.lt_of_le_of_lt (Nat.mod_le _ _) ha)))))))))))))))
 exact this v h
theorem setPs_bd (f:FnD):∀ (ps:List (List UInt8)) (vs:List Nat) (s:IS),(∀ v∈vs,Lt v)→Bnd s→Bnd (setPs f ps vs s)
 |p::ps,v::vs,s,hv,hs=>by
  unfold setPs
  refine setPs_bd f ps vs _ (fun x hx=>hv x (List.mem_cons_of_mem _ hx)) ⟨fun k=>?_,hs.ar,hs.inp⟩
  show Lt (if k=keyI f p then v else s.sc k)
  split
  ·exact hv v (List.mem_cons_self ..)
  ·exact hs.sc k
 |[],_,s,_,hs=>by unfold setPs;exact hs
 |_::_,[],s,_,hs=>by unfold setPs;exact hs
theorem head_lt {l:List Nat} (h:∀ v∈l,Lt v):Lt (l.headD 0):=by
 cases l with
 |nil=>unfold Lt;decide
 |cons a l=>exact h a (List.mem_cons_self ..)
theorem opI_bd {P:Pr} {g:FnD→Sm→IS→IR (Option Nat)} (hP:∀ f∈P.funcs,numSs f.body) (hg:∀ f x s,numS x→Bnd s→Bd OptLt (g f x s)) (f:FnD) (op:List UInt8) {num:Nat} (hn:Lt num) (name:List UInt8) {vs:List Nat} (hv:∀ v∈vs,Lt v) {s:IS} (hs:Bnd s):Bd Lt (opI P g f op num name vs s):=by
 have ht:Lt (vs.tail.headD 0):=head_lt fun v h=>hv v (List.mem_of_mem_tail h)
 unfold opI
 split
 ·exact ⟨hn,hs⟩
 split
 ·exact ⟨hs.sc _,hs⟩
 split
 ·split
  ·rename_i v h
   exact ⟨hs.ar _ v (List.mem_of_getElem? h),hs⟩
  ·trivial
 split
 ·exact ⟨Nat.mod_lt _ (by decide),hs⟩
 split
 ·exact ⟨b2n_lt _,hs⟩
 split
 ·unfold callI
  split
  ·split
   ·exact ⟨by unfold Lt;decide,hs⟩
   ·rename_i v r h
    exact ⟨hs.inp v (by rw[h];exact List.mem_cons_self ..),hs.sc,hs.ar,fun x hx=>hs.inp x (by rw[h];exact List.mem_cons_of_mem _ hx)⟩
  split
  ·exact ⟨by unfold Lt;decide,hs.sc,hs.ar,hs.inp⟩
  ·refine (blkR_bd _ _ (fun x hx s hs=>hg _ x s ?_ hs) (setPs_bd _ _ _ _ hv hs)).bind fun r s hr hs=>⟨?_,hs⟩
   ·unfold fnI at hx
    cases hf:P.funcs.find? fun f=>decide (f.name=name) with
    |none=>rw[hf] at hx;cases hx
    |some f'=>
     rw[hf] at hx
     exact numSs_mem (hP f' (List.mem_of_find?_eq_some hf)) hx
   ·cases r with
    |none=>show Lt 0;unfold Lt;decide
    |some v=>exact hr v rfl
 ·split
  ·rename_i v h
   exact ⟨binI_lt (head_lt hv) ht h,hs⟩
  ·trivial
theorem bd_all {P:Pr} (hP:∀ f∈P.funcs,numSs f.body):∀ n:Nat,(∀ f x s,numE x→Bnd s→Bd Lt (evI P n f x s))∧∀ f x s,numS x→Bnd s→Bd OptLt (stI P n f x s)
 |0=>⟨fun f x s _ _=>by unfold evI;trivial,fun f x s _ _=>by unfold stI;trivial⟩
 |n+1=>by
  obtain ⟨i1,i2⟩:=bd_all hP n
  refine ⟨fun f x s hx hs=>?_,fun f x s hx hs=>?_⟩
  ·obtain ⟨op,num,name,args⟩:=x
   unfold evI
   exact (tick_bd hs).bind fun _ s _ hs=>(mapR_bd args s (fun a ha s hs=>i1 f a s (numEs_mem hx.2 ha) hs) hs).bind fun vs s hvs hs=>opI_bd hP i2 f op hx.1 name hvs hs
  ·obtain ⟨kind,name,index,value,thn,els⟩:=x
   obtain ⟨h1,h2,h3,h4⟩:=hx
   unfold stI
   refine (tick_bd hs).bind fun _ s _ hs=>?_
   split
   ·trivial
   refine (i1 f _ s (numE_head h2) hs).bind fun v s hv hs=>?_
   split
   ·refine ⟨OptLt.none,fun k=>?_,hs.ar,hs.inp⟩
    show Lt (if k=keyI f name then v else s.sc k)
    split
    ·exact hv
    ·exact hs.sc k
   split
   ·refine (i1 f _ s (numE_head h1) hs).bind fun i s hi hs=>?_
    split
    ·refine ⟨OptLt.none,hs.sc,fun x w hw=>?_,hs.inp⟩
     have hw':w∈(if x=name then (s.ar name).set i v else s.ar x):=hw
     split at hw'
     ·rcases List.mem_or_eq_of_mem_set hw' with g|rfl
      ·exact hs.ar name w g
      ·exact hv
     ·exact hs.ar x w hw'
    ·trivial
   split
   ·exact ⟨OptLt.some hv,hs⟩
   split
   ·split
    ·exact blkR_bd _ _ (fun a ha s hs=>i2 f a s (numSs_mem h3 ha) hs) hs
    ·exact blkR_bd _ _ (fun a ha s hs=>i2 f a s (numSs_mem h4 ha) hs) hs
   split
   ·exact whlR_bd (fun s hs=>i1 f _ s (numE_head h2) hs) (fun s hs=>blkR_bd _ _ (fun a ha s hs=>i2 f a s (numSs_mem h3 ha) hs) hs) n v s hs
   ·exact ⟨OptLt.none,hs⟩
end Go.Stele
namespace Go.Stele
theorem errFs_own {vars arrays later:List Nm}:∀ (fs:List FnD) (known:List FSum),errFs vars arrays later known fs=0→∀ f∈fs,(f.params++f.locals).Nodup∧∀ x∈f.params++f.locals,x ∉ vars++arrays++later
 |[],known,_,f,hf=>(List.not_mem_nil hf).elim
 |g::l,known,h,f,hf=>by
  rw[errFs] at h
  obtain ⟨h1,h2⟩:=orE_zero.1 h
  rcases List.mem_cons.1 hf with rfl|hf
  ·obtain ⟨g1,g2⟩:=fresh_zero _ _ (orE_zero.1 h1).1
   exact ⟨g1,fun x hx=>(g2 x hx).1⟩
  ·exact errFs_own l _ h2 f hf
theorem nodup_map {A B:Type} {g:A→B} (hg:∀ x y,g x=g y→x=y):∀ {l:List A},l.Nodup→(l.map g).Nodup
 |[],_=>List.nodup_nil
 |a::l,h=>by
  rw[List.nodup_cons] at h
  rw[List.map_cons,List.nodup_cons]
  refine ⟨fun hm=>?_,nodup_map hg h.2⟩
  obtain ⟨b,hb,he⟩:=List.mem_map.1 hm
  exact h.1 (hg _ _ he▸hb)
theorem own_nodup {fs:List FnD}:(fs.map (·.name)).Nodup→(∀ f∈fs,(46:UInt8) ∉ f.name)→(∀ f∈fs,(f.params++f.locals).Nodup)→((fs.map fun f=>(f.params++f.locals).map fun x=>f.name++[46]++x).flatten).Nodup:=by
 induction fs with
 |nil=>intro _ _ _;exact List.nodup_nil
 |cons f l ih=>
  intro h1 h2 h3
  rw[List.map_cons,List.nodup_cons] at h1
  rw[List.map_cons,List.flatten_cons,List.nodup_append]
  refine ⟨?_,ih h1.2 (fun g hg=>h2 g (List.mem_cons_of_mem _ hg)) (fun g hg=>h3 g (List.mem_cons_of_mem _ hg)),?_⟩
  ·exact nodup_map (fun x y hxy=>List.append_cancel_left hxy) (h3 f (List.mem_cons_self ..))
  ·intro a ha b hb he
   subst he
   obtain ⟨x,_,rfl⟩:=List.mem_map.1 ha
   obtain ⟨L,g1,g2⟩:=List.mem_flatten.1 hb
   obtain ⟨g,g3,rfl⟩:=List.mem_map.1 g1
   obtain ⟨y,_,g5⟩:=List.mem_map.1 g2
   have g6:g.name++46::y=f.name++46::x:=by simpa using g5
   obtain ⟨e1,_⟩:=split_dot _ _ _ _ (h2 g (List.mem_cons_of_mem _ g3)) (h2 f (List.mem_cons_self ..)) g6
   exact h1.1 (List.mem_map.2 ⟨g,g3,e1⟩)
theorem scal_nodup {vars arrays:List Nm} {fs:List FnD} (h:freshE [] (vars++arrays++fs.map (·.name))=0) (hf:errFs vars arrays (fs.map (·.name)) [] fs=0):(scalarsP vars fs).Nodup:=by
 obtain ⟨h1,h2⟩:=fresh_zero _ _ h
 have ho:=errFs_own fs [] hf
 unfold scalarsP
 rw[List.nodup_append]
 refine ⟨(List.nodup_append.1 (List.nodup_append.1 h1).1).1,own_nodup (List.nodup_append.1 h1).2.1 (fun f hf=>noDot (h2 _ (List.mem_append.2 (.inr (List.mem_map.2 ⟨f,hf,rfl⟩)))).2) fun f hf=>(ho f hf).1,?_⟩
 intro a ha b hb he
 subst he
 obtain ⟨L,g1,g2⟩:=List.mem_flatten.1 hb
 obtain ⟨g,g3,rfl⟩:=List.mem_map.1 g1
 obtain ⟨y,_,g5⟩:=List.mem_map.1 g2
 have:=noDot (h2 _ (List.mem_append.2 (.inl (List.mem_append.2 (.inl ha))))).2
 rw[←g5] at this
 exact absurd (by simp) this
end Go.Stele
namespace Go.Stele
def Known (fs:List FnD) (known:List FSum):Prop:=∀ k∈known,∃ g∈fs,g.name=k.name∧g.params.length=k.params
theorem body_valid {vars arrays later:List Nm} {all:List FnD}:∀ (fs:List FnD) (known:List FSum),errFs vars arrays later known fs=0→Known all known→(∀ f∈fs,f∈all)→∀ f∈fs,∃ kn,errSs (envF vars arrays later kn f) f.body=0∧Known all kn
 |[],known,_,_,_,f,hf=>(List.not_mem_nil hf).elim
 |g::l,known,h,hk,ha,f,hf=>by
  rw[errFs] at h
  obtain ⟨h1,h2⟩:=orE_zero.1 h
  rcases List.mem_cons.1 hf with rfl|hf
  ·exact ⟨known,(orE_zero.1 h1).2,hk⟩
  ·refine body_valid l _ h2 (fun k hk'=>?_) (fun x hx=>ha x (List.mem_cons_of_mem _ hx)) f hf
   rcases List.mem_append.1 hk' with g1|g1
   ·exact hk k g1
   ·rw[List.mem_singleton.1 g1]
    exact ⟨g,ha g (List.mem_cons_self ..),rfl,rfl⟩
theorem sizes_valid:∀ (l:List Int) (t:Int),0≤t→sizesE t l=0→∀ n∈l,0<n∧t+n≤150000
 |[],t,_,_,n,hn=>(List.not_mem_nil hn).elim
 |a::l,t,ht,h,n,hn=>by
  rw[sizesE] at h
  split at h
  ·cases h
  split at h
  ·cases h
  rcases List.mem_cons.1 hn with rfl|hn
  ·constructor <;> omega
  ·have:=sizes_valid l (t+a) (by omega) h n hn
   constructor <;> omega
structure Valid (p:Pr):Prop where
 names:freshE [] (p.vars++p.arrays.map (·.name)++p.funcs.map (·.name))=0
 sizes:∀ a∈p.arrays,0<a.size∧a.size≤150000
 own:∀ f∈p.funcs,(f.params++f.locals).Nodup∧∀ x∈f.params++f.locals,x ∉ p.vars++p.arrays.map (·.name)++p.funcs.map (·.name)
 bodies:∀ f∈p.funcs,∃ kn,errSs (envF p.vars (p.arrays.map (·.name)) (p.funcs.map (·.name)) kn f) f.body=0∧Known p.funcs kn
 keys:(scalarsP p.vars p.funcs).Nodup
 main:mainI p∈p.funcs∧(mainI p).name=[109,97,105,110]∧(mainI p).params=[]
 few:(scalarsP p.vars p.funcs).length≤8000
theorem valid_of {p:Pr} (h:checkPr p=0):Valid p:=by
 unfold checkPr checkP at h
 have e1:(p.arrays.map fun a=>(a.name,(a.size:Int))).map (·.1)=p.arrays.map (·.name):=by rw[List.map_map];rfl
 rw[e1] at h
 obtain ⟨h1,h⟩:=orE_zero.1 h
 obtain ⟨h2,h⟩:=orE_zero.1 h
 obtain ⟨h3,h4⟩:=orE_zero.1 h
 have hm:mainI p∈p.funcs∧(mainI p).name=[109,97,105,110]∧(mainI p).params=[]∧(scalarsP p.vars p.funcs).length≤8000:=by
  unfold mainE at h4
  split at h4
  ·rename_i f m hf hms
   split at h4
   ·rename_i h5
    split at h4
    ·rename_i h6
     have e:mainI p=f:=by unfold mainI;rw[hf];rfl
     rw[e]
     exact ⟨List.mem_of_getLast? hf,h5.1,h5.2,h6.1⟩
    ·cases h4
   ·cases h4
  ·cases h4
 refine ⟨h1,fun a ha=>?_,errFs_own _ _ h3,body_valid _ _ h3 (fun k hk=>(List.not_mem_nil hk).elim) (fun f hf=>hf),scal_nodup h1 h3,⟨hm.1,hm.2.1,hm.2.2.1⟩,hm.2.2.2⟩
 have:=sizes_valid _ 0 (by decide) h2 (a.size:Int) (by
  rw[List.map_map]
  exact List.mem_map.2 ⟨a,ha,rfl⟩)
 constructor <;> omega
theorem call_valid {p:Pr} {f:FnD} {kn:List FSum} (hv:Valid p) (hk:Known p.funcs kn) {name:Nm} {n:Nat} (h:callE (envF p.vars (p.arrays.map (·.name)) (p.funcs.map (·.name)) kn f) name n=0) (h1:name≠[105,110]) (h2:name≠[111,117,116]):fnI p name∈p.funcs∧(fnI p name).name=name∧(fnI p name).params.length=n:=by
 unfold callE at h
 rw[if_neg h1,if_neg h2] at h
 unfold CEnv.fn at h
 rw[show (envF p.vars (p.arrays.map (·.name)) (p.funcs.map (·.name)) kn f).funcs=kn from rfl] at h
 cases hf:kn.find? fun f=>decide (f.name=name) with
 |none=>
  rw[hf] at h
  simp only at h
  split at h <;> cases h
 |some k=>
  rw[hf] at h
  simp only at h
  split at h
  ·rename_i hn
   obtain ⟨g,g1,g2,g3⟩:=hk k (List.mem_of_find?_eq_some hf)
   have hkn:k.name=name:=of_decide_eq_true (List.find?_some (p:=fun g:FSum=>decide (g.name=name)) hf)
   have e:=fnI_mem (P:=p) (List.nodup_append.1 (fresh_zero _ _ hv.names).1).2.1 g1
   rw[g2,hkn] at e
   rw[e]
   exact ⟨g1,g2.trans hkn,by rw[g3,hn]⟩
  ·cases h
end Go.Stele
set_option maxRecDepth 100000
namespace Go.Stele
def awakeS:List UInt8:=[102,117,110,99,32,109,97,105,110,40,41,32,123,32,111,117,116,40,50,32,43,32,52,48,41,59,32,125]
def awakeP:Pr:=⟨[],[],[⟨[109,97,105,110],[],[],[.mk 6 [] [] [.mk nCall 0 [111,117,116] [.mk [43] 0 [] [.mk nNum 2 [] [],.mk nNum 40 [] []]]] [] []]⟩]⟩
theorem awake_parse:parseQ awakeS=(awakeP,0):=by kernel_rfl
theorem awake_check:checkPr awakeP=0:=by decide +kernel
theorem awake_run:runI awakeP [] 100=⟨[42],0,5⟩:=by kernel_rfl
theorem awake_law:sourceI awakeS [] 100=⟨[42],0,5⟩:=by
 rw[source_ok awake_parse awake_check]
 exact awake_run
end Go.Stele
namespace Go.Stele
def Few {A:Type} (k:Nat) (s:IS) (r:IR A):Prop:=r.st.out.length+r.st.left≤s.out.length+s.left+k
theorem Few.bind {A B:Type} {k:Nat} {s:IS} {r:IR A} {f:A→IS→IR B} (h:Few 0 s r) (hf:∀ v s',Few k s' (f v s')):Few k s (r.bind f):=by
 cases r with
 |ok v s'=>exact Nat.le_trans (hf v s') (Nat.add_le_add_right h k)
 |stop e s'=>exact Nat.le_trans h (Nat.le_add_right _ _)
theorem Few.bind' {A B:Type} {k:Nat} {s:IS} {r:IR A} {f:A→IS→IR B} (h:Few k s r) (hf:∀ v s',Few 0 s' (f v s')):Few k s (r.bind f):=by
 cases r with
 |ok v s'=>exact Nat.le_trans (hf v s') h
 |stop e s'=>exact h
theorem Few.refl {A:Type} {k:Nat} {v:A} {s:IS}:Few k s (.ok v s):=Nat.le_add_right _ _
theorem Few.reflS {A:Type} {k:Nat} {e:Int} {s:IS}:Few (A:=A) k s (.stop e s):=Nat.le_add_right _ _
theorem Few.tick {B:Type} {s:IS} {f:Unit→IS→IR B} (hf:∀ s',Few 1 s' (f () s')):Few 0 s ((tick s).bind f):=by
 unfold Go.Stele.tick
 split
 ·exact Few.reflS
 ·rename_i h
  have:=hf { s with left:=s.left-1 }
  unfold Few at this ⊢
  simp only at this
  show (f () { s with left:=s.left-1 }).st.out.length+(f () { s with left:=s.left-1 }).st.left≤_
  omega
theorem Few.up {A:Type} {s:IS} {r:IR A} (h:Few 0 s r):Few 1 s r:=Nat.le_trans h (Nat.le_add_right _ _)
theorem mapR_few {A:Type} {g:A→IS→IR Nat} (h:∀ a s,Few 0 s (g a s)):∀ (l:List A) (s:IS),Few 0 s (mapR g l s)
 |[],s=>Few.refl
 |a::l,s=>(h a s).bind fun v s=>(mapR_few h l s).bind fun vs s=>Few.refl
theorem blkR_few {g:Sm→IS→IR (Option Nat)} (h:∀ a s,Few 0 s (g a s)):∀ (l:List Sm) (s:IS),Few 0 s (blkR g l s)
 |[],s=>Few.refl
 |a::l,s=>(h a s).bind fun r s=>by
  cases r with
  |none=>exact blkR_few h l s
  |some v=>exact Few.refl
theorem whlR_few {c:IS→IR Nat} {b:IS→IR (Option Nat)} (hc:∀ s,Few 0 s (c s)) (hb:∀ s,Few 0 s (b s)):∀ (m v:Nat) (s:IS),Few 0 s (whlR c b m v s)
 |0,v,s=>by
  unfold whlR
  split
  ·exact Few.refl
  ·exact Few.reflS
 |m+1,v,s=>by
  unfold whlR
  split
  ·exact Few.refl
  ·refine (hb s).bind fun r s=>?_
   cases r with
   |some x=>exact Few.refl
   |none=>exact (hc s).bind fun v s=>whlR_few hc hb m v s
theorem opI_few {P:Pr} {g:FnD→Sm→IS→IR (Option Nat)} (h:∀ f a s,Few 0 s (g f a s)) (f:FnD) (op:List UInt8) (num:Nat) (name:List UInt8) (vs:List Nat) (s:IS):Few 1 s (opI P g f op num name vs s):=by
 unfold opI
 split
 ·exact Few.refl
 split
 ·exact Few.refl
 split
 ·split
  ·exact Few.refl
  ·exact Few.reflS
 split
 ·exact Few.refl
 split
 ·exact Few.refl
 split
 ·unfold callI
  split
  ·split
   ·exact Few.refl
   ·exact Nat.le_add_right _ _
  split
  ·unfold Few
   simp only[IR.st,List.length_append,List.length_cons,List.length_nil]
   omega
  ·refine Few.bind' (Few.up ?_) fun r s=>Few.refl
   have:=blkR_few (h (fnI P name)) (fnI P name).body (setPs (fnI P name) (fnI P name).params vs s)
   unfold Few at this ⊢
   rwa [(setPs_same _ _ _ _).1,(setPs_same _ _ _ _).2.1] at this
 ·split
  ·exact Few.refl
  ·exact Few.reflS
theorem few_all (P:Pr):∀ n:Nat,(∀ f x s,Few 0 s (evI P n f x s))∧∀ f x s,Few 0 s (stI P n f x s)
 |0=>⟨fun f x s=>by unfold evI;exact Few.reflS,fun f x s=>by unfold stI;exact Few.reflS⟩
 |n+1=>by
  obtain ⟨h1,h2⟩:=few_all P n
  refine ⟨fun f x s=>?_,fun f x s=>?_⟩
  ·obtain ⟨op,num,name,args⟩:=x
   unfold evI
   exact Few.tick fun s=>(mapR_few (h1 f) args s).bind fun vs s=>opI_few h2 f op num name vs s
  ·obtain ⟨kind,name,index,value,thn,els⟩:=x
   unfold stI
   refine Few.tick fun s=>Few.up ?_
   split
   ·exact Few.reflS
   refine (h1 f _ s).bind fun v s=>?_
   split
   ·exact Few.refl
   split
   ·refine (h1 f _ s).bind fun i s=>?_
    split
    ·exact Few.refl
    ·exact Few.reflS
   split
   ·exact Few.refl
   split
   ·split
    ·exact blkR_few (h2 f) _ _
    ·exact blkR_few (h2 f) _ _
   split
   ·exact whlR_few (h1 f _) (blkR_few (h2 f) _) _ _ _
   ·exact Few.refl
end Go.Stele
namespace Go.Stele
theorem nm_short {s:Nm} (h:isNm s=true):s.length≤24:=by
 unfold isNm at h
 simp only[Bool.and_eq_true,decide_eq_true_eq] at h
 exact h.1.1
theorem errFs_nm {vars arrays later:List Nm}:∀ (fs:List FnD) (known:List FSum),errFs vars arrays later known fs=0→∀ f∈fs,∀ x∈f.params++f.locals,isNm x=true
 |[],known,_,f,hf=>(List.not_mem_nil hf).elim
 |g::l,known,h,f,hf=>by
  rw[errFs] at h
  obtain ⟨h1,h2⟩:=orE_zero.1 h
  rcases List.mem_cons.1 hf with rfl|hf
  ·obtain ⟨g1,g2⟩:=fresh_zero _ _ (orE_zero.1 h1).1
   exact fun x hx=>(g2 x hx).2
  ·exact errFs_nm l _ h2 f hf
theorem short_of {p:Pr} (h:checkPr p=0):(∀ f∈p.funcs,f.name.length≤24)∧∀ k∈scalarsP p.vars p.funcs,k.length≤49:=by
 unfold checkPr checkP at h
 have e1:(p.arrays.map fun a=>(a.name,(a.size:Int))).map (·.1)=p.arrays.map (·.name):=by rw[List.map_map];rfl
 rw[e1] at h
 obtain ⟨h1,h⟩:=orE_zero.1 h
 obtain ⟨h2,h⟩:=orE_zero.1 h
 obtain ⟨h3,h4⟩:=orE_zero.1 h
 have hn:=(fresh_zero _ _ h1).2
 have hf:∀ f∈p.funcs,f.name.length≤24:=fun f hf=>nm_short (hn _ (List.mem_append.2 (.inr (List.mem_map.2 ⟨f,hf,rfl⟩)))).2
 refine ⟨hf,fun k hk=>?_⟩
 unfold scalarsP at hk
 rcases List.mem_append.1 hk with g|g
 ·have:=nm_short (hn k (List.mem_append.2 (.inl (List.mem_append.2 (.inl g))))).2
  omega
 ·obtain ⟨l,g1,g2⟩:=List.mem_flatten.1 g
  obtain ⟨f,g3,rfl⟩:=List.mem_map.1 g1
  obtain ⟨x,g4,rfl⟩:=List.mem_map.1 g2
  have a1:=hf f g3
  have a2:=nm_short (errFs_nm _ _ h3 f g3 x g4)
  simp only[List.length_append,List.length_cons,List.length_nil]
  omega
theorem own_short {p:Pr} (h:checkPr p=0):∀ f∈p.funcs,f.name.length≤1000∧∀ x∈f.params++f.locals,x.length≤1000:=by
 have h0:=(short_of h).1
 unfold checkPr checkP at h
 have e1:(p.arrays.map fun a=>(a.name,(a.size:Int))).map (·.1)=p.arrays.map (·.name):=by rw[List.map_map];rfl
 rw[e1] at h
 have h3:=(orE_zero.1 (orE_zero.1 (orE_zero.1 h).2).2).1
 exact fun f hf=>⟨Nat.le_trans (h0 f hf) (by decide),fun x hx=>Nat.le_trans (nm_short (errFs_nm _ _ h3 f hf x hx)) (by decide)⟩
theorem key_short {p:Pr} {f:FnD} {name:Nm} (h:∀ k∈scalarsP p.vars p.funcs,k.length≤49) (hk:keyI f name∈scalarsP p.vars p.funcs):name.length≤49:=by
 have:=h _ hk
 unfold keyI at this
 split at this
 ·simp only[List.length_append,List.length_cons,List.length_nil] at this
  omega
 ·exact this
end Go.Stele
namespace Go.Stele
def Few6 (n:Nat):Prop:=n≤1000000
mutual
def smE:Ex→Prop
 |.mk op num name args=>Few6 args.length∧smEs args
def smEs:List Ex→Prop
 |[]=>True
 |x::l=>smE x∧smEs l
end
mutual
def smS:Sm→Prop
 |.mk kind name index value thn els=>Few6 index.length∧Few6 value.length∧Few6 thn.length∧Few6 els.length∧smEs index∧smEs value∧smSs thn∧smSs els
def smSs:List Sm→Prop
 |[]=>True
 |x::l=>smS x∧smSs l
end
structure SmF (f:FnD):Prop where
 params:Few6 f.params.length
 locals:Few6 f.locals.length
 body:Few6 f.body.length
 stmts:smSs f.body
structure SmP (p:Pr):Prop where
 vars:Few6 p.vars.length
 arrays:Few6 p.arrays.length
 funcs:Few6 p.funcs.length
 each:∀ f∈p.funcs,SmF f
end Go.Stele
namespace Go.Proofs.YtcbpcianefpniaaGreatDoor.Inp
open Go.GL Go.RowKit Go.Stele
set_option maxRecDepth 100000
set_option maxHeartbeats 4000000
@[reducible] def u32 (n:Nat):LV:=int .u32 (n:Int)
def unitV:Unit→LV:=fun _=>.tuple []
def retV:Option Nat→LV:=fun r=>.tuple [u32 (r.getD 0),bool r.isSome]
@[reducible] def fnV (f:FuncId):LV:=.atom (.func (.func f) #[] #[])
def opsKV (db:Nat):KV:=[([43],fnV 58),([45],fnV 59),([42],fnV 60),([47],.atom (.func (.func 61) #[] #[.pointer (some ⟨db,0,none⟩)])),([37],.atom (.func (.func 62) #[] #[.pointer (some ⟨db,0,none⟩)])),
 ([94],fnV 63),([61,61],fnV 64),([33,61],fnV 66),([60],fnV 67),([62],fnV 68),([60,61],fnV 69),([62,61],fnV 70),([38,38],fnV 71),([124,124],fnV 72)]
structure Cfg where
 p:Pr
 rb:Nat
 db:Nat
 om:Nat
 sm:Nat
 am:Nat
 fm:Nat
 oc:Nat
 sc:Nat
 ac:Nat
 fc:Nat
 sb:List (List UInt8×Nat)
 ab:List (List UInt8×Nat×Nat)
 lim:Nat
def scKV (sb:List (List UInt8×Nat)):KV:=sb.map fun q=>(q.1,ptr q.2 0)
def arKV (ab:List (List UInt8×Nat×Nat)):KV:=ab.map fun q=>(q.1,rowV q.2.1 q.2.2)
def fnKV (fs:List FnD):KV:=fs.map fun f=>(f.name,encFn f)
def runC (c:Cfg) (s:IS) (v:LV):List LV:=[.list (c.p.vars.map str),.list (c.p.arrays.map encAr),.list (c.p.funcs.map encFn),.atom (.map (some c.om)),.list (s.inp.map u32),v,int .i64 ((c.lim-s.left:Nat):Int),int .i64 (s.left:Int),.atom (.map (some c.sm)),.atom (.map (some c.am)),.atom (.map (some c.fm))]
def scH (sb:List (List UInt8×Nat)) (s:IS):Heap:=sb.map fun q=>(q.2,LObj.cells 43 [u32 (s.sc q.1)])
def arH (ab:List (List UInt8×Nat×Nat)) (s:IS):Heap:=ab.map fun q=>(q.2.1,LObj.cells 43 ((s.ar q.1).map u32))
@[reducible] def divH (db:Nat):Nat×LObj:=(db,.cells 132 [fnV 57])
def stH (c:Cfg) (s:IS) (v:LV) (Ha:Heap):Heap:=(c.rb,.cells 72 (runC c s v))::(c.sm,.map (kvs (scKV c.sb)) c.sc)::(c.am,.map (kvs (arKV c.ab)) c.ac)::(c.fm,.map (kvs (fnKV c.p.funcs)) c.fc)::(c.om,.map (kvs (opsKV c.db)) c.oc)::divH c.db::(scH c.sb s++(arH c.ab s++Ha))
def St (c:Cfg) (s:IS) (H:Heap):Prop:=(∀ q∈c.ab,(s.ar q.1).length=q.2.2)∧s.left≤c.lim∧∃ v Ha,Acc 1 v (byts s.out) Ha []∧H=stH c s v Ha
structure CfgOk (c:Cfg):Prop where
 valid:Valid c.p
 nums:∀ f∈c.p.funcs,numSs f.body
 sbk:c.sb.map (·.1)=scalarsP c.p.vars c.p.funcs
 abk:c.ab.map (·.1)=c.p.arrays.map (·.name)
 small:SmP c.p
 asz:∀ q∈c.ab,q.2.2≤150000
 lim:c.lim≤100000000
 fshort:∀ f∈c.p.funcs,f.name.length≤24
 short:∀ k∈scalarsP c.p.vars c.p.funcs,k.length≤49
def panI (e:Int):List PanicEntry:=[{ v:=.iface 131 (.agg #[.int .i64 e]),recovered:=false }]
def PostI {A:Type} (c:Cfg) (enc:A→LV) (r:IR A) (res:LRes) (H:Heap):Prop:=match r with
 |.ok v s=>res=.ret (enc v)∧St c s H
 |.stop e s=>res=.panic (panI e)∧St c s H
@[reducible] def Same (v:LV) (H:Heap):LRes→Heap→Prop:=fun r H'=>r=.ret v∧H'=H
section steps
variable {C:Ctx} {n:Nat} {e:Env} {H:Heap} {dst:Option Nat} {ty:TypeId} {pos:String} {aft:Array Edge} {g:Option (Nat×Bool)} {K:LV→Heap→Prop} {X:List PanicEntry→Heap→Prop}
theorem S.callS {f:FuncId} [TEnter C.P f] (args:List Operand) {ats:Array TypeId} {av:List LV} {lv:LV} {H1 F:Heap} (has:args.map e.ev=av) (hp:H.Perm (H1++F)) (hc:LCalls C f av H1 (Same lv H1)) (hk:K lv (H1++F)) :
  LStep C ⟨dst,.call { callee:=.value (.func f),args:=args.toArray,argTypes:=ats },ty,pos,aft,g⟩ e H K X:=
 S.callH args has hp hc (by rintro v H' ⟨h,rfl⟩;cases h;exact hk) (by rintro ch H' ⟨h,_⟩;cases h)
theorem S.callI {A:Type} {c:Cfg} {enc:A→LV} {r:IR A} {f:FuncId} [TEnter C.P f] (args:List Operand) {ats:Array TypeId} {av:List LV} {H1 F:Heap} (has:args.map e.ev=av) (hp:H.Perm (H1++F))
  (hc:LCalls C f av H1 (PostI c enc r)) (hk:∀ v s H',r=.ok v s→St c s H'→K (enc v) (H'++F)) (hx:∀ er s H',r=.stop er s→St c s H'→X (panI er) (H'++F)) :
  LStep C ⟨dst,.call { callee:=.value (.func f),args:=args.toArray,argTypes:=ats },ty,pos,aft,g⟩ e H K X:=by
 refine S.callH args has hp hc ?_ ?_
 ·intro v H' h
  cases hr:r with
  |ok u s=>
   rw[hr] at h
   obtain ⟨h1,h2⟩:=h
   cases h1
   exact hk _ _ _ hr h2
  |stop er s=>
   rw[hr] at h
   obtain ⟨h1,_⟩:=h
   cases h1
 ·intro ch H' h
  cases hr:r with
  |ok u s=>
   rw[hr] at h
   obtain ⟨h1,_⟩:=h
   cases h1
  |stop er s=>
   rw[hr] at h
   obtain ⟨h1,h2⟩:=h
   cases h1
   exact hx _ _ _ hr h2
theorem retI {A:Type} {c:Cfg} {enc:A→LV} {r:IR A} {rs:List ResultVar} {vs:List LV} {v:A} {s:IS} {H':Heap} (hd:e.ds=[]) (h:AllRes C n e H rs vs) (hr:r=.ok v s) (hv:resLV vs=enc v) (hH:HSub H' H) (hs:St c s H') :
  RetPost C n rs (PostI c enc r) .ret e H:=rR hd h hH (by rw[hr];exact ⟨by rw[hv],hs⟩)
theorem retIn {A:Type} {c:Cfg} {enc:A→LV} {r:IR A} {rs:List ResultVar} {vs:List LV} {v:A} {s:IS} {H':Heap} (hd:e.ds=[]) (h:AllRes C n e H rs vs) (hr:r=.ok v s) (hv:resLV vs=enc v) (hH:HSub H' H) (hs:St c s H') :
  RetPost C n rs (PostI c enc r) .normal e H:=RetPost.normal hd h hH (by rw[hr];exact ⟨by rw[hv],hs⟩)
theorem panI_ {A:Type} {c:Cfg} {enc:A→LV} {r:IR A} {rs:List ResultVar} {er:Int} {s:IS} {H':Heap} (hd:e.ds=[]) (hr:r=.stop er s) (hH:HSub H' H) (hs:St c s H') :
  RetPost C n rs (PostI c enc r) (.panic (panI er)) e H:=RetPost.panic hd hH (by rw[hr];exact ⟨rfl,hs⟩)
theorem retS {rs:List ResultVar} {vs:List LV} {lv:LV} {H0:Heap} (hd:e.ds=[]) (h:AllRes C n e H rs vs) (hv:resLV vs=lv) (hH:HSub H0 H):RetPost C n rs (Same lv H0) .ret e H:=
 rR hd h hH ⟨by rw[hv],rfl⟩
end steps
instance:TMap Tryz.prog 68 74 (.pointer none) (.atom (.pointer none)):=⟨⟨9,by kernel_rfl,by kernel_rfl⟩,fun w=>(Go.zero_of_info (P:=Tryz.prog) (n:=1) zk).1 w,fun _ _=>rep_atom⟩
instance:TMap Tryz.prog 69 22 (.slice none 0 0) nilSlice:=⟨⟨9,by kernel_rfl,by kernel_rfl⟩,fun w=>(Go.zero_of_info (P:=Tryz.prog) (n:=1) zk).1 w,fun _ _=>rep_atom⟩
instance:TMap Tryz.prog 70 63 (.agg [.string ⟨#[]⟩,.slice none 0 0,.slice none 0 0,.slice none 0 0].toArray) (.agg ([.string ⟨#[]⟩,.slice none 0 0,.slice none 0 0,.slice none 0 0].map .atom)):=⟨⟨9,by kernel_rfl,by kernel_rfl⟩,fun w=>(Go.zero_of_info (P:=Tryz.prog) (n:=4) zk).1 w,fun w L=>rep_aggs w L _⟩
instance:TMap Tryz.prog 66 133 .nilFunc (.atom .nilFunc):=⟨⟨9,by kernel_rfl,by kernel_rfl⟩,fun w=>(Go.zero_of_info (P:=Tryz.prog) (n:=1) zk).1 w,fun _ _=>rep_atom⟩
attribute [local irreducible] LOps LCode LStep LCalls Go.GL.Pure QThen QBlock RetPost LQ LAny LLate LLateOp
section
variable {B0:Nat} {w0:World} {H:Heap}
theorem step_spec {c:Cfg} (hC:CfgOk c) {s:IS} (hs:St c s H):LCalls (KC B0 w0) 157 [ptr c.rb 0] H (PostI c unitV (tick s)):=by
 have hs0:=hs
 have hlim:=hC.lim
 obtain ⟨hl,hle,v,Ha,hacc,rfl⟩:=hs
 refine cI Tryz.func157 rfl (n:=23) rfl rfl rfl ?_
 refine gaa ?_
 refine oC rfl (fun hc=>?_) (fun hc=>?_)
 ·refine gaa ?_
  refine oS (LStep.panic rfl fun e' he'=>?_) rfl
  refine gah ?_
  have h0:s.left=0:=by have:=zt hc;omega
  exact panI_ (he'.trans rfl) (by rw[tick,if_pos h0]) zhr hs0
 ·have h0:¬ s.left=0:=by have:=zf hc;omega
  refine gaa ?_
  have e1:(s.left:Int)-1=((s.left-1:Nat):Int):=by omega
  have e2:((c.lim-s.left:Nat):Int)+1=((c.lim-(s.left-1):Nat):Int):=by omega
  rw[e1,e2]
  exact retIn rfl rN (v:=()) (s:={ s with left:=s.left-1 }) (by rw[tick,if_neg h0]) rfl zhr ⟨hl,by show s.left-1≤c.lim;omega,v,Ha,hacc,rfl⟩
theorem truth_spec (b:Bool):LCalls (KC B0 w0) 65 [bool b] H (Same (u32 (b2n b)) H):=by
 refine cI Tryz.func65 rfl (n:=4) rfl rfl rfl ?_
 refine gan ?_
 refine oC rfl (fun hc=>?_) (fun hc=>?_)
 ·refine gad ?_
  exact retS rfl (zra rfl) (by rw[hc];rfl) zhr
 ·refine gad ?_
  exact retS rfl (zra rfl) (by rw[hc];rfl) zhr
end
end Go.Proofs.YtcbpcianefpniaaGreatDoor.Inp
namespace Go.Proofs.YtcbpcianefpniaaGreatDoor.Inp
open Go.GL Go.RowKit Go.Stele
set_option maxRecDepth 100000
set_option maxHeartbeats 4000000
theorem wrapU (n:Int):IntKind.u32.wrap n=n % 4294967296:=by
 simp only[IntKind.wrap,IntKind.bits,IntKind.signed,Bool.false_and]
 rfl
theorem u32_eq {a:Int} {b:Nat} (h:a=b):int .u32 a=u32 b:=by rw[h]
theorem b2n_dec {p q:Prop} [Decidable p] [Decidable q] (h:p ↔ q):b2n (decide p)=b2n (decide q):=by rw[decide_eq_decide.2 h]
attribute [local irreducible] LOps LCode LStep LCalls Go.GL.Pure QThen QBlock RetPost LQ LAny LLate LLateOp
section
variable {B0:Nat} {w0:World} {H:Heap} {a b:Nat}
theorem xor_u32 (ha:a<4294967296) (hb:b<4294967296):IntKind.u32.wrap ((BitVec.ofInt IntKind.u32.bits a ^^^ BitVec.ofInt IntKind.u32.bits b).toNat:Nat)=((a ^^^ b:Nat):Int):=by
 rw[wrapU,BitVec.toNat_xor]
 have h1:∀ n:Nat,n<4294967296→(BitVec.ofInt IntKind.u32.bits (n:Int)).toNat=n:=fun n hn=>by
  rw[BitVec.ofInt_natCast,BitVec.toNat_ofNat]
  exact Nat.mod_eq_of_lt hn
 rw[h1 a ha,h1 b hb]
 have:a ^^^ b<4294967296:=Nat.xor_lt_two_pow (n:=32) ha hb
 omega
theorem op2_spec (ha:a<4294967296) (hb:b<4294967296):LCalls (KC B0 w0) 58 [u32 a,u32 b] H (Same (u32 ((a+b) % 4294967296)) H):=by
 refine cI Tryz.func58 rfl (n:=8) rfl rfl rfl ?_
 refine gan ?_
 refine oP (Pure.addW rfl rfl) rfl ?_
 refine gaf ?_
 exact retS rfl (zra rfl) (u32_eq (by rw[wrapU];omega)) zhr
theorem op3_spec (ha:a<4294967296) (hb:b<4294967296):LCalls (KC B0 w0) 59 [u32 a,u32 b] H (Same (u32 ((a+4294967296-b) % 4294967296)) H):=by
 refine cI Tryz.func59 rfl (n:=8) rfl rfl rfl ?_
 refine gan ?_
 refine oP (Pure.subW rfl rfl) rfl ?_
 refine gaf ?_
 exact retS rfl (zra rfl) (u32_eq (by rw[wrapU];omega)) zhr
theorem op4_spec (ha:a<4294967296) (hb:b<4294967296):LCalls (KC B0 w0) 60 [u32 a,u32 b] H (Same (u32 (a * b % 4294967296)) H):=by
 refine cI Tryz.func60 rfl (n:=8) rfl rfl rfl ?_
 refine gan ?_
 refine oP (Pure.mulW rfl rfl) rfl ?_
 refine gaf ?_
 exact retS rfl (zra rfl) (u32_eq (by rw[wrapU,←Int.natCast_mul];generalize a * b=q;omega)) zhr
theorem op7_spec (ha:a<4294967296) (hb:b<4294967296):LCalls (KC B0 w0) 63 [u32 a,u32 b] H (Same (u32 (a ^^^ b)) H):=by
 refine cI Tryz.func63 rfl (n:=8) rfl rfl rfl ?_
 refine gan ?_
 refine oP (Pure.xorW rfl rfl) rfl ?_
 refine gaf ?_
 exact retS rfl (zra rfl) (u32_eq (xor_u32 ha hb)) zhr
theorem op8_spec:LCalls (KC B0 w0) 64 [u32 a,u32 b] H (Same (u32 (b2n (decide (a=b)))) H):=by
 refine cI Tryz.func64 rfl (n:=9) rfl rfl rfl ?_
 refine gad ?_
 refine oS (S.callS (H1:=H) (F:=[]) [_] rfl (by rw[List.append_nil]) (truth_spec _) ?_) rfl
 rw[List.append_nil]
 refine gaf ?_
 exact retS rfl (zra rfl) (congrArg u32 (b2n_dec zo)) zhr
theorem b2n_not:b2n (!decide ((a:Int)=b))=b2n (decide (a≠b)):=by
 by_cases h:a=b
 ·simp[h,b2n]
 ·have:¬ (a:Int)=b:=by omega
  simp[h,this,b2n]
theorem op9_spec:LCalls (KC B0 w0) 66 [u32 a,u32 b] H (Same (u32 (b2n (decide (a≠b)))) H):=by
 refine cI Tryz.func66 rfl (n:=9) rfl rfl rfl ?_
 refine gaa ?_
 refine oS (S.callS (H1:=H) (F:=[]) [_] rfl (by rw[List.append_nil]) (truth_spec _) ?_) rfl
 rw[List.append_nil]
 refine gaf ?_
 exact retS rfl (zra rfl) (congrArg u32 (b2n_not)) zhr
theorem op10_spec:LCalls (KC B0 w0) 67 [u32 a,u32 b] H (Same (u32 (b2n (decide (a<b)))) H):=by
 refine cI Tryz.func67 rfl (n:=9) rfl rfl rfl ?_
 refine gaa ?_
 refine oS (S.callS (H1:=H) (F:=[]) [_] rfl (by rw[List.append_nil]) (truth_spec _) ?_) rfl
 rw[List.append_nil]
 refine gaf ?_
 exact retS rfl (zra rfl) (congrArg u32 (b2n_dec zo)) zhr
theorem op11_spec:LCalls (KC B0 w0) 68 [u32 a,u32 b] H (Same (u32 (b2n (decide (b<a)))) H):=by
 refine cI Tryz.func68 rfl (n:=9) rfl rfl rfl ?_
 refine gaa ?_
 refine oS (S.callS (H1:=H) (F:=[]) [_] rfl (by rw[List.append_nil]) (truth_spec _) ?_) rfl
 rw[List.append_nil]
 refine gaf ?_
 exact retS rfl (zra rfl) (congrArg u32 (b2n_dec zo)) zhr
theorem op12_spec:LCalls (KC B0 w0) 69 [u32 a,u32 b] H (Same (u32 (b2n (decide (a≤b)))) H):=by
 refine cI Tryz.func69 rfl (n:=9) rfl rfl rfl ?_
 refine gaa ?_
 refine oS (S.callS (H1:=H) (F:=[]) [_] rfl (by rw[List.append_nil]) (truth_spec _) ?_) rfl
 rw[List.append_nil]
 refine gaf ?_
 exact retS rfl (zra rfl) (congrArg u32 (b2n_dec zo)) zhr
theorem op13_spec:LCalls (KC B0 w0) 70 [u32 a,u32 b] H (Same (u32 (b2n (decide (b≤a)))) H):=by
 refine cI Tryz.func70 rfl (n:=9) rfl rfl rfl ?_
 refine gaa ?_
 refine oS (S.callS (H1:=H) (F:=[]) [_] rfl (by rw[List.append_nil]) (truth_spec _) ?_) rfl
 rw[List.append_nil]
 refine gaf ?_
 exact retS rfl (zra rfl) (congrArg u32 (b2n_dec zo)) zhr
theorem op14_spec:LCalls (KC B0 w0) 71 [u32 a,u32 b] H (Same (u32 (b2n (decide (a≠0∧b≠0)))) H):=by
 refine cI Tryz.func71 rfl (n:=12) rfl rfl rfl ?_
 refine gaa ?_
 refine oB 7 rfl (fun ht=>?_) (fun ht=>?_)
 ·have h1:a≠0:=by
   intro h
   rw[h] at ht
   exact absurd ht (by decide)
  refine gab ?_
  refine oS (S.callS (H1:=H) (F:=[]) [_] rfl (by rw[List.append_nil]) (truth_spec _) ?_) rfl
  rw[List.append_nil]
  refine gaf ?_
  exact retS rfl (zra rfl) (congrArg u32 (by simp[b2n,h1])) zhr
 ·have h1:a=0:=by
   have:(a:Int)=0:=by simpa using ht
   omega
  refine gac ?_
  refine oS (S.callS (H1:=H) (F:=[]) [_] rfl (by rw[List.append_nil]) (truth_spec _) ?_) rfl
  rw[List.append_nil]
  refine gaf ?_
  exact retS rfl (zra rfl) (congrArg u32 (by simp[b2n,h1])) zhr
theorem op15_spec:LCalls (KC B0 w0) 72 [u32 a,u32 b] H (Same (u32 (b2n (decide (a≠0∨b≠0)))) H):=by
 refine cI Tryz.func72 rfl (n:=12) rfl rfl rfl ?_
 refine gaa ?_
 refine oB 7 rfl (fun ht=>?_) (fun ht=>?_)
 ·have h1:a≠0:=by
   intro h
   rw[h] at ht
   exact absurd ht (by decide)
  refine gac ?_
  refine oS (S.callS (H1:=H) (F:=[]) [_] rfl (by rw[List.append_nil]) (truth_spec _) ?_) rfl
  rw[List.append_nil]
  refine gaf ?_
  exact retS rfl (zra rfl) (congrArg u32 (by simp[b2n,h1])) zhr
 ·have h1:a=0:=by
   have:(a:Int)=0:=by simpa using ht
   omega
  refine gab ?_
  refine oS (S.callS (H1:=H) (F:=[]) [_] rfl (by rw[List.append_nil]) (truth_spec _) ?_) rfl
  rw[List.append_nil]
  refine gaf ?_
  exact retS rfl (zra rfl) (congrArg u32 (by simp[b2n,h1])) zhr
theorem divisor_spec:LCalls (KC B0 w0) 57 [u32 b] H (fun r H'=>H'=H∧r=if b=0 then .panic (panI 12) else .ret (u32 b)):=by
 refine cI Tryz.func57 rfl (n:=8) rfl rfl rfl ?_
 refine gad ?_
 refine oC rfl (fun hc=>?_) (fun hc=>?_)
 ·have h0:b=0:=by have:=zt hc;omega
  refine gaa ?_
  refine oS (LStep.panic rfl fun e' he'=>?_) rfl
  refine gah ?_
  exact RetPost.panic (he'.trans rfl) zhr ⟨rfl,by rw[if_pos h0];rfl⟩
 ·have h0:¬ b=0:=by have:=zf hc;omega
  refine gad ?_
  exact rR rfl (zra rfl) zhr ⟨rfl,by rw[if_neg h0];rfl⟩
theorem op5_spec {db:Nat} (ha:a<4294967296):LCalls (KC B0 w0) 61 [u32 a,u32 b,ptr db 0] [divH db] (fun r H'=>H'=[divH db]∧r=if b=0 then .panic (panI 12) else .ret (u32 (a / b))):=by
 refine cI Tryz.func61 rfl (n:=11) rfl rfl rfl ?_
 refine gaa ?_
 by_cases h0:b=0
 ·refine oS (S.callV (f:=57) (first:=#[]) (caps:=#[]) (H1:=[divH db]) (F:=[]) [_] rfl rfl (by simp) divisor_spec ?_ ?_) rfl
  ·rintro v H' ⟨rfl,h⟩
   rw[if_pos h0] at h
   cases h
  ·rintro ch H' ⟨rfl,h⟩ e' he'
   rw[if_pos h0] at h
   cases h
   refine gah ?_
   exact RetPost.panic (he'.trans rfl) zhr ⟨rfl,by rw[if_pos h0]⟩
 ·refine oS (S.callV (f:=57) (first:=#[]) (caps:=#[]) (H1:=[divH db]) (F:=[]) [_] rfl rfl (by simp) divisor_spec ?_ ?_) rfl
  ·rintro v H' ⟨rfl,h⟩
   rw[if_neg h0] at h
   cases h
   refine oP (Pure.quoW rfl rfl zo) rfl ?_
   refine gaf ?_
   refine rR rfl (zra rfl) zhr ⟨rfl,?_⟩
   rw[if_neg h0]
   exact congrArg LRes.ret (u32_eq (by rw[wrapU,Int.tdiv_eq_ediv_of_nonneg zo,←Int.natCast_ediv];have hq:a / b<4294967296:=Nat.lt_of_le_of_lt (Nat.div_le_self a b) ha;generalize a / b=q at hq ⊢;omega))
  ·rintro ch H' ⟨rfl,h⟩
   rw[if_neg h0] at h
   cases h
theorem op6_spec {db:Nat} (ha:a<4294967296):LCalls (KC B0 w0) 62 [u32 a,u32 b,ptr db 0] [divH db] (fun r H'=>H'=[divH db]∧r=if b=0 then .panic (panI 12) else .ret (u32 (a % b))):=by
 refine cI Tryz.func62 rfl (n:=11) rfl rfl rfl ?_
 refine gaa ?_
 by_cases h0:b=0
 ·refine oS (S.callV (f:=57) (first:=#[]) (caps:=#[]) (H1:=[divH db]) (F:=[]) [_] rfl rfl (by simp) divisor_spec ?_ ?_) rfl
  ·rintro v H' ⟨rfl,h⟩
   rw[if_pos h0] at h
   cases h
  ·rintro ch H' ⟨rfl,h⟩ e' he'
   rw[if_pos h0] at h
   cases h
   refine gah ?_
   exact RetPost.panic (he'.trans rfl) zhr ⟨rfl,by rw[if_pos h0]⟩
 ·refine oS (S.callV (f:=57) (first:=#[]) (caps:=#[]) (H1:=[divH db]) (F:=[]) [_] rfl rfl (by simp) divisor_spec ?_ ?_) rfl
  ·rintro v H' ⟨rfl,h⟩
   rw[if_neg h0] at h
   cases h
   refine oP (Pure.remW rfl rfl zo) rfl ?_
   refine gaf ?_
   refine rR rfl (zra rfl) zhr ⟨rfl,?_⟩
   rw[if_neg h0]
   exact congrArg LRes.ret (u32_eq (by rw[Int.tmod_eq_emod_of_nonneg zo,←Int.natCast_emod]))
  ·rintro ch H' ⟨rfl,h⟩
   rw[if_neg h0] at h
   cases h
def resB (o:Option Nat):LRes:=match o with
 |some v=>.ret (u32 v)
 |none=>.panic (panI 12)
theorem binop_spec {db:Nat} {op:List UInt8} (hop:op∈binOps) (ha:a<4294967296) (hb:b<4294967296):∃ (f:FuncId) (caps:Array Value),GL.kvGet (opsKV db) op=some (.atom (.func (.func f) #[] caps))∧TEnter Tryz.prog f ∧
  LCalls (KC B0 w0) f ([u32 a,u32 b]++caps.toList.map .atom) [divH db] (fun r H'=>H'=[divH db]∧r=resB (binI op a b)):=by
 simp only[binOps,List.mem_cons,List.not_mem_nil,or_false] at hop
 rcases hop with rfl|rfl|rfl|rfl|rfl|rfl|rfl|rfl|rfl|rfl|rfl|rfl|rfl|rfl
 ·exact ⟨72,#[],rfl,inferInstance,LCalls.mono (op15_spec) fun r H' ⟨h1,h2⟩=>⟨h2,h1⟩⟩
 ·exact ⟨71,#[],rfl,inferInstance,LCalls.mono (op14_spec) fun r H' ⟨h1,h2⟩=>⟨h2,h1⟩⟩
 ·exact ⟨64,#[],rfl,inferInstance,LCalls.mono (op8_spec) fun r H' ⟨h1,h2⟩=>⟨h2,h1⟩⟩
 ·exact ⟨66,#[],rfl,inferInstance,LCalls.mono (op9_spec) fun r H' ⟨h1,h2⟩=>⟨h2,h1⟩⟩
 ·exact ⟨67,#[],rfl,inferInstance,LCalls.mono (op10_spec) fun r H' ⟨h1,h2⟩=>⟨h2,h1⟩⟩
 ·exact ⟨68,#[],rfl,inferInstance,LCalls.mono (op11_spec) fun r H' ⟨h1,h2⟩=>⟨h2,h1⟩⟩
 ·exact ⟨69,#[],rfl,inferInstance,LCalls.mono (op12_spec) fun r H' ⟨h1,h2⟩=>⟨h2,h1⟩⟩
 ·exact ⟨70,#[],rfl,inferInstance,LCalls.mono (op13_spec) fun r H' ⟨h1,h2⟩=>⟨h2,h1⟩⟩
 ·exact ⟨63,#[],rfl,inferInstance,LCalls.mono (op7_spec ha hb) fun r H' ⟨h1,h2⟩=>⟨h2,h1⟩⟩
 ·exact ⟨58,#[],rfl,inferInstance,LCalls.mono (op2_spec ha hb) fun r H' ⟨h1,h2⟩=>⟨h2,h1⟩⟩
 ·exact ⟨59,#[],rfl,inferInstance,LCalls.mono (op3_spec ha hb) fun r H' ⟨h1,h2⟩=>⟨h2,h1⟩⟩
 ·exact ⟨60,#[],rfl,inferInstance,LCalls.mono (op4_spec ha hb) fun r H' ⟨h1,h2⟩=>⟨h2,h1⟩⟩
 ·refine ⟨61,#[.pointer (some ⟨db,0,none⟩)],rfl,inferInstance,LCalls.mono (op5_spec ha) fun r H' ⟨h1,h2⟩=>⟨h1,h2.trans ?_⟩⟩
  by_cases h0:b=0
  ·rw[if_pos h0,h0]
   rfl
  ·rw[if_neg h0]
   show _=resB (if b=0 then none else _)
   rw[if_neg h0]
   rfl
 ·refine ⟨62,#[.pointer (some ⟨db,0,none⟩)],rfl,inferInstance,LCalls.mono (op6_spec ha) fun r H' ⟨h1,h2⟩=>⟨h1,h2.trans ?_⟩⟩
  by_cases h0:b=0
  ·rw[if_pos h0,h0]
   rfl
  ·rw[if_neg h0]
   show _=resB (if b=0 then none else _)
   rw[if_neg h0]
   rfl
end
end Go.Proofs.YtcbpcianefpniaaGreatDoor.Inp
namespace Go.Proofs.YtcbpcianefpniaaGreatDoor.Inp
open Go.GL Go.RowKit Go.Stele
set_option maxRecDepth 100000
set_option maxHeartbeats 4000000
theorem CfgOk.keys {c:Cfg} (hC:CfgOk c):(c.sb.map (·.1)).Nodup:=by rw[hC.sbk];exact hC.valid.keys
theorem CfgOk.block {c:Cfg} (hC:CfgOk c) {k:List UInt8} (hk:k∈scalarsP c.p.vars c.p.funcs):∃ b,(k,b)∈c.sb∧GL.kvGet (scKV c.sb) k=some (ptr b 0):=by
 rw[←hC.sbk] at hk
 obtain ⟨⟨k',b⟩,h1,rfl⟩:=List.mem_map.1 hk
 exact ⟨b,h1,kv_hit (A:=List UInt8×Nat) (·.1) (fun q=>ptr q.2 0) hC.keys h1⟩
theorem CfgOk.miss {c:Cfg} (hC:CfgOk c) {k:List UInt8} (hk:k ∉ scalarsP c.p.vars c.p.funcs):GL.kvGet (scKV c.sb) k=none:=by
 rw[←hC.sbk] at hk
 exact kv_miss (A:=List UInt8×Nat) (·.1) (fun q=>ptr q.2 0) hk
theorem CfgOk.akeys {c:Cfg} (hC:CfgOk c):(c.ab.map (·.1)).Nodup:=by
 rw[hC.abk]
 exact (List.nodup_append.1 (List.nodup_append.1 (fresh_zero _ _ hC.valid.names).1).1).2.1
theorem CfgOk.arr {c:Cfg} (hC:CfgOk c) {k:List UInt8} (hk:k∈c.p.arrays.map (·.name)):∃ b n,(k,b,n)∈c.ab∧GL.kvGet (arKV c.ab) k=some (rowV b n):=by
 rw[←hC.abk] at hk
 obtain ⟨⟨k',b,n⟩,h1,rfl⟩:=List.mem_map.1 hk
 exact ⟨b,n,h1,kv_hit (A:=List UInt8×Nat×Nat) (·.1) (fun q=>rowV q.2.1 q.2.2) hC.akeys h1⟩
attribute [local irreducible] LOps LCode LStep LCalls Go.GL.Pure QThen QBlock RetPost LQ LAny LLate LLateOp
section
variable {B0:Nat} {w0:World} {H:Heap}
theorem scalar_spec {c:Cfg} (hC:CfgOk c) {s:IS} (hs:St c s H) {f:FnD} (hf:f∈c.p.funcs) {name:List UInt8} (hk:keyI f name∈scalarsP c.p.vars c.p.funcs) {b:Nat} (hb:GL.kvGet (scKV c.sb) (keyI f name)=some (ptr b 0)) :
  LCalls (KC B0 w0) 159 [ptr c.rb 0,encFn f,str name] H (Same (ptr b 0) H):=by
 have hke:=key_eq hC.valid.names hf name
 have hfl:=hC.fshort f hf
 have hnl:=key_short hC.short hk
 obtain ⟨hl,hle,v,Ha,hacc,rfl⟩:=hs
 refine cI Tryz.func159 rfl (n:=30) rfl rfl rfl ?_
 refine gaj ?_
 refine oS (S.box rfl fun b4=>?_) rfl
 refine gac ?_
 refine LCode.quiet zk ?_
 refine gab ?_
 by_cases hin:f.name++[46]++name∈scalarsP c.p.vars c.p.funcs
 ·rw[if_pos hin] at hke
  rw[←hke] at hb
  refine LQ.pure (Pure.kvHit2 rfl rfl zm2 hb) rfl ?_
  refine gaa ?_
  refine oC rfl (fun hc=>?_) (fun hc=>?_)
  ·refine gad ?_
   exact retS rfl (zra rfl) rfl (zhD zhr)
  ·cases hc
 ·rw[if_neg hin] at hke
  rw[←hke] at hb
  refine LQ.pure (Pure.kvMiss2 rfl rfl zm2 (hC.miss hin)) rfl ?_
  refine gaa ?_
  refine oC rfl (fun hc=>?_) (fun hc=>?_)
  ·cases hc
  ·refine gaa ?_
   refine oP (Pure.kvHit rfl rfl zm2 hb) rfl ?_
   refine gaf ?_
   exact retS rfl (zra rfl) rfl (zhD zhr)
theorem wrapU64 {n:Nat} (h:n<18446744073709551616):IntKind.u64.wrap (n:Int)=n:=by
 have:IntKind.u64.wrap (n:Int)=(n:Int) % 18446744073709551616:=by
  simp only[IntKind.wrap,IntKind.bits,IntKind.signed,Bool.false_and]
  rfl
 rw[this]
 omega
theorem element_spec {c:Cfg} (hC:CfgOk c) {s:IS} (hs:St c s H) {name:List UInt8} {b n i:Nat} (hb:(name,b,n)∈c.ab) (hg:GL.kvGet (arKV c.ab) name=some (rowV b n)) (hi:i<4294967296) :
  LCalls (KC B0 w0) 160 [ptr c.rb 0,str name,u32 i] H (fun r H'=>H'=H∧r=if i<n then .ret (ptr b i) else .panic (panI 2)):=by
 have hn:=hC.asz _ hb
 simp only at hn
 obtain ⟨hl,hle,v,Ha,hacc,rfl⟩:=hs
 refine cI Tryz.func160 rfl (n:=25) rfl rfl rfl ?_
 refine gaa ?_
 refine oP (Pure.kvHit rfl rfl zm2 hg) rfl ?_
 refine gaa ?_
 refine oP (Pure.rowLen rfl) rfl ?_
 refine gab ?_
 have e1:=wrapU64 (n:=i) zo
 have e2:=wrapU64 (n:=n) zo
 refine oC rfl (fun hc=>?_) (fun hc=>?_)
 ·have h0:¬ i<n:=by
   have:=zt hc
   rw[e1,e2] at this
   omega
  refine gaa ?_
  refine oS (LStep.panic rfl fun e' he'=>?_) rfl
  refine gah ?_
  exact RetPost.panic (he'.trans rfl) zhr ⟨rfl,by rw[if_neg h0];rfl⟩
 ·have h0:i<n:=by
   have:=zf hc
   rw[e1,e2] at this
   omega
  refine gad ?_
  refine oP (Pure.indexRow rfl rfl zo zo) rfl ?_
  refine gaf ?_
  refine rR rfl (zra rfl) zhr ⟨rfl,?_⟩
  rw[if_pos h0]
  show LRes.ret (ptr b (0+(i:Int).toNat * 1))=_
  rw[Int.toNat_natCast,Nat.mul_one,Nat.zero_add]
end
end Go.Proofs.YtcbpcianefpniaaGreatDoor.Inp
