/- Texts joined: RPar9, RLex1, RLex2, RLex3, LexSpec3, RLex4, RLex5, LexLaw, RParA, ChkW11, InpNodes, InpX3, LawI, RI8. -/
import Derived.Lib.ItoaLen
import Derived.Test.YtcbpcianefpniaaGreatDoorBRowIR1
import Derived.Test.YtcbpcianefpniaaGreatDoorBRowIR2
import Derived.Test.YtcbpcianefpniaaGreatDoorBRowIR3
import Derived.Test.YtcbpcianefpniaaGreatDoorBRowIR4
import Derived.Test.YtcbpcianefpniaaGreatDoorBRowIR5
import Derived.Test.YtcbpcianefpniaaGreatDoorBRowIR6
import Derived.Test.YtcbpcianefpniaaGreatDoorBRowIR8
set_option linter.unusedVariables false
set_option linter.unusedSimpArgs false
namespace Go.Proofs.YtcbpcianefpniaaGreatDoor
open Go.GL Go.RowKit Go.Stele
set_option maxRecDepth 100000
set_option maxHeartbeats 4000000
attribute [local irreducible] LOps LCode LStep LCalls Go.GL.Pure QThen QBlock RetPost LQ LAny LLate LLateOp LS
theorem stO_bf {A B:Type} {T:List Tok} {o i:Nat} {ln er:Int} {xs:List (List UInt8)} {a b:Nat→Nat→OR A} {K:A→Nat→Nat→OR B} {r:Res B} (hc:(decide (er=0) && isTok T i xs)=false)
  (h:stO o i ln er (fun i o=>obind (if isTok T i xs then a i o else b i o) K)=some r):stO o i ln er (fun i o=>obind (b i o) K)=some r:=by
 by_cases he:er=0
 ·subst he
  rw[andz] at hc
  rw[stO_ok,hc] at h
  exact h
 ·rw[stO_dead he] at h ⊢
  exact h
theorem stO_bt {A B:Type} {T:List Tok} {o i:Nat} {ln:Int} {xs:List (List UInt8)} {a b:Nat→Nat→OR A} {K:A→Nat→Nat→OR B} {r:Res B} (ht:isTok T i xs=true)
  (h:stO o i ln 0 (fun i o=>obind (if isTok T i xs then a i o else b i o) K)=some r):stO o i ln 0 (fun i o=>obind (a i o) K)=some r:=by
 rw[stO_ok,ht] at h
 exact h
theorem vars_next {B:Type} {T:List Tok} {k o i:Nat} {ln:Int} {l:List (List UInt8)} {K:List (List UInt8)→Nat→Nat→OR B} {r:Res B} (ht:isTok T i [kwVar]=true) (h:stO o i ln 0 (fun i o=>obind (sVars T k l i o) K)=some r) :
  ∃ g,k=g+1∧stO o (i+1) ln 0 (fun i o=>obind (sNames T g i o) fun ns i o=>obind (some (sNeed T [59] i o)) fun _ i o=>obind (sVars T g (l++ns) i o) K)=some r:=by
 rw[stO_ok] at h
 cases k with
 |zero=>rw[sVars] at h;cases h
 |succ g=>
  rw[sVars,if_pos ht] at h
  simp only[obind_assoc] at h
  exact ⟨g,rfl,h⟩
theorem vars_end {B:Type} {T:List Tok} {k o i:Nat} {ln er:Int} {l:List (List UInt8)} {K:List (List UInt8)→Nat→Nat→OR B} {r:Res B} (hc:(decide (er=0) && isTok T i [kwVar])=false) (h:stO o i ln er (fun i o=>obind (sVars T k l i o) K)=some r):stO o i ln er (K l)=some r:=by
 by_cases he:er=0
 ·subst he
  rw[andz] at hc
  rw[stO_ok] at h ⊢
  cases k with
  |zero=>rw[sVars] at h;cases h
  |succ g=>
   rw[sVars,if_neg (by rw[hc];decide)] at h
   exact h
 ·rw[stO_dead he] at h ⊢
  exact h
section
variable {B0:Nat} {w0:World}
theorem qfunc_spec (rb:Nat) (T:List Tok) (hT:RTOK T) (f o i:Nat) (hi:i<T.length) (ho:o≤100) (r:Res FnD) (hr:sFunc T f (i+1) o=some r) :
  LCalls (KC B0 w0) 50 [ptr rb 0] [rdH rb T i o 0 0] (PostQ rb T o encFn r):=by
 have hl:=hT.len
 have hS:=(qst_all (B0:=B0) (w0:=w0) rb T hT f).2.1
 have hr':stO o (i+1) 0 0 (fun i o=>obind (some (sWord T 2 i o)) fun nm i' op'=>obind (some (sBegin T [40] i' op')) fun _ i' op'=>
  obind (if isTok T i' [[41]] then some (.ok [] i' op') else sNames T f i' op') fun ps i' op'=>obind (some (sEnd T [41] i' op')) fun _ i' op'=>
  obind (some (sBegin T [123] i' op')) fun _ i' op'=>obind (sVars T f [] i' op') fun ls i' op'=>obind (sStmts T f [] i' op') fun b i' op'=>
  obind (some (sEnd T [125] i' op')) fun _ i' op'=>some (.ok ⟨nm,ps,ls,b⟩ i' op'))=some r:=hr
 refine cI Tryz.func50 rfl (n:=49) rfl rfl rfl ?_
 refine gai ?_
 refine oS (S.alloc fun b2=>?_) rfl
 refine gak ?_
 refine oS (S.alloc fun b3=>?_) rfl
 refine gaa ?_
 refine oS (S.callQ (i:=i+1) (op:=(o:Int)) [_] rfl pH hr' (fun r1 h1=>qname_spec rb T o (i+1) o 0 0 hl hT.pos (fun _=>⟨rfl,hi,rfl,ho⟩) r1 h1) fun s i1 op1 ln1 er1 hw1 hal1 hr1=>?_) rfl
 refine gaa ?_
 refine oS (S.callQ [_,_] rfl zp1 hr1 (fun r1 h1=>qenter_spec rb T o i1 op1 ln1 er1 [40] hl hT.pos hw1 r1 h1) fun u i2 op2 ln2 er2 hw2 hal2 hr2=>?_) rfl
 refine gaq ?_
 refine oS (S.fnH [_,_] rfl pH (qnext_spec rb T i2 op2 ln2 er2 [41] hl) ?_) rfl
 refine gac ?_
 refine LCode.mid (A:=List (List UInt8)×Nat×Int×Int×Int) (fun _=>[(0,ptr rb 0),(2,ptr b2 0),(3,ptr b3 0)]) (fun a=>(b3,.cells 63 [str s,.list (a.1.map str),nilSlice,nilSlice])::rdH rb T a.2.1 a.2.2.1 a.2.2.2.1 a.2.2.2.2::[(b2,.cells 63 [str [],nilSlice,nilSlice,nilSlice])])
  (fun a=>Wf T (o+1) a.2.1 a.2.2.1 a.2.2.2.1 a.2.2.2.2∧stO (o+1) a.2.1 a.2.2.2.1 a.2.2.2.2 (fun i' op'=>obind (some (sEnd T [41] i' op')) fun _ i' op'=>obind (some (sBegin T [123] i' op')) fun _ i' op'=>obind (sVars T f [] i' op') fun ls i' op'=>
   obind (sStmts T f [] i' op') fun b i' op'=>obind (some (sEnd T [125] i' op')) fun _ i' op'=>some (.ok ⟨s,a.1,ls,b⟩ i' op'))=some r) ?_ ?_
 ·refine oC rfl (fun hc=>?_) (fun hc=>?_)
  ·have hc':(decide (er2=0) && isTok T i2 [[41]])=false:=by simpa only[Bool.not_eq_true'] using hc
   have hr3:=stO_bf hc' hr2
   refine gae ?_
   refine oS (S.callB [_] rfl pH hr3 (fun r1 h1=>qnames_spec rb T hT f (o+1) i2 op2 ln2 er2 hw2 r1 h1) fun ns i3 op3 ln3 er3 hb3 hw3 hal3 hr4=>?_) rfl
   refine gac ?_
   exact ⟨(ns,i3,op3,ln3,er3),⟨hw3,hr4⟩,⟨rfl,rfl,rfl,trivial⟩,rfl,rfl⟩
  ·have hc':(decide (er2=0) && isTok T i2 [[41]])=true:=by simpa only[Bool.not_eq_false'] using hc
   obtain ⟨he,ht⟩:=Bool.and_eq_true_iff.1 hc'
   obtain rfl:=zt he
   have hr3:=stO_bt ht hr2
   refine LCode.cellSub zp1 (cs':=[str s,.list [],nilSlice,nilSlice]) ⟨LV.Sub.refl _,LV.Sub.nil,LV.Sub.refl _,LV.Sub.refl _,trivial⟩ ?_
   refine gas ?_
   exact ⟨([],i2,op2,ln2,0),⟨hw2,hr3⟩,⟨rfl,rfl,rfl,trivial⟩,rfl,rfl⟩
 rintro ⟨ps,i3,op3,ln3,er3⟩ ⟨hw3,hr3⟩ j hj
 refine gae ?_
 refine oS (S.callQ [_,_] rfl zp1 hr3 (fun r1 h1=>qleave_spec rb T o i3 op3 ln3 er3 [41] hl hT.pos hw3 r1 h1) fun u2 i4 op4 ln4 er4 hw4 hal4 hr4=>?_) rfl
 refine gaq ?_
 refine oS (S.callQ [_,_] rfl pH hr4 (fun r1 h1=>qenter_spec rb T o i4 op4 ln4 er4 [123] hl hT.pos hw4 r1 h1) fun u3 i5 op5 ln5 er5 hw5 hal5 hr5=>?_) rfl
 refine gad ?_
 refine oL (fun k ls H=>∃ (v:LV) (l:List (List UInt8)) (i6:Nat) (op6 ln6 er6:Int) (Ha:Heap),ls=[(0,ptr rb 0),(2,ptr b2 0),(3,ptr b3 0)] ∧
   H=rdH rb T i6 op6 ln6 er6::(b3,.cells 63 [str s,.list (ps.map str),v,nilSlice])::(b2,.cells 63 [str [],nilSlice,nilSlice,nilSlice])::Ha∧Acc 1 v (l.map str) Ha []∧Wf T (o+1) i6 op6 ln6 er6∧l.length≤400000∧(er6=0→l.length≤i6) ∧
   stO (o+1) i6 ln6 er6 (fun i o=>obind (sVars T k l i o) fun ls i o=>obind (sStmts T f [] i o) fun b i o=>obind (some (sEnd T [125] i o)) fun _ i o=>some (.ok ⟨s,ps,ls,b⟩ i o))=some r)
  ⟨f,_,_,⟨nilSlice,[],i5,op5,ln5,er5,[],rfl,rfl,Acc.nil,hw5,by simp,fun _=>by simp,hr5⟩,⟨rfl,rfl,rfl,trivial⟩,HSub.refl _⟩ ?_
 rintro k ls H ⟨v,l,i6,op6,ln6,er6,Ha,rfl,rfl,hacc,hw6,hll,hla,hI⟩ j2 hj2
 refine gae ?_
 refine oS (S.fnH [_,_] rfl pH (qnext_spec rb T i6 op6 ln6 er6 kwVar hl) ?_) rfl
 refine gap ?_
 refine oC rfl (fun hc=>?_) (fun hc=>?_)
 ·obtain ⟨he,ht⟩:=Bool.and_eq_true_iff.1 hc
  obtain rfl:=zt he
  obtain ⟨rfl,hi6,rfl,ho6⟩:=hw6 rfl
  have hlt:=isTok_lt ht
  have hla:=hla rfl
  obtain ⟨k,rfl,hI2⟩:=vars_next ht hI
  have hwn:Wf T (o+1) (i6+1) ((o+1:Nat):Int) 0 0:=fun _=>⟨rfl,hlt,rfl,ho6⟩
  refine gaa ?_
  refine LCode.draw (m:=7) rfl [] ?_
  refine aT 0 rfl rfl (Pure.fieldH rfl) ?_
  refine aT 2 rfl rfl (Pure.mv (lv:=.atom _) rfl) ?_
  refine LAny.late ?_ zhn
  refine LLate.two (i:=1) (j:=3) zk ?_ ?_
  ·refine lH rfl rfl (Pure.loadH (c:=v) rfl zm1 rfl) ?_
   refine lO 3 (lW rfl (.inl rfl) rfl (S.callB (i:=i6+1) (op:=((o+1:Nat):Int)) [_] rfl pH hI2 (fun r1 h1=>qnames_spec rb T hT k (o+1) (i6+1) _ 0 0 hwn r1 h1) fun ns i7 op7 ln7 er7 hb7 hw7 hal7 hI3=>?_))
   refine lO 4 (lW rfl (.inl rfl) rfl (S.accF (A:=[_,_,_]) (H1:=Ha) (by exact List.perm_append_comm (l₁:=[_,_,_])) rfl hacc rfl (strs_len ns) (strs_ok ns) (by simp;omega) fun v' H' ha'=>?_))
   refine lO 5 (lH rfl rfl (Pure.fieldH rfl) ?_)
   refine lO 6 (lW rfl (.inl rfl) rfl (S.store (cs':=[_,_,v',_]) rfl zp1 (Acc.cell ha').1 rfl rfl (Acc.cell ha').2 rfl ?_))
   refine lD zk ?_
   refine gaq ?_
   refine oS (S.callQ [_,_] rfl zp1 hI3 (fun r1 h1=>qwant_spec rb T (o+1) i7 op7 ln7 er7 [59] hl hT.pos hw7 r1 h1) fun u4 i8 op8 ln8 er8 hw8 hal8 hI4=>?_) rfl
   refine gad ?_
   exact ⟨k,_,_,by omega,⟨v',l++ns,i8,op8,ln8,er8,H',rfl,rfl,by rw[List.map_append];exact ha',hw8,by simp;omega,fun h8=>by
    obtain ⟨h7,h9⟩:=hal8 h8
    obtain ⟨_,h10⟩:=hal7 h7
    have h11:=names_len h10
    injection h9 with h9
    have h12:=sNeed_good T [59] i7 (o+1)
    rw[h9] at h12
    obtain ⟨h13,_⟩:=h12
    simp
    omega,hI4⟩,⟨rfl,rfl,rfl,trivial⟩,HSub.refl _,hj2⟩
  ·refine lW rfl (.inl rfl) rfl (S.callB (i:=i6+1) (op:=((o+1:Nat):Int)) [_] rfl pH hI2 (fun r1 h1=>qnames_spec rb T hT k (o+1) (i6+1) _ 0 0 hwn r1 h1) fun ns i7 op7 ln7 er7 hb7 hw7 hal7 hI3=>?_)
   refine lO 1 (lH rfl rfl (Pure.loadH (c:=v) rfl zm1 rfl) ?_)
   refine lO 4 (lW rfl (.inl rfl) rfl (S.accF (A:=[_,_,_]) (H1:=Ha) (by exact List.perm_append_comm (l₁:=[_,_,_])) rfl hacc rfl (strs_len ns) (strs_ok ns) (by simp;omega) fun v' H' ha'=>?_))
   refine lO 5 (lH rfl rfl (Pure.fieldH rfl) ?_)
   refine lO 6 (lW rfl (.inl rfl) rfl (S.store (cs':=[_,_,v',_]) rfl zp1 (Acc.cell ha').1 rfl rfl (Acc.cell ha').2 rfl ?_))
   refine lD zk ?_
   refine gaq ?_
   refine oS (S.callQ [_,_] rfl zp1 hI3 (fun r1 h1=>qwant_spec rb T (o+1) i7 op7 ln7 er7 [59] hl hT.pos hw7 r1 h1) fun u4 i8 op8 ln8 er8 hw8 hal8 hI4=>?_) rfl
   refine gad ?_
   exact ⟨k,_,_,by omega,⟨v',l++ns,i8,op8,ln8,er8,H',rfl,rfl,by rw[List.map_append];exact ha',hw8,by simp;omega,fun h8=>by
    obtain ⟨h7,h9⟩:=hal8 h8
    obtain ⟨_,h10⟩:=hal7 h7
    have h11:=names_len h10
    injection h9 with h9
    have h12:=sNeed_good T [59] i7 (o+1)
    rw[h9] at h12
    obtain ⟨h13,_⟩:=h12
    simp
    omega,hI4⟩,⟨rfl,rfl,rfl,trivial⟩,HSub.refl _,hj2⟩
 ·have hr6:=vars_end hc hI
  refine gab ?_
  refine LOps.cellSub zp1 (cs':=[str s,.list (ps.map str),.list (l.map str),nilSlice]) ⟨LV.Sub.refl _,LV.Sub.refl _,hacc.sub,LV.Sub.refl _,trivial⟩ ?_
  refine oS (S.callQ (enc:=qSms) (o':=o+1) [_] rfl zp1 hr6 (fun r1 h1=>?_) fun ss i7 op7 ln7 er7 hw7 hal7 hr7=>?_) rfl
  ·by_cases he:er6=0
   ·subst he
    obtain ⟨rfl,hi6,rfl,ho6⟩:=hw6 rfl
    rw[stO_ok] at h1
    exact hS (o+1) i6 r1 hi6 ho6 h1
   ·rw[stO_dead he] at h1
    cases h1
    exact qstmts_dead rb T hT (o+1) i6 op6 ln6 er6 he
  refine gaa ?_
  refine oS (S.callQ [_,_] rfl zp1 hr7 (fun r1 h1=>qleave_spec rb T o i7 op7 ln7 er7 [125] hl hT.pos hw7 r1 h1) fun u5 i8 op8 ln8 er8 hw8 hal8 hr8=>?_) rfl
  refine gaa ?_
  exact retQ (v:=⟨s,ps,l,ss⟩) (hj2.trans hj) (rC (rA (k:=4) rfl zm0 rfl zsr) rN) hw8 hr8 rfl (zhP zp1 zhn)
end
end Go.Proofs.YtcbpcianefpniaaGreatDoor
namespace Go.Proofs.YtcbpcianefpniaaGreatDoor
open Go.GL Go.RowKit Go.Stele
set_option maxRecDepth 100000
set_option maxHeartbeats 4000000
attribute [local irreducible] LOps LCode LStep LCalls Go.GL.Pure QThen QBlock RetPost LQ LAny LLate LLateOp
section
variable {B0:Nat} {w0:World}
theorem rdigit_spec (c:UInt8):LCalls (KC B0 w0) 146 [int .u8 c.toNat] [] (Ret (bool (isDigit c))):=by
 refine cI Tryz.func146 rfl (n:=9) rfl rfl rfl ?_
 refine gaa ?_
 refine oB 5 rfl (fun ht=>?_) (fun ht=>?_)
 ·refine gac ?_
  exact retRet rfl (zra rfl) (by simp[resLV,isDigit,ht])
 ·refine gag ?_
  exact retRet rfl (zra rfl) (by simp[resLV,isDigit,ht])
theorem rletter_spec (c:UInt8):LCalls (KC B0 w0) 148 [int .u8 c.toNat] [] (Ret (bool (isLetter c))):=by
 refine cI Tryz.func148 rfl (n:=9) rfl rfl rfl ?_
 refine gaa ?_
 refine oB 5 rfl (fun ht=>?_) (fun ht=>?_)
 ·refine gac ?_
  exact retRet rfl (zra rfl) (by simp[resLV,isLetter,ht])
 ·refine gag ?_
  exact retRet rfl (zra rfl) (by simp[resLV,isLetter,ht])
theorem rpart_spec (c:UInt8):LCalls (KC B0 w0) 180 [int .u8 c.toNat] [] (Ret (bool (isInner c))):=by
 refine cI Tryz.func180 rfl (n:=13) rfl rfl rfl ?_
 refine gav ?_
 refine oS (S.fn [_] rfl (rletter_spec c) ?_) rfl
 refine gaz ?_
 refine oB 5 rfl (fun ht=>?_) (fun ht=>?_)
 ·refine gad ?_
  exact retRet rfl (zra rfl) (by simp[resLV,isInner,ht])
 ·refine gat ?_
  refine oS (S.fn [_] rfl (rdigit_spec c) ?_) rfl
  refine gag ?_
  refine oB 9 rfl (fun hd=>?_) (fun hd=>?_)
  ·refine gad ?_
   exact retRet rfl (zra rfl) (by simp[resLV,isInner,ht,hd])
  ·refine gad ?_
   exact retRet rfl (zra rfl) (by simp[resLV,isInner,ht,hd])
theorem rKeywords_spec:LCalls (KC B0 w0) 201 [] [] (Ret (.list (keywords.map str))):=by
 refine cI Tryz.func201 rfl (n:=2) rfl rfl rfl ?_
 refine ga2 ?_
 refine oS (S.lit [_,_,_,_,_,_,_,_] rfl (elemsOk_strs keywords) rfl rfl rfl ?_) rfl
 refine gaf ?_
 exact retRet rfl (rC (rT (v:=.list _) rfl zsr) rN) rfl
theorem rKeyword_spec (s:List UInt8):LCalls (KC B0 w0) 181 [str s] [] (Ret (bool (keywords.contains s))):=by
 refine cI Tryz.func181 rfl (n:=18) rfl rfl rfl ?_
 refine ga2 ?_
 refine oS (S.fn [] rfl rKeywords_spec ?_) rfl
 refine gaa ?_
 refine oL (fun k ls H=>∃ m:Nat,k=8-m∧ls=[(0,str s),(3,.list (keywords.map str)),(4,int .i64 m)]∧H=[]∧m≤8∧keywords.contains s=(keywords.drop m).contains s)
  ⟨_,_,_,⟨0,rfl,rfl,rfl,by omega,by simp⟩,⟨rfl,rfl,rfl,trivial⟩,HSub.refl _⟩ ?_
 rintro k ls H ⟨m,rfl,rfl,rfl,hm,hI⟩ j hj
 have h8:keywords.length=8:=rfl
 refine gab ?_
 refine oC rfl (fun hc=>?_) (fun hc=>?_)
 ·have hlt:m<keywords.length:=by have:=zt hc;simp at this;omega
  refine gab ?_
  refine oP (xR (el':=str keywords[m]) rfl rfl zo (by simp) rfl rfl) rfl ?_
  refine gac ?_
  refine oC rfl (fun he=>?_) (fun he=>?_)
  ·have hx:keywords[m]=s:=by simpa using he
   refine ga1 ?_
   exact retRet hj (zra rfl) (by
    have:keywords.contains s=true:=by rw[←hx];simp
    rw[this]
    rfl)
  ·have hx:¬ keywords[m]=s:=by simpa using he
   refine gab ?_
   exact ⟨_,_,_,by omega,⟨m+1,rfl,rfl,rfl,by omega,by
    rw[hI,List.drop_eq_getElem_cons hlt,List.contains_cons]
    simp[Ne.symm hx]⟩,⟨rfl,rfl,int_eq zo,trivial⟩,HSub.refl _,hj⟩
 ·have hge:keywords.length≤m:=by have:=zf hc;simp at this;omega
  refine gab ?_
  exact retRet hj (zra rfl) (by
   rw[hI,List.drop_eq_nil_of_le hge]
   rfl)
theorem wrap_u8 {n:Int} (h:0≤n∧n≤255):IntKind.u8.wrap n=n:=by
 simp only[IntKind.wrap,IntKind.bits,IntKind.signed,Bool.false_and]
 simp
 omega
theorem Decimal_spec:∀ (n:Nat),n≤4611686018427387904→LCalls (KC B0 w0) 150 [int .i64 n] [] (Ret (str (Go.Lib.decDigits n))):=by
 intro n
 induction n using Nat.strongRecOn with
 |_ n ih=>
  intro hn
  refine cI Tryz.func150 rfl (n:=20) rfl rfl rfl ?_
  refine gab ?_
  refine oC rfl (fun hc=>?_) (fun hc=>?_)
  ·have hlt:n<10:=by have:=zt hc;omega
   refine gaa ?_
   rw[wrap_u8 zo]
   refine oS (S.lit [_] rfl (eC rfl rfl eN) rfl rfl rfl ?_) rfl
   refine oP (Pure.bytesStr (l:=[UInt8.ofNat (48+n)]) (by
    have h:((UInt8.ofNat (48+n)).toNat:Int)=48+(n:Int):=by
     rw[UInt8.toNat_ofNat']
     omega
    simp only[List.map_cons,List.map_nil,h]
    rfl) (by simp)) rfl ?_
   refine gal ?_
   exact retRet rfl (zra rfl) (by
    rw[Go.Lib.decDigits,dif_pos hlt]
    rfl)
  ·have hge:¬ n<10:=by have:=zf hc;omega
   refine gad ?_
   have hq:((n:Int) / 10)=((n / 10:Nat):Int):=by omega
   have hm:((n:Int) % 10)=((n % 10:Nat):Int):=by omega
   have hbytes:some [int .u8 (IntKind.u8.wrap (48+(n:Int) % 10))]=some ([UInt8.ofNat (48+n % 10)].map fun b=>int .u8 b.toNat):=by
    have h:((UInt8.ofNat (48+n % 10)).toNat:Int)=48+((n % 10:Nat):Int):=by
     rw[UInt8.toNat_ofNat']
     omega
    simp only[List.map_cons,List.map_nil,h,hm]
    rw[wrap_u8 zo]
   have hrec:LCalls (KC B0 w0) 150 [int .i64 ((n:Int) / 10)] [] (Ret (str (Go.Lib.decDigits (n / 10)))):=by
    rw[hq]
    exact ih (n / 10) zo zo
   have hlen:(Go.Lib.decDigits (n / 10)).length+[UInt8.ofNat (48+n % 10)].length≤9223372036854775807:=by
    rw[Go.Lib.decDigits_length]
    have:=Go.Lib.nDigits_le20 (n / 10) zo
    simp
    omega
   have hres:Go.Lib.decDigits n=Go.Lib.decDigits (n / 10)++[UInt8.ofNat (48+n % 10)]:=by rw[Go.Lib.decDigits,dif_neg hge]
   refine LCode.draw (m:=11) rfl [] ?_
   refine aT 0 rfl rfl (Pure.mv (lv:=.atom _) rfl) ?_
   refine LAny.take (i:=1) zhn rfl zk zk zk rfl (Pure.quo rfl rfl (by decide) zo zo) ?_
   refine aT 3 rfl rfl (Pure.mv (lv:=.atom _) rfl) ?_
   refine LAny.take (i:=4) zhn rfl zk zk zk rfl (Pure.rem rfl rfl (by decide) zo) ?_
   refine aT 5 rfl rfl (Pure.add rfl rfl zo) ?_
   refine aT 6 rfl rfl (Pure.cvt rfl) ?_
   refine LAny.late ?_ zhn
   refine LLate.two (i:=2) (j:=7) zk ?_ ?_
   ·refine (lS (i:=2) (H1:=[]) (F:=[]) rfl (.inl rfl) rfl zpr zhn (S.fn [_] rfl hrec ?_))
    refine zl1 zk (lS (i:=7) (H1:=[]) (F:=[]) rfl (.inl rfl) rfl zpr zhn (S.lit [_] rfl (eC rfl rfl eN) rfl rfl rfl ?_))
    refine zl1 zk (lS (i:=8) (H1:=[]) (F:=[]) rfl (.inl rfl) rfl zpr zhn (Pure.step (Pure.bytesStr (l:=[UInt8.ofNat (48+n % 10)]) hbytes (by simp)) ?_))
    refine zl1 zk (lS (i:=9) (H1:=[]) (F:=[]) rfl (.inl rfl) rfl zpr zhn (Pure.step (Pure.sadd (l:=Go.Lib.decDigits (n / 10)) (m:=[UInt8.ofNat (48+n % 10)]) rfl rfl hlen) ?_))
    refine zl1 zk (lS (i:=10) (H1:=[]) (F:=[]) rfl (.inl rfl) rfl zpr zhn (Pure.step (Pure.as (lv:=.atom _) rfl) ?_))
    refine lD zk ?_
    refine gam ?_
    exact retRet rfl (zra rfl) (by rw[hres];rfl)
   ·refine (lS (i:=7) (H1:=[]) (F:=[]) rfl (.inl rfl) rfl zpr zhn (S.lit [_] rfl (eC rfl rfl eN) rfl rfl rfl ?_))
    refine LLate.two (i:=2) (j:=8) zk ?_ ?_
    ·refine (lS (i:=2) (H1:=[]) (F:=[]) rfl (.inl rfl) rfl zpr zhn (S.fn [_] rfl hrec ?_))
     refine zl1 zk (lS (i:=8) (H1:=[]) (F:=[]) rfl (.inl rfl) rfl zpr zhn (Pure.step (Pure.bytesStr (l:=[UInt8.ofNat (48+n % 10)]) hbytes (by simp)) ?_))
     refine zl1 zk (lS (i:=9) (H1:=[]) (F:=[]) rfl (.inl rfl) rfl zpr zhn (Pure.step (Pure.sadd (l:=Go.Lib.decDigits (n / 10)) (m:=[UInt8.ofNat (48+n % 10)]) rfl rfl hlen) ?_))
     refine zl1 zk (lS (i:=10) (H1:=[]) (F:=[]) rfl (.inl rfl) rfl zpr zhn (Pure.step (Pure.as (lv:=.atom _) rfl) ?_))
     refine lD zk ?_
     refine gam ?_
     exact retRet rfl (zra rfl) (by rw[hres];rfl)
    ·refine (lS (i:=8) (H1:=[]) (F:=[]) rfl (.inl rfl) rfl zpr zhn (Pure.step (Pure.bytesStr (l:=[UInt8.ofNat (48+n % 10)]) hbytes (by simp)) ?_))
     refine zl1 zk (lS (i:=2) (H1:=[]) (F:=[]) rfl (.inl rfl) rfl zpr zhn (S.fn [_] rfl hrec ?_))
     refine zl1 zk (lS (i:=9) (H1:=[]) (F:=[]) rfl (.inl rfl) rfl zpr zhn (Pure.step (Pure.sadd (l:=Go.Lib.decDigits (n / 10)) (m:=[UInt8.ofNat (48+n % 10)]) rfl rfl hlen) ?_))
     refine zl1 zk (lS (i:=10) (H1:=[]) (F:=[]) rfl (.inl rfl) rfl zpr zhn (Pure.step (Pure.as (lv:=.atom _) rfl) ?_))
     refine lD zk ?_
     refine gam ?_
     exact retRet rfl (zra rfl) (by rw[hres];rfl)
end
end Go.Proofs.YtcbpcianefpniaaGreatDoor
namespace Go.Proofs.YtcbpcianefpniaaGreatDoor
open Go.GL Go.RowKit Go.Stele
set_option maxRecDepth 100000
set_option maxHeartbeats 4000000
attribute [local irreducible] LOps LCode LStep LCalls Go.GL.Pure QThen QBlock RetPost LQ LAny LLate LLateOp
def encT (r:TokR):LV:=.agg [int .i64 r.1.kind,str r.1.text,int .i64 r.1.line,int .i64 r.2.1,int .i64 r.2.2]
def numStep (a:Nat×Bool) (c:UInt8):Nat×Bool:=
 (if a.2 then a.1 else 10 * a.1+(c.toNat-48),a.2 || decide (4294967295<(if a.2 then a.1 else 10 * a.1+(c.toNat-48))))
theorem numStep_large (n:Nat):∀ l:List UInt8,(l.foldl numStep (n,true))=(n,true)
 |[]=>rfl
 |c::r=>by
  rw[List.foldl_cons]
  exact numStep_large n r
theorem numFold_parse:∀ (l:List UInt8) (n:Nat),n≤4294967295→(∀ c∈l,isDigit c=true) →
  Go.Lib.parseUintM (2 ^ 32-1) n l=(if (l.foldl numStep (n,false)).2 then .range else .ok (l.foldl numStep (n,false)).1)
 |[],n,_,_=>by simp[Go.Lib.parseUintM]
 |c::r,n,hn,h=>by
  have hc:=h c List.mem_cons_self
  simp only[isDigit,Bool.and_eq_true,decide_eq_true_eq,cv] at hc
  have hcomm:n * 10+(c.toNat-48)=10 * n+(c.toNat-48):=by omega
  rw[Go.Lib.parseUintM,if_pos zo,if_neg zo,List.foldl_cons,hcomm]
  by_cases hl:4294967295<10 * n+(c.toNat-48)
  ·rw[if_pos zo]
   have:numStep (n,false) c=(10 * n+(c.toNat-48),true):=by simp[numStep,hl]
   rw[this,numStep_large]
   simp
  ·rw[if_neg zo]
   have:numStep (n,false) c=(10 * n+(c.toNat-48),false):=by simp[numStep,hl]
   rw[this]
   exact numFold_parse r _ zo (fun c hc=>h c (List.mem_cons_of_mem _ hc))
theorem takeWhile_all (p:UInt8→Bool):∀ (s:List UInt8),∀ c∈s.takeWhile p,p c=true
 |[],c,hc=>by cases hc
 |a::r,c,hc=>by
  by_cases ha:p a=true
  ·rw[List.takeWhile_cons_of_pos ha] at hc
   rcases List.mem_cons.1 hc with rfl|hc
   ·exact ha
   ·exact takeWhile_all p r c hc
  ·rw[List.takeWhile_cons_of_neg ha] at hc
   cases hc
theorem stop_at {p:UInt8→Bool} {s:List UInt8} {m:Nat} (hm:m≤s.length) (h:s.takeWhile p=s.take m):(s.takeWhile p).length=m∧∀ (hlt:m<s.length),p s[m]=false:=by
 have hlen:(s.takeWhile p).length=m:=by rw[h];simp;omega
 refine ⟨hlen,fun hlt=>?_⟩
 cases hp:p s[m] with
 |false=>rfl
 |true=>
  exfalso
  have h1:s.takeWhile p=s.take m++(s.drop m).takeWhile p:=by
   have h2:s=s.take m++s.drop m:=(List.take_append_drop m s).symm
   have h3:∀ c∈s.take m,p c=true:=by rw[←h];exact takeWhile_all p s
   conv=>lhs;rw[h2]
   rw[List.takeWhile_append_of_pos h3]
  rw[h,List.drop_eq_getElem_cons hlt,List.takeWhile_cons_of_pos hp] at h1
  have:=congrArg List.length h1
  simp at this
section
variable {B0:Nat} {w0:World}
theorem rnumber_spec (s:List UInt8) (hs:s.length≤1000000000) (hne:s.takeWhile isDigit≠[]):LCalls (KC B0 w0) 147 [str s] [] (Ret (encT (lexNumber s))):=by
 refine cI Tryz.func147 rfl (n:=51) rfl rfl rfl ?_
 refine gai ?_
 refine oS (S.alloc fun b=>?_) rfl
 refine gab ?_
 refine oL (fun k ls H=>∃ (m n:Nat) (lg:Bool),k=s.length-m∧ls=[(0,str s),(2,ptr b 0),(3,int .i64 n),(4,int .i64 m),(5,bool lg)]∧H=[(b,.cells 163 [int .i64 0,str [],int .i64 0,int .i64 0,int .i64 0])]∧m≤s.length∧n≤42949672960∧(lg=false→n≤4294967295) ∧
   s.takeWhile isDigit=s.take m++(s.drop m).takeWhile isDigit∧(s.takeWhile isDigit).foldl numStep (0,false)=((s.drop m).takeWhile isDigit).foldl numStep (n,lg))
  ⟨_,_,_,⟨0,0,false,rfl,rfl,rfl,by omega,by omega,by omega,by simp,by simp⟩,⟨rfl,rfl,rfl,rfl,rfl,trivial⟩,HSub.refl _⟩ ?_
 rintro k ls H ⟨m,n,lg,rfl,rfl,rfl,hm,hn,hn2,hI,hF⟩ j hj
 refine gaa ?_
 refine LOps.cut [(0,str s),(2,ptr b 0),(3,int .i64 n),(4,int .i64 m),(5,bool lg),(15,bool (match s[m]? with|some c=>isDigit c|none=>false))] ?_ (fun i hi=>?_)
 ·refine oB 10 rfl (fun ht=>?_) (fun ht=>?_)
  ·have hlt:m<s.length:=by simpa using ht
   refine gat ?_
   refine oP (Pure.sindex (c:=s[m]) rfl rfl zo (by simp)) rfl ?_
   refine LOps.want rfl rfl ?_
   refine oS (S.fn [_] rfl (rdigit_spec _) ?_) rfl
   refine gad ?_
   exact ⟨⟨rfl,rfl,rfl,rfl,rfl,bool_eq (by rw[List.getElem?_eq_getElem hlt]),trivial⟩,rfl,rfl⟩
  ·have hge:s.length≤m:=by simpa using ht
   refine gag ?_
   exact ⟨⟨rfl,rfl,rfl,rfl,rfl,bool_eq (by rw[List.getElem?_eq_none hge]),trivial⟩,rfl,rfl⟩
 ·skip
  refine oC rfl (fun hc=>?_) (fun hc=>?_)
  ·have hlt:m<s.length:=by
    rcases Nat.lt_or_ge m s.length with h|h
    ·exact h
    ·rw[List.getElem?_eq_none h] at hc;cases hc
   rw[List.getElem?_eq_getElem hlt] at hc
   have hd:isDigit s[m]=true:=hc
   have hd2:=hd
   simp only[isDigit,Bool.and_eq_true,decide_eq_true_eq,cv] at hd2
   have hI2:=(takeWhile_step hlt hI).1 hd
   have hF2:(s.takeWhile isDigit).foldl numStep (0,false)=((s.drop (m+1)).takeWhile isDigit).foldl numStep (numStep (n,lg) s[m]):=by
    rw[hF,List.drop_eq_getElem_cons hlt,List.takeWhile_cons_of_pos hd,List.foldl_cons]
   refine gaa ?_
   cases lg with
   |true=>
    refine oC rfl (fun hb=>?_) (fun hb=>?_)
    ·cases hb
    ·refine gab ?_
     have hst:numStep (n,true) s[m]=(n,true):=by simp[numStep]
     exact ⟨_,_,_,by omega,⟨m+1,n,true,rfl,rfl,rfl,by omega,hn,by simp,hI2,by rw[hF2,hst]⟩,⟨rfl,rfl,rfl,int_eq zo,rfl,trivial⟩,HSub.refl _,hi.trans hj⟩
   |false=>
    refine oC rfl (fun hb=>?_) (fun hb=>?_)
    ·have hn3:=hn2 rfl
     refine gae ?_
     refine oP (Pure.mulW rfl rfl) rfl ?_
     refine gaz ?_
     refine oP (Pure.sindex (c:=s[m]) rfl rfl zo (by simp)) rfl ?_
     refine oP (Pure.subW rfl rfl) rfl ?_
     refine oP (Pure.cvt rfl) rfl ?_
     have hw1:IntKind.i64.wrap (10 * (n:Int))=10 * (n:Int):=wrap_i64 zo
     have hw2:IntKind.i64.wrap (IntKind.u8.wrap ((s[m].toNat:Int)-48))=((s[m].toNat-48:Nat):Int):=by
      rw[wrap_u8 zo,wrap_i64 zo]
      omega
     rw[hw1,hw2]
     refine gaa ?_
     have hst:numStep (n,false) s[m]=(10 * n+(s[m].toNat-48),decide (4294967295<10 * n+(s[m].toNat-48))):=by simp[numStep]
     exact ⟨_,_,_,by omega,⟨m+1,10 * n+(s[m].toNat-48),decide (4294967295<10 * n+(s[m].toNat-48)),rfl,rfl,rfl,by omega,by omega,by simp,hI2,by rw[hF2,hst]⟩,
      ⟨rfl,rfl,int_eq zo,int_eq zo,bool_eq (by rw[decide_eq_decide];omega),trivial⟩,HSub.refl _,hi.trans hj⟩
    ·cases hb
  ·have hstop:s.takeWhile isDigit=s.take m:=by
    rcases Nat.lt_or_ge m s.length with h|h
    ·rw[List.getElem?_eq_getElem h] at hc
     exact (takeWhile_step h hI).2 hc
    ·exact takeWhile_end h hI
   obtain ⟨hlen,hnot⟩:=stop_at hm hstop
   have hend:(s.drop m).takeWhile isDigit=[]:=by
    have:=congrArg List.length hI
    rw[hlen] at this
    simp only[List.length_append,List.length_take] at this
    exact List.length_eq_zero_iff.1 zo
   rw[hend] at hF
   have hparse:Go.Lib.parseUintB 32 (s.takeWhile isDigit)=(if lg then .range else .ok n):=by
    rw[Go.Lib.parseUintB,if_neg hne,numFold_parse _ _ zo (takeWhile_all _ s),hF,List.foldl_nil]
   refine gaa ?_
   refine LOps.cut [(0,str s),(2,ptr b 0),(3,int .i64 n),(4,int .i64 m),(5,bool lg),(42,bool (wordNext s (s.takeWhile isDigit).length))] ?_ (fun q hq=>?_)
   ·refine oB 37 rfl (fun ht=>?_) (fun ht=>?_)
    ·have hlt:m<s.length:=by simpa using ht
     refine gat ?_
     refine oP (Pure.sindex (c:=s[m]) rfl rfl zo (by simp)) rfl ?_
     refine LOps.want rfl rfl ?_
     refine oS (S.fn [_] rfl (rpart_spec _) ?_) rfl
     refine gad ?_
     exact ⟨⟨rfl,rfl,rfl,rfl,rfl,bool_eq (by rw[hlen,wordNext,List.getElem?_eq_getElem hlt];simp[isInner,hnot hlt]),trivial⟩,rfl,rfl⟩
    ·have hge:s.length≤m:=by simpa using ht
     refine gag ?_
     exact ⟨⟨rfl,rfl,rfl,rfl,rfl,bool_eq (by rw[hlen,wordNext,List.getElem?_eq_none hge]),trivial⟩,rfl,rfl⟩
   ·skip
    refine oC rfl (fun hw=>?_) (fun hw=>?_)
    ·refine gaa ?_
     exact retRet (hq.trans (hi.trans hj)) (rC (rA rfl zm0 rfl zsr) rN) (by rw[lexNumber,if_pos hw];rfl)
    ·refine gab ?_
     refine oC rfl (fun hl=>?_) (fun hl=>?_)
     ·refine gaa ?_
      exact retRet (hq.trans (hi.trans hj)) (rC (rA rfl zm0 rfl zsr) rN) (by rw[lexNumber,if_neg (by rw[hw];decide),hparse,hl];rfl)
     ·refine gax ?_
      refine oS (S.fn [_] rfl (Decimal_spec n zo) ?_) rfl
      refine gaf ?_
      exact retRet (hq.trans (hi.trans hj)) (rC (rA rfl zm0 rfl zsr) rN) (by rw[lexNumber,if_neg (by rw[hw];decide),hparse,hl,hlen];rfl)
theorem kw_short:∀ x∈keywords,x.length≤24:=by decide
theorem rname_spec (s:List UInt8) (hs:s.length≤1000000000):LCalls (KC B0 w0) 149 [str s] [] (Ret (encT (lexName s))):=by
 refine cI Tryz.func149 rfl (n:=35) rfl rfl rfl ?_
 refine gai ?_
 refine oS (S.alloc fun b=>?_) rfl
 refine gab ?_
 refine oL (fun k ls H=>∃ (m:Nat),k=s.length-m∧ls=[(0,str s),(2,ptr b 0),(3,int .i64 m)]∧H=[(b,.cells 163 [int .i64 0,str [],int .i64 0,int .i64 0,int .i64 0])]∧m≤s.length ∧
   s.takeWhile isInner=s.take m++(s.drop m).takeWhile isInner)
  ⟨_,_,_,⟨0,rfl,rfl,rfl,by omega,by simp⟩,⟨rfl,rfl,rfl,trivial⟩,HSub.refl _⟩ ?_
 rintro k ls H ⟨m,rfl,rfl,rfl,hm,hI⟩ j hj
 refine gaa ?_
 refine LOps.cut [(0,str s),(2,ptr b 0),(3,int .i64 m),(13,bool (match s[m]? with|some c=>isInner c|none=>false))] ?_ (fun i hi=>?_)
 ·refine oB 8 rfl (fun ht=>?_) (fun ht=>?_)
  ·have hlt:m<s.length:=by simpa using ht
   refine gat ?_
   refine oP (Pure.sindex (c:=s[m]) rfl rfl zo (by simp)) rfl ?_
   refine LOps.want rfl rfl ?_
   refine oS (S.fn [_] rfl (rpart_spec _) ?_) rfl
   refine gad ?_
   exact ⟨⟨rfl,rfl,rfl,bool_eq (by rw[List.getElem?_eq_getElem hlt]),trivial⟩,rfl,rfl⟩
  ·have hge:s.length≤m:=by simpa using ht
   refine gag ?_
   exact ⟨⟨rfl,rfl,rfl,bool_eq (by rw[List.getElem?_eq_none hge]),trivial⟩,rfl,rfl⟩
 ·skip
  refine oC rfl (fun hc=>?_) (fun hc=>?_)
  ·have hlt:m<s.length:=by
    rcases Nat.lt_or_ge m s.length with h|h
    ·exact h
    ·rw[List.getElem?_eq_none h] at hc;cases hc
   rw[List.getElem?_eq_getElem hlt] at hc
   refine gab ?_
   exact ⟨_,_,_,by omega,⟨m+1,rfl,rfl,rfl,by omega,(takeWhile_step hlt hI).1 hc⟩,⟨rfl,rfl,int_eq zo,trivial⟩,HSub.refl _,hi.trans hj⟩
  ·have hstop:s.takeWhile isInner=s.take m:=by
    rcases Nat.lt_or_ge m s.length with h|h
    ·rw[List.getElem?_eq_getElem h] at hc
     exact (takeWhile_step h hI).2 hc
    ·exact takeWhile_end h hI
   obtain ⟨hlen,hnot⟩:=stop_at hm hstop
   have hsl:(s.take ((m:Nat):Int).toNat).drop (Int.toNat 0)=s.takeWhile isInner:=by rw[hstop];simp
   refine gab ?_
   refine oP (Pure.sslice (i:=0) (j:=m) rfl rfl ⟨_,rfl⟩ zo zo zo) rfl ?_
   rw[hsl]
   refine oS (S.fn [_] rfl (rKeyword_spec _) ?_) rfl
   refine gap ?_
   refine oC rfl (fun hk=>?_) (fun hk=>?_)
   ·have hsh:=kw_short _ (List.contains_iff_mem.1 hk)
    refine gae ?_
    refine oP (Pure.sslice (i:=0) (j:=m) rfl rfl ⟨_,rfl⟩ zo zo zo) rfl ?_
    rw[hsl]
    refine gaf ?_
    exact retRet (hi.trans hj) (rC (rA rfl zm0 rfl zsr) rN) (by rw[lexName,if_neg zo,if_pos hk,hlen];rfl)
   ·refine gaa ?_
    refine oC rfl (fun hl=>?_) (fun hl=>?_)
    ·refine gaa ?_
     exact retRet (hi.trans hj) (rC (rA rfl zm0 rfl zsr) rN) (by rw[lexName,if_pos (by have:=zt hl;omega)];rfl)
    ·refine gax ?_
     refine oP (Pure.sslice (i:=0) (j:=m) rfl rfl ⟨_,rfl⟩ zo zo zo) rfl ?_
     rw[hsl]
     refine gaf ?_
     exact retRet (hi.trans hj) (rC (rA rfl zm0 rfl zsr) rN) (by rw[lexName,if_neg (by have:=zf hl;omega),if_neg (by rw[hk];decide),hlen];rfl)
end
end Go.Proofs.YtcbpcianefpniaaGreatDoor
namespace Go.Proofs.YtcbpcianefpniaaGreatDoor
open Go.GL Go.RowKit Go.Stele
set_option maxRecDepth 100000
set_option maxHeartbeats 4000000
attribute [local irreducible] LOps LCode LStep LCalls Go.GL.Pure QThen QBlock RetPost LQ LAny LLate LLateOp
section
variable {B0:Nat} {w0:World}
theorem take_prefix (x s:List UInt8):(decide (x.length≤s.length) && decide (s.take x.length=x))=x.isPrefixOf s:=by
 rw[Bool.eq_iff_iff]
 simp only[Bool.and_eq_true,decide_eq_true_eq,List.isPrefixOf_iff_prefix]
 constructor
 ·rintro ⟨_,h⟩
  rw[←h]
  exact List.take_prefix _ _
 ·intro h
  exact ⟨h.length_le,List.prefix_iff_eq_take.1 h |>.symm⟩
theorem rsign_spec (s:List UInt8) (hs:s.length≤1000000000):LCalls (KC B0 w0) 151 [str s] [] (Ret (encT (lexSign s))):=by
 refine cI Tryz.func151 rfl (n:=46) rfl rfl rfl ?_
 refine gai ?_
 refine oS (S.alloc fun b=>?_) rfl
 refine gak ?_
 refine oS (S.lit [_,_,_,_,_,_,_,_,_,_,_,_,_,_,_,_,_,_,_,_,_,_,_,_] rfl (elemsOk_strs signs) rfl rfl rfl ?_) rfl
 refine gaa ?_
 refine oL (fun k ls H=>∃ m:Nat,k=24-m∧ls=[(0,str s),(2,ptr b 0),(3,.list (signs.map str)),(4,int .i64 m)]∧H=[(b,.cells 163 [int .i64 0,str [],int .i64 0,int .i64 0,int .i64 0])]∧m≤24∧signs.find? (fun x=>x.isPrefixOf s)=(signs.drop m).find? (fun x=>x.isPrefixOf s))
  ⟨_,_,_,⟨0,rfl,rfl,rfl,by omega,by simp⟩,⟨rfl,rfl,rfl,rfl,trivial⟩,HSub.refl _⟩ ?_
 rintro k ls H ⟨m,rfl,rfl,rfl,hm,hI⟩ j hj
 have h24:signs.length=24:=rfl
 refine gab ?_
 refine oC rfl (fun hc=>?_) (fun hc=>?_)
 ·have hlt:m<signs.length:=by have:=zt hc;simp at this;omega
  refine gad ?_
  refine LCode.cut [(0,str s),(2,ptr b 0),(3,.list (signs.map str)),(4,int .i64 m),(33,bool (signs[m].isPrefixOf s))] ?_ (fun i hi=>?_)
  ·refine LCode.quiet zk ?_
   refine gac ?_
   refine LQ.pure (xR (el':=str signs[m]) rfl rfl zo (by simp) rfl rfl) rfl ?_
   refine gac ?_
   refine LQ.bcase 20 rfl (fun ht=>?_) (fun ht=>?_)
   ·have hle:signs[m].length≤s.length:=by have:=zt ht;omega
    refine gac ?_
    refine LQ.pure (xR (el':=str signs[m]) rfl rfl zo (by simp) rfl rfl) rfl ?_
    refine gac ?_
    refine LQ.pure (Pure.sslice (i:=0) (j:=signs[m].length) rfl rfl ⟨_,rfl⟩ zo zo zo) rfl ?_
    refine gac ?_
    refine LQ.pure (xR (el':=str signs[m]) rfl rfl zo (by simp) rfl rfl) rfl ?_
    refine gac ?_
    exact ⟨⟨rfl,rfl,rfl,rfl,bool_eq (by
     rw[←take_prefix,decide_eq_true hle]
     simp),trivial⟩,rfl,rfl⟩
   ·have hle:¬ signs[m].length≤s.length:=by have:=zf ht;omega
    refine gaf ?_
    exact ⟨⟨rfl,rfl,rfl,rfl,bool_eq (by
     rw[←take_prefix,decide_eq_false hle]
     rfl),trivial⟩,rfl,rfl⟩
  ·skip
   refine oC rfl (fun hp=>?_) (fun hp=>?_)
   ·refine gad ?_
    refine LCode.draw (m:=12) rfl [] ?_
    refine aT 0 rfl rfl (Pure.mv (lv:=.list _) rfl) ?_
    refine aT 1 rfl rfl (Pure.mv (lv:=.atom _) rfl) ?_
    refine LAny.take (i:=2) zhn rfl zk zk zk rfl (xR (el':=str signs[m]) rfl rfl zo (by simp) rfl rfl) ?_
    refine aT 3 rfl rfl (Pure.loadRef (c:=.atom _) rfl rfl) ?_
    refine aT 4 rfl rfl (Pure.bld _ (cs:=[_,_,_]) rfl) ?_
    refine aT 5 rfl rfl (Pure.mv (lv:=.list _) rfl) ?_
    refine aT 6 rfl rfl (Pure.mv (lv:=.atom _) rfl) ?_
    refine LAny.take (i:=7) zhn rfl zk zk zk rfl (xR (el':=str signs[m]) rfl rfl zo (by simp) rfl rfl) ?_
    refine aT 8 rfl rfl (Pure.loadRef (c:=.atom _) rfl rfl) ?_
    refine aT 9 rfl rfl (Pure.slen rfl) ?_
    refine aT 10 rfl rfl (Pure.bld _ (cs:=[_,_,_,_,_]) rfl) ?_
    refine LAny.late ?_ zhn
    refine lO 11 (lW rfl (.inl rfl) rfl (S.store (cs':=[_,_,_,_,_]) rfl pH rfl rfl rfl rfl rfl ?_))
    refine lD zk ?_
    refine gal ?_
    exact retRet (hi.trans hj) (rC (rA rfl zm0 rfl zsr) rN) (by
     rw[lexSign,hI,List.drop_eq_getElem_cons hlt,List.find?_cons_of_pos (by simpa using hp)]
     rfl)
   ·refine gab ?_
    exact ⟨_,_,_,by omega,⟨m+1,rfl,rfl,rfl,by omega,by
     rw[hI,List.drop_eq_getElem_cons hlt,List.find?_cons_of_neg (by rw[hp];decide)]⟩,⟨rfl,rfl,rfl,int_eq zo,trivial⟩,HSub.refl _,hi.trans hj⟩
 ·have hge:signs.length≤m:=by have:=zf hc;simp at this;omega
  refine gaa ?_
  exact retRet hj (rC (rA rfl zm0 rfl zsr) rN) (by
   rw[lexSign,hI,List.drop_eq_nil_of_le hge]
   rfl)
end
end Go.Proofs.YtcbpcianefpniaaGreatDoor
namespace Go.Stele
def nl (c:UInt8):Int:=if decide (cv c=10) then 1 else 0
def lexR:Nat→List UInt8→Int→Except (Int×Int) (List Tok)
 |0,_,_=>.ok []
 |_+1,[],_=>.ok []
 |fuel+1,c::r,line=>
  if isWhite c then lexR fuel r (line+nl c)
  else if [47,47].isPrefixOf (c::r) then lexR fuel ((c::r).drop ((c::r).takeWhile notNl).length) (line+nl c)
  else if (lexToken (c::r)).2.2≠0 then .error (line+nl c,(lexToken (c::r)).2.2)
  else (lexR fuel ((c::r).drop (lexToken (c::r)).2.1) (line+nl c)).map ({ (lexToken (c::r)).1 with line:=line+nl c }::·)
theorem cv_eq (a:UInt8) (n:Nat) (h:n<256):decide (cv a=n)=(a == UInt8.ofNat n):=by
 rw[Bool.eq_iff_iff]
 simp only[decide_eq_true_eq,beq_iff_eq,cv]
 constructor
 ·intro h1
  apply UInt8.toNat_inj.1
  rw[UInt8.toNat_ofNat']
  omega
 ·rintro rfl
  rw[UInt8.toNat_ofNat']
  omega
theorem slash2 (a:UInt8) (t:List UInt8):[47,47].isPrefixOf (a::t)=(decide (cv a=47) && (match t[0]? with|some b=>decide (cv b=47)|none=>false)):=by
 have h:=fun b=>cv_eq b 47 (by decide)
 cases t with
 |nil=>
  simp[List.isPrefixOf]
 |cons b r=>
  simp only[List.isPrefixOf,List.getElem?_cons_zero,Bool.and_true]
  have h1:decide (cv a=47)=(a == 47):=h a
  have h2:decide (cv b=47)=(b == 47):=h b
  rw[h1,h2,show ((47:UInt8) == a)=(a == 47) from BEq.comm,show ((47:UInt8) == b)=(b == 47) from BEq.comm]
end Go.Stele
namespace Go.Proofs.YtcbpcianefpniaaGreatDoor
open Go.GL Go.RowKit Go.Stele
set_option maxRecDepth 100000
set_option maxHeartbeats 4000000
attribute [local irreducible] LOps LCode LStep LCalls Go.GL.Pure QThen QBlock RetPost LQ LAny LLate LLateOp
section
variable {B0:Nat} {w0:World}
theorem First_spec (s:List UInt8) (hs:s.length≤1000000000) (hne:s≠[]):LCalls (KC B0 w0) 96 [str s] [] (Ret (encT (lexToken s))):=by
 match s,hne with
 |c::r,_=>
  refine cI Tryz.func96 rfl (n:=53) rfl rfl rfl ?_
  refine gai ?_
  refine oS (S.alloc fun b=>?_) rfl
  refine gaq ?_
  refine oP (Pure.sindex (c:=c) rfl rfl (by decide) rfl) rfl ?_
  refine gav ?_
  refine oS (S.fn [_] rfl (rdigit_spec c) ?_) rfl
  refine gap ?_
  refine oC rfl (fun hc=>?_) (fun hc=>?_)
  ·refine gae ?_
   refine oS (S.fn [_] rfl (rnumber_spec (c::r) hs (by rw[List.takeWhile_cons_of_pos hc];simp)) ?_) rfl
   refine gaf ?_
   exact retRet rfl (rC (rA rfl zm0 rfl zsr) rN) (by simp only[lexToken,hc,if_true];rfl)
  ·refine gax ?_
   refine oS (S.fn [_] rfl (rletter_spec c) ?_) rfl
   refine gap ?_
   refine oC rfl (fun hl=>?_) (fun hl=>?_)
   ·refine gae ?_
    refine oS (S.fn [_] rfl (rname_spec (c::r) hs) ?_) rfl
    refine gaf ?_
    exact retRet rfl (rC (rA rfl zm0 rfl zsr) rN) (by simp only[lexToken,hc,hl,if_true,Bool.false_eq_true,if_false];rfl)
   ·refine gab ?_
    refine oC rfl (fun hq=>?_) (fun hq=>?_)
    ·have htok:lexToken (c::r)=lexLiteral (c::r):=by simp only[lexToken,hc,hl,Bool.false_eq_true,if_false];rw[if_pos hq]
     rw[htok]
     by_cases h3:(c::r).length<3
     ·have hl:lexLiteral (c::r)=tokErr 3:=by
       match r,h3 with
       |[],_=>rfl
       |[_],_=>rfl
       |_::_::_,h=>exact absurd h (by simp)
      refine gaa ?_
      refine oB 19 rfl (fun ht=>?_) (fun ht=>?_)
      ·refine gad ?_
       refine oC rfl (fun hc=>?_) (fun hc=>?_)
       ·refine gaa ?_
        exact retRet rfl (rC (rA rfl zm0 rfl zsr) rN) (by rw[hl];rfl)
       ·cases hc
      ·exact absurd (zf ht) zo
     ·match r,h3 with
      |[],h=>exact absurd (by simp) h
      |[_],h=>exact absurd (by simp) h
      |c1::c2::r,h=>
       refine gaa ?_
       refine LOps.cut [(0,str (c::c1::c2::r)),(2,ptr b 0),(43,bool ((!decide (cv c2=39)) || decide (cv c1<32) || decide (126<cv c1) || decide (cv c1=39) || decide (cv c1=92)))] ?_ (fun j hj=>?_)
       ·refine oB 19 rfl (fun ht=>?_) (fun ht0=>?_)
        ·exact absurd (zt ht) (by simp only[List.length_cons];omega)
        ·skip
         refine oP (Pure.sindex (c:=c1) rfl rfl (by decide) rfl) rfl ?_
         refine gad ?_
         refine oB 24 rfl (fun ht=>?_) (fun ht1=>?_)
         ·refine gad ?_
          exact ⟨⟨rfl,rfl,bool_eq (by rw[ht];simp),trivial⟩,rfl,rfl⟩
         ·refine gat ?_
          refine oP (Pure.sindex (c:=c1) rfl rfl (by decide) rfl) rfl ?_
          refine gac ?_
          refine oB 29 rfl (fun ht=>?_) (fun ht2=>?_)
          ·refine gad ?_
           exact ⟨⟨rfl,rfl,bool_eq (by rw[ht];simp),trivial⟩,rfl,rfl⟩
          ·refine gat ?_
           refine oP (Pure.sindex (c:=c1) rfl rfl (by decide) rfl) rfl ?_
           refine gad ?_
           refine oB 34 rfl (fun ht=>?_) (fun ht3=>?_)
           ·refine gad ?_
            exact ⟨⟨rfl,rfl,bool_eq (by rw[ht];simp),trivial⟩,rfl,rfl⟩
           ·refine gat ?_
            refine oP (Pure.sindex (c:=c1) rfl rfl (by decide) rfl) rfl ?_
            refine gad ?_
            refine oB 39 rfl (fun ht=>?_) (fun ht4=>?_)
            ·refine gad ?_
             exact ⟨⟨rfl,rfl,bool_eq (by rw[ht];simp),trivial⟩,rfl,rfl⟩
            ·refine gat ?_
             refine oP (Pure.sindex (c:=c2) rfl rfl (by decide) rfl) rfl ?_
             refine gad ?_
             exact ⟨⟨rfl,rfl,bool_eq (by rw[ht1,ht2,ht3,ht4];simp),trivial⟩,rfl,rfl⟩
       ·skip
        refine oC rfl (fun hc=>?_) (fun hc=>?_)
        ·refine gaa ?_
         exact retRet hj (rC (rA rfl zm0 rfl zsr) rN) (by rw[lexLiteral,if_pos hc];rfl)
        ·refine gax ?_
         refine oP (Pure.sindex (c:=c1) rfl rfl (by decide) rfl) rfl ?_
         refine oP (Pure.cvt rfl) rfl ?_
         have hw:IntKind.i64.wrap (c1.toNat:Int)=((c1.toNat:Nat):Int):=wrap_i64 (by have:=c1.toNat_lt;omega)
         rw[hw]
         refine oS (S.fn [_] rfl (Decimal_spec c1.toNat (by have:=c1.toNat_lt;omega)) ?_) rfl
         refine gaf ?_
         exact retRet hj (rC (rA rfl zm0 rfl zsr) rN) (by rw[lexLiteral,if_neg (by rw[hc];decide)];rfl)
    ·have htok:lexToken (c::r)=lexSign (c::r):=by simp only[lexToken,hc,hl,Bool.false_eq_true,if_false];rw[if_neg (by rw[hq];decide)]
     refine gax ?_
     refine oS (S.fn [_] rfl (rsign_spec (c::r) hs) ?_) rfl
     refine gaf ?_
     exact retRet rfl (rC (rA rfl zm0 rfl zsr) rN) (by rw[htok];rfl)
end
end Go.Proofs.YtcbpcianefpniaaGreatDoor
namespace Go.Proofs.YtcbpcianefpniaaGreatDoor
open Go.GL Go.RowKit Go.Stele
set_option maxRecDepth 100000
set_option maxHeartbeats 4000000
attribute [local irreducible] LOps LCode LStep LCalls Go.GL.Pure QThen QBlock RetPost LQ LAny LLate LLateOp
def lexAllR (s:List UInt8):Except (Int×Int) (List Tok):=if 60000<s.length then .error (0,6) else lexR s.length s 1
section
variable {B0:Nat} {w0:World}
theorem rTokens_spec (s:List UInt8):s.length≤1000000000→LCalls (KC B0 w0) 42 [str s] [] (Ret (encLex (lexAllR s))):=fun hs=>by
 refine cI Tryz.func42 rfl (n:=88) rfl rfl rfl ?_
 refine gaa ?_
 refine oC rfl (fun hc=>?_) (fun hc=>?_)
 ·refine gau ?_
  exact retRet rfl (rC (rT (v:=nilSlice) rfl LV.Sub.nil) (rC (zrt rfl) (zra rfl))) (by
   rw[lexAllR,if_pos (by have:=zt hc;omega)]
   rfl)
 ·have hlen:s.length≤60000:=by have:=zf hc;omega
  refine gan ?_
  refine oS (S.litA [] rfl eN rfl rfl rfl fun b0=>?_) rfl
  refine gaa ?_
  refine oL (fun k ls H=>∃ (v:LV) (out:List Tok) (i:Nat) (line:Int) (fuel:Nat),k=s.length-i∧ls=[(0,str s),(5,v),(6,int .i64 line),(7,int .i64 i)]∧Acc 3 v (out.map encTok) H [] ∧
    i≤s.length∧s.length-i≤fuel∧0≤line∧line+(s.length-i)≤60001∧out.length+(s.length-i)≤60000∧lexR s.length s 1=(lexR fuel (s.drop i) line).map (out++·))
   ⟨_,_,_,⟨.app b0 0 3 [],[],0,1,s.length,rfl,rfl,Acc.row (es:=[]),by omega,by omega,by omega,by omega,by simp;omega,by rw[List.drop_zero];cases lexR s.length s 1 <;> rfl⟩,⟨rfl,rfl,rfl,rfl,trivial⟩,HSub.refl _⟩ ?_
  rintro k ls H ⟨v,out,i,line,fuel,rfl,rfl,hacc,hi,hf,hl0,hl1,ho,hI⟩ j hj
  refine gaa ?_
  refine oC rfl (fun hne=>?_) (fun hne=>?_)
  ·have hlt:i<s.length:=by simpa using hne
   obtain ⟨f,rfl⟩:∃ f,fuel=f+1:=⟨fuel-1,by omega⟩
   have hdrop:s.drop i=s[i]::s.drop (i+1):=List.drop_eq_getElem_cons hlt
   rw[hdrop,lexR] at hI
   have hnl:0≤nl s[i]∧nl s[i]≤1:=by unfold nl;split <;> omega
   refine gab ?_
   refine oP (Pure.sindex (c:=s[i]) rfl rfl zo (by simp)) rfl ?_
   refine gab ?_
   refine LCode.cut [(0,str s),(5,v),(6,int .i64 (line+nl s[i])),(7,int .i64 i),(8,int .u8 s[i].toNat)] ?_ (fun j2 hj2=>?_)
   ·refine oC rfl (fun hn=>?_) (fun hn=>?_)
    ·refine gab ?_
     exact ⟨⟨rfl,rfl,int_eq (by rw[nl,if_pos hn]),rfl,rfl,trivial⟩,rfl,rfl⟩
    ·refine gas ?_
     exact ⟨⟨rfl,rfl,int_eq (by rw[nl,if_neg (by rw[show decide (cv s[i]=10)=false from hn];decide)];omega),rfl,rfl,trivial⟩,rfl,rfl⟩
   ·refine gab ?_
    refine LOps.cut [(0,str s),(5,v),(6,int .i64 (line+nl s[i])),(7,int .i64 i),(8,int .u8 s[i].toNat),(34,bool (isWhite s[i]))] ?_ (fun j3 hj3=>?_)
    ·refine oB 27 rfl (fun h1=>?_) (fun h1=>?_)
     ·refine gad ?_
      exact ⟨⟨rfl,rfl,rfl,rfl,rfl,bool_eq (by simp[isWhite,h1]),trivial⟩,rfl,rfl⟩
     ·refine gad ?_
      refine oB 31 rfl (fun h2=>?_) (fun h2=>?_)
      ·refine gad ?_
       exact ⟨⟨rfl,rfl,rfl,rfl,rfl,bool_eq (by simp[isWhite,h1,h2]),trivial⟩,rfl,rfl⟩
      ·refine gad ?_
       exact ⟨⟨rfl,rfl,rfl,rfl,rfl,bool_eq (by simp[isWhite,h1,h2]),trivial⟩,rfl,rfl⟩
    ·skip
     refine oC rfl (fun hw=>?_) (fun hw=>?_)
     ·rw[if_pos hw] at hI
      refine gab ?_
      exact ⟨_,_,_,by omega,⟨v,out,i+1,line+nl s[i],f,rfl,rfl,hacc,by omega,by omega,by omega,by omega,by omega,hI⟩,⟨rfl,rfl,rfl,int_eq zo,trivial⟩,HSub.refl _,hj3.trans (hj2.trans hj)⟩
     ·rw[if_neg (by rw[hw];decide)] at hI
      refine gab ?_
      refine LOps.cut [(0,str s),(5,v),(6,int .i64 (line+nl s[i])),(7,int .i64 i),(8,int .u8 s[i].toNat),(52,bool ([47,47].isPrefixOf (s[i]::s.drop (i+1))))] ?_ (fun j4 hj4=>?_)
      ·refine oB 39 rfl (fun h1=>?_) (fun h1=>?_)
       ·refine gac ?_
        refine oB 46 rfl (fun h2=>?_) (fun h2=>?_)
        ·have hlt2:i+1<s.length:=by have:=zt h2;omega
         refine gad ?_
         refine oP (Pure.sindex (c:=s[i+1]) rfl rfl zo (by rw[show ((i:Int)+1).toNat=i+1 by omega];simp)) rfl ?_
         refine gad ?_
         exact ⟨⟨rfl,rfl,rfl,rfl,rfl,bool_eq (by rw[slash2,show decide (cv s[i]=47)=true from h1];simp[List.getElem?_drop,List.getElem?_eq_getElem hlt2]),trivial⟩,rfl,rfl⟩
        ·have hge2:s.length≤i+1:=by have:=zf h2;omega
         refine gag ?_
         exact ⟨⟨rfl,rfl,rfl,rfl,rfl,bool_eq (by rw[slash2];simp[List.getElem?_drop,List.getElem?_eq_none hge2]),trivial⟩,rfl,rfl⟩
       ·refine gag ?_
        exact ⟨⟨rfl,rfl,rfl,rfl,rfl,bool_eq (by rw[slash2,show decide (cv s[i]=47)=false from h1];simp),trivial⟩,rfl,rfl⟩
      ·skip
       refine oC rfl (fun hp=>?_) (fun hp=>?_)
       ·rw[if_pos hp] at hI
        refine gad ?_
        rw[←hdrop] at hI
        refine oL (fun k ls H'=>∃ m:Nat,k=s.length-(i+m)∧ls=[(0,str s),(5,v),(6,int .i64 (line+nl s[i])),(7,int .i64 (i+m:Nat))]∧H'=H∧i+m≤s.length∧(s.drop i).takeWhile notNl=(s.drop i).take m++((s.drop i).drop m).takeWhile notNl)
         ⟨_,[(0,str s),(5,v),(6,int .i64 (line+nl s[i])),(7,int .i64 (i+0:Nat))],_,⟨0,rfl,rfl,rfl,by omega,by simp⟩,⟨rfl,rfl,rfl,rfl,trivial⟩,HSub.refl _⟩ ?_
        rintro k ls H' ⟨m,rfl,rfl,rfl,hm,hM⟩ j5 hj5
        have hln:(s.drop i).length=s.length-i:=List.length_drop
        refine gaa ?_
        refine LOps.cut [(0,str s),(5,v),(6,int .i64 (line+nl s[i])),(7,int .i64 (i+m:Nat)),(62,bool (match (s.drop i)[m]? with|some c=>notNl c|none=>false))] ?_ (fun j6 hj6=>?_)
        ·refine oB 57 rfl (fun ht=>?_) (fun ht=>?_)
         ·have hlt2:i+m<s.length:=by have:=zt ht;omega
          refine gat ?_
          refine oP (Pure.sindex (c:=s[i+m]) rfl rfl zo (by rw[Int.toNat_natCast];exact List.getElem?_eq_getElem hlt2)) rfl ?_
          refine gad ?_
          exact ⟨⟨rfl,rfl,rfl,rfl,bool_eq (by rw[List.getElem?_drop,List.getElem?_eq_getElem hlt2];rfl),trivial⟩,rfl,rfl⟩
         ·have hge2:s.length≤i+m:=by have:=zf ht;omega
          refine gag ?_
          exact ⟨⟨rfl,rfl,rfl,rfl,bool_eq (by rw[List.getElem?_drop,List.getElem?_eq_none hge2]),trivial⟩,rfl,rfl⟩
        ·skip
         refine oC rfl (fun hc2=>?_) (fun hc2=>?_)
         ·have hlt2:m<(s.drop i).length:=by
           rcases Nat.lt_or_ge m (s.drop i).length with h|h
           ·exact h
           ·rw[List.getElem?_eq_none h] at hc2;cases hc2
          rw[List.getElem?_eq_getElem hlt2] at hc2
          refine gab ?_
          exact ⟨_,_,_,by omega,⟨m+1,rfl,rfl,rfl,by omega,(takeWhile_step hlt2 hM).1 hc2⟩,⟨rfl,rfl,rfl,int_eq zo,trivial⟩,HSub.refl _,hj6.trans hj5⟩
         ·have hstop:(s.drop i).takeWhile notNl=(s.drop i).take m:=by
           rcases Nat.lt_or_ge m (s.drop i).length with h|h
           ·rw[List.getElem?_eq_getElem h] at hc2
            exact (takeWhile_step h hM).2 hc2
           ·exact takeWhile_end h hM
          obtain ⟨hlen2,_⟩:=stop_at zo hstop
          have hm1:1≤m:=by
           rw[slash2] at hp
           simp only[Bool.and_eq_true,decide_eq_true_eq] at hp
           have:notNl s[i]=true:=by unfold notNl;rw[hp.1];rfl
           rw[←hlen2,hdrop,List.takeWhile_cons_of_pos this]
           simp
          rw[hlen2,List.drop_drop] at hI
          refine gad ?_
          exact ⟨_,_,_,by omega,⟨v,out,i+m,line+nl s[i],f,rfl,rfl,hacc,by omega,by omega,by omega,by omega,by omega,hI⟩,⟨rfl,rfl,rfl,rfl,trivial⟩,HSub.refl _,hj6.trans (hj5.trans (hj4.trans (hj3.trans (hj2.trans hj))))⟩
       ·rw[if_neg (by rw[hp];decide)] at hI
        refine gax ?_
        refine oP (Pure.sslice (i:=i) (j:=s.length) rfl ⟨_,rfl⟩ rfl zo zo zo) rfl ?_
        have hsl:(s.take ((s.length:Nat):Int).toNat).drop ((i:Nat):Int).toNat=s[i]::s.drop (i+1):=by rw[←hdrop];simp
        rw[hsl]
        refine oS (S.fn [_] rfl (First_spec (s[i]::s.drop (i+1)) (by rw[←hdrop,List.length_drop];omega) (List.cons_ne_nil _ _)) ?_) rfl
        refine oS (S.alloc fun b=>?_) rfl
        refine gaa ?_
        refine oC rfl (fun he=>?_) (fun he=>?_)
        ·have he':(lexToken (s[i]::s.drop (i+1))).2.2≠0:=by simpa using he
         rw[if_pos he'] at hI
         refine gad ?_
         refine LCode.quiet zk ?_
         refine gaf ?_
         exact retRet (hj4.trans (hj3.trans (hj2.trans hj))) (rC (rT (v:=nilSlice) rfl LV.Sub.nil) (rC (zrt rfl) (zra rfl))) (by
          rw[lexAllR,if_neg zo,hI]
          rfl)
        ·have he':(lexToken (s[i]::s.drop (i+1))).2.2=0:=by simpa using he
         rw[if_neg (by simpa using he')] at hI
         obtain ⟨hs0,hs1⟩:=lexToken_size _ he'
         have hlr:(s[i]::s.drop (i+1)).length=s.length-i:=by rw[←hdrop,List.length_drop]
         rw[hlr] at hs1
         refine gaa ?_
         refine oP (Pure.mv (lv:=v) rfl) rfl ?_
         refine gac ?_
         refine oS (S.lit [_] rfl (eC rfl rfl eN) rfl rfl rfl ?_) rfl
         refine oS (S.acc1 rfl hacc rfl (by simp;rfl) rfl (by simp;omega) fun v' H' hacc'=>?_) rfl
         refine oP (Pure.as (lv:=v') rfl) rfl ?_
         refine gab ?_
         have hacc2:Acc 3 v' ((out++[Tok.mk (lexToken (s[i]::s.drop (i+1))).1.kind (lexToken (s[i]::s.drop (i+1))).1.text (line+nl s[i])]).map encTok) H' []:=by
          rw[List.map_append]
          exact hacc'
         exact ⟨_,_,_,by omega,⟨v',out++[Tok.mk (lexToken (s[i]::s.drop (i+1))).1.kind (lexToken (s[i]::s.drop (i+1))).1.text (line+nl s[i])],i+(lexToken (s[i]::s.drop (i+1))).2.1,line+nl s[i],f,rfl,rfl,hacc2,
          by omega,by omega,by omega,by omega,by simp only[List.length_append,List.length_singleton];omega,by
           have hdd:(s[i]::s.drop (i+1)).drop (lexToken (s[i]::s.drop (i+1))).2.1=s.drop (i+(lexToken (s[i]::s.drop (i+1))).2.1):=by
            conv=>lhs;arg 2;rw[←hdrop]
            rw[List.drop_drop]
           rw[hI,map_map_ex,hdd]
           congr 1
           funext x
           simp only[List.append_assoc,List.singleton_append]⟩,⟨rfl,rfl,rfl,int_eq zo,trivial⟩,zhD zhr,hj4.trans (hj3.trans (hj2.trans hj))⟩
  ·have hge:s.length≤i:=by simpa using hne
   refine gab ?_
   refine oP (Pure.mv (lv:=v) rfl) rfl ?_
   refine oP (Pure.as (lv:=v) rfl) rfl ?_
   refine gam ?_
   exact retRet hj (rC (rT (v:=v) rfl hacc.sub) (rC (zrt rfl) (zra rfl))) (by
    rw[lexAllR,if_neg zo,hI,List.drop_eq_nil_of_le hge]
    cases fuel <;> simp[lexR,Except.map,encLex,resLV])
end
end Go.Proofs.YtcbpcianefpniaaGreatDoor
namespace Go.Stele
theorem takeWhile_mem {p:UInt8→Bool}:∀ (s:List UInt8),∀ c∈s.takeWhile p,p c=true
 |[],c,hc=>by cases hc
 |a::r,c,hc=>by
  by_cases ha:p a=true
  ·rw[List.takeWhile_cons_of_pos ha] at hc
   rcases List.mem_cons.1 hc with rfl|hc
   ·exact ha
   ·exact takeWhile_mem r c hc
  ·rw[List.takeWhile_cons_of_neg ha] at hc
   cases hc
theorem take_takeWhile (p:UInt8→Bool) (s:List UInt8):s.take (s.takeWhile p).length=s.takeWhile p:=(List.prefix_iff_eq_take.1 (List.takeWhile_prefix p)).symm
theorem count_zero {l:List UInt8} (h:∀ c∈l,c≠10):l.count 10=0:=List.count_eq_zero.2 fun hm=>h 10 hm rfl
theorem ne10 {c:UInt8} (h:¬ cv c=10):c≠10:=by
 rintro rfl
 exact h rfl
theorem token_noNl (s:List UInt8) (h:(lexToken s).2.2=0):(s.take (lexToken s).2.1).count 10=0:=by
 match s with
 |[]=>rfl
 |c::r=>
  simp only[lexToken] at h ⊢
  split at h <;> rename_i hc
  ·rw[if_pos hc]
   unfold lexNumber at h ⊢
   split at h
   ·simp[tokErr] at h
   ·rename_i hw
    rw[if_neg hw]
    split at h
    ·rw[take_takeWhile]
     refine count_zero fun c hc=>ne10 ?_
     have:=takeWhile_mem _ c hc
     simp only[isDigit,Bool.and_eq_true,decide_eq_true_eq] at this
     omega
    ·simp[tokErr] at h
  ·rw[if_neg hc]
   split at h <;> rename_i hl
   ·rw[if_pos hl]
    unfold lexName at h ⊢
    split at h
    ·simp[tokErr] at h
    ·rename_i hw
     rw[if_neg hw,take_takeWhile]
     refine count_zero fun c hc=>ne10 ?_
     have:=takeWhile_mem _ c hc
     simp only[isInner,isDigit,isLetter,Bool.and_eq_true,Bool.or_eq_true,decide_eq_true_eq] at this
     omega
   ·rw[if_neg hl]
    split at h <;> rename_i hq
    ·rw[if_pos hq]
     unfold lexLiteral at h ⊢
     split at h
     ·split at h
      ·simp[tokErr] at h
      ·rename_i b d _ heq hx
       rw[if_neg hx,heq]
       injection heq with h1 h2
       simp only[Bool.or_eq_true,Bool.not_eq_true',decide_eq_true_eq,decide_eq_false_iff_not,not_or] at hx
       simp only[decide_eq_true_eq] at hq
       refine count_zero fun x hx'=>ne10 ?_
       simp only[List.take_succ_cons,List.take_zero,List.mem_cons,List.not_mem_nil,or_false] at hx'
       rcases hx' with rfl|rfl|rfl
       ·rw[h1] at hq;omega
       ·omega
       ·omega
     ·simp[tokErr] at h
    ·rw[if_neg hq]
     unfold lexSign at h ⊢
     split at h
     ·rename_i x hx
      have h1:=List.find?_some hx
      have h2:=List.mem_of_find?_eq_some hx
      have h3:=List.prefix_iff_eq_take.1 (List.isPrefixOf_iff_prefix.1 h1)
      show ((c::r).take x.length).count 10=0
      rw[←h3]
      have:∀ x∈signs,x.count 10=0:=by decide
      exact this x h2
     ·simp[tokErr] at h
theorem lexR_fuel:∀ (f f':Nat) (s:List UInt8) (line:Int),s.length≤f→s.length≤f'→lexR f s line=lexR f' s line:=by
 intro f
 induction f with
 |zero=>
  intro f' s line h1 h2
  have:s=[]:=List.length_eq_zero_iff.1 (by omega)
  subst this
  cases f' <;> rfl
 |succ f ih=>
  intro f' s line h1 h2
  cases s with
  |nil=>cases f' <;> rfl
  |cons c r=>
   obtain ⟨g,rfl⟩:∃ g,f'=g+1:=⟨f'-1,by simp at h2;omega⟩
   simp only[List.length_cons] at h1 h2
   simp only[lexR]
   split
   ·exact ih _ _ _ (by omega) (by omega)
   ·split
    ·rename_i hp
     have hpos:0<((c::r).takeWhile notNl).length:=by
      rw[slash2] at hp
      simp only[Bool.and_eq_true,decide_eq_true_eq] at hp
      have:notNl c=true:=by unfold notNl;rw[hp.1];rfl
      rw[List.takeWhile_cons_of_pos this]
      simp
     exact ih _ _ _ (by simp only[List.length_drop,List.length_cons];omega) (by simp only[List.length_drop,List.length_cons];omega)
    ·split
     ·rfl
     ·rename_i he
      have:=(lexToken_size (c::r) (by simpa using he)).1
      rw[ih g _ _ (by simp only[List.length_drop,List.length_cons];omega) (by simp only[List.length_drop,List.length_cons];omega)]
theorem nl_count (c:UInt8) (w:List UInt8):nl c+((w.count 10:Nat):Int)=(((c::w).count 10:Nat):Int):=by
 unfold nl
 rw[List.count_cons]
 have h:decide (cv c=10)=(c == 10):=cv_eq c 10 (by decide)
 rw[h]
 by_cases hc:c=10
 ·subst hc;simp;omega
 ·have:(c == 10)=false:=by simpa using hc
  rw[this]
  simp
theorem lexR_white:∀ (w t:List UInt8) (line:Int) (f:Nat),(∀ c∈w,isWhite c=true)→(w++t).length≤f→lexR f (w++t) line=lexR f t (line+(w.count 10:Nat))
 |[],t,line,f,_,_=>by simp
 |c::w,t,line,f,h,hf=>by
  obtain ⟨g,rfl⟩:∃ g,f=g+1:=⟨f-1,by simp at hf;omega⟩
  simp only[List.cons_append,List.length_cons] at hf
  have hc:=h c List.mem_cons_self
  rw[List.cons_append,lexR,if_pos hc,lexR_white w t _ g (fun c hc=>h c (List.mem_cons_of_mem _ hc)) (by omega),lexR_fuel g (g+1) t _ (by simp at hf;omega) (by simp at hf;omega),Int.add_assoc,nl_count]
theorem lex_agree:∀ (f:Nat) (s:List UInt8) (line:Int),s.length≤f→lexP f s line=lexR f s line:=by
 intro f
 induction f with
 |zero=>
  intro s line h
  have:s=[]:=List.length_eq_zero_iff.1 (by omega)
  subst this
  rfl
 |succ f ih=>
  intro s line h
  cases s with
  |nil=>simp[lexP,lexR]
  |cons c r=>
   simp only[List.length_cons] at h
   rw[lexP,if_neg (by simp)]
   by_cases hz:skipLen (c::r)=0
   ·rw[if_pos hz]
    have hp:[47,47].isPrefixOf (c::r)=false:=by
     cases hp:[47,47].isPrefixOf (c::r) with
     |false=>rfl
     |true=>
      exfalso
      rw[skipLen,if_pos hp] at hz
      rw[slash2] at hp
      simp only[Bool.and_eq_true,decide_eq_true_eq] at hp
      have:notNl c=true:=by unfold notNl;rw[hp.1];rfl
      rw[List.takeWhile_cons_of_pos this] at hz
      simp at hz
    have hw:isWhite c=false:=by
     cases hw:isWhite c with
     |false=>rfl
     |true=>
      exfalso
      rw[skipLen,if_neg (by rw[hp];decide),List.takeWhile_cons_of_pos hw] at hz
      simp at hz
    have hn:nl c=0:=by
     unfold nl
     rw[if_neg]
     intro h10
     simp only[decide_eq_true_eq] at h10
     simp[isWhite,h10] at hw
    have hR:lexR (f+1) (c::r) line=if (lexToken (c::r)).2.2≠0 then .error (line+nl c,(lexToken (c::r)).2.2)
      else (lexR f ((c::r).drop (lexToken (c::r)).2.1) (line+nl c)).map ({ (lexToken (c::r)).1 with line:=line+nl c }::·):=by
     rw[lexR,if_neg (by rw[hw];decide),if_neg (by rw[hp];decide)]
    rw[hR,hn,Int.add_zero]
    by_cases he:(lexToken (c::r)).2.2=0
    ·rw[if_neg (by simpa using he),if_neg (by simpa using he),token_noNl _ he]
     have:=(lexToken_size (c::r) he).1
     rw[ih _ _ (by simp only[List.length_drop,List.length_cons];omega)]
     simp
    ·rw[if_pos (by simpa using he),if_pos (by simpa using he)]
   ·rw[if_neg hz]
    cases hp:[47,47].isPrefixOf (c::r) with
    |true=>
     have hlen:skipLen (c::r)=((c::r).takeWhile notNl).length:=by rw[skipLen,if_pos hp]
     have hc47:cv c=47:=by
      rw[slash2] at hp
      simp only[Bool.and_eq_true,decide_eq_true_eq] at hp
      exact hp.1
     have hw:isWhite c=false:=by simp[isWhite,hc47]
     have hn:nl c=0:=by simp[nl,hc47]
     have hcnt:((c::r).take (skipLen (c::r))).count 10=0:=by
      rw[hlen,take_takeWhile]
      refine count_zero fun x hx=>ne10 ?_
      have:=takeWhile_mem _ x hx
      simpa [notNl] using this
     rw[lexR,if_neg (by rw[hw];decide),if_pos hp,hn,hcnt,hlen,ih _ _ (by simp only[List.length_drop,List.length_cons];omega)]
     simp
    |false=>
     have hlen:skipLen (c::r)=((c::r).takeWhile isWhite).length:=by rw[skipLen,if_neg (by rw[hp];decide)]
     have hsplit:(c::r)=(c::r).takeWhile isWhite++(c::r).drop (skipLen (c::r)):=by
      rw[hlen]
      conv=>lhs;rw[←List.take_append_drop ((c::r).takeWhile isWhite).length (c::r),take_takeWhile]
     have hR:lexR (f+1) (c::r) line=lexR (f+1) ((c::r).drop (skipLen (c::r))) (line+(((c::r).takeWhile isWhite).count 10:Nat)):=by
      conv=>lhs;rw[hsplit]
      exact lexR_white _ _ _ _ (takeWhile_mem _) (by rw[←hsplit];simp;omega)
     rw[hR,ih _ _ (by simp only[List.length_drop,List.length_cons];omega),lexR_fuel f (f+1) _ _ (by simp only[List.length_drop,List.length_cons];omega) (by simp only[List.length_drop,List.length_cons];omega)]
     have ht:(c::r).take (skipLen (c::r))=(c::r).takeWhile isWhite:=by rw[hlen,take_takeWhile]
     rw[ht]
end Go.Stele
namespace Go.Proofs.YtcbpcianefpniaaGreatDoor
open Go.GL Go.RowKit Go.Stele
set_option maxRecDepth 100000
set_option maxHeartbeats 4000000
theorem lexAllR_eq (s:List UInt8):lexAllR s=lexAllP s:=by
 unfold lexAllR lexAllP
 split
 ·rfl
 ·exact (lex_agree _ _ _ (Nat.le_refl _)).symm
theorem lexLiteral_kind (s:List UInt8) (h:(lexLiteral s).2.2=0):(lexLiteral s).1.kind=1:=by
 unfold lexLiteral at h ⊢
 split at h
 ·split at h
  ·simp[tokErr] at h
  ·rename_i hx
   rw[if_neg hx]
 ·simp[tokErr] at h
theorem lexToken_kw (s:List UInt8) (h:(lexToken s).2.2=0) (hk:(lexToken s).1.kind=3):keywords.contains (lexToken s).1.text=true:=by
 match s with
 |[]=>simp[lexToken,tokErr] at h
 |c::r=>
  simp only[lexToken] at h hk ⊢
  split at h <;> rename_i hc
  ·rw[if_pos hc] at hk ⊢
   unfold lexNumber at h hk
   split at h
   ·simp[tokErr] at h
   ·rename_i hw
    rw[if_neg hw] at hk
    split at h
    ·rename_i u hu
     rw[hu] at hk
     cases hk
    ·simp[tokErr] at h
  ·rw[if_neg hc] at hk ⊢
   split at h <;> rename_i hl
   ·rw[if_pos hl] at hk ⊢
    unfold lexName at h hk ⊢
    split at h
    ·simp[tokErr] at h
    ·rename_i hw
     rw[if_neg hw] at hk ⊢
     simp only at hk ⊢
     split at hk
     ·rename_i hkw
      exact hkw
     ·cases hk
   ·rw[if_neg hl] at hk ⊢
    split at h <;> rename_i hq
    ·rw[if_pos hq] at hk
     rw[lexLiteral_kind _ h] at hk
     cases hk
    ·rw[if_neg hq] at hk ⊢
     unfold lexSign at h hk ⊢
     split at h
     ·rename_i x hx
      rw[hx] at hk
      cases hk
     ·simp[tokErr] at h
theorem lexP_kw:∀ (f:Nat) (s:List UInt8) (line:Int) (T:List Tok),lexP f s line=.ok T→∀ t∈T,t.kind=3→keywords.contains t.text=true
 |0,s,line,T,h=>by
  rw[lexP] at h
  cases h
  simp
 |f+1,s,line,T,h=>by
  rw[lexP] at h
  split at h
  ·cases h
   simp
  ·split at h
   ·split at h
    ·cases h
    ·rename_i he
     obtain ⟨T',h1,rfl⟩:=map_ok h
     have k2:=lexP_kw f _ _ _ h1
     intro t ht
     rcases List.mem_cons.1 ht with rfl|ht
     ·exact lexToken_kw s zo
     ·exact k2 t ht
   ·exact lexP_kw f _ _ _ h
theorem rtok_lex {s:List UInt8} {T:List Tok} (h:lexAllP s=.ok T) (hp:0<T.length):RTOK T:=by
 unfold lexAllP at h
 split at h
 ·cases h
 ·obtain ⟨h1,h2⟩:=lexP_ok _ _ _ _ h
  exact ⟨by omega,hp,h2,lexP_kw _ _ _ _ h⟩
theorem le_word {T:List Tok} {k:Int} {i o i' o':Nat} {s:List UInt8} (h:some (sWord T k i o)=some (.ok s i' o')):i≤i':=by
 injection h with h
 have:=sWord_good T k i o
 rw[h] at this
 exact And.left this
theorem le_need {T:List Tok} {x:List UInt8} {i o i' o':Nat} {u:Unit} (h:some (sNeed T x i o)=some (.ok u i' o')):i≤i':=by
 injection h with h
 have:=sNeed_good T x i o
 rw[h] at this
 exact And.left this
theorem le_begin {T:List Tok} {x:List UInt8} {i o i' o':Nat} {u:Unit} (h:some (sBegin T x i o)=some (.ok u i' o')):i≤i':=by
 injection h with h
 have:=(sBegin_ok h).1
 omega
theorem le_end {T:List Tok} {x:List UInt8} {i o i' o':Nat} {u:Unit} (h:some (sEnd T x i o)=some (.ok u i' o')):i≤i':=by
 injection h with h
 have:=(sEnd_ok h).1
 omega
theorem le_num {T:List Tok} {i o i' o' n:Nat} (h:some (sNumber T i o)=some (.ok n i' o')):i≤i':=by
 injection h with h
 have:=sNumber_good T i o
 rw[h] at this
 exact And.left this
theorem hsubW {a b c:Nat×LObj} {X Y:Heap}:HSub (a::b::c::(X++Y)) (a::b::c::(Y++X)):=⟨[],by rw[List.append_nil];exact (((List.perm_append_comm).cons c).cons b).cons a⟩
def PSt (T:List Tok) (a b:Nat) (acc:List (List UInt8)) (p:Pr) (i:Nat) (ln er:Int) (r:Res Pr):Prop:=stO 0 i ln er (fun i o=>obind (sVars T a acc i o) fun l i o=>sProg T b { p with vars:=p.vars++l } i o)=some r
theorem prog_in {T:List Tok} {k i:Nat} {p:Pr} {ln er:Int} {r:Res Pr} (h:stO 0 i ln er (fun i o=>sProg T k p i o)=some r):∃ a b,a≤k+1∧b≤k∧PSt T a b [] p i ln er r:=by
 by_cases he:er=0
 ·subst he
  rw[stO_ok] at h
  cases k with
  |zero=>rw[sProg] at h;cases h
  |succ k=>
   by_cases ht:isTok T i [kwVar]=true
   ·have hlt:=isTok_lt ht
    rw[sProg,if_neg zo,if_pos ht] at h
    exact ⟨k,k,by omega,by omega,h⟩
   ·refine ⟨1,k+1,by omega,Nat.le_refl _,?_⟩
    unfold PSt
    rw[stO_ok,sVars,if_neg ht]
    show sProg T (k+1) { p with vars:=p.vars++[] } i 0=_
    rw[List.append_nil]
    exact h
 ·exact ⟨0,0,Nat.zero_le _,Nat.zero_le _,(stO_dead he).trans ((stO_dead he).symm.trans h)⟩
theorem pst_end {T:List Tok} {a b i:Nat} {acc:List (List UInt8)} {p:Pr} {ln er:Int} {r:Res Pr} (hc:(decide (er=0) && isTok T i [kwVar])=false) (h:PSt T a b acc p i ln er r):stO 0 i ln er (fun i o=>sProg T b { p with vars:=p.vars++acc } i o)=some r:=vars_end hc h
attribute [local irreducible] LOps LCode LStep LCalls Go.GL.Pure QThen QBlock RetPost LQ LAny LLate LLateOp LS
section
variable {B0:Nat} {w0:World}
theorem rparse_spec (s:List UInt8) (hs:s.length≤1000000000):LCalls (KC B0 w0) 26 [str s] [] (Ret (encParse (parseP s))):=by
 have htok:=rTokens_spec (B0:=B0) (w0:=w0) s hs
 rw[lexAllR_eq] at htok
 refine cI Tryz.func26 rfl (n:=113) rfl rfl rfl ?_
 refine gai ?_
 refine oS (S.alloc fun b2=>?_) rfl
 refine gav ?_
 cases hL:lexAllP s with
 |error le=>
  obtain ⟨l,e⟩:=le
  rw[hL] at htok
  have he:=lexAllP_err hL
  refine oS (S.fn [_] rfl htok ?_) rfl
  refine oP (Pure.mv rfl) rfl ?_
  refine oP (Pure.extract (vs:=[.list [],int .i64 l,int .i64 e]) rfl rfl) rfl ?_
  refine oP (Pure.extract (vs:=[.list [],int .i64 l,int .i64 e]) rfl rfl) rfl ?_
  refine oP (Pure.extract (vs:=[.list [],int .i64 l,int .i64 e]) rfl rfl) rfl ?_
  refine gaa ?_
  refine oC rfl (fun hc=>?_) (fun hc=>?_)
  ·refine gaa ?_
   have hp:parseP s=(noPr,l,e):=by rw[parseP,hL]
   rw[hp]
   exact retRet rfl (rC (rA (k:=3) rfl zm0 rfl (LV.Sub.agg (bs:=[.list [],.list [],.list []]) ⟨LV.Sub.nil,LV.Sub.nil,LV.Sub.nil,trivial⟩)) (rC (zrt rfl) (zra rfl))) rfl
  ·exact absurd (by simpa using hc) he
 |ok T=>
  rw[hL] at htok
  have hTl:T.length≤60000:=by
   have hL':=hL
   unfold lexAllP at hL'
   split at hL'
   ·cases hL'
   ·have:=(lexP_ok _ _ _ _ hL').1
    omega
  have hml:(T.map encTok).length=T.length:=List.length_map _
  obtain ⟨F,hF⟩:∃ F,F=10 * T.length+20:=⟨_,rfl⟩
  have hFl:F≤1000000:=by omega
  obtain ⟨r,hr⟩:=sProg_ends T F noPr 0 0 (Nat.zero_le _) zo
  have hp:parseP s=resP r:=by
   rw[parseP,hL]
   simp only[←hF,hr]
   cases r <;> rfl
  rw[hp]
  refine oS (S.fn [_] rfl htok ?_) rfl
  refine oP (Pure.mv rfl) rfl ?_
  refine oP (Pure.extract (vs:=[.list (T.map encTok),int .i64 0,int .i64 0]) rfl rfl) rfl ?_
  refine oP (Pure.extract (vs:=[.list (T.map encTok),int .i64 0,int .i64 0]) rfl rfl) rfl ?_
  refine oP (Pure.extract (vs:=[.list (T.map encTok),int .i64 0,int .i64 0]) rfl rfl) rfl ?_
  refine gaa ?_
  refine oC rfl (fun hc=>?_) (fun hc=>?_)
  ·cases hc
  refine gaa ?_
  refine oS (S.box (cs:=[_,_,_,_,_]) rfl fun rb=>?_) rfl
  refine ga2 ?_
  refine oS (S.alloc fun b9=>?_) rfl
  refine gad ?_
  obtain ⟨a0,b0,ha0,hb0,hst0⟩:=prog_in (T:=T) (k:=F) (i:=0) (p:=noPr) (ln:=0) (er:=0) hr
  refine oL (fun k ls H=>∃ (a b:Nat) (acc:List (List UInt8)) (p:Pr) (v1 v2 v3:LV) (i:Nat) (op ln er:Int) (H1 H2 H3:Heap),a≤F+1∧b≤F∧k=b * (F+2)+a∧ls=[(2,ptr b2 0),(3,int .i64 0),(4,int .i64 0),(5,.list (T.map encTok)),(8,ptr rb 0),(9,ptr b9 0)] ∧
    H=rdH rb T i op ln er::(b9,.cells 33 [v1,v2,v3])::(b2,.cells 33 [nilSlice,nilSlice,nilSlice])::(H1++(H2++H3)) ∧
    Acc 1 v1 ((p.vars++acc).map str) H1 []∧Acc 2 v2 (p.arrays.map encAr) H2 []∧Acc 4 v3 (p.funcs.map encFn) H3 []∧Wf T 0 i op ln er∧(p.vars++acc).length≤400000∧(er=0→(p.vars++acc).length≤i)∧p.arrays.length+b≤F∧p.funcs.length+b≤F∧PSt T a b acc p i ln er r)
   ⟨_,_,_,⟨a0,b0,[],noPr,nilSlice,nilSlice,nilSlice,0,0,0,0,[],[],[],ha0,hb0,rfl,rfl,rfl,Acc.nil,Acc.nil,Acc.nil,fun _=>⟨rfl,Nat.zero_le _,rfl,by omega⟩,by simp[noPr],fun _=>by simp[noPr],by simp[noPr];omega,by simp[noPr];omega,hst0⟩,⟨rfl,rfl,rfl,rfl,rfl,rfl,trivial⟩,zhP zp1 zhr⟩ ?_
  rintro k ls H ⟨a,b,acc,p,v1,v2,v3,i,op,ln,er,H1,H2,H3,ha,hb,rfl,rfl,rfl,ha1,ha2,ha3,hw,hvl,hva,hal,hfl,hI⟩ j hj
  by_cases he:er=0
  case neg=>
   have hz:decide (er=0)=false:=decide_eq_false he
   have hres:some (Res.err ln er)=some r:=(stO_dead he).symm.trans hI
   cases hres
   refine gab ?_
   refine oB 30 rfl (fun h=>?_) (fun h=>?_)
   ·rw[hz] at h
    cases h
   refine gag ?_
   refine oC rfl (fun h2=>?_) (fun h2=>?_)
   ·cases h2
   refine gab ?_
   refine oC rfl (fun h2=>?_) (fun h2=>?_)
   case refine_2=>exact absurd (by simpa using h2) he
   refine gad ?_
   refine LCode.draw (m:=12) rfl [rdH rb T i op ln er] ?_
   refine aT 0 rfl rfl (Pure.bld _ (cs:=[_,_,_]) rfl) ?_
   refine aT 1 rfl rfl (Pure.mv (lv:=.atom _) rfl) ?_
   refine aT 2 rfl rfl (Pure.nilCheckH rfl) ?_
   refine aT 3 rfl rfl (Pure.fieldH rfl) ?_
   refine aT 4 rfl rfl (Pure.loadH (c:=.atom _) rfl zm0 rfl) ?_
   refine aT 5 rfl rfl (Pure.mv (lv:=.atom _) rfl) ?_
   refine aT 6 rfl rfl (Pure.nilCheckH rfl) ?_
   refine aT 7 rfl rfl (Pure.fieldH rfl) ?_
   refine aT 8 rfl rfl (Pure.loadH (c:=.atom _) rfl zm0 rfl) ?_
   refine LAny.late ?_ zhp
   refine lO 9 (lS (H1:=[(b2,.cells 33 [nilSlice,nilSlice,nilSlice])]) rfl (.inl rfl) rfl zp2 zhp (S.store (cs':=[_,_,_]) rfl pH rfl rfl rfl rfl rfl ?_))
   refine LLate.any [rdH rb T i op ln er] (fun p hp=>hp) ?_
   refine aT 10 rfl rfl (Pure.as (lv:=.atom _) rfl) ?_
   refine aT 11 rfl rfl (Pure.as (lv:=.atom _) rfl) ?_
   refine LAny.late (lD zk ?_) (zhP zp1 zhn)
   refine gal ?_
   exact retRet hj (rC (rA (k:=3) rfl zm0 rfl (LV.Sub.agg (bs:=[.list [],.list [],.list []]) ⟨LV.Sub.nil,LV.Sub.nil,LV.Sub.nil,trivial⟩)) (rC (zrt rfl) (zra rfl))) rfl
  subst he
  obtain ⟨rfl,hi,rfl,_⟩:=hw rfl
  have hva:=hva rfl
  refine gab ?_
  refine oC rfl (fun hc=>?_) (fun hc=>?_)
  ·have hlt:i<T.length:=by have:=zt hc;omega
   have hT:=rtok_lex hL zo
   have hl:=hT.len
   have hwn:Wf T 0 (i+1) ((0:Nat):Int) 0 0:=fun _=>⟨rfl,hlt,rfl,by omega⟩
   refine gab ?_
   refine oS (S.fnH [_,_] rfl pH (qnext_spec rb T i _ 0 0 kwVar hl) ?_) rfl
   refine gay ?_
   refine oC rfl (fun hv=>?_) (fun hv=>?_)
   ·rw[andz] at hv
    obtain ⟨a,rfl,hI2⟩:=vars_next hv hI
    refine gaa ?_
    refine LCode.draw (m:=7) rfl [] ?_
    refine aT 0 rfl rfl (Pure.fieldH rfl) ?_
    refine aT 2 rfl rfl (Pure.mv (lv:=.atom _) rfl) ?_
    refine LAny.late ?_ zhn
    refine LLate.two (i:=1) (j:=3) zk ?_ ?_
    ·refine lH rfl rfl (Pure.loadH (c:=v1) rfl zm1 rfl) ?_
     refine lO 3 (lW rfl (.inl rfl) rfl (S.callB (i:=i+1) (op:=((0:Nat):Int)) [_] rfl pH hI2 (fun r1 h1=>qnames_spec rb T hT a 0 (i+1) _ 0 0 hwn r1 h1) fun ns i7 op7 ln7 er7 hb7 hw7 hal7 hI3=>?_))
     refine lO 4 (lW rfl (.inl rfl) rfl (S.accF permV rfl ha1 rfl (strs_len ns) (strs_ok ns) (by simp at hvl ⊢;omega) fun v' H' ha'=>?_))
     refine lO 5 (lH rfl rfl (Pure.fieldH rfl) ?_)
     refine lO 6 (lW rfl (.inl rfl) rfl (S.store (cs':=[v',v2,v3]) rfl zp1 (Acc.cell ha').1 rfl rfl (Acc.cell ha').2 rfl ?_))
     refine lD zk ?_
     refine gaq ?_
     refine oS (S.callQ [_,_] rfl zp1 hI3 (fun r1 h1=>qwant_spec rb T 0 i7 op7 ln7 er7 [59] hl hT.pos hw7 r1 h1) fun u4 i8 op8 ln8 er8 hw8 hal8 hI4=>?_) rfl
     refine gad ?_
     exact ⟨_,_,_,by omega,⟨a,b,acc++ns,p,v',v2,v3,i8,op8,ln8,er8,H',H2,H3,by omega,hb,rfl,rfl,rfl,by rw[←List.append_assoc,List.map_append];exact ha',ha2,ha3,hw8,by simp at hvl hva ⊢;omega,fun h8=>by
      obtain ⟨h7,h9⟩:=hal8 h8
      obtain ⟨_,h10⟩:=hal7 h7
      have h11:=names_len h10
      have h12:=le_need h9
      simp at hva ⊢
      omega,hal,hfl,hI4⟩,⟨rfl,rfl,rfl,rfl,rfl,rfl,trivial⟩,hsubW,hj⟩
    ·refine lW rfl (.inl rfl) rfl (S.callB (i:=i+1) (op:=((0:Nat):Int)) [_] rfl pH hI2 (fun r1 h1=>qnames_spec rb T hT a 0 (i+1) _ 0 0 hwn r1 h1) fun ns i7 op7 ln7 er7 hb7 hw7 hal7 hI3=>?_)
     refine lO 1 (lH rfl rfl (Pure.loadH (c:=v1) rfl zm1 rfl) ?_)
     refine lO 4 (lW rfl (.inl rfl) rfl (S.accF permV rfl ha1 rfl (strs_len ns) (strs_ok ns) (by simp at hvl ⊢;omega) fun v' H' ha'=>?_))
     refine lO 5 (lH rfl rfl (Pure.fieldH rfl) ?_)
     refine lO 6 (lW rfl (.inl rfl) rfl (S.store (cs':=[v',v2,v3]) rfl zp1 (Acc.cell ha').1 rfl rfl (Acc.cell ha').2 rfl ?_))
     refine lD zk ?_
     refine gaq ?_
     refine oS (S.callQ [_,_] rfl zp1 hI3 (fun r1 h1=>qwant_spec rb T 0 i7 op7 ln7 er7 [59] hl hT.pos hw7 r1 h1) fun u4 i8 op8 ln8 er8 hw8 hal8 hI4=>?_) rfl
     refine gad ?_
     exact ⟨_,_,_,by omega,⟨a,b,acc++ns,p,v',v2,v3,i8,op8,ln8,er8,H',H2,H3,by omega,hb,rfl,rfl,rfl,by rw[←List.append_assoc,List.map_append];exact ha',ha2,ha3,hw8,by simp at hvl hva ⊢;omega,fun h8=>by
      obtain ⟨h7,h9⟩:=hal8 h8
      obtain ⟨_,h10⟩:=hal7 h7
      have h11:=names_len h10
      have h12:=le_need h9
      simp at hva ⊢
      omega,hal,hfl,hI4⟩,⟨rfl,rfl,rfl,rfl,rfl,rfl,trivial⟩,hsubW,hj⟩
   have hI3:=pst_end hv hI
   rw[andz] at hv
   rw[stO_ok] at hI3
   obtain ⟨b1,rfl⟩:∃ g,b=g+1:=by
    cases b with
    |zero=>rw[sProg] at hI3;cases hI3
    |succ g=>exact ⟨g,rfl⟩
   rw[sProg,if_neg zo,if_neg (by rw[hv];decide)] at hI3
   have hms:∀ a' b',a'≤b1+1→b'≤b1→b' * (F+2)+a'<(b1+1) * (F+2)+a:=fun a' b' h1 h2=>by
    have:=Nat.mul_le_mul_right (F+2) h2
    rw[Nat.succ_mul]
    omega
   refine gae ?_
   refine oS (S.fnH [_,_] rfl pH (qnext_spec rb T i _ 0 0 kwArray hl) ?_) rfl
   refine gay ?_
   refine oC rfl (fun hq=>?_) (fun hq=>?_)
   ·rw[andz] at hq
    rw[if_pos hq] at hI3
    unfold sArray at hI3
    simp only[obind_assoc] at hI3
    have hI4:stO 0 (i+1) 0 0 (fun i o=>obind (some (sWord T 2 i o)) fun nm i o=>obind (some (sBegin T [91] i o)) fun _ i o=>obind (some (sNumber T i o)) fun n i o=>obind (some (sEnd T [93] i o)) fun _ i o=>obind (some (sNeed T [59] i o)) fun _ i o=>
     sProg T b1 ⟨p.vars++acc,p.arrays++[⟨nm,n⟩],p.funcs⟩ i o)=some r:=hI3
    refine gaa ?_
    refine oS (S.callQ (i:=i+1) (op:=((0:Nat):Int)) [_] rfl pH hI4 (fun r1 h1=>qname_spec rb T 0 (i+1) _ 0 0 hl hT.pos hwn r1 h1) fun nm i1 op1 ln1 er1 hw1 hal1 hI5=>?_) rfl
    refine gac ?_
    refine oS (S.alloc fun b10=>?_) rfl
    refine gaa ?_
    refine oS (S.callQ [_,_] rfl zp1 hI5 (fun r1 h1=>qenter_spec rb T 0 i1 op1 ln1 er1 [91] hl hT.pos hw1 r1 h1) fun u2 i2 op2 ln2 er2 hw2 hal2 hI6=>?_) rfl
    refine gaq ?_
    refine oS (S.callB [_] rfl pH hI6 (fun r1 h1=>qnumber_specB rb T hT (0+1) i2 op2 ln2 er2 hw2 r1 h1) fun n i3 op3 ln3 er3 hn3 hw3 hal3 hI7=>?_) rfl
    refine oP (Pure.cvt rfl) rfl ?_
    rw[show IntKind.i64.wrap (n:Int)=(n:Int) from wrap_i64 zo]
    refine gaa ?_
    refine oS (S.callQ [_,_] rfl zp1 hI7 (fun r1 h1=>qleave_spec rb T 0 i3 op3 ln3 er3 [93] hl hT.pos hw3 r1 h1) fun u4 i4 op4 ln4 er4 hw4 hal4 hI8=>?_) rfl
    refine gaq ?_
    refine oS (S.callQ [_,_] rfl pH hI8 (fun r1 h1=>qwant_spec rb T 0 i4 op4 ln4 er4 [59] hl hT.pos hw4 r1 h1) fun u5 i5 op5 ln5 er5 hw5 hal5 hI9=>?_) rfl
    refine gab ?_
    refine oP (Pure.loadH (c:=v2) rfl zm2 rfl) rfl ?_
    refine gac ?_
    refine oS (S.lit (es:=[encAr ⟨nm,n⟩]) [_] rfl (eC rfl rfl eN) rfl rfl rfl ?_) rfl
    refine LOps.weak (H':=rdH rb T i5 op5 ln5 er5::(b9,.cells 33 [v1,v2,v3])::(b2,.cells 33 [nilSlice,nilSlice,nilSlice])::(H1++(H2++H3))) (zhP pH (zhD zhr)) ?_
    refine oS (S.accF permA rfl ha2 rfl (by simp;rfl) rfl (by simp;omega) fun v' H' ha'=>?_) rfl
    refine gad ?_
    refine oS (S.store (cs':=[v1,v',v3]) rfl zp1 (Acc.cell ha').1 rfl rfl (Acc.cell ha').2 rfl ?_) rfl
    refine gad ?_
    obtain ⟨a',b',hA',hB',hst⟩:=prog_in hI9
    exact ⟨_,_,_,hms a' b' hA' hB',⟨a',b',[],⟨p.vars++acc,p.arrays++[⟨nm,n⟩],p.funcs⟩,v1,v',v3,i5,op5,ln5,er5,H1,H',H3,by omega,by omega,rfl,rfl,rfl,by simpa using ha1,by rw[List.map_append];exact ha',ha3,hw5,by simpa using hvl,fun h5=>by
     obtain ⟨h4,g5⟩:=hal5 h5
     obtain ⟨h3,g4⟩:=hal4 h4
     obtain ⟨h2,g3⟩:=hal3 h3
     obtain ⟨h1,g2⟩:=hal2 h2
     obtain ⟨_,g1⟩:=hal1 h1
     have:=le_need g5
     have:=le_end g4
     have:=le_num g3
     have:=le_begin g2
     have:=le_word g1
     simp at hva ⊢
     omega,by simp;omega,by simp;omega,hst⟩,⟨rfl,rfl,rfl,rfl,rfl,rfl,trivial⟩,hsubA,hj⟩
   rw[andz] at hq
   rw[if_neg (by rw[hq];decide)] at hI3
   refine gae ?_
   refine oS (S.fnH [_,_] rfl pH (qnext_spec rb T i _ 0 0 kwFunc hl) ?_) rfl
   refine gay ?_
   refine oC rfl (fun hf=>?_) (fun hf=>?_)
   ·rw[andz] at hf
    rw[if_pos hf] at hI3
    have hI4:stO 0 i 0 0 (fun i o=>obind (sFunc T b1 (i+1) o) fun fn i o=>sProg T b1 ⟨p.vars++acc,p.arrays,p.funcs++[fn]⟩ i o)=some r:=hI3
    refine LCode.draw (m:=8) rfl [] ?_
    refine aT 0 rfl rfl (Pure.fieldH rfl) ?_
    refine aT 2 rfl rfl (Pure.mv (lv:=.atom _) rfl) ?_
    refine LAny.late ?_ zhn
    refine LLate.two (i:=1) (j:=3) zk ?_ ?_
    ·refine lH rfl rfl (Pure.loadH (c:=v3) rfl zm1 rfl) ?_
     refine lO 3 (lW rfl (.inl rfl) rfl (S.callQ (op:=((0:Nat):Int)) [_] rfl pH hI4 (fun r1 h1=>qfunc_spec rb T hT b1 0 i hlt zo r1 h1) fun fn i5 op5 ln5 er5 hw5 hal5 hI5=>?_))
     refine lO 4 (lW rfl (.inl rfl) rfl (S.lit [_] rfl (eC rfl rfl eN) rfl rfl rfl ?_))
     refine lO 5 (lW rfl (.inl rfl) rfl (S.accF permF rfl ha3 rfl (by simp;rfl) rfl (by simp;omega) fun v' H' ha'=>?_))
     refine lO 6 (lH rfl rfl (Pure.fieldH rfl) ?_)
     refine lO 7 (lW rfl (.inl rfl) rfl (S.store (cs':=[v1,v2,v']) rfl zp1 (Acc.cell ha').1 rfl rfl (Acc.cell ha').2 rfl ?_))
     refine lD zk ?_
     refine gad ?_
     obtain ⟨a',b',hA',hB',hst⟩:=prog_in hI5
     exact ⟨_,_,_,hms a' b' hA' hB',⟨a',b',[],⟨p.vars++acc,p.arrays,p.funcs++[fn]⟩,v1,v2,v',i5,op5,ln5,er5,H1,H2,H',by omega,by omega,rfl,rfl,rfl,by simpa using ha1,ha2,by rw[List.map_append];exact ha',hw5,by simpa using hvl,fun h5=>by
      obtain ⟨_,g5⟩:=hal5 h5
      obtain ⟨g6,_⟩:=sFunc_good T b1 (i+1) 0 _ g5
      simp at hva ⊢
      omega,by simp;omega,by simp;omega,hst⟩,⟨rfl,rfl,rfl,rfl,rfl,rfl,trivial⟩,hsubF,hj⟩
    ·refine lW rfl (.inl rfl) rfl (S.callQ (op:=((0:Nat):Int)) [_] rfl pH hI4 (fun r1 h1=>qfunc_spec rb T hT b1 0 i hlt zo r1 h1) fun fn i5 op5 ln5 er5 hw5 hal5 hI5=>?_)
     refine LLate.two (i:=1) (j:=4) zk ?_ ?_
     ·refine lH rfl rfl (Pure.loadH (c:=v3) rfl zm1 rfl) ?_
      refine lO 4 (lW rfl (.inl rfl) rfl (S.lit [_] rfl (eC rfl rfl eN) rfl rfl rfl ?_))
      refine lO 5 (lW rfl (.inl rfl) rfl (S.accF permF rfl ha3 rfl (by simp;rfl) rfl (by simp;omega) fun v' H' ha'=>?_))
      refine lO 6 (lH rfl rfl (Pure.fieldH rfl) ?_)
      refine lO 7 (lW rfl (.inl rfl) rfl (S.store (cs':=[v1,v2,v']) rfl zp1 (Acc.cell ha').1 rfl rfl (Acc.cell ha').2 rfl ?_))
      refine lD zk ?_
      refine gad ?_
      obtain ⟨a',b',hA',hB',hst⟩:=prog_in hI5
      exact ⟨_,_,_,hms a' b' hA' hB',⟨a',b',[],⟨p.vars++acc,p.arrays,p.funcs++[fn]⟩,v1,v2,v',i5,op5,ln5,er5,H1,H2,H',by omega,by omega,rfl,rfl,rfl,by simpa using ha1,ha2,by rw[List.map_append];exact ha',hw5,by simpa using hvl,fun h5=>by
       obtain ⟨_,g5⟩:=hal5 h5
       obtain ⟨g6,_⟩:=sFunc_good T b1 (i+1) 0 _ g5
       simp at hva ⊢
       omega,by simp;omega,by simp;omega,hst⟩,⟨rfl,rfl,rfl,rfl,rfl,rfl,trivial⟩,hsubF,hj⟩
     ·refine lW rfl (.inl rfl) rfl (S.lit [_] rfl (eC rfl rfl eN) rfl rfl rfl ?_)
      refine lO 1 (lH rfl rfl (Pure.loadH (c:=v3) rfl zm1 rfl) ?_)
      refine lO 5 (lW rfl (.inl rfl) rfl (S.accF permF rfl ha3 rfl (by simp;rfl) rfl (by simp;omega) fun v' H' ha'=>?_))
      refine lO 6 (lH rfl rfl (Pure.fieldH rfl) ?_)
      refine lO 7 (lW rfl (.inl rfl) rfl (S.store (cs':=[v1,v2,v']) rfl zp1 (Acc.cell ha').1 rfl rfl (Acc.cell ha').2 rfl ?_))
      refine lD zk ?_
      refine gad ?_
      obtain ⟨a',b',hA',hB',hst⟩:=prog_in hI5
      exact ⟨_,_,_,hms a' b' hA' hB',⟨a',b',[],⟨p.vars++acc,p.arrays,p.funcs++[fn]⟩,v1,v2,v',i5,op5,ln5,er5,H1,H2,H',by omega,by omega,rfl,rfl,rfl,by simpa using ha1,ha2,by rw[List.map_append];exact ha',hw5,by simpa using hvl,fun h5=>by
       obtain ⟨_,g5⟩:=hal5 h5
       obtain ⟨g6,_⟩:=sFunc_good T b1 (i+1) 0 _ g5
       simp at hva ⊢
       omega,by simp;omega,by simp;omega,hst⟩,⟨rfl,rfl,rfl,rfl,rfl,rfl,trivial⟩,hsubF,hj⟩
   rw[andz] at hf
   rw[if_neg (by rw[hf];decide)] at hI3
   refine gae ?_
   refine oS (S.fnH [_,_] rfl pH (qfail_alive rb T i _ 3 hl hT.pos zo) ?_) rfl
   refine gad ?_
   exact ⟨_,_,_,hms 0 0 (Nat.zero_le _) (Nat.zero_le _),⟨0,0,acc,p,v1,v2,v3,i,_,_,3,H1,H2,H3,Nat.zero_le _,Nat.zero_le _,rfl,rfl,rfl,ha1,ha2,ha3,wf_dead (by decide),hvl,fun h=>absurd h (by decide),by omega,by omega,(stO_dead (by decide)).trans hI3⟩,⟨rfl,rfl,rfl,rfl,rfl,rfl,trivial⟩,HSub.refl _,hj⟩
  ·have hge:T.length≤i:=by have:=zf hc;omega
   have hI3:=pst_end (by rw[tok_none hge];rfl) hI
   rw[stO_ok] at hI3
   obtain ⟨b1,rfl⟩:∃ g,b=g+1:=by
    cases b with
    |zero=>rw[sProg] at hI3;cases hI3
    |succ g=>exact ⟨g,rfl⟩
   rw[sProg,if_pos hge] at hI3
   cases hI3
   refine LCode.cellSub zp1 (cs':=[.list ((p.vars++acc).map str),.list (p.arrays.map encAr),.list (p.funcs.map encFn)]) ⟨ha1.sub,ha2.sub,ha3.sub,trivial⟩ ?_
   refine gaa ?_
   refine oC rfl (fun h2=>?_) (fun h2=>?_)
   ·cases h2
   refine gaa ?_
   exact retRet hj (rC (rA rfl zm0 rfl zsr) (rC (zrt rfl) (zra rfl))) rfl
end
end Go.Proofs.YtcbpcianefpniaaGreatDoor
namespace Go.Proofs.YtcbpcianefpniaaGreatDoor.Chk
open Go.GL Go.RowKit Go.Stele
set_option maxRecDepth 100000
set_option maxHeartbeats 4000000
section
variable {C:Ctx} {e:Env} {H:Heap} {dst:Option Nat} {ty:TypeId} {pos:String} {aft:Array Edge} {g:Option (Nat×Bool)} {x:Operand}
theorem Pure.assertNil {t xT:TypeId} [ht:TConcrete C.P t] {zs:List Value} (hz:∀ w,(zeroValue t).run C.P w=.ok (.agg zs.toArray) w) (hx:e.ev x=.atom .nilIface):Go.GL.Pure C ⟨dst,.typeAssert x xT t true,ty,pos,aft,g⟩ e H (.tuple [.agg (zs.map .atom),bool false]):=
 .of_any fun ρ w L h=>⟨.tuple #[.agg zs.toArray,.bool false],by
  simp only[Rep]
  exact ⟨[.agg zs.toArray,.bool false],rfl,by simp only[RepL,Rep];exact ⟨_,_,rfl,⟨zs,rfl,repL_atoms zs⟩,_,_,rfl,rfl,rfl⟩⟩,fun w'=>by
  obtain ⟨d,hd,hm⟩:=ht.out
  have h3:execOp ρ ⟨dst,.typeAssert x xT t true,ty,pos,aft,g⟩=(do Pure.pure (.value (←Instr.typeAssert (ρ x) xT t true))):=rfl
  rw[h3,atom_of h hx]
  simp only[Instr.typeAssert,Sem.run_bind,run_underlying' hd,Result.andThen_ok]
  cases d <;> simp_all [Sem.run_bind]⟩
end
theorem vio_zero (w:World):(zeroValue 98).run Tryz.prog w=.ok (.agg [.string ⟨#[]⟩,.int .i64 0].toArray) w:=
 (Go.zero_of_info (P:=Tryz.prog) (n:=2) zk).1 w
attribute [local irreducible] LOps LCode LStep LCalls Go.GL.Pure QThen QBlock RetPost LQ LAny LLate LLateOp LS LOpsP LCodeP LCodeS LCallsD
section
variable {B0:Nat} {w0:World}
theorem crec_ret (b2 b3:Nat) (c d:LV):LCallsD (KC B0 w0) 40 [ptr b2 0,ptr b3 0] .returning [(b2,.cells 9 [c]),(b3,.cells 25 [d])]
  (fun u H=>u=.returning∧H=[(b2,.cells 9 [c]),(b3,.cells 25 [d])]):=by
 refine LCallsD.intro Tryz.func40 rfl (n:=19) rfl rfl rfl ?_
 refine LCodeS.seq (LCodeS.recover rfl rfl ?_)
 refine LCodeS.of ?_
 refine gae ?_
 refine oP (Pure.assertNil vio_zero rfl) rfl ?_
 refine gac ?_
 refine oS (S.alloc fun b5=>?_) rfl
 refine gaa ?_
 refine oC rfl (fun hc=>?_) (fun hc=>?_)
 ·cases hc
 refine gaa ?_
 refine oC rfl (fun hc=>?_) (fun hc=>?_)
 ·cases hc
 ·refine gas ?_
  exact ⟨rfl,_,zhD zhr,rfl,rfl⟩
theorem crec_pan (b2 b3:Nat) (c d:LV) (nm:List UInt8) (er:Int):LCallsD (KC B0 w0) 40 [ptr b2 0,ptr b3 0] (.panicking (vio nm er)) [(b2,.cells 9 [c]),(b3,.cells 25 [d])]
  (fun u H=>settle u=.returning∧H=[(b2,.cells 9 [str nm]),(b3,.cells 25 [int .i64 er])]):=by
 refine LCallsD.intro Tryz.func40 rfl (n:=19) rfl rfl rfl ?_
 refine LCodeS.seq (LCodeS.recover rfl rfl ?_)
 refine LCodeS.of ?_
 refine gae ?_
 refine oP (Pure.assertOk (vs:=[.string ⟨nm.toArray⟩,.int .i64 er]) rfl) rfl ?_
 refine gac ?_
 refine oS (S.alloc fun b5=>?_) rfl
 refine gaa ?_
 refine oC rfl (fun hc=>?_) (fun hc=>?_)
 ·skip
  refine LCode.draw (m:=6) rfl [(b5,.cells 98 [str nm,int .i64 er])] ?_
  refine aT 0 rfl rfl (Pure.fieldH rfl) ?_
  refine aT 1 rfl rfl (Pure.loadH (c:=.atom _) rfl zm0 rfl) ?_
  refine aT 2 rfl rfl (Pure.fieldH rfl) ?_
  refine aT 3 rfl rfl (Pure.loadH (c:=.atom _) rfl zm0 rfl) ?_
  refine LAny.late ?_ zhp
  refine lO 4 (lS (H1:=[(b2,.cells 9 [c])]) (F:=[(b5,.cells 98 [str nm,int .i64 er]),(b3,.cells 25 [d])]) rfl (.inl rfl) rfl zp1 zhp (S.store (cs':=[_]) rfl pH rfl rfl rfl rfl rfl ?_))
  refine lO 5 (lS (H1:=[(b3,.cells 25 [d])]) (F:=[(b2,.cells 9 [str nm]),(b5,.cells 98 [str nm,int .i64 er])]) rfl (.inl rfl) rfl zp2 (zhP zp1 zhn) (S.store (cs':=[_]) rfl pH rfl rfl rfl rfl rfl ?_))
  refine lD zk ?_
  exact ⟨rfl,_,zhP zp1 zhp,rfl,rfl⟩
 ·cases hc
theorem check_spec (vars:List Nm) (arrays:List (Nm×Int)) (fs:List FnD) (hv6:vars.length≤1000000) (ha6:arrays.length≤1000000) (har:∀ a∈arrays,-9223372036854775808≤a.2∧a.2<9223372036854775808) (hnd:ndFs fs≤1000000) :
  LCalls (KC B0 w0) 25 [encPrG vars arrays fs] [] (fun r H=>H=[]∧∃ nm,r=.ret (.tuple [str nm,int .i64 (checkP vars arrays fs)])):=by
 generalize hE:checkP vars arrays fs=E
 refine LCalls.introD Tryz.func25 rfl (n:=15) rfl rfl rfl ?_
 refine LCodeP.seq (LCodeP.of ?_)
 refine gai ?_
 refine oS (S.box rfl fun b1=>?_) rfl
 refine oS (S.alloc fun b2=>?_) rfl
 refine oS (S.alloc fun b3=>?_) rfl
 refine gap ?_
 refine LCodeP.seq (LCodeP.region ?_)
 refine gac ?_
 refine LOpsP.defer rfl rfl ?_
 refine LOpsP.nil ?_
 refine QThen.normal ?_
 refine LCodeP.seq (LCodeP.of ?_)
 refine gai ?_
 refine oS (S.kvNew fun gm=>?_) rfl
 refine oS (S.kvNew fun vm=>?_) rfl
 refine oS (S.kvNew fun am=>?_) rfl
 refine oS (S.kvNew fun fm=>?_) rfl
 refine gac ?_
 refine oS (S.box rfl fun cb=>?_) rfl
 refine LOps.weak (H':=pgH ⟨cb,gm,vm,am,fm,0,[],[],[],[],[],0,0,0,0,0,[]⟩ (.map none) 0++[(b3,.cells 25 [int .i64 0]),(b2,.cells 9 [str []]),(b1,.cells 33 [.list (vars.map str),.list (arrays.map encArG),.list (fs.map encFn)])]) ?_ ?_
 ·repeat first
   |exact HSub.nil _
   |refine zhP zb2 ?_
 refine gay ?_
 refine LCodeP.seq (LCodeP.region ?_)
 refine gac ?_
 refine LOpsP.step (S.callE (F:=[_,_,_]) [_,_] rfl zpr (program_spec (k:=⟨cb,gm,vm,am,fm,0,[],[],[],[],[],0,0,0,0,0,[]⟩) (o:=.map none) (d:=0) vars arrays fs rfl rfl rfl rfl hv6 ha6 har hnd) (fun H2 h0 hP=>?_) (fun nm h0=>?_)) rfl
 ·subst hP
  rw[hE] at h0
  subst h0
  refine LOpsP.nil ?_
  refine QThen.normal ?_
  refine LCodeP.seq (LCodeP.region ?_)
  refine LOpsP.step (S.store (cs':=[_]) rfl zp1 rfl rfl rfl rfl rfl ?_) rfl
  refine LOpsP.step (S.store (cs':=[_]) rfl zp1 rfl rfl rfl rfl rfl ?_) rfl
  refine LOpsP.nil ?_
  refine QThen.normal ?_
  refine LCodeP.ret ?_
  exact RetPostD.ret1 (vs:=[str [],int .i64 0]) (H1:=[(b2,.cells 9 [str []]),(b3,.cells 25 [int .i64 0])]) (F:=[_]) (H2:=[(b2,.cells 9 [str []]),(b3,.cells 25 [int .i64 0])]) rfl (List.Perm.swap _ _ _) (crec_ret b2 b3 _ _)
   (rC (ResIs.cellOne rfl zm0 rfl zsr) (rC (ResIs.cellOne rfl zm1 rfl zsr) rN)) zhn ⟨rfl,[],rfl⟩
 ·rw[hE] at h0 ⊢
  refine QThen.panic ?_
  exact RetPostD.panic1 (vs:=[str nm,int .i64 E]) (H1:=[(b2,.cells 9 [str []]),(b3,.cells 25 [int .i64 0])]) (F:=[_]) (H2:=[(b2,.cells 9 [str nm]),(b3,.cells 25 [int .i64 E])]) rfl (List.Perm.swap _ _ _) (crec_pan b2 b3 _ _ nm E)
   (rC (ResIs.cellOne rfl zm0 rfl zsr) (rC (ResIs.cellOne rfl zm1 rfl zsr) rN)) zhn ⟨rfl,nm,rfl⟩
end
end Go.Proofs.YtcbpcianefpniaaGreatDoor.Chk
set_option maxRecDepth 100000
namespace Go.Stele
mutual
theorem PE_nd:∀ {e:Ex} {k:Nat} {ts:List KT} {d:Nat},PE e k ts d→ndE e≤ts.length∧numE e
 |_,_,_,_,.num h=>⟨by rw[ndE,ndEs];exact Nat.le_refl _,by rw[numE];exact ⟨h,trivial⟩⟩
 |_,_,_,_,.var h=>⟨by rw[ndE,ndEs];exact Nat.le_refl _,by rw[numE];exact ⟨by unfold Lt;omega,trivial⟩⟩
 |_,_,_,_,.elem h ha=>by
  obtain ⟨h1,h2⟩:=PE_nd ha
  refine ⟨?_,?_⟩
  ·rw[ndE,ndEs,ndEs]
   simp only[List.length_append,List.length_cons,List.length_nil]
   omega
  ·rw[numE,numEs,numEs]
   exact ⟨by unfold Lt;omega,h2,trivial⟩
 |_,_,_,_,.call h hl=>by
  obtain ⟨h1,h2⟩:=PEs_nd hl
  refine ⟨?_,?_⟩
  ·rw[ndE]
   simp only[List.length_append,List.length_cons,List.length_nil]
   omega
  ·rw[numE]
   exact ⟨by unfold Lt;omega,h2⟩
 |_,_,_,_,.neg ha=>by
  obtain ⟨h1,h2⟩:=PE_nd ha
  refine ⟨?_,?_⟩
  ·rw[ndE,ndEs,ndEs]
   simp only[List.length_append,List.length_cons,List.length_nil]
   omega
  ·rw[numE,numEs,numEs]
   exact ⟨by unfold Lt;omega,h2,trivial⟩
 |_,_,_,_,.not ha=>by
  obtain ⟨h1,h2⟩:=PE_nd ha
  refine ⟨?_,?_⟩
  ·rw[ndE,ndEs,ndEs]
   simp only[List.length_append,List.length_cons,List.length_nil]
   omega
  ·rw[numE,numEs,numEs]
   exact ⟨by unfold Lt;omega,h2,trivial⟩
 |_,_,_,_,.bin hs ho hk ha hb=>by
  obtain ⟨h1,h2⟩:=PE_nd ha
  obtain ⟨h3,h4⟩:=PE_nd hb
  refine ⟨?_,?_⟩
  ·rw[ndE,ndEs,ndEs,ndEs]
   simp only[List.length_append,List.length_cons,List.length_nil]
   omega
  ·rw[numE,numEs,numEs,numEs]
   exact ⟨by unfold Lt;omega,h2,h4,trivial⟩
 |_,_,_,_,.par hs ho hk ha hb=>by
  obtain ⟨h1,h2⟩:=PE_nd ha
  obtain ⟨h3,h4⟩:=PE_nd hb
  refine ⟨?_,?_⟩
  ·rw[ndE,ndEs,ndEs,ndEs]
   simp only[List.length_append,List.length_cons,List.length_nil]
   omega
  ·rw[numE,numEs,numEs,numEs]
   exact ⟨by unfold Lt;omega,h2,h4,trivial⟩
theorem PEs_nd:∀ {l:List Ex} {ts:List KT} {d:Nat},PEs l ts d→ndEs l≤ts.length∧numEs l
 |_,_,_,.nil=>⟨by rw[ndEs];exact Nat.zero_le _,by rw[numEs];trivial⟩
 |_,_,_,.one ha=>by
  obtain ⟨h1,h2⟩:=PE_nd ha
  rw[ndEs,ndEs,numEs,numEs]
  exact ⟨by omega,h2,trivial⟩
 |_,_,_,.more ha hl=>by
  obtain ⟨h1,h2⟩:=PE_nd ha
  obtain ⟨h3,h4⟩:=PEs_nd hl
  refine ⟨?_,?_⟩
  ·rw[ndEs]
   simp only[List.length_append,List.length_cons]
   omega
  ·rw[numEs]
   exact ⟨h2,h4⟩
end
theorem one_nd {e:Ex} {ts:List KT} {d:Nat} (h:PE e 0 ts d):ndEs [e]≤ts.length∧numEs [e]:=PEs_nd (.one h)
mutual
theorem PS_nd:∀ {s:Sm} {ts:List KT} {d:Nat},PS s ts d→ndS s≤ts.length∧numS s
 |_,_,_,.assign h he=>by
  obtain ⟨h1,h2⟩:=one_nd he
  refine ⟨?_,?_⟩
  ·rw[ndS,ndEs,ndSs]
   simp only[List.length_append,List.length_cons,List.length_nil]
   omega
  ·rw[numS,numSs]
   exact ⟨by rw[numEs];trivial,h2,trivial,trivial⟩
 |_,_,_,.store h hx he=>by
  obtain ⟨h1,h2⟩:=one_nd he
  obtain ⟨h3,h4⟩:=one_nd hx
  refine ⟨?_,?_⟩
  ·rw[ndS,ndSs]
   simp only[List.length_append,List.length_cons,List.length_nil]
   omega
  ·rw[numS,numSs]
   exact ⟨h4,h2,trivial,trivial⟩
 |_,_,_,.call h hl=>by
  obtain ⟨h1,h2⟩:=PEs_nd hl
  refine ⟨?_,?_⟩
  ·rw[ndS,ndSs,ndEs,ndEs,ndEs,ndE]
   simp only[List.length_append,List.length_cons,List.length_nil]
   omega
  ·rw[numS,numSs,numEs,numEs,numEs,numE]
   exact ⟨trivial,⟨⟨by unfold Lt;omega,h2⟩,trivial⟩,trivial,trivial⟩
 |_,_,_,.ret he=>by
  obtain ⟨h1,h2⟩:=one_nd he
  refine ⟨?_,?_⟩
  ·rw[ndS,ndSs]
   simp only[List.length_append,List.length_cons,List.length_nil]
   have:ndEs []=0:=by rw[ndEs]
   omega
  ·rw[numS,numSs]
   exact ⟨by rw[numEs];trivial,h2,trivial,trivial⟩
 |_,_,_,.halt=>by
  refine ⟨?_,?_⟩
  ·rw[ndS,ndSs,ndEs]
   simp only[List.length_cons,List.length_nil]
   omega
  ·rw[numS,numSs,numEs]
   exact ⟨trivial,trivial,trivial,trivial⟩
 |_,_,_,.ifElse he h1 h2 hne=>by
  obtain ⟨a1,a2⟩:=one_nd he
  obtain ⟨b1,b2⟩:=PSs_nd h1
  obtain ⟨c1,c2⟩:=PSs_nd h2
  refine ⟨?_,?_⟩
  ·rw[ndS]
   simp only[List.length_append,List.length_cons,List.length_nil]
   have:ndEs []=0:=by rw[ndEs]
   omega
  ·rw[numS]
   exact ⟨by rw[numEs];trivial,a2,b2,c2⟩
 |_,_,_,.ifThen he h1=>by
  obtain ⟨a1,a2⟩:=one_nd he
  obtain ⟨b1,b2⟩:=PSs_nd h1
  refine ⟨?_,?_⟩
  ·rw[ndS]
   simp only[List.length_append,List.length_cons,List.length_nil]
   have:ndEs []=0:=by rw[ndEs]
   have:ndSs []=0:=by rw[ndSs]
   omega
  ·rw[numS]
   exact ⟨by rw[numEs];trivial,a2,b2,by rw[numSs];trivial⟩
 |_,_,_,.while he h1=>by
  obtain ⟨a1,a2⟩:=one_nd he
  obtain ⟨b1,b2⟩:=PSs_nd h1
  refine ⟨?_,?_⟩
  ·rw[ndS]
   simp only[List.length_append,List.length_cons,List.length_nil]
   have:ndEs []=0:=by rw[ndEs]
   have:ndSs []=0:=by rw[ndSs]
   omega
  ·rw[numS]
   exact ⟨by rw[numEs];trivial,a2,b2,by rw[numSs];trivial⟩
theorem PSs_nd:∀ {l:List Sm} {ts:List KT} {d:Nat},PSs l ts d→ndSs l≤ts.length∧numSs l
 |_,_,_,.nil=>⟨by rw[ndSs];exact Nat.zero_le _,by rw[numSs];trivial⟩
 |_,_,_,.cons h hl=>by
  obtain ⟨h1,h2⟩:=PS_nd h
  obtain ⟨h3,h4⟩:=PSs_nd hl
  refine ⟨?_,?_⟩
  ·rw[ndSs]
   simp only[List.length_append]
   omega
  ·rw[numSs]
   exact ⟨h2,h4⟩
end
theorem PFs_nd:∀ (fs:List FnD) (ts:List KT),PFs fs ts→ndFs fs≤ts.length∧∀ f∈fs,numSs f.body
 |[],ts,h=>⟨by rw[ndFs];exact Nat.zero_le _,fun f hf=>(List.not_mem_nil hf).elim⟩
 |f::fs,ts,h=>by
  cases h with
  |cons h hd hl=>
   obtain ⟨h1,h2⟩:=PFs_nd fs _ hl
   cases h with
   |mk hn hp hlo hb=>
    rename_i nm ps ls b ts' d'
    obtain ⟨h3,h4⟩:=PSs_nd hb
    have h5:=commas_ge ps
    have h6:=varK_ge ls
    refine ⟨?_,?_⟩
    ·rw[ndFs]
     unfold ndF
     simp only[List.length_append,List.length_cons,List.length_nil]
     omega
    ·intro f hf
     rcases List.mem_cons.1 hf with rfl|hf
     ·exact h4
     ·exact h2 f hf
theorem arKs_len (l:List Ar):l.length≤((l.map arK).flatten).length:=by
 induction l with
 |nil=>exact Nat.zero_le _
 |cons a l ih=>
  rw[List.map_cons,List.flatten_cons,List.length_append]
  unfold arK
  simp only[List.length_cons,List.length_nil]
  unfold arK at ih
  omega
structure SzP (p:Pr) (n:Nat):Prop where
 vars:p.vars.length≤n
 arrays:p.arrays.length≤n
 size:∀ a∈p.arrays,a.size<4294967296
 funcs:ndFs p.funcs≤n
 nums:∀ f∈p.funcs,numSs f.body
theorem PP_nd {p:Pr} {ts:List KT} (h:PP p ts):SzP p ts.length:=by
 cases h with
 |mk hv ha hf=>
  rename_i v a f ts
  obtain ⟨h1,h2⟩:=PFs_nd f ts hf
  have h3:=varK_ge v
  have h4:=arKs_len a
  refine ⟨?_,?_,fun x hx=>(ha x hx).2,?_,h2⟩ <;> · simp only[List.length_append];omega
theorem SzP.mono {p:Pr} {n m:Nat} (h:SzP p n) (hm:n≤m):SzP p m:=
 ⟨Nat.le_trans h.vars hm,Nat.le_trans h.arrays hm,h.size,Nat.le_trans h.funcs hm,h.nums⟩
theorem parse_sz {s:List UInt8} {T:List Tok} {p:Pr} {i op:Nat} (hT:lexAt s 1=.ok T) (hs:sProg T (10 * T.length+20) ⟨[],[],[]⟩ 0 0=some (.ok p i op)):SzP p s.length:=by
 obtain ⟨ts,h3,h4⟩:=src_print (lexP_again _ _ _ _ hT) hs
 exact (PP_nd h3).mono (Nat.le_trans h4 (lexP_ok _ _ _ _ hT).1)
theorem SzP.small {p:Pr} {n:Nat} (h:SzP p n) (hn:n≤1000000):SmP p:=by
 have h1:=ndFs_len p.funcs
 have h2:=h.funcs
 exact ⟨show p.vars.length≤1000000 from Nat.le_trans h.vars hn,show p.arrays.length≤1000000 from Nat.le_trans h.arrays hn,show p.funcs.length≤1000000 by omega,fun f hf=>smF_of (Nat.le_trans (ndFs_mem hf) (Nat.le_trans h2 hn))⟩
end Go.Stele
namespace Go.Proofs.YtcbpcianefpniaaGreatDoor.Inp
open Go.GL Go.RowKit Go.Stele
set_option maxRecDepth 100000
set_option maxHeartbeats 4000000
theorem parse_both {s:List UInt8} (hs:s.length≤60000):∃ l,parseP s=((parseQ s).1,l,(parseQ s).2)∧SzP (parseQ s).1 s.length:=by
 have h0:SzP ⟨[],[],[]⟩ s.length:=⟨Nat.zero_le _,Nat.zero_le _,fun a ha=>(List.not_mem_nil ha).elim,Nat.zero_le _,fun a ha=>(List.not_mem_nil ha).elim⟩
 have hL:lexAllP s=lexAt s 1:=by
  unfold lexAllP
  rw[if_neg zo]
  rfl
 unfold parseP parseQ
 rw[hL]
 cases hT:lexAt s 1 with
 |error x=>
  obtain ⟨l,e⟩:=x
  exact ⟨l,rfl,h0⟩
 |ok T=>
  simp only
  obtain ⟨r,hr⟩:=sProg_ends T (10 * T.length+20) noPr 0 0 (Nat.zero_le _) zo
  have hr':sProg T (10 * T.length+20) ⟨[],[],[]⟩ 0 0=some r:=hr
  rw[hr,hr']
  cases r with
  |err l e=>exact ⟨l,rfl,h0⟩
  |ok p i op=>exact ⟨0,rfl,parse_sz hT hr'⟩
theorem encPr_eq (p:Pr):encPr p=Chk.encPrG p.vars (p.arrays.map fun a=>(a.name,(a.size:Int))) p.funcs:=by
 unfold encPr Chk.encPrG
 rw[List.map_map]
 rfl
attribute [local irreducible] LOps LCode LStep LCalls Go.GL.Pure QThen QBlock RetPost LQ LAny LLate LLateOp LS
section
variable {B0:Nat} {w0:World}
theorem checkPr_spec {p:Pr} {n:Nat} (h:SzP p n) (hn:n≤1000000):LCalls (KC B0 w0) 25 [encPr p] [] (fun r H=>H=[]∧∃ nm,r=.ret (.tuple [str nm,int .i64 (checkPr p)])):=by
 rw[encPr_eq]
 exact Chk.check_spec _ _ _ (Nat.le_trans h.vars hn) (by rw[List.length_map];exact Nat.le_trans h.arrays hn) (fun a ha=>by
  obtain ⟨x,hx,rfl⟩:=List.mem_map.1 ha
  have:=h.size x hx
  constructor
  ·show (-9223372036854775808:Int)≤(x.size:Int)
   omega
  ·show (x.size:Int)<9223372036854775808
   omega) (Nat.le_trans h.funcs hn)
theorem source_spec (hG:GW B0 w0) (s:List UInt8) (hs:s.length≤60000) {inp:List Nat} (hin:∀ v∈inp,Lt v) (steps:Int) :
  LCalls (KC B0 w0) 13 [str s,.list (inp.map u32),int .i64 steps] [] (Ret (encO (sourceI s inp steps))):=by
 obtain ⟨l,hP,hsz⟩:=parse_both hs
 have hps:=parse_spec hG s zo
 rw[hP] at hps
 unfold sourceI
 generalize hp:(parseQ s).1=p at hps hsz ⊢
 generalize he:(parseQ s).2=er at hps ⊢
 have hs6:s.length≤1000000:=by omega
 have hchk:=checkPr_spec (B0:=B0) (w0:=w0) hsz hs6
 refine cI Tryz.func13 rfl (n:=35) rfl rfl rfl ?_
 refine gai ?_
 refine oS (S.alloc fun b6=>?_) rfl
 refine gaq ?_
 refine oS (S.fn [_] rfl hps ?_) rfl
 unfold encParse
 refine gac ?_
 refine oS (S.alloc fun b7=>?_) rfl
 refine gaa ?_
 by_cases hc0:er=0
 rotate_left
 ·rw[if_pos hc0]
  refine oC rfl (fun hc=>?_) (fun hc=>?_)
  ·refine gaa ?_
   exact retRet rfl (rC (rA rfl zm0 rfl zsr) rN) rfl
  ·have h2:(!decide (er=0))=false:=hc
   simp at h2
   exact absurd h2 hc0
 refine oC rfl (fun hc=>?_) (fun _=>?_)
 ·have h2:(!decide (er=0))=true:=hc
  simp[hc0] at h2
 rw[if_neg (by simpa using hc0)]
 refine gaa ?_
 refine oS (S.callH (H1:=[]) (F:=[_,_]) [_] rfl zpr hchk ?_ (by rintro ch H' ⟨_,nm,h⟩;cases h)) rfl
 rintro lv H' ⟨rfl,nm,h⟩
 cases h
 refine gaa ?_
 by_cases hc1:checkPr p=0
 rotate_left
 ·rw[if_pos hc1]
  refine oC rfl (fun hc=>?_) (fun hc=>?_)
  ·refine gaa ?_
   exact retRet rfl (rC (rA rfl zm0 rfl zsr) rN) rfl
  ·have h2:(!decide (checkPr p=0))=false:=hc
   simp at h2
   exact absurd h2 hc1
 refine oC rfl (fun hc=>?_) (fun _=>?_)
 ·have h2:(!decide (checkPr p=0))=true:=hc
  simp[hc1] at h2
 rw[if_neg (by simpa using hc1)]
 have hq:runQ p inp steps=limitI p inp steps:=by unfold runQ;rw[if_pos hc1]
 have hrun:=run_spec (B0:=B0) (w0:=w0) (hsz.small hs6) hsz.nums hchk hin steps
 rw[hq] at hrun
 refine gaa ?_
 refine oS (S.fn [_,_,_] rfl hrun ?_) rfl
 refine gac ?_
 exact retRet rfl (rC (rA rfl zm0 rfl zsr) rN) rfl
end
end Go.Proofs.YtcbpcianefpniaaGreatDoor.Inp
namespace Go.Proofs.YtcbpcianefpniaaGreatDoor.Inp
open Go.GL Go.RowKit Go.Stele
set_option maxRecDepth 100000
set_option maxHeartbeats 4000000
instance:TOut Tryz.prog 27:=.of zk
def greatB (a b:Nat) (n:Int):Bool:=decide (1500<a) || decide (100<b) || decide (20000<n)
attribute [local irreducible] LOps LCode LStep LCalls Go.GL.Pure QThen QBlock RetPost LQ LAny LLate LLateOp LS
section
variable {B0:Nat} {w0:World}
theorem source_nil (hG:GW B0 w0) (s:List UInt8) (hs:s.length≤60000) (steps:Int):LCalls (KC B0 w0) 13 [str s,nilSlice,int .i64 steps] [] (Ret (encO (sourceI s [] steps))):=
 LCalls.argsSub (bs:=[str s,.list (([]:List Nat).map u32),int .i64 steps]) ⟨LV.Sub.refl _,LV.Sub.nil,LV.Sub.refl _,trivial⟩ (source_spec hG s hs (by simp) steps)
theorem awake_spec (hG:GW B0 w0):LCalls (KC B0 w0) 12 [] [] (Ret (bool true)):=by
 have h:=source_nil hG awakeS (by decide) 100
 rw[awake_law] at h
 refine cI Tryz.func12 rfl (n:=6) rfl rfl rfl ?_
 refine ga2 ?_
 refine oS (S.fn [_,_,_] rfl h ?_) rfl
 refine oS (S.alloc fun b1=>?_) rfl
 refine gaa ?_
 refine oP (Pure.eqOutT (a:=[42]) (b:=[42]) (i:=0) (k:=0) (j:=5) (l:=5) rfl rfl rfl rfl rfl) rfl ?_
 refine gam ?_
 exact retRet rfl (zra rfl) rfl
theorem great_spec (s:List UInt8) (inp:List Nat) (n:Int):LCalls (KC B0 w0) 11 [str s,.list (inp.map u32),int .i64 n] [] (Ret (bool (greatB s.length inp.length n))):=by
 refine cI Tryz.func11 rfl (n:=19) rfl rfl rfl ?_
 refine gaa ?_
 refine oB 10 rfl (fun h1=>?_) (fun h1=>?_)
 ·have h2:1500<s.length:=by have:=zt h1;omega
  refine gad ?_
  exact retRet rfl (zra rfl) (by unfold greatB;rw[decide_eq_true h2];rfl)
 have h2:¬ 1500<s.length:=by have:=zf h1;omega
 refine gac ?_
 refine oB 15 rfl (fun h3=>?_) (fun h3=>?_)
 ·have h4:100<inp.length:=by have:=zt h3;rw[List.length_map] at this;omega
  refine gad ?_
  exact retRet rfl (zra rfl) (by unfold greatB;rw[decide_eq_false h2,decide_eq_true h4];rfl)
 have h4:¬ 100<inp.length:=by have:=zf h3;rw[List.length_map] at this;omega
 refine gac ?_
 exact retRet rfl (zra rfl) (by unfold greatB;rw[decide_eq_false h2,decide_eq_false h4];rfl)
end
end Go.Proofs.YtcbpcianefpniaaGreatDoor.Inp
namespace Go.Proofs.YtcbpcianefpniaaGreatDoor.RI
open Go.GL Go.RowKit Go.Stele
open Go.Proofs.YtcbpcianefpniaaGreatDoor.Inp (u32 runQ parse_both encPr_eq greatB great_spec awake_spec source_spec)
open Go.Proofs.YtcbpcianefpniaaGreatDoor.RC (PostC rcheck_spec)
set_option maxRecDepth 100000
set_option maxHeartbeats 4000000
attribute [local irreducible] LOps LCode LStep LCalls Go.GL.Pure QThen QBlock RetPost LQ LAny LLate LLateOp LS
section
variable {B0:Nat} {w0:World}
theorem rcheckPr_spec {p:Pr} {n:Nat} (h:SzP p n) (hn:n≤1000000):LCalls (KC B0 w0) 27 [encPr p] [] (PostC (checkPr p)):=by
 rw[encPr_eq]
 exact rcheck_spec _ _ _ (Nat.le_trans h.vars hn) (by rw[List.length_map];exact Nat.le_trans h.arrays hn) (fun a ha=>by
  obtain ⟨x,hx,rfl⟩:=List.mem_map.1 ha
  have:=h.size x hx
  constructor
  ·show (-9223372036854775808:Int)≤(x.size:Int)
   omega
  ·show (x.size:Int)<9223372036854775808
   omega) (Nat.le_trans h.funcs hn)
theorem rsource_spec (s:List UInt8) (hs:s.length≤60000) {inp:List Nat} (hin:∀ v∈inp,Lt v) (steps:Int) :
  LCalls (KC B0 w0) 14 [str s,.list (inp.map u32),int .i64 steps] [] (Ret (Inp.encO (sourceI s inp steps))):=by
 obtain ⟨l,hP,hsz⟩:=parse_both hs
 have hps:=rparse_spec (B0:=B0) (w0:=w0) s zo
 rw[hP] at hps
 unfold sourceI
 generalize hp:(parseQ s).1=p at hps hsz ⊢
 generalize he:(parseQ s).2=er at hps ⊢
 have hs6:s.length≤1000000:=by omega
 have hchk:=rcheckPr_spec (B0:=B0) (w0:=w0) hsz hs6
 refine cI Tryz.func14 rfl (n:=33) rfl rfl rfl ?_
 refine gai ?_
 refine oS (S.alloc fun b6=>?_) rfl
 refine gaq ?_
 refine oS (S.fn [_] rfl hps ?_) rfl
 unfold encParse
 refine gac ?_
 refine oS (S.alloc fun b7=>?_) rfl
 refine gaa ?_
 by_cases hc0:er=0
 rotate_left
 ·rw[if_pos hc0]
  refine oC rfl (fun hc=>?_) (fun hc=>?_)
  ·refine gaa ?_
   exact retRet rfl (rC (rA (k:=3) rfl zb0 rfl zsr) rN) rfl
  ·have h2:(!decide (er=0))=false:=hc
   simp at h2
   exact absurd h2 hc0
 refine oC rfl (fun hc=>?_) (fun _=>?_)
 ·have h2:(!decide (er=0))=true:=hc
  simp[hc0] at h2
 rw[if_neg (by simpa using hc0)]
 refine gaa ?_
 refine oS (S.callH (H1:=[]) (F:=[_,_]) [_] rfl zpr hchk ?_ (by rintro ch H' ⟨_,nm,h⟩;cases h)) rfl
 rintro lv H' ⟨rfl,nm,h⟩
 cases h
 refine gaa ?_
 by_cases hc1:checkPr p=0
 rotate_left
 ·rw[if_pos hc1]
  refine oC rfl (fun hc=>?_) (fun hc=>?_)
  ·refine gaa ?_
   exact retRet rfl (rC (rA (k:=3) rfl zb0 rfl zsr) rN) rfl
  ·have h2:(!decide (checkPr p=0))=false:=hc
   simp at h2
   exact absurd h2 hc1
 refine oC rfl (fun hc=>?_) (fun _=>?_)
 ·have h2:(!decide (checkPr p=0))=true:=hc
  simp[hc1] at h2
 rw[if_neg (by simpa using hc1)]
 have hq:runQ p inp steps=limitI p inp steps:=by unfold runQ;rw[if_pos hc1]
 have hrun:=rrun_spec (B0:=B0) (w0:=w0) (hsz.small hs6) hsz.nums hchk hin steps
 rw[hq] at hrun
 refine gaa ?_
 refine oS (S.fn [_,_,_] rfl hrun ?_) rfl
 refine gac ?_
 exact retRet rfl (rC (rA (k:=3) rfl zb0 rfl zsr) rN) rfl
theorem source_law (hG:GW B0 w0) (s:List UInt8) {inp:List Nat} (hin:∀ v∈inp,Lt v) (steps:Int):LCalls (KC B0 w0) 3 [str s,.list (inp.map u32),int .i64 steps] [] (Ret (bool true)):=by
 have haw:=awake_spec hG
 refine cI Tryz.func3 rfl (n:=31) rfl rfl rfl ?_
 refine gab ?_
 refine oS (S.fn [_,_,_] rfl (great_spec s inp 0) ?_) rfl
 generalize hgr:greatB s.length inp.length 0=gr
 cases gr with
 |true=>
  refine gac ?_
  refine oC rfl (fun _=>?_) (fun hc=>by cases hc)
  refine gai ?_
  refine oS (S.fn [] rfl haw ?_) rfl
  refine gal ?_
  exact retRet rfl (zra rfl) rfl
 |false=>
  refine gac ?_
  refine oB 13 rfl (fun h1=>?_) (fun h1=>?_)
  ·refine gac ?_
   refine oC rfl (fun _=>?_) (fun _=>?_)
   ·refine gai ?_
    refine oS (S.fn [] rfl haw ?_) rfl
    refine gal ?_
    exact retRet rfl (zra rfl) rfl
   ·have hs6:s.length≤60000:=by
     unfold greatB at hgr
     simp only[Bool.or_eq_false_iff,decide_eq_false_iff_not] at hgr
     omega
    have hs1:=source_spec hG s hs6 hin steps
    have hs2:=rsource_spec (B0:=B0) (w0:=w0) s hs6 hin steps
    generalize sourceI s inp steps=O at hs1 hs2
    obtain ⟨o1,e1,n1⟩:=O
    refine gab ?_
    refine oS (S.fn [_,_,_] rfl hs1 ?_) rfl
    refine gad ?_
    refine oS (S.fn [_,_,_] rfl hs2 ?_) rfl
    refine oP (Pure.eqOutT (a:=o1) (b:=o1) (i:=e1) (k:=e1) (j:=(n1:Int)) (l:=(n1:Int)) rfl rfl rfl rfl rfl) rfl ?_
    refine gat ?_
    refine oS (S.fn [] rfl haw ?_) rfl
    refine gad ?_
    exact retRet rfl (zra rfl) rfl
  ·refine gad ?_
   refine oC rfl (fun hc=>by cases hc) (fun _=>?_)
   have hs6:s.length≤60000:=by
    unfold greatB at hgr
    simp only[Bool.or_eq_false_iff,decide_eq_false_iff_not] at hgr
    omega
   have hs1:=source_spec hG s hs6 hin steps
   have hs2:=rsource_spec (B0:=B0) (w0:=w0) s hs6 hin steps
   generalize sourceI s inp steps=O at hs1 hs2
   obtain ⟨o1,e1,n1⟩:=O
   refine gab ?_
   refine oS (S.fn [_,_,_] rfl hs1 ?_) rfl
   refine gad ?_
   refine oS (S.fn [_,_,_] rfl hs2 ?_) rfl
   refine oP (Pure.eqOutT (a:=o1) (b:=o1) (i:=e1) (k:=e1) (j:=(n1:Int)) (l:=(n1:Int)) rfl rfl rfl rfl rfl) rfl ?_
   refine gat ?_
   refine oS (S.fn [] rfl haw ?_) rfl
   refine gad ?_
   exact retRet rfl (zra rfl) rfl
end
end Go.Proofs.YtcbpcianefpniaaGreatDoor.RI
