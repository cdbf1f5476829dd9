/- Texts joined: RPar9, RLex2, RLex3, LexSpec3, RLex4, RLex5, LexLaw, RParA, A23H, LawCB. -/
import Derived.Test.YthmhncflhnbedaaGreatDoorBRowCB2
import Derived.Test.YthmhncflhnbedaaGreatDoorBRowCB3
import Derived.Test.YthmhncflhnbedaaGreatDoorBRowCB8
import Derived.Test.YthmhncflhnbedaaGreatDoorBRowCB10
import Derived.Test.YthmhncflhnbedaaGreatDoorBRowCB11
import Derived.Test.YthmhncflhnbedaaGreatDoorBRowCB13
import Derived.Test.YthmhncflhnbedaaGreatDoorBRowCB14
set_option linter.unusedVariables false
set_option linter.unusedSimpArgs false
set_option maxRecDepth 100000
set_option maxHeartbeats 4000000
namespace Go.Proofs.YthmhncflhnbedaaGreatDoor
open Go.GL Go.RowKit Go.Stele
attribute [local irreducible] LOps qae qag LCalls Go.GL.Pure qaA qaq qah LQ LAny qaF qap LS
theorem qsR {A B:Type} {T:List Tok} {o i:Nat} {ln er:Int} {xs:List (List UInt8)} {a b:Nat->Nat->OR A} {K:A->Nat->Nat->OR B} {r:Res B} (hc:(decide (er=0) && qaE T i xs)=false)
  (h:stO o i ln er (fun i o=>qal (if qaE T i xs then a i o else b i o) K)=some r):stO o i ln er (fun i o=>qal (b i o) K)=some r:=by
 by_cases he:er=0
 ·subst he;rw[andz] at hc;rw[qa5,hc] at h;exact h
 ·rw[qaD he] at h ⊢;exact h
theorem qsP {A B:Type} {T:List Tok} {o i:Nat} {ln:Int} {xs:List (List UInt8)} {a b:Nat->Nat->OR A} {K:A->Nat->Nat->OR B} {r:Res B} (ht:qaE T i xs=true)
  (h:stO o i ln 0 (fun i o=>qal (if qaE T i xs then a i o else b i o) K)=some r):stO o i ln 0 (fun i o=>qal (a i o) K)=some r:=by
 rw[qa5,ht] at h;exact h
theorem qlj {B:Type} {T:List Tok} {k o i:Nat} {ln:Int} {l:List (List UInt8)} {K:List (List UInt8)->Nat->Nat->OR B} {r:Res B} (ht:qaE T i [qhH]=true) (h:stO o i ln 0 (fun i o=>qal (qc0 T k l i o) K)=some r) :
  ∃ g,k=g+1/\stO o (i+1) ln 0 (fun i o=>qal (qeV T g i o) fun ns i o=>qal (some (qb6 T [59] i o)) fun _ i o=>qal (qc0 T g (l++ns) i o) K)=some r:=by
 rw[qa5] at h
 cases k with
 |zero=>rw[qc0] at h;cases h
 |succ g=>
  rw[qc0,if_pos ht] at h;simp only[qbG] at h;exact ⟨g,rfl,h⟩
theorem qnO {B:Type} {T:List Tok} {k o i:Nat} {ln er:Int} {l:List (List UInt8)} {K:List (List UInt8)->Nat->Nat->OR B} {r:Res B} (hc:(decide (er=0) && qaE T i [qhH])=false) (h:stO o i ln er (fun i o=>qal (qc0 T k l i o) K)=some r):stO o i ln er (K l)=some r:=by
 by_cases he:er=0
 ·subst he;rw[andz] at hc;rw[qa5] at h ⊢
  cases k with
  |zero=>rw[qc0] at h;cases h
  |succ g=>
   rw[qc0,if_neg (by rw[hc];decide)] at h;exact h
 ·rw[qaD he] at h ⊢;exact h
section
variable {B0:Nat} {w0:World}
theorem qjB (rb:Nat) (T:List Tok) (hT:RTOK T) (f o i:Nat) (hi:i<T.length) (ho:o<=100) (r:Res FnD) (hr:qiz T f (i+1) o=some r) :
  LCalls (KC B0 w0) 34 [ptr rb 0] [rdH rb T i o 0 0] (qe9 rb T o qav r):=by
 have hl:=hT.len;have hS:=(qrO (B0:=B0) (w0:=w0) rb T hT f).2.1
 have hr':stO o (i+1) 0 0 (fun i o=>qal (some (qbS T 2 i o)) fun nm i' op'=>qal (some (qbs T [40] i' op')) fun _ i' op'=>
  qal (if qaE T i' [[41]] then some (.ok [] i' op') else qeV T f i' op') fun ps i' op'=>qal (some (sEnd T [41] i' op')) fun _ i' op'=>
  qal (some (qbs T [123] i' op')) fun _ i' op'=>qal (qc0 T f [] i' op') fun ls i' op'=>qal (qbV T f [] i' op') fun b i' op'=>
  qal (some (sEnd T [125] i' op')) fun _ i' op'=>some (.ok ⟨nm,ps,ls,b⟩ i' op'))=some r:=hr
 refine cI Tryz.func34 rfl (n:=49) rfl rfl rfl ?_;refine gag ?_;refine oS (sA fun b2=>?_) rfl;refine gai ?_;refine oS (sA fun b3=>?_) rfl;refine gab ?_;refine oS (sQ (i:=i+1) (op:=(o:Int)) [_] rfl pH hr' (fun r1 h1=>qdO rb T o (i+1) o 0 0 hl hT.pos (fun _=>⟨rfl,hi,rfl,ho⟩) r1 h1) fun s i1 op1 ln1 er1 hw1 hal1 hr1=>?_) rfl;refine gab ?_;refine oS (sQ [_,_] rfl zp1 hr1 (fun r1 h1=>qbQ rb T o i1 op1 ln1 er1 [40] hl hT.pos hw1 r1 h1) fun u i2 op2 ln2 er2 hw2 hal2 hr2=>?_) rfl;refine gan ?_;refine oS (sH [_,_] rfl pH (qaP rb T i2 op2 ln2 er2 [41] hl) ?_) rfl;refine gad ?_
 refine qae.mid (A:=List (List UInt8)×Nat×Int×Int×Int) (fun _=>[(0,ptr rb 0),(2,ptr b2 0),(3,ptr b3 0)]) (fun a=>(b3,.cells 84 [str s,.list (a.1.map str),qaa,qaa])::rdH rb T a.2.1 a.2.2.1 a.2.2.2.1 a.2.2.2.2::[(b2,.cells 84 [str [],qaa,qaa,qaa])])
  (fun a=>Wf T (o+1) a.2.1 a.2.2.1 a.2.2.2.1 a.2.2.2.2/\stO (o+1) a.2.1 a.2.2.2.1 a.2.2.2.2 (fun i' op'=>qal (some (sEnd T [41] i' op')) fun _ i' op'=>qal (some (qbs T [123] i' op')) fun _ i' op'=>qal (qc0 T f [] i' op') fun ls i' op'=>
   qal (qbV T f [] i' op') fun b i' op'=>qal (some (sEnd T [125] i' op')) fun _ i' op'=>some (.ok ⟨s,a.1,ls,b⟩ i' op'))=some r) ?_ ?_
 ·refine oC rfl (fun hc=>?_) (fun hc=>?_)
  ·have hc':(decide (er2=0) && qaE T i2 [[41]])=false:=by simpa only[Bool.not_eq_true'] using hc
   have hr3:=qsR hc' hr2;refine gaf ?_;refine oS (S.callB [_] rfl pH hr3 (fun r1 h1=>qd5 rb T hT f (o+1) i2 op2 ln2 er2 hw2 r1 h1) fun ns i3 op3 ln3 er3 hb3 hw3 hal3 hr4=>?_) rfl;refine gac ?_;exact ⟨(ns,i3,op3,ln3,er3),⟨hw3,hr4⟩,⟨rfl,rfl,rfl,trivial⟩,rfl,rfl⟩
  ·have hc':(decide (er2=0) && qaE T i2 [[41]])=true:=by simpa only[Bool.not_eq_false'] using hc
   obtain ⟨he,ht⟩:=Bool.and_eq_true_iff.1 hc';obtain rfl:=zt he;have hr3:=qsP ht hr2;refine qae.cellSub zp1 (cs':=[str s,.list [],qaa,qaa]) ⟨vR _,vN,vR _,vR _,trivial⟩ ?_;refine gar ?_;exact ⟨([],i2,op2,ln2,0),⟨hw2,hr3⟩,⟨rfl,rfl,rfl,trivial⟩,rfl,rfl⟩
 rintro ⟨ps,i3,op3,ln3,er3⟩ ⟨hw3,hr3⟩ j hj;refine gaf ?_;refine oS (sQ [_,_] rfl zp1 hr3 (fun r1 h1=>qb3 rb T o i3 op3 ln3 er3 [41] hl hT.pos hw3 r1 h1) fun u2 i4 op4 ln4 er4 hw4 hal4 hr4=>?_) rfl;refine gan ?_;refine oS (sQ [_,_] rfl pH hr4 (fun r1 h1=>qbQ rb T o i4 op4 ln4 er4 [123] hl hT.pos hw4 r1 h1) fun u3 i5 op5 ln5 er5 hw5 hal5 hr5=>?_) rfl;refine gad ?_
 refine oL (fun k ls H=>∃ (v:LV) (l:List (List UInt8)) (i6:Nat) (op6 ln6 er6:Int) (Ha:Heap),ls=[(0,ptr rb 0),(2,ptr b2 0),(3,ptr b3 0)] /\
   H=rdH rb T i6 op6 ln6 er6::(b3,.cells 84 [str s,.list (ps.map str),v,qaa])::(b2,.cells 84 [str [],qaa,qaa,qaa])::Ha/\Acc 1 v (l.map str) Ha []/\Wf T (o+1) i6 op6 ln6 er6/\l.length<=400000/\(er6=0->l.length<=i6) /\
   stO (o+1) i6 ln6 er6 (fun i o=>qal (qc0 T k l i o) fun ls i o=>qal (qbV T f [] i o) fun b i o=>qal (some (sEnd T [125] i o)) fun _ i o=>some (.ok ⟨s,ps,ls,b⟩ i o))=some r)
  ⟨f,_,_,⟨qaa,[],i5,op5,ln5,er5,[],rfl,rfl,Acc.nil,hw5,by simp,fun _=>by simp,hr5⟩,⟨rfl,rfl,rfl,trivial⟩,zhR _⟩ ?_
 rintro k ls H ⟨v,l,i6,op6,ln6,er6,Ha,rfl,rfl,hacc,hw6,hll,hla,hI⟩ j2 hj2;refine gaf ?_;refine oS (sH [_,_] rfl pH (qaP rb T i6 op6 ln6 er6 qhH hl) ?_) rfl;refine gam ?_;refine oC rfl (fun hc=>?_) (fun hc=>?_)
 ·obtain ⟨he,ht⟩:=Bool.and_eq_true_iff.1 hc;obtain rfl:=zt he;obtain ⟨rfl,hi6,rfl,ho6⟩:=hw6 rfl;have hlt:=qaG ht;have hla:=hla rfl;obtain ⟨k,rfl,hI2⟩:=qlj ht hI;have hwn:Wf T (o+1) (i6+1) ((o+1:Nat):Int) 0 0:=fun _=>⟨rfl,hlt,rfl,ho6⟩;refine gab ?_;refine cD (m:=7) rfl [] ?_;refine zQ47 ?_;refine zl2 (i:=1) (j:=3) zk ?_ ?_
  ·refine lH rfl rfl (pL (c:=v) rfl zm1 rfl) ?_;refine lO 3 (lW rfl (.inl rfl) rfl (S.callB (i:=i6+1) (op:=((o+1:Nat):Int)) [_] rfl pH hI2 (fun r1 h1=>qd5 rb T hT k (o+1) (i6+1) _ 0 0 hwn r1 h1) fun ns i7 op7 ln7 er7 hb7 hw7 hal7 hI3=>?_));refine lO 4 (lW rfl (.inl rfl) rfl (sG (A:=[_,_,_]) (H1:=Ha) (by exact zPc (l₁:=[_,_,_])) rfl hacc rfl (qa6 ns) (qbt ns) (by simp;omega) fun v' H' ha'=>?_));refine qs5 ?_;refine oS (sQ [_,_] rfl zp1 hI3 (fun r1 h1=>qbw rb T (o+1) i7 op7 ln7 er7 [59] hl hT.pos hw7 r1 h1) fun u4 i8 op8 ln8 er8 hw8 hal8 hI4=>?_) rfl;refine gad ?_
   exact ⟨k,_,_,by omega,⟨v',l++ns,i8,op8,ln8,er8,H',rfl,rfl,by rw[zMa];exact ha',hw8,by simp;omega,fun h8=>by
    obtain ⟨h7,h9⟩:=hal8 h8;obtain ⟨_,h10⟩:=hal7 h7;have h11:=qer h10;injection h9 with h9;have h12:=qbb T [59] i7 (o+1);rw[h9] at h12;obtain ⟨h13,_⟩:=h12
    simp
    omega,hI4⟩,⟨rfl,rfl,rfl,trivial⟩,zhR _,hj2⟩
  ·refine lW rfl (.inl rfl) rfl (S.callB (i:=i6+1) (op:=((o+1:Nat):Int)) [_] rfl pH hI2 (fun r1 h1=>qd5 rb T hT k (o+1) (i6+1) _ 0 0 hwn r1 h1) fun ns i7 op7 ln7 er7 hb7 hw7 hal7 hI3=>?_);refine lO 1 (lH rfl rfl (pL (c:=v) rfl zm1 rfl) ?_);refine lO 4 (lW rfl (.inl rfl) rfl (sG (A:=[_,_,_]) (H1:=Ha) (by exact zPc (l₁:=[_,_,_])) rfl hacc rfl (qa6 ns) (qbt ns) (by simp;omega) fun v' H' ha'=>?_));refine qs5 ?_;refine oS (sQ [_,_] rfl zp1 hI3 (fun r1 h1=>qbw rb T (o+1) i7 op7 ln7 er7 [59] hl hT.pos hw7 r1 h1) fun u4 i8 op8 ln8 er8 hw8 hal8 hI4=>?_) rfl;refine gad ?_
   exact ⟨k,_,_,by omega,⟨v',l++ns,i8,op8,ln8,er8,H',rfl,rfl,by rw[zMa];exact ha',hw8,by simp;omega,fun h8=>by
    obtain ⟨h7,h9⟩:=hal8 h8;obtain ⟨_,h10⟩:=hal7 h7;have h11:=qer h10;injection h9 with h9;have h12:=qbb T [59] i7 (o+1);rw[h9] at h12;obtain ⟨h13,_⟩:=h12
    simp
    omega,hI4⟩,⟨rfl,rfl,rfl,trivial⟩,zhR _,hj2⟩
 ·have hr6:=qnO hc hI;refine gaa ?_;refine LOps.cellSub zp1 (cs':=[str s,.list (ps.map str),.list (l.map str),qaa]) ⟨vR _,vR _,hacc.sub,vR _,trivial⟩ ?_;refine oS (sQ (enc:=qSms) (o':=o+1) [_] rfl zp1 hr6 (fun r1 h1=>?_) fun ss i7 op7 ln7 er7 hw7 hal7 hr7=>?_) rfl
  ·by_cases he:er6=0
   ·subst he;obtain ⟨rfl,hi6,rfl,ho6⟩:=hw6 rfl;rw[qa5] at h1;exact hS (o+1) i6 r1 hi6 ho6 h1
   ·rw[qaD he] at h1;cases h1;exact qh4 rb T hT (o+1) i6 op6 ln6 er6 he
  refine gab ?_;refine oS (sQ [_,_] rfl zp1 hr7 (fun r1 h1=>qb3 rb T o i7 op7 ln7 er7 [125] hl hT.pos hw7 r1 h1) fun u5 i8 op8 ln8 er8 hw8 hal8 hr8=>?_) rfl;refine gab ?_;exact retQ (v:=⟨s,ps,l,ss⟩) (hj2.trans hj) (rC (rA (k:=4) rfl zm0 rfl zsr) rN) hw8 hr8 rfl (zhP zp1 zhn)
end
end Go.Proofs.YthmhncflhnbedaaGreatDoor
namespace Go.Proofs.YthmhncflhnbedaaGreatDoor
open Go.GL Go.RowKit Go.Stele
attribute [local irreducible] LOps qae qag LCalls Go.GL.Pure qaA qaq qah LQ LAny qaF qap
def encT (r:TokR):LV:=.agg [int .i64 r.1.kind,str r.1.text,int .i64 r.1.line,int .i64 r.2.1,int .i64 r.2.2]
def qcw (a:Nat×Bool) (c:UInt8):Nat×Bool:=
 (if a.2 then a.1 else 10 * a.1+(c.toNat-48),a.2 || decide (4294967295<(if a.2 then a.1 else 10 * a.1+(c.toNat-48))))
theorem qgp (n:Nat):∀ l:List UInt8,(l.foldl qcw (n,true))=(n,true)
 |[]=>rfl
 |c::r=>by
  rw[List.foldl_cons];exact qgp n r
theorem qgs:∀ (l:List UInt8) (n:Nat),n<=4294967295->(∀ c∈l,qao c=true) ->
  Go.Lib.parseUintM (2 ^ 32-1) n l=(if (l.foldl qcw (n,false)).2 then .range else .ok (l.foldl qcw (n,false)).1)
 |[],n,_,_=>by simp[Go.Lib.parseUintM]
 |c::r,n,hn,h=>by
  have hc:=h c List.mem_cons_self;simp only[qao,zBa,zDe,cv] at hc;have hcomm:n * 10+(c.toNat-48)=10 * n+(c.toNat-48):=by omega
  rw[Go.Lib.parseUintM,if_pos zo,if_neg zo,List.foldl_cons,hcomm]
  by_cases hl:4294967295<10 * n+(c.toNat-48)
  ·rw[if_pos zo];have:qcw (n,false) c=(10 * n+(c.toNat-48),true):=by simp[qcw,hl]
   rw[this,qgp]
   simp
  ·rw[if_neg zo];have:qcw (n,false) c=(10 * n+(c.toNat-48),false):=by simp[qcw,hl]
   rw[this];exact qgs r _ zo (fun c hc=>h c (zMo _ hc))
theorem qeJ (p:UInt8->Bool):∀ (s:List UInt8),∀ c∈s.takeWhile p,p c=true
 |[],c,hc=>by cases hc
 |a::r,c,hc=>by
  by_cases ha:p a=true
  ·rw[List.takeWhile_cons_of_pos ha] at hc;rcases zMi.1 hc with rfl|hc
   ·exact ha
   ·exact qeJ p r c hc
  ·rw[List.takeWhile_cons_of_neg ha] at hc;cases hc
theorem qlZ {p:UInt8->Bool} {s:List UInt8} {m:Nat} (hm:m<=s.length) (h:s.takeWhile p=s.take m):(s.takeWhile p).length=m/\∀ (hlt:m<s.length),p s[m]=false:=by
 have hlen:(s.takeWhile p).length=m:=by rw[h];simp;omega
 refine ⟨hlen,fun hlt=>?_⟩
 cases hp:p s[m] with
 |false=>rfl
 |true=>
  exfalso
  have h1:s.takeWhile p=s.take m++(s.drop m).takeWhile p:=by
   have h2:s=s.take m++s.drop m:=(List.take_append_drop m s).symm;have h3:∀ c∈s.take m,p c=true:=by rw[<-h];exact qeJ p s
   conv=>lhs;rw[h2]
   rw[List.takeWhile_append_of_pos h3]
  rw[h,List.drop_eq_getElem_cons hlt,List.takeWhile_cons_of_pos hp] at h1;have:=congrArg List.length h1;simp at this
section
variable {B0:Nat} {w0:World}
theorem qkX (s:List UInt8) (hs:s.length<=1000000000) (hne:s.takeWhile qao≠[]):LCalls (KC B0 w0) 129 [str s] [] (Ret (encT (qby s))):=by
 refine cI Tryz.func129 rfl (n:=51) rfl rfl rfl ?_;refine gag ?_;refine oS (sA fun b=>?_) rfl;refine gaa ?_
 refine oL (fun k ls H=>∃ (m n:Nat) (lg:Bool),k=s.length-m/\ls=[(0,str s),(2,ptr b 0),(3,int .i64 n),(4,int .i64 m),(5,bool lg)]/\H=[(b,.cells 140 [int .i64 0,str [],int .i64 0,int .i64 0,int .i64 0])]/\m<=s.length/\n<=42949672960/\(lg=false->n<=4294967295) /\
   s.takeWhile qao=s.take m++(s.drop m).takeWhile qao/\(s.takeWhile qao).foldl qcw (0,false)=((s.drop m).takeWhile qao).foldl qcw (n,lg))
  ⟨_,_,_,⟨0,0,false,rfl,rfl,rfl,by omega,by omega,by omega,by simp,by simp⟩,⟨rfl,rfl,rfl,rfl,rfl,trivial⟩,zhR _⟩ ?_
 rintro k ls H ⟨m,n,lg,rfl,rfl,rfl,hm,hn,hn2,hI,hF⟩ j hj;refine gab ?_;refine LOps.cut [(0,str s),(2,ptr b 0),(3,int .i64 n),(4,int .i64 m),(5,bool lg),(15,bool (match s[m]? with|some c=>qao c|none=>false))] ?_ (fun i hi=>?_)
 ·refine oB 10 rfl (fun ht=>?_) (fun ht=>?_)
  ·have hlt:m<s.length:=by simpa using ht
   refine zQ88 ?_;refine oS (sF [_] rfl (qf4 _) ?_) rfl;refine gad ?_;exact ⟨⟨rfl,rfl,rfl,rfl,rfl,qai (by rw[List.getElem?_eq_getElem hlt]),trivial⟩,rfl,rfl⟩
  ·have hge:s.length<=m:=by simpa using ht
   refine gae ?_;exact ⟨⟨rfl,rfl,rfl,rfl,rfl,qai (by rw[List.getElem?_eq_none hge]),trivial⟩,rfl,rfl⟩
 ·skip
  refine oC rfl (fun hc=>?_) (fun hc=>?_)
  ·have hlt:m<s.length:=by
    rcases Nat.lt_or_ge m s.length with h|h
    ·exact h
    ·rw[List.getElem?_eq_none h] at hc;cases hc
   rw[List.getElem?_eq_getElem hlt] at hc;have hd:qao s[m]=true:=hc;have hd2:=hd;simp only[qao,zBa,zDe,cv] at hd2;have hI2:=(qbA hlt hI).1 hd
   have hF2:(s.takeWhile qao).foldl qcw (0,false)=((s.drop (m+1)).takeWhile qao).foldl qcw (qcw (n,lg) s[m]):=by
    rw[hF,List.drop_eq_getElem_cons hlt,List.takeWhile_cons_of_pos hd,List.foldl_cons]
   refine gaa ?_
   cases lg with
   |true=>
    refine oC rfl (fun hb=>?_) (fun hb=>?_)
    ·cases hb
    ·refine gaa ?_;have hst:qcw (n,true) s[m]=(n,true):=by simp[qcw]
     exact ⟨_,_,_,by omega,⟨m+1,n,true,rfl,rfl,rfl,by omega,hn,by simp,hI2,by rw[hF2,hst]⟩,⟨rfl,rfl,rfl,qaf zo,rfl,trivial⟩,zhR _,hi.trans hj⟩
   |false=>
    refine oC rfl (fun hb=>?_) (fun hb=>?_)
    ·have hn3:=hn2 rfl;refine gaf ?_;refine oP (Pure.mulW rfl rfl) rfl ?_;refine gax ?_;refine oP (pI (c:=s[m]) rfl rfl zo (by simp)) rfl ?_;refine oP (Pure.subW rfl rfl) rfl ?_;refine oP (Pure.cvt rfl) rfl ?_;have hw1:IntKind.i64.wrap (10 * (n:Int))=10 * (n:Int):=qc4 zo
     have hw2:IntKind.i64.wrap (IntKind.u8.wrap ((s[m].toNat:Int)-48))=((s[m].toNat-48:Nat):Int):=by
      rw[qlY zo,qc4 zo];omega
     rw[hw1,hw2];refine gab ?_;have hst:qcw (n,false) s[m]=(10 * n+(s[m].toNat-48),decide (4294967295<10 * n+(s[m].toNat-48))):=by simp[qcw]
     exact ⟨_,_,_,by omega,⟨m+1,10 * n+(s[m].toNat-48),decide (4294967295<10 * n+(s[m].toNat-48)),rfl,rfl,rfl,by omega,by omega,by simp,hI2,by rw[hF2,hst]⟩,
      ⟨rfl,rfl,qaf zo,qaf zo,qai (by rw[decide_eq_decide];omega),trivial⟩,zhR _,hi.trans hj⟩
    ·cases hb
  ·have hstop:s.takeWhile qao=s.take m:=by
    rcases Nat.lt_or_ge m s.length with h|h
    ·rw[List.getElem?_eq_getElem h] at hc;exact (qbA h hI).2 hc
    ·exact qdD h hI
   obtain ⟨hlen,hnot⟩:=qlZ hm hstop
   have hend:(s.drop m).takeWhile qao=[]:=by
    have:=congrArg List.length hI;rw[hlen] at this;simp only[zLa,List.length_take] at this;exact List.length_eq_zero_iff.1 zo
   rw[hend] at hF
   have hparse:Go.Lib.parseUintB 32 (s.takeWhile qao)=(if lg then .range else .ok n):=by
    rw[Go.Lib.parseUintB,if_neg hne,qgs _ _ zo (qeJ _ s),hF,List.foldl_nil]
   refine gab ?_;refine LOps.cut [(0,str s),(2,ptr b 0),(3,int .i64 n),(4,int .i64 m),(5,bool lg),(42,bool (qc9 s (s.takeWhile qao).length))] ?_ (fun q hq=>?_)
   ·refine oB 37 rfl (fun ht=>?_) (fun ht=>?_)
    ·have hlt:m<s.length:=by simpa using ht
     refine zQ88 ?_;refine oS (sF [_] rfl (qjX _) ?_) rfl;refine gad ?_;exact ⟨⟨rfl,rfl,rfl,rfl,rfl,qai (by rw[hlen,qc9,List.getElem?_eq_getElem hlt];simp[qaH,hnot hlt]),trivial⟩,rfl,rfl⟩
    ·have hge:s.length<=m:=by simpa using ht
     refine gae ?_;exact ⟨⟨rfl,rfl,rfl,rfl,rfl,qai (by rw[hlen,qc9,List.getElem?_eq_none hge]),trivial⟩,rfl,rfl⟩
   ·skip
    refine oC rfl (fun hw=>?_) (fun hw=>?_)
    ·refine gab ?_;exact qac (hq.trans (hi.trans hj)) (rC (rA rfl zm0 rfl zsr) rN) (by rw[qby,if_pos hw];rfl)
    ·refine gaa ?_;refine oC rfl (fun hl=>?_) (fun hl=>?_)
     ·refine gab ?_;exact qac (hq.trans (hi.trans hj)) (rC (rA rfl zm0 rfl zsr) rN) (by rw[qby,if_neg (by rw[hw];decide),hparse,hl];rfl)
     ·refine gau ?_;refine oS (sF [_] rfl (qeZ n zo) ?_) rfl;refine gac ?_;exact qac (hq.trans (hi.trans hj)) (rC (rA rfl zm0 rfl zsr) rN) (by rw[qby,if_neg (by rw[hw];decide),hparse,hl,hlen];rfl)
theorem qri:∀ x∈qaX,x.length<=24:=by decide
theorem qnX (s:List UInt8) (hs:s.length<=1000000000):LCalls (KC B0 w0) 131 [str s] [] (Ret (encT (qcv s))):=by
 refine cI Tryz.func131 rfl (n:=35) rfl rfl rfl ?_;refine gag ?_;refine oS (sA fun b=>?_) rfl;refine gaa ?_
 refine oL (fun k ls H=>∃ (m:Nat),k=s.length-m/\ls=[(0,str s),(2,ptr b 0),(3,int .i64 m)]/\H=[(b,.cells 140 [int .i64 0,str [],int .i64 0,int .i64 0,int .i64 0])]/\m<=s.length /\
   s.takeWhile qaH=s.take m++(s.drop m).takeWhile qaH)
  ⟨_,_,_,⟨0,rfl,rfl,rfl,by omega,by simp⟩,⟨rfl,rfl,rfl,trivial⟩,zhR _⟩ ?_
 rintro k ls H ⟨m,rfl,rfl,rfl,hm,hI⟩ j hj;refine gab ?_;refine LOps.cut [(0,str s),(2,ptr b 0),(3,int .i64 m),(13,bool (match s[m]? with|some c=>qaH c|none=>false))] ?_ (fun i hi=>?_)
 ·refine oB 8 rfl (fun ht=>?_) (fun ht=>?_)
  ·have hlt:m<s.length:=by simpa using ht
   refine zQ88 ?_;refine oS (sF [_] rfl (qjX _) ?_) rfl;refine gad ?_;exact ⟨⟨rfl,rfl,rfl,qai (by rw[List.getElem?_eq_getElem hlt]),trivial⟩,rfl,rfl⟩
  ·have hge:s.length<=m:=by simpa using ht
   refine gae ?_;exact ⟨⟨rfl,rfl,rfl,qai (by rw[List.getElem?_eq_none hge]),trivial⟩,rfl,rfl⟩
 ·skip
  refine oC rfl (fun hc=>?_) (fun hc=>?_)
  ·have hlt:m<s.length:=by
    rcases Nat.lt_or_ge m s.length with h|h
    ·exact h
    ·rw[List.getElem?_eq_none h] at hc;cases hc
   rw[List.getElem?_eq_getElem hlt] at hc;refine gaa ?_;exact ⟨_,_,_,by omega,⟨m+1,rfl,rfl,rfl,by omega,(qbA hlt hI).1 hc⟩,⟨rfl,rfl,qaf zo,trivial⟩,zhR _,hi.trans hj⟩
  ·have hstop:s.takeWhile qaH=s.take m:=by
    rcases Nat.lt_or_ge m s.length with h|h
    ·rw[List.getElem?_eq_getElem h] at hc;exact (qbA h hI).2 hc
    ·exact qdD h hI
   obtain ⟨hlen,hnot⟩:=qlZ hm hstop;have hsl:(s.take ((m:Nat):Int).toNat).drop (Int.toNat 0)=s.takeWhile qaH:=by rw[hstop];simp
   refine gaa ?_;refine zQ92 ?_;rw[hsl];refine oS (sF [_] rfl (qj8 _) ?_) rfl;refine gam ?_;refine oC rfl (fun hk=>?_) (fun hk=>?_)
   ·have hsh:=qri _ (List.contains_iff_mem.1 hk);refine gaf ?_;refine zQ92 ?_;rw[hsl];refine gac ?_;exact qac (hi.trans hj) (rC (rA rfl zm0 rfl zsr) rN) (by rw[qcv,if_neg zo,if_pos hk,hlen];rfl)
   ·refine gab ?_;refine oC rfl (fun hl=>?_) (fun hl=>?_)
    ·refine gab ?_;exact qac (hi.trans hj) (rC (rA rfl zm0 rfl zsr) rN) (by rw[qcv,if_pos (by have:=zt hl;omega)];rfl)
    ·refine gau ?_;refine zQ92 ?_;rw[hsl];refine gac ?_;exact qac (hi.trans hj) (rC (rA rfl zm0 rfl zsr) rN) (by rw[qcv,if_neg (by have:=zf hl;omega),if_neg (by rw[hk];decide),hlen];rfl)
end
end Go.Proofs.YthmhncflhnbedaaGreatDoor
namespace Go.Proofs.YthmhncflhnbedaaGreatDoor
open Go.GL Go.RowKit Go.Stele
attribute [local irreducible] LOps qae qag LCalls Go.GL.Pure qaA qaq qah LQ LAny qaF qap
section
variable {B0:Nat} {w0:World}
theorem take_prefix (x s:List UInt8):(decide (x.length<=s.length) && decide (s.take x.length=x))=x.isPrefixOf s:=by
 rw[Bool.eq_iff_iff];simp only[zBa,zDe,List.isPrefixOf_iff_prefix];constructor
 ·rintro ⟨_,h⟩;rw[<-h];exact List.take_prefix _ _
 ·intro h;exact ⟨h.length_le,List.prefix_iff_eq_take.1 h |>.symm⟩
theorem qog (s:List UInt8) (hs:s.length<=1000000000):LCalls (KC B0 w0) 133 [str s] [] (Ret (encT (qde s))):=by
 refine cI Tryz.func133 rfl (n:=46) rfl rfl rfl ?_;refine gag ?_;refine oS (sA fun b=>?_) rfl;refine gai ?_;refine oS (sL [_,_,_,_,_,_,_,_,_,_,_,_,_,_,_,_,_,_,_,_,_,_,_,_] rfl (qaC qcL) rfl rfl rfl ?_) rfl;refine gab ?_
 refine oL (fun k ls H=>∃ m:Nat,k=24-m/\ls=[(0,str s),(2,ptr b 0),(3,.list (qcL.map str)),(4,int .i64 m)]/\H=[(b,.cells 140 [int .i64 0,str [],int .i64 0,int .i64 0,int .i64 0])]/\m<=24/\qcL.find? (fun x=>x.isPrefixOf s)=(qcL.drop m).find? (fun x=>x.isPrefixOf s))
  ⟨_,_,_,⟨0,rfl,rfl,rfl,by omega,by simp⟩,⟨rfl,rfl,rfl,rfl,trivial⟩,zhR _⟩ ?_
 rintro k ls H ⟨m,rfl,rfl,rfl,hm,hI⟩ j hj;have h24:qcL.length=24:=rfl;refine gaa ?_;refine oC rfl (fun hc=>?_) (fun hc=>?_)
 ·have hlt:m<qcL.length:=by have:=zt hc;simp at this;omega
  refine gad ?_;refine cC [(0,str s),(2,ptr b 0),(3,.list (qcL.map str)),(4,int .i64 m),(33,bool (qcL[m].isPrefixOf s))] ?_ (fun i hi=>?_)
  ·refine zQ85 ?_;refine qse ?_;refine LQ.bcase 20 rfl (fun ht=>?_) (fun ht=>?_)
   ·have hle:qcL[m].length<=s.length:=by have:=zt ht;omega
    refine qse ?_;refine qP (Pure.sslice (i:=0) (j:=qcL[m].length) rfl rfl ⟨_,rfl⟩ zo zo zo) rfl ?_;refine qse ?_
    exact ⟨⟨rfl,rfl,rfl,rfl,qai (by
     rw[<-take_prefix,decide_eq_true hle]
     simp),trivial⟩,rfl,rfl⟩
   ·have hle:¬ qcL[m].length<=s.length:=by have:=zf ht;omega
    refine gao ?_
    exact ⟨⟨rfl,rfl,rfl,rfl,qai (by
     rw[<-take_prefix,decide_eq_false hle]
     rfl),trivial⟩,rfl,rfl⟩
  ·skip
   refine oC rfl (fun hp=>?_) (fun hp=>?_)
   ·refine ga1 ?_;refine cD (m:=12) rfl [] ?_;refine aT 0 rfl rfl (pM (lv:=.list _) rfl) ?_;refine aT 1 rfl rfl (pM (lv:=.atom _) rfl) ?_;refine LAny.take (i:=2) zhn rfl zk zk zk rfl (xR (el':=str qcL[m]) rfl rfl zo (by simp) rfl rfl) ?_;refine aT 3 rfl rfl (pO (c:=.atom _) rfl rfl) ?_;refine aT 4 rfl rfl (pB _ (cs:=[_,_,_]) rfl) ?_;refine aT 5 rfl rfl (pM (lv:=.list _) rfl) ?_;refine aT 6 rfl rfl (pM (lv:=.atom _) rfl) ?_;refine LAny.take (i:=7) zhn rfl zk zk zk rfl (xR (el':=str qcL[m]) rfl rfl zo (by simp) rfl rfl) ?_;refine aT 8 rfl rfl (pO (c:=.atom _) rfl rfl) ?_;refine aT 9 rfl rfl (Pure.slen rfl) ?_;refine aT 10 rfl rfl (pB _ (cs:=[_,_,_,_,_]) rfl) ?_;refine aL ?_ zhn;refine lO 11 (lW rfl (.inl rfl) rfl (sS (cs':=[_,_,_,_,_]) rfl pH rfl rfl rfl rfl rfl ?_));refine lD zk ?_;refine gae ?_
    exact qac (hi.trans hj) (rC (rA rfl zm0 rfl zsr) rN) (by
     rw[qde,hI,List.drop_eq_getElem_cons hlt,List.find?_cons_of_pos (by simpa using hp)]
     rfl)
   ·refine gaa ?_
    exact ⟨_,_,_,by omega,⟨m+1,rfl,rfl,rfl,by omega,by
     rw[hI,List.drop_eq_getElem_cons hlt,List.find?_cons_of_neg (by rw[hp];decide)]⟩,⟨rfl,rfl,rfl,qaf zo,trivial⟩,zhR _,hi.trans hj⟩
 ·have hge:qcL.length<=m:=by have:=zf hc;simp at this;omega
  refine gab ?_
  exact qac hj (rC (rA rfl zm0 rfl zsr) rN) (by
   rw[qde,hI,List.drop_eq_nil_of_le hge]
   rfl)
end
end Go.Proofs.YthmhncflhnbedaaGreatDoor
namespace Go.Stele
def nl (c:UInt8):Int:=if decide (cv c=10) then 1 else 0
def lexR:Nat->List UInt8->Int->Except (Int×Int) (List Tok)
 |0,_,_=>.ok []
 |_+1,[],_=>.ok []
 |fuel+1,c::r,line=>
  if qbm c then lexR fuel r (line+nl c)
  else if [47,47].isPrefixOf (c::r) then lexR fuel ((c::r).drop ((c::r).takeWhile qe8).length) (line+nl c)
  else if (qan (c::r)).2.2≠0 then .error (line+nl c,(qan (c::r)).2.2)
  else (lexR fuel ((c::r).drop (qan (c::r)).2.1) (line+nl c)).map ({ (qan (c::r)).1 with line:=line+nl c }::·)
theorem qsN (a:UInt8) (n:Nat) (h:n<256):decide (cv a=n)=(a == UInt8.ofNat n):=by
 rw[Bool.eq_iff_iff];simp only[zDe,beq_iff_eq,cv];constructor
 ·intro h1;apply UInt8.toNat_inj.1;rw[UInt8.toNat_ofNat'];omega
 ·rintro rfl;rw[UInt8.toNat_ofNat'];omega
theorem qja (a:UInt8) (t:List UInt8):[47,47].isPrefixOf (a::t)=(decide (cv a=47) && (match t[0]? with|some b=>decide (cv b=47)|none=>false)):=by
 have h:=fun b=>qsN b 47 zDd
 cases t with
 |nil=>
  simp[List.isPrefixOf]
 |cons b r=>
  simp only[List.isPrefixOf,List.getElem?_cons_zero,Bool.and_true];have h1:decide (cv a=47)=(a == 47):=h a;have h2:decide (cv b=47)=(b == 47):=h b;rw[h1,h2,show ((47:UInt8) == a)=(a == 47) from BEq.comm,show ((47:UInt8) == b)=(b == 47) from BEq.comm]
end Go.Stele
namespace Go.Proofs.YthmhncflhnbedaaGreatDoor
open Go.GL Go.RowKit Go.Stele
attribute [local irreducible] LOps qae qag LCalls Go.GL.Pure qaA qaq qah LQ LAny qaF qap
section
variable {B0:Nat} {w0:World}
theorem qnY (s:List UInt8) (hs:s.length<=1000000000) (hne:s≠[]):LCalls (KC B0 w0) 73 [str s] [] (Ret (encT (qan s))):=by
 match s,hne with
 |c::r,_=>
  refine cI Tryz.func73 rfl (n:=53) rfl rfl rfl ?_;refine gag ?_;refine oS (sA fun b=>?_) rfl;refine gan ?_;refine oP (pI (c:=c) rfl rfl zDd rfl) rfl ?_;refine gaw ?_;refine oS (sF [_] rfl (qf4 c) ?_) rfl;refine gam ?_;refine oC rfl (fun hc=>?_) (fun hc=>?_)
  ·refine gaf ?_;refine oS (sF [_] rfl (qkX (c::r) hs (by rw[List.takeWhile_cons_of_pos hc];simp)) ?_) rfl;refine gac ?_;exact qac rfl (rC (rA rfl zm0 rfl zsr) rN) (by simp only[qan,hc,if_true];rfl)
  ·refine gau ?_;refine oS (sF [_] rfl (qhx c) ?_) rfl;refine gam ?_;refine oC rfl (fun hl=>?_) (fun hl=>?_)
   ·refine gaf ?_;refine oS (sF [_] rfl (qnX (c::r) hs) ?_) rfl;refine gac ?_;exact qac rfl (rC (rA rfl zm0 rfl zsr) rN) (by simp only[qan,hc,hl,if_true,Bool.false_eq_true,if_false];rfl)
   ·refine gaa ?_;refine oC rfl (fun hq=>?_) (fun hq=>?_)
    ·have htok:qan (c::r)=qbi (c::r):=by simp only[qan,hc,hl,Bool.false_eq_true,if_false];rw[if_pos hq]
     rw[htok]
     by_cases h3:(c::r).length<3
     ·have hl:qbi (c::r)=qa3 3:=by
       match r,h3 with
       |[],_=>rfl
       |[_],_=>rfl
       |_::_::_,h=>exact absurd h (by simp)
      refine gab ?_;refine oB 19 rfl (fun ht=>?_) (fun ht=>?_)
      ·refine gad ?_;refine oC rfl (fun hc=>?_) (fun hc=>?_)
       ·refine gab ?_;exact qac rfl (rC (rA rfl zm0 rfl zsr) rN) (by rw[hl];rfl)
       ·cases hc
      ·exact absurd (zf ht) zo
     ·match r,h3 with
      |[],h=>exact absurd (by simp) h
      |[_],h=>exact absurd (by simp) h
      |c1::c2::r,h=>
       refine gab ?_;refine LOps.cut [(0,str (c::c1::c2::r)),(2,ptr b 0),(43,bool ((!decide (cv c2=39)) || decide (cv c1<32) || decide (126<cv c1) || decide (cv c1=39) || decide (cv c1=92)))] ?_ (fun j hj=>?_)
       ·refine oB 19 rfl (fun ht=>?_) (fun ht0=>?_)
        ·exact absurd (zt ht) (by simp only[zLc];omega)
        ·skip
         refine oP (pI (c:=c1) rfl rfl zDd rfl) rfl ?_;refine gad ?_;refine oB 24 rfl (fun ht=>?_) (fun ht1=>?_)
         ·exact zT39
         ·refine zQ78 ?_;refine gac ?_;refine oB 29 rfl (fun ht=>?_) (fun ht2=>?_)
          ·exact zT39
          ·refine zQ78 ?_;refine gad ?_;refine oB 34 rfl (fun ht=>?_) (fun ht3=>?_)
           ·exact zT39
           ·refine zQ78 ?_;refine gad ?_;refine oB 39 rfl (fun ht=>?_) (fun ht4=>?_)
            ·exact zT39
            ·refine gal ?_;refine oP (pI (c:=c2) rfl rfl zDd rfl) rfl ?_;refine gac ?_;exact ⟨⟨rfl,rfl,qai (by rw[ht1,ht2,ht3,ht4];simp),trivial⟩,rfl,rfl⟩
       ·skip
        refine oC rfl (fun hc=>?_) (fun hc=>?_)
        ·refine gab ?_;exact qac hj (rC (rA rfl zm0 rfl zsr) rN) (by rw[qbi,if_pos hc];rfl)
        ·refine gau ?_;refine oP (pI (c:=c1) rfl rfl zDd rfl) rfl ?_;refine oP (Pure.cvt rfl) rfl ?_;have hw:IntKind.i64.wrap (c1.toNat:Int)=((c1.toNat:Nat):Int):=qc4 (by have:=c1.toNat_lt;omega);rw[hw];refine oS (sF [_] rfl (qeZ c1.toNat (by have:=c1.toNat_lt;omega)) ?_) rfl;refine gac ?_;exact qac hj (rC (rA rfl zm0 rfl zsr) rN) (by rw[qbi,if_neg (by rw[hc];decide)];rfl)
    ·have htok:qan (c::r)=qde (c::r):=by simp only[qan,hc,hl,Bool.false_eq_true,if_false];rw[if_neg (by rw[hq];decide)]
     refine gau ?_;refine oS (sF [_] rfl (qog (c::r) hs) ?_) rfl;refine gac ?_;exact qac rfl (rC (rA rfl zm0 rfl zsr) rN) (by rw[htok];rfl)
end
end Go.Proofs.YthmhncflhnbedaaGreatDoor
namespace Go.Proofs.YthmhncflhnbedaaGreatDoor
open Go.GL Go.RowKit Go.Stele
attribute [local irreducible] LOps qae qag LCalls Go.GL.Pure qaA qaq qah LQ LAny qaF qap
def qgR (s:List UInt8):Except (Int×Int) (List Tok):=if 60000<s.length then .error (0,6) else lexR s.length s 1
section
variable {B0:Nat} {w0:World}
theorem qk5 (s:List UInt8):s.length<=1000000000->LCalls (KC B0 w0) 26 [str s] [] (Ret (qjU (qgR s))):=fun hs=>by
 refine cI Tryz.func26 rfl (n:=88) rfl rfl rfl ?_;refine gab ?_;refine oC rfl (fun hc=>?_) (fun hc=>?_)
 ·refine gap ?_
  exact qac rfl (rC (rT (v:=qaa) rfl vN) (rC (zrt rfl) (zra rfl))) (by
   rw[qgR,if_pos (by have:=zt hc;omega)]
   rfl)
 ·have hlen:s.length<=60000:=by have:=zf hc;omega
  refine gak ?_;refine oS (S.litA [] rfl eN rfl rfl rfl fun b0=>?_) rfl;refine gab ?_
  refine oL (fun k ls H=>∃ (v:LV) (out:List Tok) (i:Nat) (line:Int) (fuel:Nat),k=s.length-i/\ls=[(0,str s),(5,v),(6,int .i64 line),(7,int .i64 i)]/\Acc 3 v (out.map qbJ) H [] /\
    i<=s.length/\s.length-i<=fuel/\0<=line/\line+(s.length-i)<=60001/\out.length+(s.length-i)<=60000/\lexR s.length s 1=(lexR fuel (s.drop i) line).map (out++·))
   ⟨_,_,_,⟨.app b0 0 3 [],[],0,1,s.length,rfl,rfl,Acc.row (es:=[]),by omega,by omega,by omega,by omega,by simp;omega,by rw[List.drop_zero];cases lexR s.length s 1 <;> rfl⟩,⟨rfl,rfl,rfl,rfl,trivial⟩,zhR _⟩ ?_
  rintro k ls H ⟨v,out,i,line,fuel,rfl,rfl,hacc,hi,hf,hl0,hl1,ho,hI⟩ j hj;refine gab ?_;refine oC rfl (fun hne=>?_) (fun hne=>?_)
  ·have hlt:i<s.length:=by simpa using hne
   obtain ⟨f,rfl⟩:∃ f,fuel=f+1:=⟨fuel-1,by omega⟩;have hdrop:s.drop i=s[i]::s.drop (i+1):=List.drop_eq_getElem_cons hlt;rw[hdrop,lexR] at hI;have hnl:0<=nl s[i]/\nl s[i]<=1:=by unfold nl;split <;> omega
   refine gaa ?_;refine oP (pI (c:=s[i]) rfl rfl zo (by simp)) rfl ?_;refine gaa ?_;refine cC [(0,str s),(5,v),(6,int .i64 (line+nl s[i])),(7,int .i64 i),(8,int .u8 s[i].toNat)] ?_ (fun j2 hj2=>?_)
   ·refine oC rfl (fun hn=>?_) (fun hn=>?_)
    ·refine gaa ?_;exact ⟨⟨rfl,rfl,qaf (by rw[nl,if_pos hn]),rfl,rfl,trivial⟩,rfl,rfl⟩
    ·refine gar ?_;exact ⟨⟨rfl,rfl,qaf (by rw[nl,if_neg (by rw[show decide (cv s[i]=10)=false from hn];decide)];omega),rfl,rfl,trivial⟩,rfl,rfl⟩
   ·refine gaa ?_;refine LOps.cut [(0,str s),(5,v),(6,int .i64 (line+nl s[i])),(7,int .i64 i),(8,int .u8 s[i].toNat),(34,bool (qbm s[i]))] ?_ (fun j3 hj3=>?_)
    ·refine oB 27 rfl (fun h1=>?_) (fun h1=>?_)
     ·refine gad ?_;exact ⟨⟨rfl,rfl,rfl,rfl,rfl,qai (by simp[qbm,h1]),trivial⟩,rfl,rfl⟩
     ·refine gad ?_;refine oB 31 rfl (fun h2=>?_) (fun h2=>?_)
      ·refine gad ?_;exact ⟨⟨rfl,rfl,rfl,rfl,rfl,qai (by simp[qbm,h1,h2]),trivial⟩,rfl,rfl⟩
      ·refine gad ?_;exact ⟨⟨rfl,rfl,rfl,rfl,rfl,qai (by simp[qbm,h1,h2]),trivial⟩,rfl,rfl⟩
    ·skip
     refine oC rfl (fun hw=>?_) (fun hw=>?_)
     ·rw[if_pos hw] at hI;refine gaa ?_;exact ⟨_,_,_,by omega,⟨v,out,i+1,line+nl s[i],f,rfl,rfl,hacc,by omega,by omega,by omega,by omega,by omega,hI⟩,⟨rfl,rfl,rfl,qaf zo,trivial⟩,zhR _,hj3.trans (hj2.trans hj)⟩
     ·rw[if_neg (by rw[hw];decide)] at hI;refine gaa ?_;refine LOps.cut [(0,str s),(5,v),(6,int .i64 (line+nl s[i])),(7,int .i64 i),(8,int .u8 s[i].toNat),(52,bool ([47,47].isPrefixOf (s[i]::s.drop (i+1))))] ?_ (fun j4 hj4=>?_)
      ·refine oB 39 rfl (fun h1=>?_) (fun h1=>?_)
       ·refine gac ?_;refine oB 46 rfl (fun h2=>?_) (fun h2=>?_)
        ·have hlt2:i+1<s.length:=by have:=zt h2;omega
         refine gad ?_;refine oP (pI (c:=s[i+1]) rfl rfl zo (by rw[show ((i:Int)+1).toNat=i+1 by omega];simp)) rfl ?_;refine gad ?_;exact ⟨⟨rfl,rfl,rfl,rfl,rfl,qai (by rw[qja,show decide (cv s[i]=47)=true from h1];simp[List.getElem?_drop,List.getElem?_eq_getElem hlt2]),trivial⟩,rfl,rfl⟩
        ·have hge2:s.length<=i+1:=by have:=zf h2;omega
         refine gae ?_;exact ⟨⟨rfl,rfl,rfl,rfl,rfl,qai (by rw[qja];simp[List.getElem?_drop,List.getElem?_eq_none hge2]),trivial⟩,rfl,rfl⟩
       ·refine gae ?_;exact ⟨⟨rfl,rfl,rfl,rfl,rfl,qai (by rw[qja,show decide (cv s[i]=47)=false from h1];simp),trivial⟩,rfl,rfl⟩
      ·skip
       refine oC rfl (fun hp=>?_) (fun hp=>?_)
       ·rw[if_pos hp] at hI;refine gad ?_;rw[<-hdrop] at hI
        refine oL (fun k ls H'=>∃ m:Nat,k=s.length-(i+m)/\ls=[(0,str s),(5,v),(6,int .i64 (line+nl s[i])),(7,int .i64 (i+m:Nat))]/\H'=H/\i+m<=s.length/\(s.drop i).takeWhile qe8=(s.drop i).take m++((s.drop i).drop m).takeWhile qe8)
         ⟨_,[(0,str s),(5,v),(6,int .i64 (line+nl s[i])),(7,int .i64 (i+0:Nat))],_,⟨0,rfl,rfl,rfl,by omega,by simp⟩,⟨rfl,rfl,rfl,rfl,trivial⟩,zhR _⟩ ?_
        rintro k ls H' ⟨m,rfl,rfl,rfl,hm,hM⟩ j5 hj5;have hln:(s.drop i).length=s.length-i:=List.length_drop;refine gab ?_;refine LOps.cut [(0,str s),(5,v),(6,int .i64 (line+nl s[i])),(7,int .i64 (i+m:Nat)),(62,bool (match (s.drop i)[m]? with|some c=>qe8 c|none=>false))] ?_ (fun j6 hj6=>?_)
        ·refine oB 57 rfl (fun ht=>?_) (fun ht=>?_)
         ·have hlt2:i+m<s.length:=by have:=zt ht;omega
          refine gal ?_;refine oP (pI (c:=s[i+m]) rfl rfl zo (by rw[Int.toNat_natCast];exact List.getElem?_eq_getElem hlt2)) rfl ?_;refine gac ?_;exact ⟨⟨rfl,rfl,rfl,rfl,qai (by rw[List.getElem?_drop,List.getElem?_eq_getElem hlt2];rfl),trivial⟩,rfl,rfl⟩
         ·have hge2:s.length<=i+m:=by have:=zf ht;omega
          refine gae ?_;exact ⟨⟨rfl,rfl,rfl,rfl,qai (by rw[List.getElem?_drop,List.getElem?_eq_none hge2]),trivial⟩,rfl,rfl⟩
        ·skip
         refine oC rfl (fun hc2=>?_) (fun hc2=>?_)
         ·have hlt2:m<(s.drop i).length:=by
           rcases Nat.lt_or_ge m (s.drop i).length with h|h
           ·exact h
           ·rw[List.getElem?_eq_none h] at hc2;cases hc2
          rw[List.getElem?_eq_getElem hlt2] at hc2;refine gaa ?_;exact ⟨_,_,_,by omega,⟨m+1,rfl,rfl,rfl,by omega,(qbA hlt2 hM).1 hc2⟩,⟨rfl,rfl,rfl,qaf zo,trivial⟩,zhR _,hj6.trans hj5⟩
         ·have hstop:(s.drop i).takeWhile qe8=(s.drop i).take m:=by
           rcases Nat.lt_or_ge m (s.drop i).length with h|h
           ·rw[List.getElem?_eq_getElem h] at hc2;exact (qbA h hM).2 hc2
           ·exact qdD h hM
          obtain ⟨hlen2,_⟩:=qlZ zo hstop
          have hm1:1<=m:=by
           rw[qja] at hp;simp only[zBa,zDe] at hp;have:qe8 s[i]=true:=by unfold qe8;rw[hp.1];rfl
           rw[<-hlen2,hdrop,List.takeWhile_cons_of_pos this]
           simp
          rw[hlen2,List.drop_drop] at hI;refine gad ?_;exact ⟨_,_,_,by omega,⟨v,out,i+m,line+nl s[i],f,rfl,rfl,hacc,by omega,by omega,by omega,by omega,by omega,hI⟩,⟨rfl,rfl,rfl,rfl,trivial⟩,zhR _,hj6.trans (hj5.trans (hj4.trans (hj3.trans (hj2.trans hj))))⟩
       ·rw[if_neg (by rw[hp];decide)] at hI;refine gau ?_;refine oP (Pure.sslice (i:=i) (j:=s.length) rfl ⟨_,rfl⟩ rfl zo zo zo) rfl ?_;have hsl:(s.take ((s.length:Nat):Int).toNat).drop ((i:Nat):Int).toNat=s[i]::s.drop (i+1):=by rw[<-hdrop];simp
        rw[hsl];refine oS (sF [_] rfl (qnY (s[i]::s.drop (i+1)) (by rw[<-hdrop,List.length_drop];omega) (List.cons_ne_nil _ _)) ?_) rfl;refine oS (sA fun b=>?_) rfl;refine gab ?_;refine oC rfl (fun he=>?_) (fun he=>?_)
        ·have he':(qan (s[i]::s.drop (i+1))).2.2≠0:=by simpa using he
         rw[if_pos he'] at hI;refine ga1 ?_;refine zQ85 ?_;refine gac ?_
         exact qac (hj4.trans (hj3.trans (hj2.trans hj))) (rC (rT (v:=qaa) rfl vN) (rC (zrt rfl) (zra rfl))) (by
          rw[qgR,if_neg zo,hI]
          rfl)
        ·have he':(qan (s[i]::s.drop (i+1))).2.2=0:=by simpa using he
         rw[if_neg (by simpa using he')] at hI;obtain ⟨hs0,hs1⟩:=qdA _ he';have hlr:(s[i]::s.drop (i+1)).length=s.length-i:=by rw[<-hdrop,List.length_drop]
         rw[hlr] at hs1;refine gab ?_;refine zQ60 ?_;refine qiR ?_;refine oS (S.acc1 rfl hacc rfl (by simp;rfl) rfl (by simp;omega) fun v' H' hacc'=>?_) rfl;refine zQ62 ?_;refine gaa ?_
         have hacc2:Acc 3 v' ((out++[Tok.mk (qan (s[i]::s.drop (i+1))).1.kind (qan (s[i]::s.drop (i+1))).1.text (line+nl s[i])]).map qbJ) H' []:=by
          rw[zMa];exact hacc'
         exact ⟨_,_,_,by omega,⟨v',out++[Tok.mk (qan (s[i]::s.drop (i+1))).1.kind (qan (s[i]::s.drop (i+1))).1.text (line+nl s[i])],i+(qan (s[i]::s.drop (i+1))).2.1,line+nl s[i],f,rfl,rfl,hacc2,
          by omega,by omega,by omega,by omega,by simp only[zLa,List.length_singleton];omega,by
           have hdd:(s[i]::s.drop (i+1)).drop (qan (s[i]::s.drop (i+1))).2.1=s.drop (i+(qan (s[i]::s.drop (i+1))).2.1):=by
            conv=>lhs;arg 2;rw[<-hdrop]
            rw[List.drop_drop]
           rw[hI,qjP,hdd];congr 1;funext x
           simp only[zAs,List.singleton_append]⟩,⟨rfl,rfl,rfl,qaf zo,trivial⟩,zhD zhr,hj4.trans (hj3.trans (hj2.trans hj))⟩
  ·have hge:s.length<=i:=by simpa using hne
   refine gaa ?_;refine zQ38 ?_
   exact qac hj (rC (rT (v:=v) rfl hacc.sub) (rC (zrt rfl) (zra rfl))) (by
    rw[qgR,if_neg zo,hI,List.drop_eq_nil_of_le hge]
    cases fuel <;> simp[lexR,Except.map,qjU,qbv])
end
end Go.Proofs.YthmhncflhnbedaaGreatDoor
namespace Go.Stele
theorem qc6 {p:UInt8->Bool}:∀ (s:List UInt8),∀ c∈s.takeWhile p,p c=true
 |[],c,hc=>by cases hc
 |a::r,c,hc=>by
  by_cases ha:p a=true
  ·rw[List.takeWhile_cons_of_pos ha] at hc;rcases zMi.1 hc with rfl|hc
   ·exact ha
   ·exact qc6 r c hc
  ·rw[List.takeWhile_cons_of_neg ha] at hc;cases hc
theorem qcD (p:UInt8->Bool) (s:List UInt8):s.take (s.takeWhile p).length=s.takeWhile p:=(List.prefix_iff_eq_take.1 (List.takeWhile_prefix p)).symm
theorem qfz {l:List UInt8} (h:∀ c∈l,c≠10):l.count 10=0:=List.count_eq_zero.2 fun hm=>h 10 hm rfl
theorem ne10 {c:UInt8} (h:¬ cv c=10):c≠10:=by
 rintro rfl;exact h rfl
theorem qn4 (s:List UInt8) (h:(qan s).2.2=0):(s.take (qan s).2.1).count 10=0:=by
 match s with
 |[]=>rfl
 |c::r=>
  simp only[qan] at h ⊢;split at h <;> rename_i hc
  ·rw[if_pos hc];unfold qby at h ⊢;split at h
   ·simp[qa3] at h
   ·rename_i hw
    rw[if_neg hw];split at h
    ·rw[qcD];refine qfz fun c hc=>ne10 ?_;have:=qc6 _ c hc;simp only[qao,zBa,zDe] at this;omega
    ·simp[qa3] at h
  ·rw[if_neg hc];split at h <;> rename_i hl
   ·rw[if_pos hl];unfold qcv at h ⊢;split at h
    ·simp[qa3] at h
    ·rename_i hw
     rw[if_neg hw,qcD];refine qfz fun c hc=>ne10 ?_;have:=qc6 _ c hc;simp only[qaH,qao,qaz,zBa,Bool.or_eq_true,zDe] at this;omega
   ·rw[if_neg hl];split at h <;> rename_i hq
    ·rw[if_pos hq];unfold qbi at h ⊢;split at h
     ·split at h
      ·simp[qa3] at h
      ·rename_i b d _ heq hx
       rw[if_neg hx,heq];injection heq with h1 h2;simp only[Bool.or_eq_true,Bool.not_eq_true',zDe,decide_eq_false_iff_not,not_or] at hx;simp only[zDe] at hq;refine qfz fun x hx'=>ne10 ?_;simp only[List.take_succ_cons,List.take_zero,zMi,List.not_mem_nil,or_false] at hx';rcases hx' with rfl|rfl|rfl
       ·rw[h1] at hq;omega
       ·omega
       ·omega
     ·simp[qa3] at h
    ·rw[if_neg hq];unfold qde at h ⊢;split at h
     ·rename_i x hx
      have h1:=List.find?_some hx;have h2:=List.mem_of_find?_eq_some hx;have h3:=List.prefix_iff_eq_take.1 (List.isPrefixOf_iff_prefix.1 h1);show ((c::r).take x.length).count 10=0;rw[<-h3];have:∀ x∈qcL,x.count 10=0:=by decide
      exact this x h2
     ·simp[qa3] at h
theorem qlC:∀ (f f':Nat) (s:List UInt8) (line:Int),s.length<=f->s.length<=f'->lexR f s line=lexR f' s line:=by
 intro f
 induction f with
 |zero=>
  intro f' s line h1 h2;have:s=[]:=List.length_eq_zero_iff.1 (by omega);subst this
  cases f' <;> rfl
 |succ f ih=>
  intro f' s line h1 h2
  cases s with
  |nil=>cases f' <;> rfl
  |cons c r=>
   obtain ⟨g,rfl⟩:∃ g,f'=g+1:=⟨f'-1,by simp at h2;omega⟩;simp only[zLc] at h1 h2;simp only[lexR];split
   ·exact ih _ _ _ (by omega) (by omega)
   ·split
    ·rename_i hp
     have hpos:0<((c::r).takeWhile qe8).length:=by
      rw[qja] at hp;simp only[zBa,zDe] at hp;have:qe8 c=true:=by unfold qe8;rw[hp.1];try rfl
      rw[List.takeWhile_cons_of_pos this]
      simp
     exact ih _ _ _ (by simp only[List.length_drop,zLc];omega) (by simp only[List.length_drop,zLc];omega)
    ·split
     ·rfl
     ·rename_i he
      have:=(qdA (c::r) (by simpa using he)).1;rw[ih g _ _ (by simp only[List.length_drop,zLc];omega) (by simp only[List.length_drop,zLc];omega)]
theorem qrk (c:UInt8) (w:List UInt8):nl c+((w.count 10:Nat):Int)=(((c::w).count 10:Nat):Int):=by
 unfold nl;rw[List.count_cons];have h:decide (cv c=10)=(c == 10):=qsN c 10 zDd;rw[h]
 by_cases hc:c=10
 ·subst hc;simp;omega
 ·have:(c == 10)=false:=by simpa using hc
  rw[this]
  simp
theorem qjR:∀ (w t:List UInt8) (line:Int) (f:Nat),(∀ c∈w,qbm c=true)->(w++t).length<=f->lexR f (w++t) line=lexR f t (line+(w.count 10:Nat))
 |[],t,line,f,_,_=>by simp
 |c::w,t,line,f,h,hf=>by
  obtain ⟨g,rfl⟩:∃ g,f=g+1:=⟨f-1,by simp at hf;omega⟩;simp only[List.cons_append,zLc] at hf;have hc:=h c List.mem_cons_self;rw[List.cons_append,lexR,if_pos hc,qjR w t _ g (fun c hc=>h c (zMo _ hc)) (by omega),qlC g (g+1) t _ (by simp at hf;omega) (by simp at hf;omega),Int.add_assoc,qrk]
theorem qpR:∀ (f:Nat) (s:List UInt8) (line:Int),s.length<=f->lexP f s line=lexR f s line:=by
 intro f
 induction f with
 |zero=>
  intro s line h;have:s=[]:=List.length_eq_zero_iff.1 (by omega);subst this
  rfl
 |succ f ih=>
  intro s line h
  cases s with
  |nil=>simp[lexP,lexR]
  |cons c r=>
   simp only[zLc] at h;rw[lexP,if_neg (by simp)]
   by_cases hz:qa4 (c::r)=0
   ·rw[if_pos hz]
    have hp:[47,47].isPrefixOf (c::r)=false:=by
     cases hp:[47,47].isPrefixOf (c::r) with
     |false=>rfl
     |true=>
      exfalso;rw[qa4,if_pos hp] at hz;rw[qja] at hp;simp only[zBa,zDe] at hp;have:qe8 c=true:=by unfold qe8;rw[hp.1];try rfl
      rw[List.takeWhile_cons_of_pos this] at hz;simp at hz
    have hw:qbm c=false:=by
     cases hw:qbm c with
     |false=>rfl
     |true=>
      exfalso;rw[qa4,if_neg (by rw[hp];decide),List.takeWhile_cons_of_pos hw] at hz;simp at hz
    have hn:nl c=0:=by
     unfold nl;rw[if_neg];intro h10;simp only[zDe] at h10;simp[qbm,h10] at hw
    have hR:lexR (f+1) (c::r) line=if (qan (c::r)).2.2≠0 then .error (line+nl c,(qan (c::r)).2.2)
      else (lexR f ((c::r).drop (qan (c::r)).2.1) (line+nl c)).map ({ (qan (c::r)).1 with line:=line+nl c }::·):=by
     rw[lexR,if_neg (by rw[hw];decide),if_neg (by rw[hp];decide)]
    rw[hR,hn,Int.add_zero]
    by_cases he:(qan (c::r)).2.2=0
    ·rw[if_neg (by simpa using he),if_neg (by simpa using he),qn4 _ he];have:=(qdA (c::r) he).1;rw[ih _ _ (by simp only[List.length_drop,zLc];omega)]
     simp
    ·rw[if_pos (by simpa using he),if_pos (by simpa using he)]
   ·rw[if_neg hz]
    cases hp:[47,47].isPrefixOf (c::r) with
    |true=>
     have hlen:qa4 (c::r)=((c::r).takeWhile qe8).length:=by rw[qa4,if_pos hp]
     have hc47:cv c=47:=by
      rw[qja] at hp;simp only[zBa,zDe] at hp;exact hp.1
     have hw:qbm c=false:=by simp[qbm,hc47]
     have hn:nl c=0:=by simp[nl,hc47]
     have hcnt:((c::r).take (qa4 (c::r))).count 10=0:=by
      rw[hlen,qcD];refine qfz fun x hx=>ne10 ?_;have:=qc6 _ x hx;simpa [qe8] using this
     rw[lexR,if_neg (by rw[hw];decide),if_pos hp,hn,hcnt,hlen,ih _ _ (by simp only[List.length_drop,zLc];omega)]
     simp
    |false=>
     have hlen:qa4 (c::r)=((c::r).takeWhile qbm).length:=by rw[qa4,if_neg (by rw[hp];decide)]
     have hsplit:(c::r)=(c::r).takeWhile qbm++(c::r).drop (qa4 (c::r)):=by
      rw[hlen]
      conv=>lhs;rw[<-List.take_append_drop ((c::r).takeWhile qbm).length (c::r),qcD]
     have hR:lexR (f+1) (c::r) line=lexR (f+1) ((c::r).drop (qa4 (c::r))) (line+(((c::r).takeWhile qbm).count 10:Nat)):=by
      conv=>lhs;rw[hsplit]
      exact qjR _ _ _ _ (qc6 _) (by rw[<-hsplit];simp;omega)
     rw[hR,ih _ _ (by simp only[List.length_drop,zLc];omega),qlC f (f+1) _ _ (by simp only[List.length_drop,zLc];omega) (by simp only[List.length_drop,zLc];omega)];have ht:(c::r).take (qa4 (c::r))=(c::r).takeWhile qbm:=by rw[hlen,qcD]
     rw[ht]
end Go.Stele
namespace Go.Proofs.YthmhncflhnbedaaGreatDoor
open Go.GL Go.RowKit Go.Stele
theorem qn1 (s:List UInt8):qgR s=qbU s:=by
 unfold qgR qbU;split
 ·rfl
 ·exact (qpR _ _ _ (zNr _)).symm
theorem qjh (s:List UInt8) (h:(qbi s).2.2=0):(qbi s).1.kind=1:=by
 unfold qbi at h ⊢;split at h
 ·split at h
  ·simp[qa3] at h
  ·rename_i hx
   rw[if_neg hx]
 ·simp[qa3] at h
theorem qmH (s:List UInt8) (h:(qan s).2.2=0) (hk:(qan s).1.kind=3):qaX.contains (qan s).1.text=true:=by
 match s with
 |[]=>simp[qan,qa3] at h
 |c::r=>
  simp only[qan] at h hk ⊢;split at h <;> rename_i hc
  ·rw[if_pos hc] at hk ⊢;unfold qby at h hk;split at h
   ·simp[qa3] at h
   ·rename_i hw
    rw[if_neg hw] at hk;split at h
    ·rename_i u hu
     rw[hu] at hk;cases hk
    ·simp[qa3] at h
  ·rw[if_neg hc] at hk ⊢;split at h <;> rename_i hl
   ·rw[if_pos hl] at hk ⊢;unfold qcv at h hk ⊢;split at h
    ·simp[qa3] at h
    ·rename_i hw
     rw[if_neg hw] at hk ⊢;simp only at hk ⊢;split at hk
     ·rename_i hkw
      exact hkw
     ·cases hk
   ·rw[if_neg hl] at hk ⊢;split at h <;> rename_i hq
    ·rw[if_pos hq] at hk;rw[qjh _ h] at hk;cases hk
    ·rw[if_neg hq] at hk ⊢;unfold qde at h hk ⊢;split at h
     ·rename_i x hx
      rw[hx] at hk;cases hk
     ·simp[qa3] at h
theorem qmc:∀ (f:Nat) (s:List UInt8) (line:Int) (T:List Tok),lexP f s line=.ok T->∀ t∈T,t.kind=3->qaX.contains t.text=true
 |0,s,line,T,h=>by
  rw[lexP] at h;cases h
  simp
 |f+1,s,line,T,h=>by
  rw[lexP] at h;split at h
  ·cases h
   simp
  ·split at h
   ·split at h
    ·cases h
    ·rename_i he
     obtain ⟨T',h1,rfl⟩:=qpo h;have k2:=qmc f _ _ _ h1;intro t ht;rcases zMi.1 ht with rfl|ht
     ·exact qmH s zo
     ·exact k2 t ht
   ·exact qmc f _ _ _ h
theorem qqA {s:List UInt8} {T:List Tok} (h:qbU s=.ok T) (hp:0<T.length):RTOK T:=by
 unfold qbU at h;split at h
 ·cases h
 ·obtain ⟨h1,h2⟩:=qgG _ _ _ _ h;exact ⟨by omega,hp,h2,qmc _ _ _ _ h⟩
theorem qrP {T:List Tok} {k:Int} {i o i' o':Nat} {s:List UInt8} (h:some (qbS T k i o)=some (.ok s i' o')):i<=i':=by
 injection h with h;have:=qbC T k i o;rw[h] at this;exact And.left this
theorem ql1 {T:List Tok} {x:List UInt8} {i o i' o':Nat} {u:Unit} (h:some (qb6 T x i o)=some (.ok u i' o')):i<=i':=by
 injection h with h;have:=qbb T x i o;rw[h] at this;exact And.left this
theorem qqU {T:List Tok} {x:List UInt8} {i o i' o':Nat} {u:Unit} (h:some (qbs T x i o)=some (.ok u i' o')):i<=i':=by
 injection h with h;have:=(qbu h).1;omega
theorem qs3 {T:List Tok} {x:List UInt8} {i o i' o':Nat} {u:Unit} (h:some (sEnd T x i o)=some (.ok u i' o')):i<=i':=by
 injection h with h;have:=(qeE h).1;omega
theorem qsT {T:List Tok} {i o i' o' n:Nat} (h:some (qb5 T i o)=some (.ok n i' o')):i<=i':=by
 injection h with h;have:=qed T i o;rw[h] at this;exact And.left this
theorem qsS {a b c:Nat×LObj} {X Y:Heap}:HSub (a::b::c::(X++Y)) (a::b::c::(Y++X)):=⟨[],by rw[zLz];exact (((zPc).cons c).cons b).cons a⟩
def PSt (T:List Tok) (a b:Nat) (acc:List (List UInt8)) (p:Pr) (i:Nat) (ln er:Int) (r:Res Pr):Prop:=stO 0 i ln er (fun i o=>qal (qc0 T a acc i o) fun l i o=>qc2 T b { p with vars:=p.vars++l } i o)=some r
theorem qib {T:List Tok} {k i:Nat} {p:Pr} {ln er:Int} {r:Res Pr} (h:stO 0 i ln er (fun i o=>qc2 T k p i o)=some r):∃ a b,a<=k+1/\b<=k/\PSt T a b [] p i ln er r:=by
 by_cases he:er=0
 ·subst he;rw[qa5] at h
  cases k with
  |zero=>rw[qc2] at h;cases h
  |succ k=>
   by_cases ht:qaE T i [qhH]=true
   ·have hlt:=qaG ht;rw[qc2,if_neg zo,if_pos ht] at h;exact ⟨k,k,by omega,by omega,h⟩
   ·refine ⟨1,k+1,by omega,zNr _,?_⟩;unfold PSt;rw[qa5,qc0,if_neg ht];show qc2 T (k+1) { p with vars:=p.vars++[] } i 0=_
    rw[zLz];exact h
 ·exact ⟨0,0,Nat.zero_le _,Nat.zero_le _,(qaD he).trans ((qaD he).symm.trans h)⟩
theorem qo8 {T:List Tok} {a b i:Nat} {acc:List (List UInt8)} {p:Pr} {ln er:Int} {r:Res Pr} (hc:(decide (er=0) && qaE T i [qhH])=false) (h:PSt T a b acc p i ln er r):stO 0 i ln er (fun i o=>qc2 T b { p with vars:=p.vars++acc } i o)=some r:=qnO hc h
attribute [local irreducible] LOps qae qag LCalls Go.GL.Pure qaA qaq qah LQ LAny qaF qap LS
section
variable {B0:Nat} {w0:World}
theorem ql2 (s:List UInt8) (hs:s.length<=1000000000):LCalls (KC B0 w0) 11 [str s] [] (Ret (qhW (qbZ s))):=by
 have htok:=qk5 (B0:=B0) (w0:=w0) s hs;rw[qn1] at htok;refine cI Tryz.func11 rfl (n:=113) rfl rfl rfl ?_;refine gag ?_;refine oS (sA fun b2=>?_) rfl;refine gaw ?_
 cases hL:qbU s with
 |error le=>
  obtain ⟨l,e⟩:=le;rw[hL] at htok;have he:=qhZ hL;refine oS (sF [_] rfl htok ?_) rfl;refine oP (pM rfl) rfl ?_;refine oP (Pure.extract (vs:=[.list [],int .i64 l,int .i64 e]) rfl rfl) rfl ?_;refine oP (Pure.extract (vs:=[.list [],int .i64 l,int .i64 e]) rfl rfl) rfl ?_;refine oP (Pure.extract (vs:=[.list [],int .i64 l,int .i64 e]) rfl rfl) rfl ?_;refine gab ?_;refine oC rfl (fun hc=>?_) (fun hc=>?_)
  ·refine gab ?_;have hp:qbZ s=(noPr,l,e):=by rw[qbZ,hL]
   rw[hp];exact qac rfl (rC (rA (k:=3) rfl zm0 rfl (vA (bs:=[.list [],.list [],.list []]) ⟨vN,vN,vN,trivial⟩)) (rC (zrt rfl) (zra rfl))) rfl
  ·exact absurd (by simpa using hc) he
 |ok T=>
  rw[hL] at htok
  have hTl:T.length<=60000:=by
   have hL':=hL;unfold qbU at hL';split at hL'
   ·cases hL'
   ·have:=(qgG _ _ _ _ hL').1;omega
  have hml:(T.map qbJ).length=T.length:=zLm _;obtain ⟨F,hF⟩:∃ F,F=10 * T.length+20:=⟨_,rfl⟩;have hFl:F<=1000000:=by omega
  obtain ⟨r,hr⟩:=qdM T F noPr 0 0 (Nat.zero_le _) zo
  have hp:qbZ s=resP r:=by
   rw[qbZ,hL];simp only[<-hF,hr];cases r <;> rfl
  rw[hp];refine oS (sF [_] rfl htok ?_) rfl;refine oP (pM rfl) rfl ?_;refine oP (Pure.extract (vs:=[.list (T.map qbJ),int .i64 0,int .i64 0]) rfl rfl) rfl ?_;refine oP (Pure.extract (vs:=[.list (T.map qbJ),int .i64 0,int .i64 0]) rfl rfl) rfl ?_;refine oP (Pure.extract (vs:=[.list (T.map qbJ),int .i64 0,int .i64 0]) rfl rfl) rfl ?_;refine gab ?_;refine oC rfl (fun hc=>?_) (fun hc=>?_)
  ·cases hc
  refine gab ?_;refine oS (sB (cs:=[_,_,_,_,_]) rfl fun rb=>?_) rfl;refine ga0 ?_;refine oS (sA fun b9=>?_) rfl;refine gad ?_;obtain ⟨a0,b0,ha0,hb0,hst0⟩:=qib (T:=T) (k:=F) (i:=0) (p:=noPr) (ln:=0) (er:=0) hr
  refine oL (fun k ls H=>∃ (a b:Nat) (acc:List (List UInt8)) (p:Pr) (v1 v2 v3:LV) (i:Nat) (op ln er:Int) (H1 H2 H3:Heap),a<=F+1/\b<=F/\k=b * (F+2)+a/\ls=[(2,ptr b2 0),(3,int .i64 0),(4,int .i64 0),(5,.list (T.map qbJ)),(8,ptr rb 0),(9,ptr b9 0)] /\
    H=rdH rb T i op ln er::(b9,.cells 34 [v1,v2,v3])::(b2,.cells 34 [qaa,qaa,qaa])::(H1++(H2++H3)) /\
    Acc 1 v1 ((p.vars++acc).map str) H1 []/\Acc 2 v2 (p.arrays.map qkM) H2 []/\Acc 4 v3 (p.funcs.map qav) H3 []/\Wf T 0 i op ln er/\(p.vars++acc).length<=400000/\(er=0->(p.vars++acc).length<=i)/\p.arrays.length+b<=F/\p.funcs.length+b<=F/\PSt T a b acc p i ln er r)
   ⟨_,_,_,⟨a0,b0,[],noPr,qaa,qaa,qaa,0,0,0,0,[],[],[],ha0,hb0,rfl,rfl,rfl,Acc.nil,Acc.nil,Acc.nil,fun _=>⟨rfl,Nat.zero_le _,rfl,by omega⟩,by simp[noPr],fun _=>by simp[noPr],by simp[noPr];omega,by simp[noPr];omega,hst0⟩,⟨rfl,rfl,rfl,rfl,rfl,rfl,trivial⟩,zhP zp1 zhr⟩ ?_
  rintro k ls H ⟨a,b,acc,p,v1,v2,v3,i,op,ln,er,H1,H2,H3,ha,hb,rfl,rfl,rfl,ha1,ha2,ha3,hw,hvl,hva,hal,hfl,hI⟩ j hj
  by_cases he:er=0
  case neg=>
   have hz:decide (er=0)=false:=decide_eq_false he;have hres:some (Res.err ln er)=some r:=(qaD he).symm.trans hI;cases hres;refine gaa ?_;refine oB 30 rfl (fun h=>?_) (fun h=>?_)
   ·rw[hz] at h;cases h
   refine gae ?_;refine oC rfl (fun h2=>?_) (fun h2=>?_)
   ·cases h2
   refine gab ?_;refine oC rfl (fun h2=>?_) (fun h2=>?_)
   case refine_2=>exact absurd (by simpa using h2) he
   refine ga1 ?_;refine cD (m:=12) rfl [rdH rb T i op ln er] ?_;refine aT 0 rfl rfl (pB _ (cs:=[_,_,_]) rfl) ?_;refine aT 1 rfl rfl (pM (lv:=.atom _) rfl) ?_;refine aT 2 rfl rfl (pN rfl) ?_;refine aT 3 rfl rfl (pF rfl) ?_;refine aT 4 rfl rfl (pL (c:=.atom _) rfl zm0 rfl) ?_;refine aT 5 rfl rfl (pM (lv:=.atom _) rfl) ?_;refine aT 6 rfl rfl (pN rfl) ?_;refine aT 7 rfl rfl (pF rfl) ?_;refine aT 8 rfl rfl (pL (c:=.atom _) rfl zm0 rfl) ?_;refine aL ?_ zhp;refine lO 9 (lS (H1:=[(b2,.cells 34 [qaa,qaa,qaa])]) rfl (.inl rfl) rfl zp2 zhp (sS (cs':=[_,_,_]) rfl pH rfl rfl rfl rfl rfl ?_));refine qaF.any [rdH rb T i op ln er] (fun p hp=>hp) ?_;refine aT 10 rfl rfl (pA (lv:=.atom _) rfl) ?_;refine aT 11 rfl rfl (pA (lv:=.atom _) rfl) ?_;refine aL (lD zk ?_) (zhP zp1 zhn);refine gae ?_;exact qac hj (rC (rA (k:=3) rfl zm0 rfl (vA (bs:=[.list [],.list [],.list []]) ⟨vN,vN,vN,trivial⟩)) (rC (zrt rfl) (zra rfl))) rfl
  subst he;obtain ⟨rfl,hi,rfl,_⟩:=hw rfl;have hva:=hva rfl;refine gaa ?_;refine oC rfl (fun hc=>?_) (fun hc=>?_)
  ·have hlt:i<T.length:=by have:=zt hc;omega
   have hT:=qqA hL zo;have hl:=hT.len;have hwn:Wf T 0 (i+1) ((0:Nat):Int) 0 0:=fun _=>⟨rfl,hlt,rfl,by omega⟩;refine gaa ?_;refine oS (sH [_,_] rfl pH (qaP rb T i _ 0 0 qhH hl) ?_) rfl;refine ga2 ?_;refine oC rfl (fun hv=>?_) (fun hv=>?_)
   ·rw[andz] at hv;obtain ⟨a,rfl,hI2⟩:=qlj hv hI;refine gab ?_;refine cD (m:=7) rfl [] ?_;refine zQ47 ?_;refine zl2 (i:=1) (j:=3) zk ?_ ?_
    ·refine lH rfl rfl (pL (c:=v1) rfl zm1 rfl) ?_;refine lO 3 (lW rfl (.inl rfl) rfl (S.callB (i:=i+1) (op:=((0:Nat):Int)) [_] rfl pH hI2 (fun r1 h1=>qd5 rb T hT a 0 (i+1) _ 0 0 hwn r1 h1) fun ns i7 op7 ln7 er7 hb7 hw7 hal7 hI3=>?_));refine lO 4 (lW rfl (.inl rfl) rfl (sG qqB rfl ha1 rfl (qa6 ns) (qbt ns) (by simp at hvl ⊢;omega) fun v' H' ha'=>?_));refine zQ55 ?_;refine gan ?_;refine oS (sQ [_,_] rfl zp1 hI3 (fun r1 h1=>qbw rb T 0 i7 op7 ln7 er7 [59] hl hT.pos hw7 r1 h1) fun u4 i8 op8 ln8 er8 hw8 hal8 hI4=>?_) rfl;refine gad ?_
     exact ⟨_,_,_,by omega,⟨a,b,acc++ns,p,v',v2,v3,i8,op8,ln8,er8,H',H2,H3,by omega,hb,rfl,rfl,rfl,by rw[<-zAs,zMa];exact ha',ha2,ha3,hw8,by simp at hvl hva ⊢;omega,fun h8=>by
      obtain ⟨h7,h9⟩:=hal8 h8;obtain ⟨_,h10⟩:=hal7 h7;have h11:=qer h10;have h12:=ql1 h9;simp at hva ⊢
      omega,hal,hfl,hI4⟩,⟨rfl,rfl,rfl,rfl,rfl,rfl,trivial⟩,qsS,hj⟩
    ·refine lW rfl (.inl rfl) rfl (S.callB (i:=i+1) (op:=((0:Nat):Int)) [_] rfl pH hI2 (fun r1 h1=>qd5 rb T hT a 0 (i+1) _ 0 0 hwn r1 h1) fun ns i7 op7 ln7 er7 hb7 hw7 hal7 hI3=>?_);refine lO 1 (lH rfl rfl (pL (c:=v1) rfl zm1 rfl) ?_);refine lO 4 (lW rfl (.inl rfl) rfl (sG qqB rfl ha1 rfl (qa6 ns) (qbt ns) (by simp at hvl ⊢;omega) fun v' H' ha'=>?_));refine zQ55 ?_;refine gan ?_;refine oS (sQ [_,_] rfl zp1 hI3 (fun r1 h1=>qbw rb T 0 i7 op7 ln7 er7 [59] hl hT.pos hw7 r1 h1) fun u4 i8 op8 ln8 er8 hw8 hal8 hI4=>?_) rfl;refine gad ?_
     exact ⟨_,_,_,by omega,⟨a,b,acc++ns,p,v',v2,v3,i8,op8,ln8,er8,H',H2,H3,by omega,hb,rfl,rfl,rfl,by rw[<-zAs,zMa];exact ha',ha2,ha3,hw8,by simp at hvl hva ⊢;omega,fun h8=>by
      obtain ⟨h7,h9⟩:=hal8 h8;obtain ⟨_,h10⟩:=hal7 h7;have h11:=qer h10;have h12:=ql1 h9;simp at hva ⊢
      omega,hal,hfl,hI4⟩,⟨rfl,rfl,rfl,rfl,rfl,rfl,trivial⟩,qsS,hj⟩
   have hI3:=qo8 hv hI;rw[andz] at hv;rw[qa5] at hI3
   obtain ⟨b1,rfl⟩:∃ g,b=g+1:=by
    cases b with
    |zero=>rw[qc2] at hI3;cases hI3
    |succ g=>exact ⟨g,rfl⟩
   rw[qc2,if_neg zo,if_neg (by rw[hv];decide)] at hI3
   have hms:∀ a' b',a'<=b1+1->b'<=b1->b' * (F+2)+a'<(b1+1) * (F+2)+a:=fun a' b' h1 h2=>by
    have:=Nat.mul_le_mul_right (F+2) h2;rw[Nat.succ_mul];omega
   refine gaf ?_;refine oS (sH [_,_] rfl pH (qaP rb T i _ 0 0 qkR hl) ?_) rfl;refine ga2 ?_;refine oC rfl (fun hq=>?_) (fun hq=>?_)
   ·rw[andz] at hq;rw[if_pos hq] at hI3;unfold qfR at hI3;simp only[qbG] at hI3
    have hI4:stO 0 (i+1) 0 0 (fun i o=>qal (some (qbS T 2 i o)) fun nm i o=>qal (some (qbs T [91] i o)) fun _ i o=>qal (some (qb5 T i o)) fun n i o=>qal (some (sEnd T [93] i o)) fun _ i o=>qal (some (qb6 T [59] i o)) fun _ i o=>
     qc2 T b1 ⟨p.vars++acc,p.arrays++[⟨nm,n⟩],p.funcs⟩ i o)=some r:=hI3
    refine gab ?_;refine oS (sQ (i:=i+1) (op:=((0:Nat):Int)) [_] rfl pH hI4 (fun r1 h1=>qdO rb T 0 (i+1) _ 0 0 hl hT.pos hwn r1 h1) fun nm i1 op1 ln1 er1 hw1 hal1 hI5=>?_) rfl;refine gac ?_;refine oS (sA fun b10=>?_) rfl;refine gaa ?_;refine oS (sQ [_,_] rfl zp1 hI5 (fun r1 h1=>qbQ rb T 0 i1 op1 ln1 er1 [91] hl hT.pos hw1 r1 h1) fun u2 i2 op2 ln2 er2 hw2 hal2 hI6=>?_) rfl;refine gan ?_;refine oS (S.callB [_] rfl pH hI6 (fun r1 h1=>qgx rb T hT (0+1) i2 op2 ln2 er2 hw2 r1 h1) fun n i3 op3 ln3 er3 hn3 hw3 hal3 hI7=>?_) rfl;refine oP (Pure.cvt rfl) rfl ?_;rw[show IntKind.i64.wrap (n:Int)=(n:Int) from qc4 zo];refine gab ?_;refine oS (sQ [_,_] rfl zp1 hI7 (fun r1 h1=>qb3 rb T 0 i3 op3 ln3 er3 [93] hl hT.pos hw3 r1 h1) fun u4 i4 op4 ln4 er4 hw4 hal4 hI8=>?_) rfl;refine gan ?_;refine oS (sQ [_,_] rfl pH hI8 (fun r1 h1=>qbw rb T 0 i4 op4 ln4 er4 [59] hl hT.pos hw4 r1 h1) fun u5 i5 op5 ln5 er5 hw5 hal5 hI9=>?_) rfl;refine gaa ?_;refine oP (pL (c:=v2) rfl zm2 rfl) rfl ?_;refine gac ?_;refine oS (sL (es:=[qkM ⟨nm,n⟩]) [_] rfl (zeC rfl rfl eN) rfl rfl rfl ?_) rfl;refine LOps.weak (H':=rdH rb T i5 op5 ln5 er5::(b9,.cells 34 [v1,v2,v3])::(b2,.cells 34 [qaa,qaa,qaa])::(H1++(H2++H3))) (zhP pH (zhD zhr)) ?_;refine oS (sG qqF rfl ha2 rfl (by simp;rfl) rfl (by simp;omega) fun v' H' ha'=>?_) rfl;refine gad ?_;refine oS (sS (cs':=[v1,v',v3]) rfl zp1 (Acc.cell ha').1 rfl rfl (Acc.cell ha').2 rfl ?_) rfl;refine gad ?_;obtain ⟨a',b',hA',hB',hst⟩:=qib hI9
    exact ⟨_,_,_,hms a' b' hA' hB',⟨a',b',[],⟨p.vars++acc,p.arrays++[⟨nm,n⟩],p.funcs⟩,v1,v',v3,i5,op5,ln5,er5,H1,H',H3,by omega,by omega,rfl,rfl,rfl,by simpa using ha1,by rw[zMa];exact ha',ha3,hw5,by simpa using hvl,fun h5=>by
     obtain ⟨h4,g5⟩:=hal5 h5;obtain ⟨h3,g4⟩:=hal4 h4;obtain ⟨h2,g3⟩:=hal3 h3;obtain ⟨h1,g2⟩:=hal2 h2;obtain ⟨_,g1⟩:=hal1 h1;have:=ql1 g5;have:=qs3 g4;have:=qsT g3;have:=qqU g2;have:=qrP g1;simp at hva ⊢
     omega,by simp;omega,by simp;omega,hst⟩,⟨rfl,rfl,rfl,rfl,rfl,rfl,trivial⟩,qqz,hj⟩
   rw[andz] at hq;rw[if_neg (by rw[hq];decide)] at hI3;refine gaf ?_;refine oS (sH [_,_] rfl pH (qaP rb T i _ 0 0 qng hl) ?_) rfl;refine ga2 ?_;refine oC rfl (fun hf=>?_) (fun hf=>?_)
   ·rw[andz] at hf;rw[if_pos hf] at hI3;have hI4:stO 0 i 0 0 (fun i o=>qal (qiz T b1 (i+1) o) fun fn i o=>qc2 T b1 ⟨p.vars++acc,p.arrays,p.funcs++[fn]⟩ i o)=some r:=hI3;refine cD (m:=8) rfl [] ?_;refine zQ47 ?_;refine zl2 (i:=1) (j:=3) zk ?_ ?_
    ·refine lH rfl rfl (pL (c:=v3) rfl zm1 rfl) ?_;refine lO 3 (lW rfl (.inl rfl) rfl (sQ (op:=((0:Nat):Int)) [_] rfl pH hI4 (fun r1 h1=>qjB rb T hT b1 0 i hlt zo r1 h1) fun fn i5 op5 ln5 er5 hw5 hal5 hI5=>?_));refine zQ70 ?_;refine lO 5 (lW rfl (.inl rfl) rfl (sG qn7 rfl ha3 rfl (by simp;rfl) rfl (by simp;omega) fun v' H' ha'=>?_));refine zQ29 ?_;obtain ⟨a',b',hA',hB',hst⟩:=qib hI5
     exact ⟨_,_,_,hms a' b' hA' hB',⟨a',b',[],⟨p.vars++acc,p.arrays,p.funcs++[fn]⟩,v1,v2,v',i5,op5,ln5,er5,H1,H2,H',by omega,by omega,rfl,rfl,rfl,by simpa using ha1,ha2,by rw[zMa];exact ha',hw5,by simpa using hvl,fun h5=>by
      obtain ⟨_,g5⟩:=hal5 h5;obtain ⟨g6,_⟩:=qcT T b1 (i+1) 0 _ g5;simp at hva ⊢
      omega,by simp;omega,by simp;omega,hst⟩,⟨rfl,rfl,rfl,rfl,rfl,rfl,trivial⟩,qnV,hj⟩
    ·refine lW rfl (.inl rfl) rfl (sQ (op:=((0:Nat):Int)) [_] rfl pH hI4 (fun r1 h1=>qjB rb T hT b1 0 i hlt zo r1 h1) fun fn i5 op5 ln5 er5 hw5 hal5 hI5=>?_);refine zl2 (i:=1) (j:=4) zk ?_ ?_
     ·refine lH rfl rfl (pL (c:=v3) rfl zm1 rfl) ?_;refine zQ70 ?_;refine lO 5 (lW rfl (.inl rfl) rfl (sG qn7 rfl ha3 rfl (by simp;rfl) rfl (by simp;omega) fun v' H' ha'=>?_));refine zQ29 ?_;obtain ⟨a',b',hA',hB',hst⟩:=qib hI5
      exact ⟨_,_,_,hms a' b' hA' hB',⟨a',b',[],⟨p.vars++acc,p.arrays,p.funcs++[fn]⟩,v1,v2,v',i5,op5,ln5,er5,H1,H2,H',by omega,by omega,rfl,rfl,rfl,by simpa using ha1,ha2,by rw[zMa];exact ha',hw5,by simpa using hvl,fun h5=>by
       obtain ⟨_,g5⟩:=hal5 h5;obtain ⟨g6,_⟩:=qcT T b1 (i+1) 0 _ g5;simp at hva ⊢
       omega,by simp;omega,by simp;omega,hst⟩,⟨rfl,rfl,rfl,rfl,rfl,rfl,trivial⟩,qnV,hj⟩
     ·refine lW rfl (.inl rfl) rfl (sL [_] rfl (zeC rfl rfl eN) rfl rfl rfl ?_);refine lO 1 (lH rfl rfl (pL (c:=v3) rfl zm1 rfl) ?_);refine lO 5 (lW rfl (.inl rfl) rfl (sG qn7 rfl ha3 rfl (by simp;rfl) rfl (by simp;omega) fun v' H' ha'=>?_));refine zQ29 ?_;obtain ⟨a',b',hA',hB',hst⟩:=qib hI5
      exact ⟨_,_,_,hms a' b' hA' hB',⟨a',b',[],⟨p.vars++acc,p.arrays,p.funcs++[fn]⟩,v1,v2,v',i5,op5,ln5,er5,H1,H2,H',by omega,by omega,rfl,rfl,rfl,by simpa using ha1,ha2,by rw[zMa];exact ha',hw5,by simpa using hvl,fun h5=>by
       obtain ⟨_,g5⟩:=hal5 h5;obtain ⟨g6,_⟩:=qcT T b1 (i+1) 0 _ g5;simp at hva ⊢
       omega,by simp;omega,by simp;omega,hst⟩,⟨rfl,rfl,rfl,rfl,rfl,rfl,trivial⟩,qnV,hj⟩
   rw[andz] at hf;rw[if_neg (by rw[hf];decide)] at hI3;refine gaf ?_;refine oS (sH [_,_] rfl pH (qcJ rb T i _ 3 hl hT.pos zo) ?_) rfl;refine gad ?_;exact ⟨_,_,_,hms 0 0 (Nat.zero_le _) (Nat.zero_le _),⟨0,0,acc,p,v1,v2,v3,i,_,_,3,H1,H2,H3,Nat.zero_le _,Nat.zero_le _,rfl,rfl,rfl,ha1,ha2,ha3,qci zDd,hvl,fun h=>absurd h zDd,by omega,by omega,(qaD zDd).trans hI3⟩,⟨rfl,rfl,rfl,rfl,rfl,rfl,trivial⟩,zhR _,hj⟩
  ·have hge:T.length<=i:=by have:=zf hc;omega
   have hI3:=qo8 (by rw[qhY hge];rfl) hI;rw[qa5] at hI3
   obtain ⟨b1,rfl⟩:∃ g,b=g+1:=by
    cases b with
    |zero=>rw[qc2] at hI3;cases hI3
    |succ g=>exact ⟨g,rfl⟩
   rw[qc2,if_pos hge] at hI3;cases hI3;refine qae.cellSub zp1 (cs':=[.list ((p.vars++acc).map str),.list (p.arrays.map qkM),.list (p.funcs.map qav)]) ⟨ha1.sub,ha2.sub,ha3.sub,trivial⟩ ?_;refine gab ?_;refine oC rfl (fun h2=>?_) (fun h2=>?_)
   ·cases h2
   refine gab ?_;exact qac hj (rC (rA rfl zm0 rfl zsr) (rC (zrt rfl) (zra rfl))) rfl
end
end Go.Proofs.YthmhncflhnbedaaGreatDoor
namespace Go.Proofs.YthmhncflhnbedaaGreatDoor.R23
open Go.GL Go.RowKit Go.Stele
open Go.Lib (decDigits itoa join)
open Cmp (qcM qeq qgh I64 qkK bldR qpl qhd qoK)
attribute [local irreducible] LOps qae qag LCalls Go.GL.Pure qaA qaq qah LQ LAny qaF qap LS
section
variable {B0:Nat} {w0:World}
theorem qkN (vars:List Nm) (arrays:List (Nm×Int)) (fs:List FnD) (o:Org) (hv6:vars.length<=2000000) (ha6:arrays.length<=2000000) (har:∀ a∈arrays,I64 a.2) (hnd:ndFs fs<=2000000) (hnum:∀ f∈fs,qcA f.body) (o1:I64 o.code) (o2:I64 o.scalars) (o3:I64 o.arrays) :
  LCalls (KC B0 w0) 12 [Chk.encPrG vars arrays fs,qcM o] [] (Ret (qkK (cmpP vars arrays fs o))):=by
 have hck:=RC.rcheck_spec (B0:=B0) (w0:=w0) vars arrays fs hv6 ha6 har hnd;have hf6:=qdF fs;have hsm:∀ f∈fs,SmF f:=fun f hf=>qi5 (by have:=qc8 hf;omega);obtain ⟨oc,os,oa⟩:=o;generalize hC:cmpP vars arrays fs ⟨oc,os,oa⟩=R;have hne:=fun e=>@qqi vars arrays fs ⟨oc,os,oa⟩ e;rw[hC] at hne;unfold cmpP at hC;have ePr:Chk.encPrG vars arrays fs=.agg [.list (vars.map str),.list (arrays.map Chk.encArG),.list (fs.map qav)]:=rfl;have eOr:qcM ⟨oc,os,oa⟩=.agg [int .i64 oc,int .i64 os,int .i64 oa]:=rfl;rw[ePr,eOr];rw[ePr] at hck;refine cI Tryz.func12 rfl (n:=41) rfl rfl rfl ?_;refine gag ?_;refine oS (sB rfl fun b2=>?_) rfl;refine oS (sB rfl fun b3=>?_) rfl;refine gab ?_;refine oS (S.callH (H1:=[]) (F:=[_,_]) [_] rfl zpr hck ?_ (by rintro ch H' ⟨_,nm,h⟩;cases h)) rfl;rintro lv H' ⟨rfl,nm,h⟩;cases h;refine gab ?_
 by_cases hc0:qb1 vars arrays fs=0
 rotate_left
 ·exact zT30
 refine oC rfl (fun hc=>?_) (fun _=>?_)
 ·have h2:(!decide (qb1 vars arrays fs=0))=true:=hc;simp[hc0] at h2
 rw[if_neg (by simpa using hc0)] at hC;obtain ⟨ht,hp,hPa,hPc,hV⟩:=qeS hc0
 have hown:∀ f∈fs,∀ x∈f.params++f.locals,x.length<=24:=by
  have h:=hc0;unfold qb1 at h;exact qeq _ _ _ _ _ (qad.1 (qad.1 (qad.1 h).2).2).1
 have hfr:=qbB _ _ hV.names;have hfn:∀ f∈fs,f.name.length<=24:=fun f hf=>qgh (hfr.2 _ (List.mem_append_right _ (List.mem_map_of_mem hf))).2;have hn:∀ f∈fs,f.name.length<=1000/\∀ x∈f.params++f.locals,x.length<=1000:=fun f hf=>⟨by have:=hfn f hf;omega,fun x hx=>by have:=hown f hf x hx;omega⟩;have hsc8:(qat vars fs).length<=8000:=hV.few;have hft:=Cmp.rfits_spec (B0:=B0) (w0:=w0) vars arrays fs ⟨oc,os,oa⟩ hv6 zo ha6 hsm hn hp ht hsc8 o1 o2 o3;rw[ePr,eOr] at hft;refine gab ?_;refine oS (sF [_,_] rfl hft ?_) rfl;refine gad ?_
 by_cases hfit:qdI vars arrays fs ⟨oc,os,oa⟩=true
 rotate_left
 ·rw[if_pos (by simpa using hfit)] at hC;subst hC;refine oC rfl (fun _=>?_) (fun hc=>?_)
  ·refine gap ?_;exact qac rfl (rC (zrt rfl) (zra rfl)) rfl
  ·have h2:(!qdI vars arrays fs ⟨oc,os,oa⟩)=false:=hc;simp at h2;exact absurd h2 hfit
 refine oC rfl (fun hc=>?_) (fun _=>?_)
 ·have h2:(!qdI vars arrays fs ⟨oc,os,oa⟩)=true:=hc;rw[hfit] at h2;cases h2
 rw[if_neg (by rw[hfit];decide)] at hC;have hfitP:qdI (prOf vars arrays fs).vars (qbK (prOf vars arrays fs)) (prOf vars arrays fs).funcs ⟨oc,os,oa⟩=true:=by rw[hPa];exact hfit
 have hF:=qjS hfitP;have hS0:0<=os:=hF.s0;obtain ⟨sc,rfl⟩:∃ n:Nat,os=(n:Int):=⟨os.toNat,by omega⟩;have has:=qjv (B0:=B0) (w0:=w0) (vars:=vars) (arrays:=arrays) (fs:=fs) (oc:=oc) (sc:=sc) (oa:=oa) ⟨hc0,hfit,hv6,ha6,hnd,hnum⟩;rw[ePr,eOr] at has;have hW:=qh3 hPc hnum hfitP hnd;have hjt:=qeQ (qel (prOf vars arrays fs) ⟨oc,(sc:Int),oa⟩)
 have hwc:qel (prOf vars arrays fs) ⟨oc,(sc:Int),oa⟩=prW vars arrays fs ⟨oc,(sc:Int),oa⟩:=by
  unfold qel;rw[hPa];rfl
 have hnf:ndFs (prOf vars arrays fs).funcs=ndFs fs:=rfl;rw[hwc] at hW hjt;rw[hnf] at hW;have hW1:=hW.1;have hlen:(join (prW vars arrays fs ⟨oc,(sc:Int),oa⟩) [32]).length<=300000000:=by omega
 have hasm:=Asm.assemble18_spec (B0:=B0) (w0:=w0) (join (prW vars arrays fs ⟨oc,(sc:Int),oa⟩) [32]) oc hlen;rw[qp8] at hasm;simp only at hC;generalize join (prW vars arrays fs ⟨oc,(sc:Int),oa⟩) [32]=T at has hasm hC;refine gab ?_;refine oS (sF [_,_] rfl has ?_) rfl;refine gaa ?_
 cases hA:asmP T oc with
 |error e=>
  rw[hA] at hasm hC;simp only at hasm hC;subst hC;have he:((e.2:Nat):Int)≠0:=hne _ rfl;refine oS (S.fnIf [_,_] rfl hasm ?_) rfl;rintro lv ⟨ln,rfl⟩;refine gab ?_;refine oC rfl (fun _=>?_) (fun hc=>?_)
  ·refine gaa ?_;exact qac rfl (rC (zrt rfl) (zra rfl)) rfl
  ·have h2:(!decide (((e.2:Nat):Int)=0))=false:=hc;simp at h2
   omega
 |ok x=>
  rw[hA] at hasm hC;simp only at hasm hC;subst hC;refine oS (S.fnIf [_,_] rfl hasm ?_) rfl;rintro lv ⟨labs,rfl⟩;refine gab ?_;refine oC rfl (fun hc=>by cases hc) (fun _=>?_);refine gaa ?_;exact qac rfl (rC (zrt rfl) (zra rfl)) rfl
theorem qmo {p:Pr} {n:Nat} (h:SzP p n) (hn:n<=2000000) (o:Org) (o1:I64 o.code) (o2:I64 o.scalars) (o3:I64 o.arrays):LCalls (KC B0 w0) 12 [qgL p,qcM o] [] (Ret (qkK (cmpP p.vars (qbK p) p.funcs o))):=by
 rw[Inp.encPr_eq]
 exact qkN _ _ _ o (zNt h.vars hn) (by rw[zLm];exact zNt h.arrays hn) (fun a ha=>by
  obtain ⟨x,hx,rfl⟩:=List.mem_map.1 ha;have:=h.size x hx;constructor
  ·show (-9223372036854775808:Int)<=(x.size:Int);omega
  ·show (x.size:Int)<9223372036854775808
   omega) (zNt h.funcs hn) h.nums o1 o2 o3
theorem rbuild_spec (s:List UInt8) (hs:s.length<=60000) (o:Org) (o1:I64 o.code) (o2:I64 o.scalars) (o3:I64 o.arrays):LCalls (KC B0 w0) 6 [str s,qcM o] [] (Ret (qpl (bldR (qbZ s) o))):=by
 have hps:=ql2 (B0:=B0) (w0:=w0) s zo;have hsz:=qhd s;generalize qbZ s=r at hps hsz ⊢;obtain ⟨p,l,e⟩:=r;simp only at hsz;have hcp:=qmo (B0:=B0) (w0:=w0) hsz zDd o o1 o2 o3;generalize hR:bldR (p,l,e) o=R;unfold bldR at hR;simp only at hR;have eOr:qcM o=.agg [int .i64 o.code,int .i64 o.scalars,int .i64 o.arrays]:=rfl;rw[eOr] at hcp ⊢;refine cI Tryz.func6 rfl (n:=45) rfl rfl rfl ?_;refine gag ?_;refine oS (sB rfl fun b3=>?_) rfl;refine gaw ?_;refine oS (sF [_] rfl hps ?_) rfl;unfold qhW;simp only;refine gac ?_;refine oS (sA fun b7=>?_) rfl;refine gab ?_
 by_cases hc0:e=0
 rotate_left
 ·exact zT31
 refine oC rfl (fun hc=>?_) (fun _=>?_)
 ·have h2:(!decide (e=0))=true:=hc;simp[hc0] at h2
 rw[if_neg (by simpa using hc0)] at hR;unfold qlp at hR
 cases hcm:cmpP p.vars (qbK p) p.funcs o with
 |error er=>
  have hne:=qqi hcm;rw[hcm] at hR hcp;simp only at hR;subst hR;refine gab ?_;refine oS (sF [_,_] rfl hcp ?_) rfl;unfold qkK;refine gab ?_;refine oC rfl (fun _=>?_) (fun hc=>?_)
  ·refine gaa ?_;exact qac rfl (rC (zrt rfl) (rC (zrt rfl) (zra rfl))) rfl
  ·have h2:(!decide (er=0))=false:=hc;simp at h2
   exact absurd h2 hne
 |ok t=>
  obtain ⟨x,hx,_⟩:=qo3 hcm;have htl:=qoK hsz zDd hcm;have hasm:=Asm.assemble18_spec (B0:=B0) (w0:=w0) t o.code htl;rw[qp8,hx] at hasm;rw[hcm] at hR hcp;simp only at hR hasm;rw[hx] at hR;simp only at hR;subst hR;refine gab ?_;refine oS (sF [_,_] rfl hcp ?_) rfl;unfold qkK;refine gab ?_;refine oC rfl (fun hc=>by cases hc) (fun _=>?_);refine gab ?_;refine oS (S.fnIf [_,_] rfl hasm ?_) rfl;rintro lv ⟨labs,rfl⟩;refine gab ?_;exact qac rfl (rC (zrt rfl) (rC (zrt rfl) (zra rfl))) rfl
end
end Go.Proofs.YthmhncflhnbedaaGreatDoor.R23
namespace Go.Proofs.YthmhncflhnbedaaGreatDoor.Cmp
open Go.GL Go.RowKit Go.Stele
attribute [local irreducible] LOps qae qag LCalls Go.GL.Pure qaA qaq qah LQ LAny qaF qap LS
section
variable {B0:Nat} {w0:World}
theorem cbuild_walk (hG:GW B0 w0) (hM:Asm.GM w0) (s:List UInt8) (o:Org) (o1:I64 o.code) (o2:I64 o.scalars) (o3:I64 o.arrays) :
  LCalls (KC B0 w0) 3 [str s,qcM o] [] (Ret (bool true)):=by
 have haw:=qn9 (B0:=B0) (w0:=w0) hG hM;have hb:=qjJ (B0:=B0) (w0:=w0) hG hM s o o1 o2 o3;have hrb:=fun hs:s.length<=60000=>R23.rbuild_spec (B0:=B0) (w0:=w0) s hs o o1 o2 o3;generalize bldR (qbZ s) o=r at hb hrb;obtain ⟨x,l,e⟩:=r;have eOr:qcM o=.agg [int .i64 o.code,int .i64 o.scalars,int .i64 o.arrays]:=rfl;rw[eOr] at hb hrb ⊢;unfold qpl at hb hrb;simp only at hb hrb;refine cI Tryz.func3 rfl (n:=45) rfl rfl rfl ?_;refine gag ?_;refine oS (sB rfl fun b3=>?_) rfl;refine gab ?_;refine oC rfl (fun _=>?_) (fun hc=>?_)
 ·refine gag ?_;refine oS (sF [] rfl haw ?_) rfl;refine gae ?_;exact qac rfl (zra rfl) rfl
 have hl:s.length<=60000:=by have:=zf hc;omega
 refine gab ?_;refine oS (sF [_,_] rfl hb ?_) rfl;refine gab ?_;refine oS (sF [_,_] rfl (hrb hl) ?_) rfl;refine gaa ?_;refine oB 32 rfl (fun _=>?_) (fun h=>absurd rfl (zf h));refine gaq ?_;refine oB 37 rfl (fun _=>?_) (fun h=>absurd rfl (zf h));refine gaq ?_;refine oB 42 rfl (fun _=>?_) (fun h=>absurd rfl (zf h));refine gal ?_;refine oS (sF [] rfl haw ?_) rfl;refine gad ?_;exact qac rfl (zra rfl) rfl
end
end Go.Proofs.YthmhncflhnbedaaGreatDoor.Cmp
