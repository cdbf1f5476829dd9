/- Texts joined: RtPrint, InpLaw, ChkRef, ChkRef2, InpKey, InpBnd, InpNodup, InpValid, InpSmall, ChkW1, ChkW2, Shelf, Lex2, FmtUint. -/
import Derived.KernelRfl
import Derived.Lib.Replace
import Derived.Shelf.Strings.Builder1
import Derived.Shelf.Strings.Builder2
import Derived.Shelf.Strings.OnBuilder
import Derived.Shelf.Strings.Trim
import Derived.Shelf.Small.Utf8
import Derived.Shelf.Small.Strs
import Derived.Shelf.Small.Wraps
import Derived.Shelf.Strings.BuilderF
import Derived.Shelf.Strings.BuilderK
import Derived.Shelf.Utf8.RuneCount
import Derived.Shelf.Strings.Builder2Cap
import Derived.Shelf.Strconv.Itoa0
import Derived.Shelf.Strconv.Itoa1
import Derived.Shelf.LaysM
import Derived.Shelf.Strconv.Itoa2
import Derived.Shelf.Strconv.Itoa3
import Derived.Shelf.Strconv.Clone
import Derived.Shelf.Strconv.SyntaxError
import Derived.Shelf.LaysC
import Derived.Shelf.Strconv.ToError
import Derived.Shelf.Strconv.Lower
import Derived.Shelf.Strconv.ParseUint10
import Derived.Shelf.Strconv.ParseUint10Empty
import Derived.Shelf.Strconv.ParseUint10Any
import Derived.Shelf.Strconv.RangeError
import Derived.Shelf.Strconv.ToErrorRange
import Derived.Shelf.Strconv.ParseUintEmpty
import Derived.Shelf.Strconv.ParseUint10b64
import Derived.Shelf.Strconv.ParseUint10b32
import Derived.Shelf.Strconv.ParseUint10b16
import Derived.Shelf.Strconv.ParseUint10b8
import Derived.Shelf.Strconv.ParseUint10At
import Derived.Ground.MpProg
import Derived.Shelf.Pu.ParseUintPublic10
import Derived.Shelf.Pu.ErrVarParseUint
import Derived.Shelf.Strings.Search1
import Derived.Shelf.Strings.Search2
import Derived.Shelf.Strings.Search3
import Derived.Shelf.Strings.Cut
import Derived.Shelf.Strings.Count
import Derived.Shelf.Strings.Shaped
import Derived.Shelf.Strings.Prefix
import Derived.Shelf.Strings.Split
import Derived.Shelf.Strings.SplitShaped
import Derived.Shelf.Unicode.Decode
import Derived.Shelf.Strings.Runes
import Derived.Shelf.Strings.RuneCount
import Derived.Shelf.Strings.AsciiSet
import Derived.Shelf.Unicode.DecodeSlow
import Derived.Shelf.Unicode.DecodeAny
import Derived.Shelf.Strings.BuilderCap
import Derived.Shelf.Slices.Turned
import Derived.Ground.Names2Prog
import Derived.Shelf.Slices.Clone
import Derived.Test.YtpbbgkoalnonoaaGreatDoorProg
import Derived.Lib.Walk
import Derived.Lib.ItoaMem
import Derived.Lib.AppendIntMem
import Derived.WalkKit
import Derived.BigCall
import Derived.BigGuard
import Derived.Below
import Derived.Test.YtpbbgkoalnonoaaGreatDoorBRowCA2
import Derived.Test.YtpbbgkoalnonoaaGreatDoorBRowCA3
set_option linter.unusedVariables false
set_option linter.unusedSimpArgs false
set_option maxRecDepth 100000
set_option maxHeartbeats 4000000
namespace Go.Stele
abbrev KT:=Int×List UInt8
def sg (c:UInt8):KT:=(4,[c])
def NameOk (x:List UInt8):Prop:=Again ⟨2,x,0⟩
mutual
inductive PE:Ex→Nat→List KT→Nat→Prop
 |num {n k:Nat} (h:n<4294967296):PE (.mk nNum n [] []) k [(1,Go.Lib.decDigits n)] 0
 |var {s:List UInt8} {k:Nat} (h:NameOk s):PE (.mk nVar 0 s []) k [(2,s)] 0
 |elem {s:List UInt8} {k:Nat} {a:Ex} {ts:List KT} {d:Nat} (h:NameOk s) (ha:PE a 0 ts d):PE (.mk nElem 0 s [a]) k ((2,s)::sg 91::(ts++[sg 93])) (d+1)
 |call {s:List UInt8} {k:Nat} {l:List Ex} {ts:List KT} {d:Nat} (h:NameOk s) (hl:PEs l ts d):PE (.mk nCall 0 s l) k ((2,s)::sg 40::(ts++[sg 41])) (d+1)
 |neg {k:Nat} {a:Ex} {ts:List KT} {d:Nat} (ha:PE a 6 ts d):PE (.mk nNeg 0 [] [a]) k (sg 45::ts) (d+1)
 |not {k:Nat} {a:Ex} {ts:List KT} {d:Nat} (ha:PE a 6 ts d):PE (.mk nNot 0 [] [a]) k (sg 33::ts) (d+1)
 |bin {s k:Nat} {op:List UInt8} {a b:Ex} {t1 t2:List KT} {d1 d2:Nat} (hs:s<6) (ho:op∈lvOps s) (hk:k≤s) (ha:PE a (leftLv s) t1 d1) (hb:PE b (s+1) t2 d2):PE (.mk op 0 [] [a,b]) k (t1++(4,op)::t2) (max d1 d2)
 |par {s k:Nat} {op:List UInt8} {a b:Ex} {t1 t2:List KT} {d1 d2:Nat} (hs:s<6) (ho:op∈lvOps s) (hk:s<k) (ha:PE a (leftLv s) t1 d1) (hb:PE b (s+1) t2 d2):PE (.mk op 0 [] [a,b]) k (sg 40::((t1++(4,op)::t2)++[sg 41])) (max d1 d2+1)
inductive PEs:List Ex→List KT→Nat→Prop
 |nil:PEs [] [] 0
 |one {a:Ex} {ts:List KT} {d:Nat} (ha:PE a 0 ts d):PEs [a] ts d
 |more {a b:Ex} {l:List Ex} {t1 t2:List KT} {d1 d2:Nat} (ha:PE a 0 t1 d1) (hl:PEs (b::l) t2 d2):PEs (a::b::l) (t1++sg 44::t2) (max d1 d2)
end
theorem PE.weak {e:Ex} {k k':Nat} {ts:List KT} {d:Nat} (h:PE e k ts d) (hk:k'≤k):∃ ts' d',PE e k' ts' d'∧ts'.length≤ts.length∧d'≤d:=by
 cases h with
 |num h=>exact ⟨_,_,.num h,zNr _,zNr _⟩
 |var h=>exact ⟨_,_,.var h,zNr _,zNr _⟩
 |elem h ha=>exact ⟨_,_,.elem h ha,zNr _,zNr _⟩
 |call h ha=>exact ⟨_,_,.call h ha,zNr _,zNr _⟩
 |neg ha=>exact ⟨_,_,.neg ha,zNr _,zNr _⟩
 |not ha=>exact ⟨_,_,.not ha,zNr _,zNr _⟩
 |bin hs ho hk2 ha hb=>exact ⟨_,_,.bin hs ho (by omega) ha hb,zNr _,zNr _⟩
 |par hs ho hk2 ha hb=>
  rename_i s _ _ _ _ _ _ _
  by_cases h2:k'≤s
  ·exact ⟨_,_,.bin hs ho h2 ha hb,by simp only[zLa,zLc,zLn];omega,by omega⟩
  ·exact ⟨_,_,.par hs ho (by omega) ha hb,zNr _,zNr _⟩
theorem PE.paren {e:Ex} {ts:List KT} {d:Nat} (h:PE e 0 ts d):∃ ts' d',PE e 6 ts' d'∧ts'.length≤ts.length+2∧d'≤d+1:=by
 cases h with
 |num h=>exact ⟨_,_,.num h,by omega,by omega⟩
 |var h=>exact ⟨_,_,.var h,by omega,by omega⟩
 |elem h ha=>exact ⟨_,_,.elem h ha,by omega,by omega⟩
 |call h ha=>exact ⟨_,_,.call h ha,by omega,by omega⟩
 |neg ha=>exact ⟨_,_,.neg ha,by omega,by omega⟩
 |not ha=>exact ⟨_,_,.not ha,by omega,by omega⟩
 |bin hs ho hk2 ha hb=>exact ⟨_,_,.par hs ho hs ha hb,by simp only[zLa,zLc,zLn];omega,by omega⟩
 |par hs ho hk2 ha hb=>omega
theorem PEs.snoc:∀ {l:List Ex} {a:Ex} {t0 t1:List KT} {d0 d1:Nat},PEs l t0 d0→PE a 0 t1 d1→∃ t,PEs (l++[a]) t (max d0 d1)∧t.length=t0.length+(if l=[] then 0 else 1)+t1.length:=by
 intro l
 induction l with
 |nil=>
  intro a t0 t1 d0 d1 h h1
  cases h with
  |nil=>exact ⟨t1,by rw[Nat.zero_max];exact .one h1,by simp⟩
 |cons b l ih=>
  intro a t0 t1 d0 d1 h h1
  cases h with
  |one hb=>exact ⟨_,.more hb (.one h1),by simp only[zLa,zLc];simp;omega⟩
  |more hb hl=>
   obtain ⟨t,g1,g2⟩:=ih hl h1
   exact ⟨_,by rw[Nat.max_assoc];exact .more hb g1,by simp only[zLa,zLc,g2];simp;omega⟩
/-! ### What is read can be printed -/
def Wh {A:Type} (P:A→Nat→Nat→Prop) (r:OR A):Prop:=∀ v i op,r=some (.ok v i op)→P v i op
theorem wh_bind {A B:Type} {r:OR A} {k:A→Nat→Nat→OR B} {P:A→Nat→Nat→Prop} {Q:B→Nat→Nat→Prop} (hr:Wh P r) (hk:∀ v i op,P v i op→Wh Q (k v i op)):Wh Q (obind r k):=fun v i op h=>by
 rcases obind_some h with ⟨w,i1,op1,h1,h2⟩|⟨_,_,_,h2⟩
 ·exact hk _ _ _ (hr _ _ _ h1) v i op h2
 ·cases h2
theorem wh_any {A B:Type} {r:OR A} {k:A→Nat→Nat→OR B} {Q:B→Nat→Nat→Prop} (hk:∀ v i op,r=some (.ok v i op)→Wh Q (k v i op)):Wh Q (obind r k):=wh_bind (fun _ _ _ h=>h) hk
theorem wh_ok {A:Type} {P:A→Nat→Nat→Prop} {v:A} {i op:Nat} (h:P v i op):Wh P (some (.ok v i op)):=fun _ _ _ e=>by cases e;exact h
theorem wh_none {A:Type} {P:A→Nat→Nat→Prop}:Wh P none:=fun _ _ _ e=>by cases e
theorem wh_mono {A:Type} {P Q:A→Nat→Nat→Prop} {r:OR A} (h:Wh P r) (hPQ:∀ v i op,P v i op→Q v i op):Wh Q r:=fun v i op e=>hPQ _ _ _ (h v i op e)
theorem wh_begin {B:Type} {T:List Tok} {x:List UInt8} {i op:Nat} {k:Unit→Nat→Nat→OR B} {Q:B→Nat→Nat→Prop} (hk:op<100→Wh Q (k () (i+1) (op+1))):Wh Q (obind (some (sBegin T x i op)) k):=wh_any fun v i1 op1 h=>by
 injection h with h
 obtain ⟨rfl,rfl,h3,_⟩:=sBegin_ok h
 exact hk h3
theorem wh_end {B:Type} {T:List Tok} {x:List UInt8} {i op:Nat} {k:Unit→Nat→Nat→OR B} {Q:B→Nat→Nat→Prop} (hk:Wh Q (k () (i+1) (op-1))):Wh Q (obind (some (sEnd T x i op)) k):=wh_any fun v i1 op1 h=>by
 injection h with h
 obtain ⟨rfl,rfl,_⟩:=sEnd_ok h
 exact hk
theorem wh_need {B:Type} {T:List Tok} {x:List UInt8} {i op:Nat} {k:Unit→Nat→Nat→OR B} {Q:B→Nat→Nat→Prop} (hk:Wh Q (k () (i+1) op)):Wh Q (obind (some (sNeed T x i op)) k):=wh_any fun v i1 op1 h=>by
 obtain ⟨rfl,rfl⟩:=nd_need h
 exact hk
theorem word_again {T:List Tok} (hT:∀ t∈T,Again t) {i op i' op':Nat} {s:List UInt8} (h:sWord T 2 i op=.ok s i' op'):NameOk s∧i'=i+1∧op'=op:=by
 unfold sWord at h
 split at h
 ·rename_i t ht
  split at h
  ·rename_i hk
   cases h
   have:=hT t (List.mem_of_getElem? ht)
   refine ⟨?_,rfl,rfl⟩
   unfold NameOk
   unfold Again at this ⊢
   rw[hk] at this
   exact this
  ·cases h
 ·cases h
theorem wh_name {B:Type} {T:List Tok} (hT:∀ t∈T,Again t) {i op:Nat} {k:List UInt8→Nat→Nat→OR B} {Q:B→Nat→Nat→Prop} (hk:∀ s,NameOk s→Wh Q (k s (i+1) op)):Wh Q (obind (some (sWord T 2 i op)) k):=wh_any fun v i1 op1 h=>by
 injection h with h
 obtain ⟨h1,rfl,rfl⟩:=word_again hT h
 exact hk v h1
theorem numOf_lt (s:List UInt8):numOf s<4294967296:=by
 unfold numOf
 split
 ·rename_i u h
  exact pu32_lt h
 ·decide
theorem wh_number {B:Type} {T:List Tok} {i op:Nat} {k:Nat→Nat→Nat→OR B} {Q:B→Nat→Nat→Prop} (hk:∀ n,n<4294967296→Wh Q (k n (i+1) op)):Wh Q (obind (some (sNumber T i op)) k):=wh_any fun v i1 op1 h=>by
 injection h with h
 unfold sNumber Res.bind at h
 split at h
 ·rename_i h1
  cases h
  obtain ⟨rfl,rfl⟩:=nd_word (congrArg some h1)
  exact hk _ (numOf_lt _)
 ·cases h
theorem isTok_text {T:List Tok} {i:Nat} {xs:List (List UInt8)} (h:isTok T i xs=true):textAt T i∈xs:=by
 unfold isTok at h
 unfold textAt
 split at h
 ·rename_i t ht
  simp only[zBa] at h
  simpa using h.2
 ·cases h
def SE (k i op:Nat) (e:Ex) (i' op':Nat):Prop:=op'=op∧∃ ts d,PE e k ts d∧ts.length+i≤i'∧d≤100-op
def SX (i op:Nat) (e:Ex) (i' op':Nat):Prop:=op'=op∧∃ ts d,PE e 0 ts d∧ts.length+2+i≤i'∧d+1≤100-op
def SA (i op:Nat) (l:List Ex) (i' op':Nat):Prop:=op'=op∧∃ ts d,PEs l ts d∧ts.length+2+i≤i'∧d+1≤100-op
def SL (i op:Nat) (l:List Ex) (i' op':Nat):Prop:=op'=op∧∃ ts d,PEs l ts d∧ts.length+i≤i'∧d≤100-op
theorem ex_src {T:List Tok} (hT:∀ t∈T,Again t):∀ f:Nat,(∀ k i op,k≤6→Wh (SE k i op) (eLev T f k i op))∧(∀ k e i0 i op ts d,k<6→PE e (leftLv k) ts d→ts.length+i0≤i→d≤100-op→Wh (SE k i0 op) (eLoop T f k e i op)) ∧
  (∀ i op,Wh (SE 6 i op) (eUnary T f i op))∧(∀ i op,Wh (SE 6 i op) (ePrim T f i op))∧(∀ i op,Wh (SX i op) (eIndex T f i op))∧(∀ i op,Wh (SA i op) (eArgs T f i op)) ∧
  (∀ acc i0 i op ts d,PEs acc ts d→ts.length+i0≤i→d≤100-op→Wh (SL i0 op) (eArgsLoop T f acc i op))
 |0=>⟨fun _ _ _ _=>by rw[eLev];exact wh_none,fun _ _ _ _ _ _ _ _ _ _ _=>by rw[eLoop];exact wh_none,fun _ _=>by rw[eUnary];exact wh_none,fun _ _=>by rw[ePrim];exact wh_none,fun _ _=>by rw[eIndex];exact wh_none,fun _ _=>by rw[eArgs];exact wh_none,fun _ _ _ _ _ _ _ _ _=>by rw[eArgsLoop];exact wh_none⟩
 |f+1=>by
  obtain ⟨hL,hO,hU,hP,hI,hA,hB⟩:=ex_src hT f
  refine ⟨fun k i op hk=>?_,fun k e i0 i op ts d hk hP0 hts hd=>?_,fun i op=>?_,fun i op=>?_,fun i op=>?_,fun i op=>?_,fun acc i0 i op ts d hP0 hts hd=>?_⟩
  ·rw[eLev]
   split
   ·rename_i h6
    subst h6
    exact hU i op
   ·refine wh_bind (hL (k+1) i op (by omega)) fun v i' op' h=>?_
    obtain ⟨rfl,ts,d,h1,h2,h3⟩:=h
    obtain ⟨ts',d',g1,g2,g3⟩:=h1.weak (k':=leftLv k) (by unfold leftLv;split <;> omega)
    exact hO k v i i' _ ts' d' (by omega) g1 (by omega) (by omega)
  ·rw[eLoop]
   split
   ·rename_i ht
    refine wh_bind (hL (k+1) (i+1) op (by omega)) fun v i' op' h=>?_
    obtain ⟨rfl,t2,d2,h1,h2,h3⟩:=h
    have hb:PE (.mk (textAt T i) 0 [] [e,v]) k (ts++(4,textAt T i)::t2) (max d d2):=.bin hk (isTok_text ht) (zNr _) hP0 h1
    split
    ·exact wh_ok ⟨rfl,_,_,hb,by simp only[zLa,zLc];omega,by omega⟩
    ·rename_i h22
     refine hO k _ i0 i' _ _ _ hk (by rw[leftLv,if_neg h22];exact hb) (by simp only[zLa,zLc];omega) (by omega)
   ·obtain ⟨ts',d',g1,g2,g3⟩:=hP0.weak (k':=k) (by unfold leftLv;split <;> omega)
    exact wh_ok ⟨rfl,ts',d',g1,by omega,by omega⟩
  ·rw[eUnary]
   split
   ·refine wh_begin fun ho=>wh_bind (hU (i+1) (op+1)) fun v i' op' h=>?_
    obtain ⟨rfl,ts,d,h1,h2,h3⟩:=h
    exact wh_ok ⟨by omega,_,_,.neg h1,by simp only[zLc];omega,by omega⟩
   ·split
    ·refine wh_begin fun ho=>wh_bind (hU (i+1) (op+1)) fun v i' op' h=>?_
     obtain ⟨rfl,ts,d,h1,h2,h3⟩:=h
     exact wh_ok ⟨by omega,_,_,.not h1,by simp only[zLc];omega,by omega⟩
    ·exact hP i op
  ·rw[ePrim]
   split
   ·refine wh_begin fun ho=>wh_bind (hL 0 (i+1) (op+1) (by omega)) fun v i' op' h=>wh_end ?_
    obtain ⟨rfl,ts,d,h1,h2,h3⟩:=h
    obtain ⟨ts',d',g1,g2,g3⟩:=h1.paren
    exact wh_ok ⟨by omega,ts',d',g1,by omega,by omega⟩
   ·split
    ·exact wh_number fun n hn=>wh_ok ⟨rfl,_,_,.num hn,by simp only[zLc,zLn];omega,by omega⟩
    ·refine wh_name hT fun s hs=>?_
     split
     ·refine wh_bind (hI (i+1) op) fun v i' op' h=>?_
      obtain ⟨rfl,ts,d,h1,h2,h3⟩:=h
      exact wh_ok ⟨rfl,_,_,.elem hs h1,by simp only[zLc,zLa,zLn];omega,by omega⟩
     ·split
      ·refine wh_bind (hA (i+1) op) fun v i' op' h=>?_
       obtain ⟨rfl,ts,d,h1,h2,h3⟩:=h
       exact wh_ok ⟨rfl,_,_,.call hs h1,by simp only[zLc,zLa,zLn];omega,by omega⟩
      ·exact wh_ok ⟨rfl,_,_,.var hs,by simp only[zLc,zLn];omega,by omega⟩
  ·rw[eIndex]
   refine wh_begin fun ho=>wh_bind (hL 0 (i+1) (op+1) (by omega)) fun v i' op' h=>wh_end ?_
   obtain ⟨rfl,ts,d,h1,h2,h3⟩:=h
   exact wh_ok ⟨by omega,ts,d,h1,by omega,by omega⟩
  ·rw[eArgs]
   refine wh_begin fun ho=>wh_bind (hB [] (i+1) (i+1) (op+1) [] 0 .nil (by simp) (by omega)) fun v i' op' h=>wh_end ?_
   obtain ⟨rfl,ts,d,h1,h2,h3⟩:=h
   exact wh_ok ⟨by omega,ts,d,h1,by omega,by omega⟩
  ·rw[eArgsLoop]
   split
   ·exact wh_ok ⟨rfl,ts,d,hP0,by omega,by omega⟩
   ·refine wh_any fun _ i1 op1 h1=>?_
    have hi:i1=i+(if acc=[] then 0 else 1)∧op1=op:=by
     injection h1 with h1
     split at h1
     ·rename_i ha
      cases h1
      rw[if_pos ha]
      exact ⟨rfl,rfl⟩
     ·rename_i ha
      rw[if_neg ha]
      exact nd_need (congrArg some h1)
    obtain ⟨rfl,rfl⟩:=hi
    refine wh_bind (hL 0 _ op1 (by omega)) fun v i' op' h=>?_
    obtain ⟨rfl,t2,d2,h1,h2,h3⟩:=h
    obtain ⟨t,g1,g2⟩:=hP0.snoc h1
    exact hB _ i0 i' _ t _ g1 (by omega) (by omega)
/-! ### Statements -/
mutual
inductive PS:Sm→List KT→Nat→Prop
 |assign {s:List UInt8} {e:Ex} {ts:List KT} {d:Nat} (h:NameOk s) (he:PE e 0 ts d):PS (.mk 1 s [] [e] [] []) ((2,s)::sg 61::(ts++[sg 59])) d
 |store {s:List UInt8} {x e:Ex} {t1 t2:List KT} {d1 d2:Nat} (h:NameOk s) (hx:PE x 0 t1 d1) (he:PE e 0 t2 d2):PS (.mk 2 s [x] [e] [] []) ((2,s)::sg 91::(t1++sg 93::sg 61::(t2++[sg 59]))) (max (d1+1) d2)
 |call {s:List UInt8} {l:List Ex} {ts:List KT} {d:Nat} (h:NameOk s) (hl:PEs l ts d):PS (.mk 6 [] [] [.mk nCall 0 s l] [] []) ((2,s)::sg 40::(ts++[sg 41,sg 59])) (d+1)
 |ret {e:Ex} {ts:List KT} {d:Nat} (he:PE e 0 ts d):PS (.mk 5 [] [] [e] [] []) ((3,kwReturn)::(ts++[sg 59])) d
 |halt:PS (.mk 7 [] [] [] [] []) [(3,kwHalt),sg 59] 0
 |ifElse {e:Ex} {th el:List Sm} {ts t1 t2:List KT} {d d1 d2:Nat} (he:PE e 0 ts d) (h1:PSs th t1 d1) (h2:PSs el t2 d2) (hne:el≠[]) :
   PS (.mk 3 [] [] [e] th el) ((3,kwIf)::(ts++sg 123::(t1++sg 125::(3,kwElse)::sg 123::(t2++[sg 125])))) (max d (max (d1+1) (d2+1)))
 |ifThen {e:Ex} {th:List Sm} {ts t1:List KT} {d d1:Nat} (he:PE e 0 ts d) (h1:PSs th t1 d1):PS (.mk 3 [] [] [e] th []) ((3,kwIf)::(ts++sg 123::(t1++[sg 125]))) (max d (d1+1))
 |while {e:Ex} {th:List Sm} {ts t1:List KT} {d d1:Nat} (he:PE e 0 ts d) (h1:PSs th t1 d1):PS (.mk 4 [] [] [e] th []) ((3,kwWhile)::(ts++sg 123::(t1++[sg 125]))) (max d (d1+1))
inductive PSs:List Sm→List KT→Nat→Prop
 |nil:PSs [] [] 0
 |cons {s:Sm} {l:List Sm} {t1 t2:List KT} {d1 d2:Nat} (h:PS s t1 d1) (hl:PSs l t2 d2):PSs (s::l) (t1++t2) (max d1 d2)
end
theorem PSs.snoc:∀ {l:List Sm} {a:Sm} {t0 t1:List KT} {d0 d1:Nat},PSs l t0 d0→PS a t1 d1→PSs (l++[a]) (t0++t1) (max d0 d1):=by
 intro l
 induction l with
 |nil=>
  intro a t0 t1 d0 d1 h h1
  cases h with
  |nil=>
   have:=PSs.cons h1 .nil
   rw[zLz,Nat.max_zero] at this
   rw[Nat.zero_max]
   exact this
 |cons b l ih=>
  intro a t0 t1 d0 d1 h h1
  cases h with
  |cons hb hl=>
   rw[zAs,Nat.max_assoc]
   exact .cons hb (ih hl h1)
def SS (i op:Nat) (s:Sm) (i' op':Nat):Prop:=op'=op∧∃ ts d,PS s ts d∧ts.length+i≤i'∧d≤100-op
def SM (i op:Nat) (s:Sm) (i' op':Nat):Prop:=op'=op∧∃ ts d,PS s ts d∧ts.length+i≤i'+1∧d≤100-op
def SSs (i op:Nat) (s:List Sm) (i' op':Nat):Prop:=op'=op∧∃ ts d,PSs s ts d∧ts.length+i≤i'∧d≤100-op
def SB (i op:Nat) (s:List Sm) (i' op':Nat):Prop:=op'=op∧∃ ts d,PSs s ts d∧ts.length+2+i≤i'∧d+1≤100-op
theorem st_src {T:List Tok} (hT:∀ t∈T,Again t):∀ f:Nat,(∀ i op,Wh (SB i op) (sBlock T f i op))∧(∀ acc i0 i op ts d,PSs acc ts d→ts.length+i0≤i→d≤100-op→Wh (SSs i0 op) (sStmts T f acc i op)) ∧
  (∀ i op,Wh (SS i op) (sStmt T f i op))∧(∀ i op,Wh (SM i op) (sSimple T f i op))
 |0=>⟨fun _ _=>by rw[sBlock];exact wh_none,fun _ _ _ _ _ _ _ _ _=>by rw[sStmts];exact wh_none,fun _ _=>by rw[sStmt];exact wh_none,fun _ _=>by rw[sSimple];exact wh_none⟩
 |f+1=>by
  obtain ⟨hB,hL,hS,hM⟩:=st_src hT f
  obtain ⟨eL,_,_,_,eI,eA,_⟩:=ex_src hT f
  refine ⟨fun i op=>?_,fun acc i0 i op ts d hP0 hts hd=>?_,fun i op=>?_,fun i op=>?_⟩
  ·rw[sBlock]
   refine wh_begin fun ho=>wh_bind (hL [] (i+1) (i+1) (op+1) [] 0 .nil (by simp) (by omega)) fun v i' op' h=>wh_end ?_
   obtain ⟨rfl,ts,d,h1,h2,h3⟩:=h
   exact wh_ok ⟨by omega,ts,d,h1,by omega,by omega⟩
  ·rw[sStmts]
   split
   ·exact wh_ok ⟨rfl,ts,d,hP0,hts,hd⟩
   ·refine wh_bind (hS i op) fun v i' op' h=>?_
    obtain ⟨rfl,t2,d2,h1,h2,h3⟩:=h
    exact hL _ i0 i' _ _ _ (hP0.snoc h1) (by simp only[zLa];omega) (by omega)
  ·rw[sStmt]
   split
   ·refine wh_bind (eL 0 (i+1) op (by omega)) fun v i1 op1 h=>?_
    obtain ⟨rfl,t1,d1,g1,g2,g3⟩:=h
    refine wh_bind (hB i1 _) fun th i2 op2 h=>?_
    obtain ⟨rfl,t2,d2,k1,k2,k3⟩:=h
    split
    ·refine wh_bind (hB (i2+1) _) fun el i3 op3 h=>?_
     obtain ⟨rfl,t3,d3,l1,l2,l3⟩:=h
     by_cases hne:el=[]
     ·subst hne
      exact wh_ok ⟨rfl,_,_,.ifThen g1 k1,by simp only[zLc,zLa,zLn];omega,by omega⟩
     ·exact wh_ok ⟨rfl,_,_,.ifElse g1 k1 l1 hne,by simp only[zLc,zLa,zLn];omega,by omega⟩
    ·exact wh_ok ⟨rfl,_,_,.ifThen g1 k1,by simp only[zLc,zLa,zLn];omega,by omega⟩
   ·split
    ·refine wh_bind (eL 0 (i+1) op (by omega)) fun v i1 op1 h=>?_
     obtain ⟨rfl,t1,d1,g1,g2,g3⟩:=h
     refine wh_bind (hB i1 _) fun th i2 op2 h=>?_
     obtain ⟨rfl,t2,d2,k1,k2,k3⟩:=h
     exact wh_ok ⟨rfl,_,_,.while g1 k1,by simp only[zLc,zLa,zLn];omega,by omega⟩
    ·refine wh_bind (hM i op) fun v i1 op1 h=>wh_need ?_
     obtain ⟨rfl,t1,d1,g1,g2,g3⟩:=h
     exact wh_ok ⟨rfl,_,_,g1,by omega,by omega⟩
  ·rw[sSimple]
   split
   ·refine wh_bind (eL 0 (i+1) op (by omega)) fun v i1 op1 h=>?_
    obtain ⟨rfl,t1,d1,g1,g2,g3⟩:=h
    exact wh_ok ⟨rfl,_,_,.ret g1,by simp only[zLc,zLa,zLn];omega,by omega⟩
   ·split
    ·exact wh_ok ⟨rfl,_,_,.halt,by simp only[zLc,zLa,zLn];omega,by omega⟩
    ·refine wh_name hT fun s hs=>?_
     split
     ·refine wh_bind (eA (i+1) op) fun v i1 op1 h=>?_
      obtain ⟨rfl,t1,d1,g1,g2,g3⟩:=h
      exact wh_ok ⟨rfl,_,_,.call hs g1,by simp only[zLc,zLa,zLn];omega,by omega⟩
     ·split
      ·refine wh_bind (eI (i+1) op) fun v i1 op1 h=>wh_need ?_
       obtain ⟨rfl,t1,d1,g1,g2,g3⟩:=h
       refine wh_bind (eL 0 (i1+1) _ (by omega)) fun e i2 op2 h=>?_
       obtain ⟨rfl,t2,d2,k1,k2,k3⟩:=h
       exact wh_ok ⟨rfl,_,_,.store hs g1 k1,by simp only[zLc,zLa,zLn];omega,by omega⟩
      ·refine wh_need (wh_bind (eL 0 (i+1+1) op (by omega)) fun e i2 op2 h=>?_)
       obtain ⟨rfl,t2,d2,k1,k2,k3⟩:=h
       exact wh_ok ⟨rfl,_,_,.assign hs k1,by simp only[zLc,zLa,zLn];omega,by omega⟩
/-! ### Declarations -/
def commas:List (List UInt8)→List KT
 |[]=>[]
 |[a]=>[(2,a)]
 |a::b::l=>(2,a)::sg 44::commas (b::l)
theorem commas_len:∀ l:List (List UInt8),(commas l).length=2 * l.length-1
 |[]=>rfl
 |[a]=>rfl
 |a::b::l=>by
  rw[commas,zLc,zLc,commas_len (b::l)]
  simp only[zLc]
  omega
def varK (l:List (List UInt8)):List KT:=if l=[] then [] else (3,kwVar)::(commas l++[sg 59])
theorem varK_len (l:List (List UInt8)):(varK l).length=if l=[] then 0 else 2 * l.length+1:=by
 unfold varK
 split
 ·rfl
 ·rename_i h
  have:0<l.length:=List.length_pos_iff.2 h
  simp only[zLc,zLa,commas_len,zLn]
  omega
def AllOk (l:List (List UInt8)):Prop:=∀ x∈l,NameOk x
theorem AllOk.app {a b:List (List UInt8)} (ha:AllOk a) (hb:AllOk b):AllOk (a++b):=fun x hx=>by
 rcases List.mem_append.1 hx with h|h
 ·exact ha x h
 ·exact hb x h
inductive PF:FnD→List KT→Nat→Prop
 |mk {nm:List UInt8} {ps ls:List (List UInt8)} {b:List Sm} {ts:List KT} {d:Nat} (h:NameOk nm) (hp:AllOk ps) (hl:AllOk ls) (hb:PSs b ts d) :
   PF ⟨nm,ps,ls,b⟩ ((3,kwFunc)::(2,nm)::sg 40::(commas ps++sg 41::sg 123::(varK ls++(ts++[sg 125])))) (d+1)
inductive PFs:List FnD→List KT→Prop
 |nil:PFs [] []
 |cons {f:FnD} {l:List FnD} {t1 t2:List KT} {d:Nat} (h:PF f t1 d) (hd:d≤100) (hl:PFs l t2):PFs (f::l) (t1++t2)
def arK (a:Ar):List KT:=[(3,kwArray),(2,a.name),sg 91,(1,Go.Lib.decDigits a.size),sg 93,sg 59]
def ArsOk (l:List Ar):Prop:=∀ a∈l,NameOk a.name∧a.size<4294967296
inductive PP:Pr→List KT→Prop
 |mk {v:List (List UInt8)} {a:List Ar} {f:List FnD} {ts:List KT} (hv:AllOk v) (ha:ArsOk a) (hf:PFs f ts):PP ⟨v,a,f⟩ (varK v++((a.map arK).flatten++ts))
theorem PFs.snoc:∀ {l:List FnD} {a:FnD} {t0 t1:List KT} {d:Nat},PFs l t0→PF a t1 d→d≤100→PFs (l++[a]) (t0++t1):=by
 intro l
 induction l with
 |nil=>
  intro a t0 t1 d h h1 hd
  cases h with
  |nil=>
   have:=PFs.cons h1 hd .nil
   rw[zLz] at this
   exact this
 |cons b l ih=>
  intro a t0 t1 d h h1 hd
  cases h with
  |cons hb hd' hl=>
   rw[zAs]
   exact .cons hb hd' (ih hl h1 hd)
theorem namesLoop_src {T:List Tok} (hT:∀ t∈T,Again t):∀ (f:Nat) (acc:List (List UInt8)) (i op:Nat),AllOk acc→Wh (fun l i' op'=>op'=op∧AllOk l∧acc.length≤l.length∧2 * l.length+i≤2 * acc.length+i') (sNamesLoop T f acc i op)
 |0,_,_,_,_=>by rw[sNamesLoop];exact wh_none
 |f+1,acc,i,op,ha=>by
  rw[sNamesLoop]
  split
  ·refine wh_name hT fun s hs=>wh_mono (namesLoop_src hT f (acc++[s]) (i+1+1) op (ha.app fun x hx=>by cases List.mem_singleton.1 hx;exact hs)) fun l i' op' h=>?_
   obtain ⟨rfl,h1,h2,h3⟩:=h
   rw[zLa,List.length_singleton] at h2 h3
   exact ⟨rfl,h1,by omega,by omega⟩
  ·exact wh_ok ⟨rfl,ha,zNr _,by omega⟩
theorem names_src {T:List Tok} (hT:∀ t∈T,Again t) (f i op:Nat):Wh (fun l i' op'=>op'=op∧AllOk l∧0<l.length∧2 * l.length+i≤1+i') (sNames T f i op):=
 wh_name hT fun s hs=>wh_mono (namesLoop_src hT f [s] (i+1) op fun x hx=>by cases List.mem_singleton.1 hx;exact hs) fun l i' op' h=>by
  obtain ⟨rfl,h1,h2,h3⟩:=h
  rw[List.length_singleton] at h2 h3
  exact ⟨rfl,h1,by omega,by omega⟩
theorem vars_src {T:List Tok} (hT:∀ t∈T,Again t):∀ (f:Nat) (acc:List (List UInt8)) (i op:Nat),AllOk acc→Wh (fun l i' op'=>op'=op∧AllOk l∧acc.length≤l.length∧(if acc.length=l.length then i≤i' else 2 * l.length+1+i≤2 * acc.length+i')) (sVars T f acc i op)
 |0,_,_,_,_=>by rw[sVars];exact wh_none
 |f+1,acc,i,op,ha=>by
  rw[sVars]
  split
  ·refine wh_bind (names_src hT f (i+1) op) fun l i1 op1 h=>wh_need ?_
   obtain ⟨rfl,h1,h2,h3⟩:=h
   refine wh_mono (vars_src hT f (acc++l) (i1+1) _ (ha.app h1)) fun l2 i' op' h=>?_
   obtain ⟨rfl,g1,g2,g3⟩:=h
   rw[zLa] at g2 g3
   refine ⟨rfl,g1,by omega,?_⟩
   rw[if_neg (by omega)]
   split at g3 <;> omega
  ·exact wh_ok ⟨rfl,ha,zNr _,by rw[if_pos rfl];omega⟩
theorem func_src {T:List Tok} (hT:∀ t∈T,Again t) (f i:Nat):Wh (fun a i' op'=>op'=0∧∃ ts d,PF a ts d∧d≤100∧ts.length+i≤i'+1) (sFunc T f i 0):=by
 unfold sFunc
 refine wh_name hT fun nm hnm=>wh_begin fun _=>wh_bind (P:=fun ps i' op'=>op'=1∧AllOk ps∧2 * ps.length-1+(i+1+1)≤i') ?_ fun ps i1 op1 h=>wh_end (wh_begin fun _=>?_)
 ·split
  ·exact wh_ok ⟨rfl,(fun x hx=>by cases hx),by simp⟩
  ·exact wh_mono (names_src hT f _ _) fun l i' op' h=>⟨h.1,h.2.1,by omega⟩
 obtain ⟨rfl,h1,h2⟩:=h
 refine wh_bind (vars_src hT f [] _ _ fun x hx=>by cases hx) fun ls i2 op2 h=>?_
 obtain ⟨rfl,g1,_,g3⟩:=h
 refine wh_bind ((st_src hT f).2.1 [] i2 i2 _ [] 0 .nil (by simp) (by omega)) fun b i3 op3 h=>wh_end ?_
 obtain ⟨rfl,ts,d,k1,k2,k3⟩:=h
 refine wh_ok ⟨by omega,_,_,.mk hnm h1 g1 k1,by omega,?_⟩
 simp only[zLc,zLa,zLn,commas_len,varK_len] at g3 ⊢
 by_cases hl:ls=[]
 ·subst hl
  simp only[zLn,if_pos] at g3 ⊢
  omega
 ·have:¬ 0=ls.length:=fun h=>hl (List.eq_nil_of_length_eq_zero h.symm)
  rw[if_neg this] at g3
  rw[if_neg hl]
  omega
theorem array_src {T:List Tok} (hT:∀ t∈T,Again t) (i:Nat):Wh (fun a i' op'=>op'=0∧NameOk a.name∧a.size<4294967296∧5+i≤i') (sArray T i 0):=by
 unfold sArray
 exact wh_name hT fun nm hnm=>wh_begin fun _=>wh_number fun n hn=>wh_end (wh_need (wh_ok ⟨rfl,hnm,hn,by omega⟩))
def ntK (v:Nat) (a:Nat) (t:Nat):Nat:=(if v=0 then 0 else 2 * v+1)+6 * a+t
theorem prog_src {T:List Tok} (hT:∀ t∈T,Again t):∀ (f:Nat) (v:List (List UInt8)) (a:List Ar) (fs:List FnD) (ts:List KT) (i:Nat),AllOk v→ArsOk a→PFs fs ts→ntK v.length a.length ts.length≤i→i≤T.length →
  Wh (fun q _ _=>∃ v' a' f' t',q=⟨v',a',f'⟩∧AllOk v'∧ArsOk a'∧PFs f' t'∧ntK v'.length a'.length t'.length≤T.length) (sProg T f ⟨v,a,fs⟩ i 0)
 |0,_,_,_,_,_,_,_,_,_,_=>by rw[sProg];exact wh_none
 |f+1,v,a,fs,ts,i,hv,ha,hf,hi,hT'=>by
  rw[sProg]
  split
  ·exact wh_ok ⟨_,_,_,_,rfl,hv,ha,hf,by omega⟩
  rename_i hlt
  split
  ·rename_i hw
   refine wh_any fun l i1 op1 h1=>?_
   have hg:=(sVars_good T f [] i 0 _ h1).2.2.1 hT'
   obtain ⟨rfl,g1,_,g3⟩:=vars_src hT f [] i 0 (fun x hx=>by cases hx) _ _ _ h1
   refine prog_src hT f (v++l) a fs ts i1 (hv.app g1) ha hf ?_ hg
   rw[zLa]
   simp only[zLn] at g3
   unfold ntK at hi ⊢
   split at g3
   ·rename_i h0
    rw[←h0,Nat.add_zero]
    omega
   ·rw[if_neg (by omega)]
    split at hi <;> omega
  ·split
   ·refine wh_any fun l i1 op1 h1=>?_
    have hg:=(sArray_good T (i+1) 0 _ h1).2.2.1 (by omega)
    obtain ⟨rfl,g1,g2,g3⟩:=array_src hT (i+1) _ _ _ h1
    refine prog_src hT f v (a++[l]) fs ts i1 hv (fun x hx=>?_) hf ?_ hg
    ·rcases List.mem_append.1 hx with h|h
     ·exact ha x h
     ·cases List.mem_singleton.1 h;exact ⟨g1,g2⟩
    ·rw[zLa,List.length_singleton]
     unfold ntK at hi ⊢
     omega
   ·split
    ·refine wh_any fun l i1 op1 h1=>?_
     have hg:=(sFunc_good T f (i+1) 0 _ h1).2.2.1 (by omega)
     obtain ⟨rfl,t1,d,g1,g2,g3⟩:=func_src hT f (i+1) _ _ _ h1
     refine prog_src hT f v a (fs++[l]) (ts++t1) i1 hv ha (hf.snoc g1 g2) ?_ hg
     rw[zLa]
     unfold ntK at hi ⊢
     omega
    ·exact fun _ _ _ e=>by cases e
theorem arK_len:∀ a:List Ar,((a.map arK).flatten).length=6 * a.length
 |[]=>rfl
 |a::l=>by
  rw[zMc,List.flatten_cons,zLa,arK_len l,zLc]
  simp only[arK,zLc,zLn]
  omega
theorem src_print {T:List Tok} (hT:∀ t∈T,Again t) {f i op:Nat} {p:Pr} (h:sProg T f ⟨[],[],[]⟩ 0 0=some (.ok p i op)):∃ ts,PP p ts∧ts.length≤T.length:=by
 obtain ⟨v,a,fs,t,rfl,h1,h2,h3,h4⟩:=prog_src hT f [] [] [] [] 0 (fun x hx=>by cases hx) (fun x hx=>by cases hx) .nil (by simp[ntK]) (Nat.zero_le _) _ _ _ h
 refine ⟨_,.mk h1 h2 h3,?_⟩
 simp only[zLa,varK_len,arK_len]
 unfold ntK at h4
 by_cases hv:v=[]
 ·subst hv
  simp only[zLn,if_pos] at h4 ⊢
  omega
 ·have:¬ v.length=0:=fun h=>hv (List.eq_nil_of_length_eq_zero h)
  rw[if_neg this] at h4
  rw[if_neg hv]
  omega
end Go.Stele
namespace Go.Stele
open Go.Lib
def parseQ (s:List UInt8):Pr×Int:=match lexAt s 1 with
 |.error (l,e)=>(⟨[],[],[]⟩,e)
 |.ok T=>match sProg T (10 * T.length+20) ⟨[],[],[]⟩ 0 0 with
  |some (.ok p _ _)=>(p,0)
  |some (.err l e)=>(⟨[],[],[]⟩,e)
  |none=>(⟨[],[],[]⟩,0)
/-! ### Limits -/
/-! ### Input -/
/-! ### The given sources -/
/-! ### Unused declarations -/
theorem commas_ge (l:List (List UInt8)):l.length≤(commas l).length:=by rw[commas_len];omega
theorem varK_ge (l:List (List UInt8)):l.length≤(varK l).length:=by 
 rw[varK_len]
 by_cases h:l=[]
 ·rw[h];exact Nat.zero_le _
 ·rw[if_neg h];omega
end Go.Stele
namespace Go.Stele
theorem stair_max:∀ (ns:List Nat) (i a b:Nat),stair i ns (max a b)=max (stair i ns a) b
 |[],i,a,b=>rfl
 |n::l,i,a,b=>by
  rw[stair,stair,Nat.max_right_comm]
  exact stair_max l (i+1) _ b
def Dist (fs:List FSum):Prop:=(fs.map (·.name)).Nodup∧[105,110] ∉ fs.map (·.name)∧[111,117,116] ∉ fs.map (·.name)
def overF (g:FSum→Nat) (name:Nm) (fs:List FSum) (m:Nat):Nat:=fs.foldl (fun m f=>if f.name=name then max m (g f) else m) m
theorem overF_none (g:FSum→Nat) (name:Nm):∀ (fs:List FSum) (m:Nat),name ∉ fs.map (·.name)→overF g name fs m=m
 |[],m,_=>rfl
 |f::l,m,h=>by
  unfold overF
  rw[List.foldl_cons,if_neg fun e=>h (by rw[zMc,e];exact List.mem_cons_self ..)]
  exact overF_none g name l m fun hm=>h (zMo _ hm)
theorem overF_find (g:FSum→Nat) (name:Nm):∀ (fs:List FSum) (m:Nat),(fs.map (·.name)).Nodup→overF g name fs m=match fs.find? fun f=>decide (f.name=name) with
  |some f=>max m (g f)
  |none=>m
 |[],m,_=>rfl
 |f::l,m,h=>by
  rw[zMc,List.nodup_cons] at h
  rw[List.find?_cons]
  by_cases hf:f.name=name
  ·rw[decide_eq_true hf]
   show overF g name (f::l) m=max m (g f)
   unfold overF
   rw[List.foldl_cons,if_pos hf]
   exact overF_none g name l _ (hf▸h.1)
  ·rw[decide_eq_false hf]
   simp only
   rw[←overF_find g name l m h.2]
   unfold overF
   rw[List.foldl_cons,if_neg hf]
def refCall (c:CEnv) (name:Nm) (ns:List Nat):Nat:=
 if name=[105,110] then 1 else if name=[111,117,116] then ns.headD 0 else overF (·.need) name c.funcs (stair 0 ns (ns.length+1))
theorem refCall_eq {c:CEnv} (hd:Dist c.funcs) {name:Nm} {ns:List Nat} (h:callE c name ns.length=0):refCall c name ns=callN c name ns:=by
 unfold refCall callN
 by_cases h1:name=[105,110]
 ·rw[if_pos h1,if_pos h1]
 rw[if_neg h1,if_neg h1]
 by_cases h2:name=[111,117,116]
 ·rw[if_pos h2,if_pos h2]
 rw[if_neg h2,if_neg h2]
 unfold callE at h
 rw[if_neg h1,if_neg h2] at h
 rw[overF_find _ _ _ _ hd.1]
 unfold CEnv.fn at h ⊢
 cases hf:c.funcs.find? fun f=>decide (f.name=name) with
 |none=>
  rw[hf] at h
  simp only at h
  split at h <;> cases h
 |some f=>
  rw[hf] at h
  simp only at h ⊢
  split at h
  ·rename_i he
   rw[stair_max,he]
  ·cases h
def refN (c:CEnv) (op name:Nm) (ns:List Nat):Nat:=if op=nCall then refCall c name ns else opN c op name ns
mutual
def refE (c:CEnv):Ex→Nat
 |.mk op num name args=>refN c op name (refEs c args)
def refEs (c:CEnv):List Ex→List Nat
 |[]=>[]
 |x::l=>refE c x::refEs c l
end
theorem needEs_len (c:CEnv):∀ l:List Ex,(needEs c l).length=l.length
 |[]=>by rw[needEs];try rfl
 |x::l=>by rw[needEs,zLc,zLc,needEs_len c l]
mutual
theorem refE_eq {c:CEnv} (hd:Dist c.funcs):∀ x:Ex,errE c x=0→refE c x=needE c x
 |.mk op num name args,h=>by
  rw[errE] at h
  split at h
  ·have h1:=orE_zero.1 h
   rw[refE,needE,refEs_eq hd args h1.1]
   unfold refN
   by_cases hc:op=nCall
   ·subst hc
    have h2:callE c name args.length=0:=h1.2
    rw[if_pos rfl,refCall_eq hd (by rw[needEs_len];exact h2)]
    try rfl
   ·rw[if_neg hc]
  ·cases h
theorem refEs_eq {c:CEnv} (hd:Dist c.funcs):∀ l:List Ex,errEs c l=0→refEs c l=needEs c l
 |[],_=>by rw[refEs,needEs]
 |x::l,h=>by
  rw[errEs] at h
  have h1:=orE_zero.1 h
  rw[refEs,needEs,refE_eq hd x h1.1,refEs_eq hd l h1.2]
end
/-! ### Depths -/
mutual
def callsE:Ex→List Nm
 |.mk op num name args=>(if op=nCall then [name] else [])++callsEs args
def callsEs:List Ex→List Nm
 |[]=>[]
 |x::l=>callsE x++callsEs l
end
mutual
def callsS:Sm→List Nm
 |.mk kind name index value thn els=>callsEs (value++index)++callsSs thn++callsSs els
def callsSs:List Sm→List Nm
 |[]=>[]
 |x::l=>callsS x++callsSs l
end
def overN (c:CEnv) (names:List Nm) (d:Nat):Nat:=names.foldl (fun d name=>overF (fun f=>1+f.depth) name c.funcs d) d
theorem overN_app (c:CEnv) (a b:List Nm) (d:Nat):overN c (a++b) d=overN c b (overN c a d):=by
 unfold overN
 rw[List.foldl_append]
theorem overF_call {c:CEnv} (hd:Dist c.funcs) (name:Nm) (d:Nat):overF (fun f=>1+f.depth) name c.funcs d=max d (callD c nCall name):=by
 rw[overF_find _ _ _ _ hd.1]
 unfold callD
 by_cases h1:name=[105,110]∨name=[111,117,116]
 ·have hn:name ∉ c.funcs.map (·.name):=by
   rcases h1 with rfl|rfl
   ·exact hd.2.1
   ·exact hd.2.2
  have hf:(c.funcs.find? fun f=>decide (f.name=name))=none:=by
   rw[List.find?_eq_none]
   intro f hf he
   exact hn (List.mem_map.2 ⟨f,hf,of_decide_eq_true he⟩)
  rw[hf,if_neg (by rcases h1 with h|h <;> simp[h])]
  exact (Nat.max_zero d).symm
 ·rw[not_or] at h1
  rw[if_pos ⟨rfl,h1.1,h1.2⟩]
  unfold CEnv.fn
  cases c.funcs.find? fun f=>decide (f.name=name) with
  |none=>exact (Nat.max_zero d).symm
  |some f=>simp only[Nat.add_comm]
mutual
theorem overE {c:CEnv} (hd:Dist c.funcs):∀ (x:Ex) (d:Nat),overN c (callsE x) d=max d (depE c x)
 |.mk op num name args,d=>by
  rw[callsE,depE,overN_app,overEs hd args]
  by_cases hc:op=nCall
  ·subst hc
   rw[if_pos rfl]
   show max (overF (fun f=>1+f.depth) name c.funcs d) _=_
   rw[overF_call hd,Nat.max_assoc,Nat.max_comm (callD c nCall name)]
  ·rw[if_neg hc]
   have:callD c op name=0:=by unfold callD;rw[if_neg fun h=>hc h.1]
   rw[this,Nat.max_zero]
   try rfl
theorem overEs {c:CEnv} (hd:Dist c.funcs):∀ (l:List Ex) (d:Nat),overN c (callsEs l) d=max d (depEs c l)
 |[],d=>by rw[callsEs,depEs];exact (Nat.max_zero d).symm
 |x::l,d=>by rw[callsEs,depEs,overN_app,overE hd x,overEs hd l,Nat.max_assoc]
end
theorem depEs_app (c:CEnv):∀ a b:List Ex,depEs c (a++b)=max (depEs c a) (depEs c b)
 |[],b=>by rw[List.nil_append,depEs,Nat.zero_max]
 |x::a,b=>by rw[List.cons_append,depEs,depEs,depEs_app c a b,Nat.max_assoc]
theorem errEs_app (c:CEnv):∀ a b:List Ex,errEs c (a++b)=orE (errEs c a) (errEs c b)
 |[],b=>by rw[List.nil_append,errEs];try rfl
 |x::a,b=>by
  rw[List.cons_append,errEs,errEs,errEs_app c a b]
  unfold orE
  by_cases h:errE c x=0
  ·rw[h];try rfl
  ·rw[if_pos h,if_pos h,if_pos h]
mutual
theorem overS {c:CEnv} (hd:Dist c.funcs):∀ (x:Sm) (d:Nat),overN c (callsS x) d=max d (depS c x)
 |.mk kind name index value thn els,d=>by
  rw[callsS,depS,overN_app,overN_app,overEs hd,overSs hd thn,overSs hd els,depEs_app]
  simp only[Nat.max_assoc]
theorem overSs {c:CEnv} (hd:Dist c.funcs):∀ (l:List Sm) (d:Nat),overN c (callsSs l) d=max d (depSs c l)
 |[],d=>by rw[callsSs,depSs];exact (Nat.max_zero d).symm
 |x::l,d=>by rw[callsSs,depSs,overN_app,overS hd x,overSs hd l,Nat.max_assoc]
end
end Go.Stele
namespace Go.Stele
def lastN (l:List Nat):Nat:=l.getLast?.getD 0
mutual
def refS (c:CEnv):Sm→Nat
 |.mk kind name index value thn els=>
  if kind=1∨kind=6 then max 2 (lastN (refEs c value))
  else if kind=2 then max (lastN (refEs c value)) (2+lastN (refEs c index))
  else if kind=3∨kind=4 then max (max (max 2 (lastN (refEs c value))) (refSs c thn)) (refSs c els)
  else if kind=5 then lastN (refEs c value)
  else 0
def refSs (c:CEnv):List Sm→Nat
 |[]=>0
 |s::l=>max (refS c s) (refSs c l)
end
theorem lastN_one {c:CEnv} (hd:Dist c.funcs) {l:List Ex} (hl:l.length=1) (h:errEs c l=0):lastN (refEs c l)=needE c (l.headD default):=by
 match l,hl with
 |[x],_=>
  rw[errEs] at h
  rw[refEs,refEs,refE_eq hd x (orE_zero.1 h).1]
  try rfl
mutual
theorem refS_eq {c:CEnv} (hd:Dist c.funcs):∀ s:Sm,errS c s=0→refS c s=needS c s
 |.mk kind name index value thn els,h=>by
  rw[errS] at h
  split at h
  ·cases h
  rename_i hform
  rw[Bool.not_eq_false] at hform
  obtain ⟨h1,h⟩:=orE_zero.1 h
  obtain ⟨h2,h⟩:=orE_zero.1 h
  obtain ⟨_,h⟩:=orE_zero.1 h
  obtain ⟨h3,h4⟩:=orE_zero.1 h
  have e3:=refSs_eq hd thn h3
  have e4:=refSs_eq hd els h4
  unfold formS at hform
  rw[refS,needS,e3,e4]
  by_cases k1:kind=1
  ·subst k1
   simp at hform
   obtain ⟨_,_,f2,f3,f4⟩:=hform
   have e1:=lastN_one hd f2 h1
   rw[f3,f4,e1]
   simp[needSs]
  by_cases k2:kind=2
  ·subst k2
   simp at hform
   obtain ⟨_,f1,f2,f3,f4⟩:=hform
   rw[lastN_one hd f2 h1,lastN_one hd f1 h2]
   simp
  by_cases k3:kind=3
  ·subst k3
   simp at hform
   obtain ⟨_,_,f2⟩:=hform
   rw[lastN_one hd f2 h1]
   simp[Nat.max_assoc]
  by_cases k4:kind=4
  ·subst k4
   simp at hform
   obtain ⟨_,_,f2,f4⟩:=hform
   rw[lastN_one hd f2 h1]
   simp[Nat.max_assoc]
  by_cases k5:kind=5
  ·subst k5
   simp at hform
   obtain ⟨_,_,f2,f3,f4⟩:=hform
   rw[lastN_one hd f2 h1]
   simp
  by_cases k6:kind=6
  ·subst k6
   simp at hform
   obtain ⟨_,_,f2,f3,f4,_⟩:=hform
   rw[lastN_one hd f2 h1,f3,f4]
   simp[needSs]
  by_cases k7:kind=7
  ·subst k7
   simp
  ·simp[k1,k2,k3,k4,k5,k6,k7] at hform
theorem refSs_eq {c:CEnv} (hd:Dist c.funcs):∀ l:List Sm,errSs c l=0→refSs c l=needSs c l
 |[],_=>by rw[refSs,needSs]
 |s::l,h=>by
  rw[errSs] at h
  have h1:=orE_zero.1 h
  rw[refSs,needSs,refS_eq hd s h1.1,refSs_eq hd l h1.2]
end
/-! ### Functions -/
theorem fresh_zero:∀ (l k:List Nm),freshE k l=0→l.Nodup∧∀ s∈l,s ∉ k∧isNm s=true
 |[],k,_=>⟨List.nodup_nil,fun s hs=>(List.not_mem_nil hs).elim⟩
 |s::l,k,h=>by
  rw[freshE] at h
  split at h
  ·cases h
  rename_i h1
  split at h
  ·cases h
  rename_i h2
  obtain ⟨g1,g2⟩:=fresh_zero l (s::k) h
  refine ⟨List.nodup_cons.2 ⟨fun hm=>(g2 s hm).1 zMs,g1⟩,fun x hx=>?_⟩
  rcases zMi.1 hx with rfl|hx
  ·exact ⟨h2,by simpa using h1⟩
  ·exact ⟨fun hm=>(g2 x hx).1 (zMo _ hm),(g2 x hx).2⟩
def refF (vars arrays later:List Nm) (known:List FSum) (f:FnD):FSum:=⟨f.name,f.params.length,max (max 2 (f.params.length+1)) (refSs (envF vars arrays later known f) f.body),overN (envF vars arrays later known f) (callsSs f.body) 1⟩
def refFs (vars arrays later:List Nm):List FSum→List FnD→List FSum
 |known,[]=>known
 |known,f::l=>refFs vars arrays later (known++[refF vars arrays later known f]) l
theorem refF_eq {vars arrays later:List Nm} {known:List FSum} {f:FnD} (hd:Dist known) (h:errF vars arrays later known f=0):refF vars arrays later known f=sumF vars arrays later known f:=by
 have hd':Dist (envF vars arrays later known f).funcs:=hd
 unfold refF sumF
 rw[refSs_eq hd' f.body (orE_zero.1 h).2,overSs hd']
theorem refFs_eq {vars arrays later:List Nm}:∀ (fs:List FnD) (known:List FSum),Dist (known++fs.map fun f=>⟨f.name,0,0,0⟩)→errFs vars arrays later known fs=0→refFs vars arrays later known fs=sumFs vars arrays later known fs
 |[],known,_,_=>by rw[refFs,sumFs]
 |f::l,known,hd,h=>by
  rw[errFs] at h
  obtain ⟨h1,h2⟩:=orE_zero.1 h
  unfold Dist at hd
  rw[zMa,zMc,zMc] at hd
  have hk:Dist known:=⟨(List.nodup_append.1 hd.1).1,fun g=>hd.2.1 (List.mem_append.2 (.inl g)),fun g=>hd.2.2 (List.mem_append.2 (.inl g))⟩
  rw[refFs,sumFs,refF_eq hk h1]
  refine refFs_eq l _ ?_ h2
  unfold Dist
  rw[zAs,zMa,zMa,zMc,List.map_nil]
  exact hd
theorem dist_of {vars arrays:List Nm} {fs:List FnD} (h:freshE [] (vars++arrays++fs.map (·.name))=0):Dist (fs.map fun f=>(⟨f.name,0,0,0⟩:FSum)):=by
 obtain ⟨h1,h2⟩:=fresh_zero _ _ h
 have e:(fs.map fun f=>(⟨f.name,0,0,0⟩:FSum)).map (·.name)=fs.map (·.name):=by rw[List.map_map];try rfl
 unfold Dist
 rw[e]
 refine ⟨(List.nodup_append.1 h1).2.1,fun g=>?_,fun g=>?_⟩
 ·have:=(h2 _ (List.mem_append.2 (.inr g))).2
  exact absurd this (by decide +kernel)
 ·have:=(h2 _ (List.mem_append.2 (.inr g))).2
  exact absurd this (by decide +kernel)
def refCheck (vars:List Nm) (arrays:List (Nm×Int)) (fs:List FnD):Int:=
 orE (freshE [] (vars++arrays.map (·.1)++fs.map (·.name))) (orE (sizesE 0 (arrays.map (·.2)))
  (orE (errFs vars (arrays.map (·.1)) (fs.map (·.name)) [] fs) (mainE vars fs (refFs vars (arrays.map (·.1)) (fs.map (·.name)) [] fs))))
theorem refCheck_eq (vars:List Nm) (arrays:List (Nm×Int)) (fs:List FnD):refCheck vars arrays fs=checkP vars arrays fs:=by
 unfold refCheck checkP
 by_cases h1:freshE [] (vars++arrays.map (·.1)++fs.map (·.name))=0
 ·by_cases h2:errFs vars (arrays.map (·.1)) (fs.map (·.name)) [] fs=0
  ·rw[refFs_eq fs [] (by rw[List.nil_append];exact dist_of h1) h2]
  ·unfold orE
   rw[if_pos h2,if_pos h2]
 ·unfold orE
  rw[if_pos h1,if_pos h1]
end Go.Stele
namespace Go.Stele
theorem noDot {s:Nm} (h:isNm s=true):(46:UInt8) ∉ s:=by
 unfold isNm at h
 rw[zBa] at h
 have h2:=h.2
 cases s with
 |nil=>exact List.not_mem_nil
 |cons c r=>
  simp only[zBa] at h2
  intro hm
  rcases zMi.1 hm with rfl|hm
  ·exact absurd h2.1 zDd
  ·exact absurd (List.all_eq_true.1 h2.2 46 hm) zDd
theorem split_dot:∀ (a b x y:Nm),(46:UInt8) ∉ a→(46:UInt8) ∉ b→a++46::x=b++46::y→a=b∧x=y
 |[],[],x,y,_,_,h=>by
  injection h with _ h
  exact ⟨rfl,h⟩
 |[],d::b,x,y,_,hb,h=>by
  injection h with h1 _
  exact absurd (h1▸List.mem_cons_self ..) hb
 |c::a,[],x,y,ha,_,h=>by
  injection h with h1 _
  exact absurd (h1▸List.mem_cons_self ..) ha
 |c::a,d::b,x,y,ha,hb,h=>by
  injection h with h1 h2
  obtain ⟨e1,e2⟩:=split_dot a b x y (fun g=>ha (zMo _ g)) (fun g=>hb (zMo _ g)) h2
  exact ⟨by rw[h1,e1],e2⟩
end Go.Stele
namespace Go.Stele
def Lt (v:Nat):Prop:=v<4294967296
mutual
def numE:Ex→Prop
 |.mk op num name args=>Lt num∧numEs args
def numEs:List Ex→Prop
 |[]=>True
 |x::l=>numE x∧numEs l
end
mutual
def numS:Sm→Prop
 |.mk kind name index value thn els=>numEs index∧numEs value∧numSs thn∧numSs els
def numSs:List Sm→Prop
 |[]=>True
 |x::l=>numS x∧numSs l
end
theorem numEs_mem:∀ {l:List Ex} {x:Ex},numEs l→x∈l→numE x
 |a::l,x,h,hx=>by
  rcases zMi.1 hx with rfl|hx
  ·exact h.1
  ·exact numEs_mem h.2 hx
end Go.Stele
namespace Go.Stele
theorem errFs_own {vars arrays later:List Nm}:∀ (fs:List FnD) (known:List FSum),errFs vars arrays later known fs=0→∀ f∈fs,(f.params++f.locals).Nodup∧∀ x∈f.params++f.locals,x ∉ vars++arrays++later
 |[],known,_,f,hf=>(List.not_mem_nil hf).elim
 |g::l,known,h,f,hf=>by
  rw[errFs] at h
  obtain ⟨h1,h2⟩:=orE_zero.1 h
  rcases zMi.1 hf with rfl|hf
  ·obtain ⟨g1,g2⟩:=fresh_zero _ _ (orE_zero.1 h1).1
   exact ⟨g1,fun x hx=>(g2 x hx).1⟩
  ·exact errFs_own l _ h2 f hf
theorem nodup_map {A B:Type} {g:A→B} (hg:∀ x y,g x=g y→x=y):∀ {l:List A},l.Nodup→(l.map g).Nodup
 |[],_=>List.nodup_nil
 |a::l,h=>by
  rw[List.nodup_cons] at h
  rw[zMc,List.nodup_cons]
  refine ⟨fun hm=>?_,nodup_map hg h.2⟩
  obtain ⟨b,hb,he⟩:=List.mem_map.1 hm
  exact h.1 (hg _ _ he▸hb)
theorem own_nodup {fs:List FnD}:(fs.map (·.name)).Nodup→(∀ f∈fs,(46:UInt8) ∉ f.name)→(∀ f∈fs,(f.params++f.locals).Nodup)→((fs.map fun f=>(f.params++f.locals).map fun x=>f.name++[46]++x).flatten).Nodup:=by
 induction fs with
 |nil=>intro _ _ _;exact List.nodup_nil
 |cons f l ih=>
  intro h1 h2 h3
  rw[zMc,List.nodup_cons] at h1
  rw[zMc,List.flatten_cons,List.nodup_append]
  refine ⟨?_,ih h1.2 (fun g hg=>h2 g (zMo _ hg)) (fun g hg=>h3 g (zMo _ hg)),?_⟩
  ·exact nodup_map (fun x y hxy=>List.append_cancel_left hxy) (h3 f zMs)
  ·intro a ha b hb he
   subst he
   obtain ⟨x,_,rfl⟩:=List.mem_map.1 ha
   obtain ⟨L,g1,g2⟩:=List.mem_flatten.1 hb
   obtain ⟨g,g3,rfl⟩:=List.mem_map.1 g1
   obtain ⟨y,_,g5⟩:=List.mem_map.1 g2
   have g6:g.name++46::y=f.name++46::x:=by simpa using g5
   obtain ⟨e1,_⟩:=split_dot _ _ _ _ (h2 g (zMo _ g3)) (h2 f zMs) g6
   exact h1.1 (List.mem_map.2 ⟨g,g3,e1⟩)
theorem scal_nodup {vars arrays:List Nm} {fs:List FnD} (h:freshE [] (vars++arrays++fs.map (·.name))=0) (hf:errFs vars arrays (fs.map (·.name)) [] fs=0):(scalarsP vars fs).Nodup:=by
 obtain ⟨h1,h2⟩:=fresh_zero _ _ h
 have ho:=errFs_own fs [] hf
 unfold scalarsP
 rw[List.nodup_append]
 refine ⟨(List.nodup_append.1 (List.nodup_append.1 h1).1).1,own_nodup (List.nodup_append.1 h1).2.1 (fun f hf=>noDot (h2 _ (List.mem_append.2 (.inr (List.mem_map.2 ⟨f,hf,rfl⟩)))).2) fun f hf=>(ho f hf).1,?_⟩
 intro a ha b hb he
 subst he
 obtain ⟨L,g1,g2⟩:=List.mem_flatten.1 hb
 obtain ⟨g,g3,rfl⟩:=List.mem_map.1 g1
 obtain ⟨y,_,g5⟩:=List.mem_map.1 g2
 have:=noDot (h2 _ (List.mem_append.2 (.inl (List.mem_append.2 (.inl ha))))).2
 rw[←g5] at this
 exact absurd (by simp) this
end Go.Stele
namespace Go.Stele
def Known (fs:List FnD) (known:List FSum):Prop:=∀ k∈known,∃ g∈fs,g.name=k.name∧g.params.length=k.params
theorem body_valid {vars arrays later:List Nm} {all:List FnD}:∀ (fs:List FnD) (known:List FSum),errFs vars arrays later known fs=0→Known all known→(∀ f∈fs,f∈all)→∀ f∈fs,∃ kn,errSs (envF vars arrays later kn f) f.body=0∧Known all kn
 |[],known,_,_,_,f,hf=>(List.not_mem_nil hf).elim
 |g::l,known,h,hk,ha,f,hf=>by
  rw[errFs] at h
  obtain ⟨h1,h2⟩:=orE_zero.1 h
  rcases zMi.1 hf with rfl|hf
  ·exact ⟨known,(orE_zero.1 h1).2,hk⟩
  ·refine body_valid l _ h2 (fun k hk'=>?_) (fun x hx=>ha x (zMo _ hx)) f hf
   rcases List.mem_append.1 hk' with g1|g1
   ·exact hk k g1
   ·rw[List.mem_singleton.1 g1]
    exact ⟨g,ha g zMs,rfl,rfl⟩
theorem sizes_valid:∀ (l:List Int) (t:Int),0≤t→sizesE t l=0→∀ n∈l,0<n∧t+n≤150000
 |[],t,_,_,n,hn=>(List.not_mem_nil hn).elim
 |a::l,t,ht,h,n,hn=>by
  rw[sizesE] at h
  split at h
  ·cases h
  split at h
  ·cases h
  rcases zMi.1 hn with rfl|hn
  ·constructor <;> omega
  ·have:=sizes_valid l (t+a) (by omega) h n hn
   constructor <;> omega
structure Valid (p:Pr):Prop where
 names:freshE [] (p.vars++p.arrays.map (·.name)++p.funcs.map (·.name))=0
 sizes:∀ a∈p.arrays,0<a.size∧a.size≤150000
 own:∀ f∈p.funcs,(f.params++f.locals).Nodup∧∀ x∈f.params++f.locals,x ∉ p.vars++p.arrays.map (·.name)++p.funcs.map (·.name)
 bodies:∀ f∈p.funcs,∃ kn,errSs (envF p.vars (p.arrays.map (·.name)) (p.funcs.map (·.name)) kn f) f.body=0∧Known p.funcs kn
 keys:(scalarsP p.vars p.funcs).Nodup
 main:mainI p∈p.funcs∧(mainI p).name=[109,97,105,110]∧(mainI p).params=[]
 few:(scalarsP p.vars p.funcs).length≤8000
theorem valid_of {p:Pr} (h:checkPr p=0):Valid p:=by
 unfold checkPr checkP at h
 have e1:(p.arrays.map fun a=>(a.name,(a.size:Int))).map (·.1)=p.arrays.map (·.name):=by rw[List.map_map];try rfl
 rw[e1] at h
 obtain ⟨h1,h⟩:=orE_zero.1 h
 obtain ⟨h2,h⟩:=orE_zero.1 h
 obtain ⟨h3,h4⟩:=orE_zero.1 h
 have hm:mainI p∈p.funcs∧(mainI p).name=[109,97,105,110]∧(mainI p).params=[]∧(scalarsP p.vars p.funcs).length≤8000:=by
  unfold mainE at h4
  split at h4
  ·rename_i f m hf hms
   split at h4
   ·rename_i h5
    split at h4
    ·rename_i h6
     have e:mainI p=f:=by unfold mainI;rw[hf];try rfl
     rw[e]
     exact ⟨List.mem_of_getLast? hf,h5.1,h5.2,h6.1⟩
    ·cases h4
   ·cases h4
  ·cases h4
 refine ⟨h1,fun a ha=>?_,errFs_own _ _ h3,body_valid _ _ h3 (fun k hk=>(List.not_mem_nil hk).elim) (fun f hf=>hf),scal_nodup h1 h3,⟨hm.1,hm.2.1,hm.2.2.1⟩,hm.2.2.2⟩
 have:=sizes_valid _ 0 zDd h2 (a.size:Int) (by
  rw[List.map_map]
  exact List.mem_map.2 ⟨a,ha,rfl⟩)
 constructor <;> omega
end Go.Stele
namespace Go.Stele
def Few6 (n:Nat):Prop:=n≤2000000
mutual
def smE:Ex→Prop
 |.mk op num name args=>Few6 args.length∧smEs args
def smEs:List Ex→Prop
 |[]=>True
 |x::l=>smE x∧smEs l
end
mutual
def smS:Sm→Prop
 |.mk kind name index value thn els=>Few6 index.length∧Few6 value.length∧Few6 thn.length∧Few6 els.length∧smEs index∧smEs value∧smSs thn∧smSs els
def smSs:List Sm→Prop
 |[]=>True
 |x::l=>smS x∧smSs l
end
structure SmF (f:FnD):Prop where
 params:Few6 f.params.length
 locals:Few6 f.locals.length
 body:Few6 f.body.length
 stmts:smSs f.body
end Go.Stele
namespace Go.Proofs.YtpbbgkoalnonoaaGreatDoor.Chk
open Go.GL Go.RowKit Go.Stele
def RetAcc (es:List LV) (r:LRes) (H:Heap):Prop:=∃ v,r=.ret v∧GL.Acc 1 v es H []
theorem get_mid {A B:Type} (g:A→B) (pre:List A) (a:A) (l:List A):((pre++a::l).map g)[((pre.length:Nat):Int).toNat]? = some (g a):=by
 rw[Int.toNat_natCast,List.getElem?_map,List.getElem?_append_right (zNr _),Nat.sub_self]
 rfl
theorem hsub_left {H F:Heap}:HSub H (H++F):=⟨F,List.Perm.refl _⟩
theorem str_len (l:List (List UInt8)):∀ v∈l.map str,v.cells.length=1:=fun v hv=>by
 obtain ⟨a,_,rfl⟩:=List.mem_map.1 hv
 rfl
theorem str_ok (l:List (List UInt8)):((l.map str).flatMap LV.cells).all cellOk=true:=by
 induction l with
 |nil=>rfl
 |cons a l ih=>
  simp only[zMc,List.flatMap_cons,List.all_append,ih,Bool.and_true]
  rfl
section
variable {C:Ctx} {n:Nat} {e:Env} {H H':Heap} {rs:List ResultVar} {vs:List LV} {es:List LV} {v:LV}
theorem retAcc (hd:e.ds=[]) (h:AllRes C n e H rs [v]) (hv:GL.Acc 1 v es H' []) (hH:HSub H' H):RetPost C n rs (RetAcc es) .ret e H:=rR hd h hH ⟨v,rfl,hv⟩
end
attribute [local irreducible] LOps LCode LStep LCalls Go.GL.Pure QThen QBlock RetPost LQ LAny LLate LLateOp LS
section
variable {B0:Nat} {w0:World}
theorem clone_spec (l:List (List UInt8)) (hl:l.length≤2000000):LCalls (KC B0 w0) 48 [.list (l.map str)] [] (RetAcc (l.map str)):=by
 refine cI Tryz.func48 rfl (n:=8) rfl rfl rfl ?_
 refine gaa ?_
 refine oS (S.sliceNil (es:=l.map str) rfl fun b hb=>?_) rfl
 refine gae ?_
 refine oC rfl (fun hc=>?_) (fun hc=>?_)
 ·have h0:=hb hc
  refine gao ?_
  exact retAcc rfl (rC (rT (v:=nilSlice) rfl zsr) rN) (by rw[h0];exact Acc.nil) zhr
 ·refine gak ?_
  refine oS (S.litA [] rfl eN rfl rfl rfl fun b4=>?_) rfl
  refine gad ?_
  refine oS (S.acc (es:=[]) (F:=[]) rfl Acc.row rfl (str_len l) (str_ok l) (by simp;omega) fun v' H' hacc=>?_) rfl
  refine oP (pA (lv:=v') rfl) rfl ?_
  refine gae ?_
  exact retAcc rfl (rC (rT (v:=v') rfl zsr) rN) hacc zhr
theorem grow_spec (k:Nat) (hk:k≤1000000000):LCalls (KC B0 w0) 105 [nilSlice,int .i64 k] [] (RetAcc []):=by
 refine cI Tryz.func105 rfl (n:=27) rfl rfl rfl ?_
 refine gaa ?_
 refine oC rfl (fun hc=>?_) (fun _=>?_)
 ·have:=zt hc
  omega
 refine gaa ?_
 refine oP (Pure.rowCap rfl) rfl ?_
 refine oP (pM (lv:=nilSlice) rfl) rfl ?_
 refine oP (Pure.rowLen rfl) rfl ?_
 refine gab ?_
 refine oC rfl (fun hc=>?_) (fun hc=>?_)
 ·have h0:0<k:=by
   have:=zt hc
   simp at this
   omega
  refine gaj ?_
  refine oP (Pure.rowCap rfl) rfl ?_
  refine oP (Pure.rowSlice (n:=0) rfl rfl (zNr _)) rfl ?_
  refine gav ?_
  refine oS (S.appZeros (n:=k) rfl (int_eq (by simp)) h0 zo fun b cap hcap=>?_) rfl
  refine gad ?_
  refine oP (Pure.rowSlice (n:=0) rfl rfl zo) rfl ?_
  refine LOps.rowOpen 25 1 pH rfl (by simp) ?_
  refine oP (pA (lv:=.app b cap 1 []) rfl) rfl ?_
  refine gab ?_
  exact retAcc rfl (rC (rT (v:=.app b cap 1 []) rfl zsr) rN) Acc.row zhr
 ·refine gaa ?_
  exact retAcc rfl (rC (rT (v:=nilSlice) rfl zsr) rN) Acc.nil zhr
def strsV (l:List (List UInt8)):LV:=.list (l.map str)
theorem sum_le (L:List (List (List UInt8))) (M:Nat) (h:∀ l∈L,l.length≤M):L.flatten.length≤L.length * M:=by
 induction L with
 |nil=>simp
 |cons a L ih=>
  rw[List.flatten_cons,zLa,zLc,Nat.add_mul]
  have h1:=h a zMs
  have h2:=ih fun l hl=>h l (zMo _ hl)
  omega
theorem concat_spec (L:List (List (List UInt8))) (hL:L.length≤4) (hl:∀ l∈L,l.length≤2000000):LCalls (KC B0 w0) 49 [.list (L.map strsV)] [] (RetAcc (L.flatten.map str)):=by
 have hsum:=sum_le L 2000000 hl
 refine cI Tryz.func49 rfl (n:=36) rfl rfl rfl ?_
 refine gaa ?_
 refine oL (fun k ls H'=>∃ pre l1,L=pre++l1∧k=l1.length∧ls=[(0,.list (L.map strsV)),(3,int .i64 (pre.flatten.length:Int)),(9,.list (L.map strsV)),(10,int .i64 ((L.map strsV).length:Int)),(11,int .i64 (pre.length:Int))]∧H'=[])
  ⟨L.length,_,_,⟨[],L,rfl,rfl,rfl,rfl⟩,⟨rfl,rfl,rfl,rfl,rfl,trivial⟩,zhR _⟩ ?_
 rintro k ls H' ⟨pre,l1,hLe,rfl,rfl,rfl⟩ j hj
 have hb1:pre.flatten.length≤8000000:=by
  have h1:=hsum
  rw[hLe,List.flatten_append,zLa] at h1
  rw[hLe] at hL
  omega
 have hb2:pre.length≤4:=by
  rw[hLe,zLa] at hL
  omega
 refine gah ?_
 refine oC rfl (fun hc=>?_) (fun hc=>?_)
 ·have hlen:=zt hc
  rw[zLm,hLe,zLa] at hlen
  obtain ⟨a,l2,rfl⟩:∃ a l2,l1=a::l2:=by
   cases l1 with
   |nil=>simp at hlen
   |cons a l2=>exact ⟨a,l2,rfl⟩
  have ha:(a.map str).length≤2000000:=by
   rw[zLm]
   exact hl a (by rw[hLe];exact List.mem_append_right _ zMs)
  refine gak ?_
  refine oP (xR (el':=strsV a) (cs:=[strsV a]) rfl rfl zo (by rw[hLe];exact get_mid strsV pre a l2) rfl rfl) rfl ?_
  refine gab ?_
  refine oC rfl (fun hd=>?_) (fun _=>?_)
  ·have:=zt hd
   omega
  ·refine gaa ?_
   exact ⟨l2.length,_,_,Nat.lt_succ_self _,⟨pre++[a],l2,by rw[hLe];simp,rfl,rfl,rfl⟩,⟨rfl,int_eq (by simp),rfl,rfl,int_eq (by simp),trivial⟩,zhR _,hj⟩
 ·have hlen:=zf hc
  rw[zLm,hLe,zLa] at hlen
  obtain rfl:l1=[]:=by
   cases l1 with
   |nil=>rfl
   |cons a l2=>simp at hlen;omega
  rw[zLz] at hLe
  subst hLe
  refine gaa ?_
  have hfl:L.flatten.length≤8000000:=by omega
  refine oS (S.callH (H1:=[]) (F:=[]) [_,_] rfl zpr (grow_spec L.flatten.length zo) ?_ (by rintro ch H' ⟨v,h,_⟩;cases h)) rfl
  rintro v Ha ⟨_,h,hacc⟩
  cases h
  rw[zLz]
  refine oP (pA (lv:=v) rfl) rfl ?_
  refine gaa ?_
  refine oL (fun k ls H'=>∃ pre l1 v1 Ha1,L=pre++l1∧k=l1.length∧ls=[(6,v1),(25,.list (L.map strsV)),(26,int .i64 ((L.map strsV).length:Int)),(27,int .i64 (pre.length:Int))]∧H'=Ha1∧GL.Acc 1 v1 (pre.flatten.map str) Ha1 [])
   ⟨L.length,_,_,⟨[],L,v,Ha,rfl,rfl,rfl,rfl,hacc⟩,⟨rfl,rfl,rfl,rfl,trivial⟩,zhR _⟩ ?_
  rintro k ls H' ⟨pre,l1,v1,Ha1,hLe,rfl,rfl,rfl,hacc1⟩ j2 hj2
  have hb1:pre.flatten.length≤8000000:=by
   have h1:=hsum
   rw[hLe,List.flatten_append,zLa] at h1
   rw[hLe] at hL
   omega
  have hb2:pre.length≤4:=by
   rw[hLe,zLa] at hL
   omega
  refine gah ?_
  refine oC rfl (fun hc=>?_) (fun hc=>?_)
  ·have hlen:=zt hc
   rw[zLm,hLe,zLa] at hlen
   obtain ⟨a,l2,rfl⟩:∃ a l2,l1=a::l2:=by
    cases l1 with
    |nil=>simp at hlen
    |cons a l2=>exact ⟨a,l2,rfl⟩
   have ha:a.length≤2000000:=hl a (by rw[hLe];exact List.mem_append_right _ zMs)
   refine gak ?_
   refine oP (xR (el':=strsV a) (cs:=[strsV a]) rfl rfl zo (by rw[hLe];exact get_mid strsV pre a l2) rfl rfl) rfl ?_
   refine gab ?_
   refine oP (pM (lv:=v1) rfl) rfl ?_
   refine gad ?_
   refine oS (S.acc rfl hacc1 rfl (str_len a) (str_ok a) (by rw[zLm,zLm];omega) fun v' H' hacc=>?_) rfl
   refine oP (pA (lv:=v') rfl) rfl ?_
   refine gal ?_
   exact ⟨l2.length,_,_,Nat.lt_succ_self _,⟨pre++[a],l2,v',H',by rw[hLe];simp,rfl,rfl,rfl,by
    have e:((pre++[a]).flatten.map str)=pre.flatten.map str++a.map str:=by simp
    rw[e]
    exact hacc⟩,⟨rfl,rfl,rfl,int_eq (by simp),trivial⟩,zhR _,hj2⟩
  ·have hlen:=zf hc
   rw[zLm,hLe,zLa] at hlen
   obtain rfl:l1=[]:=by
    cases l1 with
    |nil=>rfl
    |cons a l2=>simp at hlen;omega
   rw[zLz] at hLe
   rw[←hLe] at hacc1
   refine gaa ?_
   refine oP (pM (lv:=v1) rfl) rfl ?_
   refine oP (pA (lv:=v1) rfl) rfl ?_
   refine gae ?_
   exact retAcc (hj2.trans hj) (rC (rT (v:=v1) rfl zsr) rN) hacc1 zhr
end
end Go.Proofs.YtpbbgkoalnonoaaGreatDoor.Chk
namespace Go.Proofs.YtpbbgkoalnonoaaGreatDoor.Chk
open Go.GL Go.RowKit Go.Stele
def ownS (f:FnD):List (List UInt8):=(f.params++f.locals).map fun x=>f.name++[46]++x
attribute [local irreducible] LOps LCode LStep LCalls Go.GL.Pure QThen QBlock RetPost LQ LAny LLate LLateOp LS
section
variable {B0:Nat} {w0:World}
theorem scalars_specG {vars:List Nm} {fs:List FnD} (AL:LV) (hv6:vars.length≤2000000) (hf6:fs.length≤2000000) (hsm:∀ f∈fs,SmF f) (hn:∀ f∈fs,f.name.length≤1000∧∀ x∈f.params++f.locals,x.length≤1000):LCalls (KC B0 w0) 26 [.agg [.list (vars.map str),AL,.list (fs.map encFn)]] [] (Ret (.list ((scalarsP vars fs).map str))):=by
 have hown:∀ f∈fs,(ownS f).length≤4000000:=fun f hf=>by
  have h1:f.params.length≤2000000:=(hsm f hf).params
  have h2:f.locals.length≤2000000:=(hsm f hf).locals
  unfold ownS
  rw[zLm,zLa]
  omega
 have hsum:∀ l:List FnD,(∀ f∈l,f∈fs)→((l.map ownS).flatten).length≤l.length * 4000000:=fun l hl=>by
  have:=sum_le (l.map ownS) 4000000 (fun x hx=>by
   obtain ⟨f,hf,rfl⟩:=List.mem_map.1 hx
   exact hown f (hl f hf))
  rwa [zLm] at this
 refine cI Tryz.func26 rfl (n:=40) rfl rfl rfl ?_
 refine gaf ?_
 refine oS (S.box rfl fun b1=>?_) rfl
 refine gaa ?_
 refine oS (S.callH (H1:=[]) (F:=[_]) [_] rfl zpr (clone_spec vars hv6) ?_ (by rintro ch H' ⟨v,h,_⟩;cases h)) rfl
 rintro v Ha ⟨_,h,hacc⟩
 cases h
 refine LOps.perm (zPc (l₂:=[_])) ?_
 refine oP (pA (lv:=v) rfl) rfl ?_
 refine gaa ?_
 refine oL (fun k ls H'=>∃ pre l1 v1 Ha1,fs=pre++l1∧k=l1.length∧ls=[(3,v1),(12,.list (fs.map encFn)),(13,int .i64 ((fs.map encFn).length:Int)),(14,int .i64 (pre.length:Int))]∧H'=Ha1∧GL.Acc 1 v1 ((vars++(pre.map ownS).flatten).map str) Ha1 [])
  ⟨fs.length,_,_,⟨[],fs,v,Ha,rfl,rfl,rfl,rfl,by simpa using hacc⟩,⟨rfl,rfl,rfl,rfl,trivial⟩,zhD zhr⟩ ?_
 rintro k ls Ha1 ⟨pre,l1,v1,_,hLe,rfl,rfl,rfl,hacc1⟩ j hj
 have hb2:pre.length≤2000000:=by
  rw[hLe,zLa] at hf6
  omega
 have hb1:((pre.map ownS).flatten).length≤8000000000000:=by
  have:=hsum pre (fun f hf=>by rw[hLe];exact List.mem_append_left _ hf)
  omega
 refine gah ?_
 refine oC rfl (fun hc=>?_) (fun hc=>?_)
 ·have hlen:=zt hc
  rw[zLm,hLe,zLa] at hlen
  obtain ⟨f,l2,rfl⟩:∃ a l2,l1=a::l2:=by
   cases l1 with
   |nil=>simp at hlen
   |cons a l2=>exact ⟨a,l2,rfl⟩
  have hfm:f∈fs:=by rw[hLe];exact List.mem_append_right _ zMs
  obtain ⟨hn1,hn2⟩:=hn f hfm
  have hp6:f.params.length≤2000000:=(hsm f hfm).params
  have hl6:f.locals.length≤2000000:=(hsm f hfm).locals
  refine gak ?_
  refine oP (xR (el':=encFn f) (cs:=[_,_,_,_]) rfl rfl zo (by rw[hLe];exact get_mid encFn pre f l2) rfl rfl) rfl ?_
  refine gaq ?_
  refine oS (sA fun b5=>?_) rfl
  refine gab ?_
  refine oS (sL (es:=[strsV f.params,strsV f.locals]) [_,_] rfl (zeC rfl rfl (zeC rfl rfl eN)) rfl rfl rfl ?_) rfl
  refine oS (S.callH (H1:=[]) (F:=(b5,.cells 59 [str f.name,strsV f.params,strsV f.locals,.list (f.body.map encS)])::Ha1) [_] rfl zpr (concat_spec [f.params,f.locals] (by simp) (by
   intro l hl
   rcases zMi.1 hl with rfl|hl
   ·exact hp6
   ·rw[List.mem_singleton.1 hl]
    exact hl6)) ?_ (by rintro ch H' ⟨v,h,_⟩;cases h)) rfl
  rintro v2 Ha2 ⟨_,h,hacc2⟩
  cases h
  have hfl:[f.params,f.locals].flatten=f.params++f.locals:=by simp
  rw[hfl] at hacc2
  refine LOps.sub 23 rfl hacc2.sub ?_
  refine LOps.weak (H':=(b5,.cells 59 [str f.name,strsV f.params,strsV f.locals,.list (f.body.map encS)])::Ha1) ⟨Ha2,zPc⟩ ?_
  refine gad ?_
  refine oL (fun k ls H'=>∃ pre2 l3 v3 Ha3,f.params++f.locals=pre2++l3∧k=l3.length∧ls=[(3,v3),(5,ptr b5 0),(12,.list (fs.map encFn)),(13,int .i64 ((fs.map encFn).length:Int)),(14,int .i64 (pre.length:Int)),(23,.list ((f.params++f.locals).map str)),(24,int .i64 (((f.params++f.locals).map str).length:Int)),(25,int .i64 (pre2.length:Int))] ∧
    H'=(b5,.cells 59 [str f.name,strsV f.params,strsV f.locals,.list (f.body.map encS)])::Ha3∧GL.Acc 1 v3 ((vars++(pre.map ownS).flatten++pre2.map fun x=>f.name++[46]++x).map str) Ha3 [])
   ⟨(f.params++f.locals).length,_,_,⟨[],f.params++f.locals,v1,Ha1,rfl,rfl,rfl,rfl,by simpa using hacc1⟩,⟨rfl,rfl,rfl,rfl,rfl,rfl,rfl,rfl,trivial⟩,zhR _⟩ ?_
  rintro k ls H' ⟨pre2,l3,v3,Ha3,hLe2,rfl,rfl,rfl,hacc3⟩ j2 hj2
  have hb3:pre2.length≤4000000:=by
   have:(f.params++f.locals).length≤4000000:=by rw[zLa];omega
   rw[hLe2,zLa] at this
   omega
  refine gah ?_
  refine oC rfl (fun hd=>?_) (fun hd=>?_)
  ·have hlen2:=zt hd
   rw[zLm,hLe2,zLa] at hlen2
   obtain ⟨x,l4,rfl⟩:∃ a l2,l3=a::l2:=by
    cases l3 with
    |nil=>simp at hlen2
    |cons a l2=>exact ⟨a,l2,rfl⟩
   have hx:x.length≤1000:=hn2 x (by rw[hLe2];exact List.mem_append_right _ zMs)
   refine gak ?_
   refine oP (xR (el':=str x) (cs:=[str x]) rfl rfl zo (by rw[hLe2];exact get_mid str pre2 x l4) rfl rfl) rfl ?_
   refine gab ?_
   refine oP (pM (lv:=v3) rfl) rfl ?_
   refine gac ?_
   refine oS (sL (es:=[str (f.name++[46]++x)]) [_] rfl (zeC rfl rfl eN) rfl rfl rfl ?_) rfl
   refine oS (S.acc1 rfl hacc3 rfl (str_len [f.name++[46]++x]) rfl (by rw[zLm,zLa,zLa,zLm,zLc,zLn];omega) fun v' H' hacc'=>?_) rfl
   refine oP (pA (lv:=v') rfl) rfl ?_
   refine gal ?_
   exact ⟨l4.length,_,_,Nat.lt_succ_self _,⟨pre2++[x],l4,v',H',by rw[hLe2];simp,rfl,rfl,rfl,by
    have e:((vars++(pre.map ownS).flatten++(pre2++[x]).map fun x=>f.name++[46]++x).map str)=((vars++(pre.map ownS).flatten++pre2.map fun x=>f.name++[46]++x).map str)++[str (f.name++[46]++x)]:=by simp
    rw[e]
    exact hacc'⟩,⟨rfl,rfl,rfl,rfl,rfl,rfl,rfl,int_eq (by simp),trivial⟩,zhR _,hj2⟩
  ·have hlen2:=zf hd
   rw[zLm,hLe2,zLa] at hlen2
   obtain rfl:l3=[]:=by
    cases l3 with
    |nil=>rfl
    |cons a l2=>simp at hlen2;omega
   rw[zLz] at hLe2
   refine gaa ?_
   exact ⟨l2.length,_,_,Nat.lt_succ_self _,⟨pre++[f],l2,v3,Ha3,by rw[hLe];simp,rfl,rfl,rfl,by
    have e:((vars++((pre++[f]).map ownS).flatten).map str)=(vars++(pre.map ownS).flatten++pre2.map fun x=>f.name++[46]++x).map str:=by
     rw[←hLe2]
     simp[ownS]
    rw[e]
    exact hacc3⟩,⟨rfl,rfl,rfl,int_eq (by simp),trivial⟩,zhD zhr,hj2.trans hj⟩
 ·have hlen:=zf hc
  rw[zLm,hLe,zLa] at hlen
  obtain rfl:l1=[]:=by
   cases l1 with
   |nil=>rfl
   |cons a l2=>simp at hlen;omega
  rw[zLz] at hLe
  rw[←hLe] at hacc1
  refine gaa ?_
  refine oP (pM (lv:=v1) rfl) rfl ?_
  refine oP (pA (lv:=v1) rfl) rfl ?_
  refine gae ?_
  exact rR hj (rC (rT (v:=v1) rfl hacc1.sub) rN) zhn ⟨rfl,rfl⟩
end
end Go.Proofs.YtpbbgkoalnonoaaGreatDoor.Chk
namespace Go.Proofs
def Tryz.lays156_ren:Go.Shelf.Ren:=⟨fun|156=>29|165=>54|166=>55|169=>56|240=>110|241=>111|276=>173|277=>174|n=>n,fun|31=>22|9=>9|3=>3|4=>4|0=>0|20=>20|72=>126|76=>130|70=>124|37=>96|75=>129|127=>203|164=>244|5=>5|80=>132|n=>n,fun|n=>n⟩
theorem Tryz.lays156:Go.Proofs.Lays.n156 Tryz.prog Tryz.lays156_ren:={
 mixed:=by kernel_rfl
 f156:=Tryz.func29.trans zCs
 f165:=Tryz.func54.trans zCs
 f166:=Tryz.func55.trans zCs
 f169:=Tryz.func56.trans zCs
 f240:=Tryz.func110.trans zCs
 f241:=Tryz.func111.trans zCs
 f276:=Tryz.func173.trans zCs
 f277:=Tryz.func174.trans zCs
 t0:=Tryz.underlying0
 a0:=Tryz.isAgg0
 z0:=Tryz.sizeOf0
 v0:=Tryz.zeroValue0
 t3:=Tryz.underlying3
 a3:=Tryz.isAgg3
 z3:=Tryz.sizeOf3
 v3:=Tryz.zeroValue3
 t4:=Tryz.underlying4
 a4:=Tryz.isAgg4
 z4:=Tryz.sizeOf4
 v4:=Tryz.zeroValue4
 t9:=Tryz.underlying9
 a9:=Tryz.isAgg9
 z9:=Tryz.sizeOf9
 v9:=Tryz.zeroValue9
 t20:=Tryz.underlying20
 a20:=Tryz.isAgg20
 z20:=Tryz.sizeOf20
 v20:=Tryz.zeroValue20
 t31:=Tryz.underlying22
 a31:=Tryz.isAgg22
 z31:=Tryz.sizeOf22
 v31:=Tryz.zeroValue22
 t37:=Tryz.underlying96
 a37:=Tryz.isAgg96
 z37:=Tryz.sizeOf96
 v37:=Tryz.zeroValue96
 t70:=Tryz.underlying124
 a70:=Tryz.isAgg124
 z70:=Tryz.sizeOf124
 v70:=Tryz.zeroValue124
 t72:=Tryz.underlying126
 a72:=Tryz.isAgg126
 z72:=Tryz.sizeOf126
 v72:=Tryz.zeroValue126
 t75:=Tryz.underlying129
 a75:=Tryz.isAgg129
 z75:=Tryz.sizeOf129
 v75:=Tryz.zeroValue129
 t76:=Tryz.underlying130
 a76:=Tryz.isAgg130
 z76:=Tryz.sizeOf130
 v76:=Tryz.zeroValue130
 t127:=Tryz.underlying203
 a127:=Tryz.isAgg203
 z127:=Tryz.sizeOf203
 v127:=Tryz.zeroValue203
 t164:=Tryz.underlying244
 a164:=Tryz.isAgg244
 z164:=Tryz.sizeOf244
 v164:=Tryz.zeroValue244 }
theorem Tryz.Builder_Extra_156:Builder.Extra Tryz.prog Tryz.lays156_ren:={
 sizeBuilder:=by kernel_rfl
 liesBuilder:=by kernel_rfl
 t5:=Tryz.underlying5
 a5:=Tryz.isAgg5
 z5:=Tryz.sizeOf5
 v5:=Tryz.zeroValue5
 infoByte:=by kernel_rfl
 cellsByte:=by kernel_rfl
 sizeByte:=by kernel_rfl
 neB5:=by decide }
open Go.RowKit in
theorem Tryz.strings_Join_none (a:Option Addr) (c:Nat) (sep:ByteArray) (w:World) :
  Calls Tryz.prog 29 #[.slice a 0 c,.string sep] w fun e w'=>e=.returned (.string ⟨#[]⟩)∧w'=w:=Any.strings_Join_none Tryz.lays156 Tryz.Builder_Extra_156 a c sep w
open Go.RowKit in
theorem Tryz.strings_Join (bk o c:Nat) (xs:List ByteArray) (sep:ByteArray) (w:World) (hcells:∀ (j:Nat) x,xs[j]? = some x→w.cell? ⟨bk,o+j,none⟩=some (.string x)) (hbk:bk<w.heap.size) (hN:xs.length≤140737488355328) (hcap:xs.length≤c) (hlen:(Lib.join (xs.map (·.data.toList)) sep.data.toList).length≤140737488355328) :
  Calls Tryz.prog 29 #[.slice (some ⟨bk,o,none⟩) xs.length c,.string sep] w fun e w'=>e=.returned (.string ⟨(Lib.join (xs.map (·.data.toList)) sep.data.toList).toArray⟩)∧Below w.heap.size w w':=Any.strings_Join Tryz.lays156 Tryz.Builder_Extra_156 bk o c xs sep w hcells hbk hN hcap hlen
def Tryz.lays160_ren:Go.Shelf.Ren:=⟨fun|160=>180|232=>227|231=>226|227=>228|234=>230|233=>229|236=>232|235=>231|228=>260|271=>262|151=>261|197=>254|120=>283|152=>282|260=>279|137=>300|119=>301|224=>257|225=>256|217=>255|266=>280|n=>n,fun|9=>9|4=>4|3=>3|5=>5|117=>264|116=>263|0=>0|124=>267|21=>21|105=>281|46=>284|119=>310|139=>313|138=>312|n=>n,fun|3=>2|4=>3|n=>n⟩
theorem Tryz.lays160:Go.Proofs.Lays.n160 Tryz.prog Tryz.lays160_ren:={
 mixed:=by kernel_rfl
 f119:=Tryz.func301.trans zCs
 f120:=Tryz.func283.trans zCs
 f137:=Tryz.func300.trans zCs
 f151:=Tryz.func261.trans zCs
 f152:=Tryz.func282.trans zCs
 f160:=Tryz.func180.trans zCs
 f197:=Tryz.func254.trans zCs
 f217:=Tryz.func255.trans zCs
 f224:=Tryz.func257.trans zCs
 f225:=Tryz.func256.trans zCs
 f227:=Tryz.func228.trans zCs
 f228:=Tryz.func260.trans zCs
 f231:=Tryz.func226.trans zCs
 f232:=Tryz.func227.trans zCs
 f233:=Tryz.func229.trans zCs
 f234:=Tryz.func230.trans zCs
 f235:=Tryz.func231.trans zCs
 f236:=Tryz.func232.trans zCs
 f260:=Tryz.func279.trans zCs
 f266:=Tryz.func280.trans zCs
 f271:=Tryz.func262.trans zCs
 t0:=Tryz.underlying0
 a0:=Tryz.isAgg0
 z0:=Tryz.sizeOf0
 v0:=Tryz.zeroValue0
 t3:=Tryz.underlying3
 a3:=Tryz.isAgg3
 z3:=Tryz.sizeOf3
 v3:=Tryz.zeroValue3
 t4:=Tryz.underlying4
 a4:=Tryz.isAgg4
 z4:=Tryz.sizeOf4
 v4:=Tryz.zeroValue4
 t5:=Tryz.underlying5
 a5:=Tryz.isAgg5
 z5:=Tryz.sizeOf5
 v5:=Tryz.zeroValue5
 t9:=Tryz.underlying9
 a9:=Tryz.isAgg9
 z9:=Tryz.sizeOf9
 v9:=Tryz.zeroValue9
 t21:=Tryz.underlying21
 a21:=Tryz.isAgg21
 z21:=Tryz.sizeOf21
 v21:=Tryz.zeroValue21
 t46:=Tryz.underlying284
 a46:=Tryz.isAgg284
 z46:=Tryz.sizeOf284
 v46:=Tryz.zeroValue284
 t105:=Tryz.underlying281
 a105:=Tryz.isAgg281
 z105:=Tryz.sizeOf281
 v105:=Tryz.zeroValue281
 t116:=Tryz.underlying263
 a116:=Tryz.isAgg263
 z116:=Tryz.sizeOf263
 t117:=Tryz.underlying264
 a117:=Tryz.isAgg264
 z117:=Tryz.sizeOf264
 v117:=Tryz.zeroValue264
 t119:=Tryz.underlying310
 a119:=Tryz.isAgg310
 z119:=Tryz.sizeOf310
 t124:=Tryz.underlying267
 a124:=Tryz.isAgg267
 z124:=Tryz.sizeOf267
 v124:=Tryz.zeroValue267
 t138:=Tryz.underlying312
 a138:=Tryz.isAgg312
 z138:=Tryz.sizeOf312
 v138:=Tryz.zeroValue312
 t139:=Tryz.underlying313
 a139:=Tryz.isAgg313
 z139:=Tryz.sizeOf313
 v139:=Tryz.zeroValue313
 g3:=by kernel_rfl
 g4:=by kernel_rfl }
def Tryz.lays103_ren:Go.Shelf.Ren:=⟨fun|103=>179|210=>225|206=>42|n=>n,fun|9=>9|4=>4|24=>209|3=>3|n=>n,fun|n=>n⟩
theorem Tryz.lays103:Go.Proofs.Lays.n103 Tryz.prog Tryz.lays103_ren:={
 mixed:=by kernel_rfl
 f103:=Tryz.func179.trans zCs
 f206:=Tryz.func42.trans zCs
 f210:=Tryz.func225.trans zCs
 t3:=Tryz.underlying3
 a3:=Tryz.isAgg3
 z3:=Tryz.sizeOf3
 v3:=Tryz.zeroValue3
 t4:=Tryz.underlying4
 a4:=Tryz.isAgg4
 z4:=Tryz.sizeOf4
 v4:=Tryz.zeroValue4
 t9:=Tryz.underlying9
 a9:=Tryz.isAgg9
 z9:=Tryz.sizeOf9
 v9:=Tryz.zeroValue9
 t24:=Tryz.underlying209
 a24:=Tryz.isAgg209
 z24:=Tryz.sizeOf209
 v24:=Tryz.zeroValue209 }
open Go.RowKit in
theorem Tryz.strings_CutPrefix (s p:ByteArray) (w:World) :
  Calls Tryz.prog 179 #[.string s,.string p] w fun e w'=>e=.returned (.tuple #[.string ⟨(Lib.trimPrefix s.data.toList p.data.toList).toArray⟩,.bool (Lib.hasPrefix s.data.toList p.data.toList)])∧w'=w:=Any.strings_CutPrefix Tryz.lays103 s p w
def Tryz.lays104_ren:Go.Shelf.Ren:=⟨fun|104=>177|211=>224|207=>259|n=>n,fun|9=>9|4=>4|24=>209|3=>3|n=>n,fun|n=>n⟩
theorem Tryz.lays104:Go.Proofs.Lays.n104 Tryz.prog Tryz.lays104_ren:={
 mixed:=by kernel_rfl
 f104:=Tryz.func177.trans zCs
 f207:=Tryz.func259.trans zCs
 f211:=Tryz.func224.trans zCs
 t3:=Tryz.underlying3
 a3:=Tryz.isAgg3
 z3:=Tryz.sizeOf3
 v3:=Tryz.zeroValue3
 t4:=Tryz.underlying4
 a4:=Tryz.isAgg4
 z4:=Tryz.sizeOf4
 v4:=Tryz.zeroValue4
 t9:=Tryz.underlying9
 a9:=Tryz.isAgg9
 z9:=Tryz.sizeOf9
 v9:=Tryz.zeroValue9
 t24:=Tryz.underlying209
 a24:=Tryz.isAgg209
 z24:=Tryz.sizeOf209
 v24:=Tryz.zeroValue209 }
open Go.RowKit in
theorem Tryz.strings_CutSuffix (s p:ByteArray) (w:World) (hs:s.size≤9223372036854775807) :
  Calls Tryz.prog 177 #[.string s,.string p] w fun e w'=>e=.returned (.tuple #[.string ⟨(Lib.trimSuffix s.data.toList p.data.toList).toArray⟩,.bool (Lib.hasSuffix s.data.toList p.data.toList)])∧w'=w:=Any.strings_CutSuffix Tryz.lays104 s p w hs
def Tryz.lays283_ren:Go.Shelf.Ren:=⟨fun|283=>250|n=>n,fun|3=>3|9=>9|4=>4|n=>n,fun|n=>n⟩
theorem Tryz.lays283:Go.Proofs.Lays.n283 Tryz.prog Tryz.lays283_ren:={
 mixed:=by kernel_rfl
 f283:=Tryz.func250.trans zCs
 t3:=Tryz.underlying3
 a3:=Tryz.isAgg3
 z3:=Tryz.sizeOf3
 v3:=Tryz.zeroValue3
 t4:=Tryz.underlying4
 a4:=Tryz.isAgg4
 z4:=Tryz.sizeOf4
 v4:=Tryz.zeroValue4
 t9:=Tryz.underlying9
 a9:=Tryz.isAgg9
 z9:=Tryz.sizeOf9
 v9:=Tryz.zeroValue9 }
open Go.Lib in
theorem Tryz.internal_strconv_small (i:Nat) (h:i<100) (w:World) :
  Calls Tryz.prog 250 #[.int .i64 i] w fun e w'=>e=.returned (.string ⟨(Lib.decDigits i).toArray⟩)∧w'=w:=Any.internal_strconv_small Tryz.lays283 i h w
def Tryz.laysM284_ren:Go.Shelf.Ren:=⟨fun|284=>251|129=>275|317=>274|318=>276|n=>n,fun|53=>242|3=>3|212=>292|0=>0|4=>4|46=>284|5=>5|9=>9|n=>n,fun|17=>1|n=>n⟩
theorem Tryz.laysM284:Go.Proofs.LaysM.n284 Tryz.prog Tryz.laysM284_ren:={
 mixed:=by kernel_rfl
 f129:=Tryz.func275.trans zCs
 f284:=Tryz.func251.trans zCs
 f317:=Tryz.func274.trans zCs
 f318:=Tryz.func276.trans zCs
 t0:=Tryz.underlying0
 a0:=Tryz.isAgg0
 z0:=Tryz.sizeOf0
 v0:=Tryz.zeroValue0
 t3:=Tryz.underlying3
 a3:=Tryz.isAgg3
 z3:=Tryz.sizeOf3
 v3:=Tryz.zeroValue3
 t4:=Tryz.underlying4
 a4:=Tryz.isAgg4
 z4:=Tryz.sizeOf4
 v4:=Tryz.zeroValue4
 t5:=Tryz.underlying5
 a5:=Tryz.isAgg5
 z5:=Tryz.sizeOf5
 v5:=Tryz.zeroValue5
 t9:=Tryz.underlying9
 a9:=Tryz.isAgg9
 z9:=Tryz.sizeOf9
 v9:=Tryz.zeroValue9
 t46:=Tryz.underlying284
 a46:=Tryz.isAgg284
 z46:=Tryz.sizeOf284
 v46:=Tryz.zeroValue284
 t53:=Tryz.underlying242
 a53:=Tryz.isAgg242
 z53:=Tryz.sizeOf242
 v53:=Tryz.zeroValue242
 t212:=Tryz.underlying292
 a212:=Tryz.isAgg292
 z212:=Tryz.sizeOf292
 v212:=Tryz.zeroValue292
 g17:=by kernel_rfl
 i0:=by kernel_rfl
 i3:=by kernel_rfl
 i4:=by kernel_rfl
 i5:=by kernel_rfl
 i9:=by kernel_rfl
 i46:=by kernel_rfl
 i53:=by kernel_rfl
 i212:=by kernel_rfl
 m17:=by kernel_rfl }
open Go.Lib in
theorem Tryz.internal_strconv_numDigits (u : Nat) (h1 : 1 ≤ u) (h2 : u < 18446744073709551616) (w : World) (htab : Lib.TabIs Tryz.prog w "internal/strconv.uint64pow10" .u64 Lib.pow10Tab) :
  Calls Tryz.prog 251 #[.int .u64 u] w fun e w'=>e=.returned (.int .i64 (Lib.nDigits u))∧w'=w:=Any.internal_strconv_numDigits Tryz.laysM284 u h1 h2 w htab
def Tryz.lays285_ren:Go.Shelf.Ren:=⟨fun|285=>252|n=>n,fun|37=>96|53=>242|3=>3|4=>4|51=>93|9=>9|5=>5|0=>0|n=>n,fun|n=>n⟩
theorem Tryz.lays285:Go.Proofs.Lays.n285 Tryz.prog Tryz.lays285_ren:={
 mixed:=by kernel_rfl
 f285:=Tryz.func252.trans zCs
 t0:=Tryz.underlying0
 a0:=Tryz.isAgg0
 z0:=Tryz.sizeOf0
 v0:=Tryz.zeroValue0
 t3:=Tryz.underlying3
 a3:=Tryz.isAgg3
 z3:=Tryz.sizeOf3
 v3:=Tryz.zeroValue3
 t4:=Tryz.underlying4
 a4:=Tryz.isAgg4
 z4:=Tryz.sizeOf4
 v4:=Tryz.zeroValue4
 t5:=Tryz.underlying5
 a5:=Tryz.isAgg5
 z5:=Tryz.sizeOf5
 v5:=Tryz.zeroValue5
 t9:=Tryz.underlying9
 a9:=Tryz.isAgg9
 z9:=Tryz.sizeOf9
 v9:=Tryz.zeroValue9
 t37:=Tryz.underlying96
 a37:=Tryz.isAgg96
 z37:=Tryz.sizeOf96
 v37:=Tryz.zeroValue96
 t51:=Tryz.underlying93
 a51:=Tryz.isAgg93
 z51:=Tryz.sizeOf93
 v51:=Tryz.zeroValue93
 t53:=Tryz.underlying242
 a53:=Tryz.isAgg242
 z53:=Tryz.sizeOf242
 v53:=Tryz.zeroValue242 }
open Go.RowKit Go.Sort Go.Lib in
theorem Tryz.internal_strconv_formatBase10 (blk off cap:Nat) (u:Nat) (d:Array UInt8) (w:World) (hH:Holds (fun (b:UInt8)=>Value.int .u8 (b.toNat:Int)) w blk off d) (hu:u<10 ^ d.size) (hu64:u<18446744073709551616) (hsz:d.size<4611686018427387904) :
  Calls Tryz.prog 252 #[.slice (some ⟨blk,off,none⟩) d.size cap,.int .u64 u] w fun e w'=>
   e=.returned (.tuple #[])∧∃ (n v':Nat) (dk:Array UInt8),w'=(putRow (fun (b:UInt8)=>Value.int .u8 (b.toNat:Int)) w blk off dk).drewN n∧FmtInv d.size u 0 v' dk:=Any.internal_strconv_formatBase10 Tryz.lays285 blk off cap u d w hH hu hu64 hsz
def Tryz.laysM171_ren:Go.Shelf.Ren:=⟨fun|171=>106|243=>168|246=>218|283=>250|284=>251|285=>252|286=>253|129=>275|317=>274|318=>276|319=>277|320=>278|337=>298|338=>299|n=>n,fun|3=>3|9=>9|2=>2|4=>4|171=>276|0=>0|53=>242|37=>96|5=>5|173=>279|212=>292|51=>93|20=>20|213=>293|46=>284|232=>320|233=>321|n=>n,fun|17=>1|18=>6|19=>7|n=>n⟩
theorem Tryz.laysM171:Go.Proofs.LaysM.n171 Tryz.prog Tryz.laysM171_ren:={
 mixed:=by kernel_rfl
 f129:=Tryz.func275.trans zCs
 f171:=Tryz.func106.trans zCs
 f243:=Tryz.func168.trans zCs
 f246:=Tryz.func218.trans zCs
 f283:=Tryz.func250.trans zCs
 f284:=Tryz.func251.trans zCs
 f285:=Tryz.func252.trans zCs
 f286:=Tryz.func253.trans zCs
 f317:=Tryz.func274.trans zCs
 f318:=Tryz.func276.trans zCs
 f319:=Tryz.func277.trans zCs
 f320:=Tryz.func278.trans zCs
 f337:=Tryz.func298.trans zCs
 f338:=Tryz.func299.trans zCs
 t0:=Tryz.underlying0
 a0:=Tryz.isAgg0
 z0:=Tryz.sizeOf0
 v0:=Tryz.zeroValue0
 t2:=Tryz.underlying2
 a2:=Tryz.isAgg2
 z2:=Tryz.sizeOf2
 v2:=Tryz.zeroValue2
 t3:=Tryz.underlying3
 a3:=Tryz.isAgg3
 z3:=Tryz.sizeOf3
 v3:=Tryz.zeroValue3
 t4:=Tryz.underlying4
 a4:=Tryz.isAgg4
 z4:=Tryz.sizeOf4
 v4:=Tryz.zeroValue4
 t5:=Tryz.underlying5
 a5:=Tryz.isAgg5
 z5:=Tryz.sizeOf5
 v5:=Tryz.zeroValue5
 t9:=Tryz.underlying9
 a9:=Tryz.isAgg9
 z9:=Tryz.sizeOf9
 v9:=Tryz.zeroValue9
 t20:=Tryz.underlying20
 a20:=Tryz.isAgg20
 z20:=Tryz.sizeOf20
 v20:=Tryz.zeroValue20
 t37:=Tryz.underlying96
 a37:=Tryz.isAgg96
 z37:=Tryz.sizeOf96
 v37:=Tryz.zeroValue96
 t46:=Tryz.underlying284
 a46:=Tryz.isAgg284
 z46:=Tryz.sizeOf284
 v46:=Tryz.zeroValue284
 t51:=Tryz.underlying93
 a51:=Tryz.isAgg93
 z51:=Tryz.sizeOf93
 v51:=Tryz.zeroValue93
 t53:=Tryz.underlying242
 a53:=Tryz.isAgg242
 z53:=Tryz.sizeOf242
 v53:=Tryz.zeroValue242
 t171:=Tryz.underlying276
 a171:=Tryz.isAgg276
 z171:=Tryz.sizeOf276
 v171:=Tryz.zeroValue276
 t173:=Tryz.underlying279
 a173:=Tryz.isAgg279
 z173:=Tryz.sizeOf279
 v173:=Tryz.zeroValue279
 t212:=Tryz.underlying292
 a212:=Tryz.isAgg292
 z212:=Tryz.sizeOf292
 v212:=Tryz.zeroValue292
 t213:=Tryz.underlying293
 a213:=Tryz.isAgg293
 z213:=Tryz.sizeOf293
 t232:=Tryz.underlying320
 a232:=Tryz.isAgg320
 z232:=Tryz.sizeOf320
 v232:=Tryz.zeroValue320
 t233:=Tryz.underlying321
 a233:=Tryz.isAgg321
 z233:=Tryz.sizeOf321
 v233:=Tryz.zeroValue321
 g17:=by kernel_rfl
 g18:=by kernel_rfl
 g19:=by kernel_rfl
 i0:=by kernel_rfl
 i2:=by kernel_rfl
 i3:=by kernel_rfl
 i4:=by kernel_rfl
 i5:=by kernel_rfl
 i9:=by kernel_rfl
 i20:=by kernel_rfl
 i37:=by kernel_rfl
 i46:=by kernel_rfl
 i51:=by kernel_rfl
 i53:=by kernel_rfl
 i171:=by kernel_rfl
 i173:=by kernel_rfl
 i212:=by kernel_rfl
 i232:=by kernel_rfl
 i233:=by kernel_rfl
 m17:=by kernel_rfl
 m18:=by kernel_rfl
 m19:=by kernel_rfl }
open Go.RowKit Go.Sort Go.Lib in
theorem Tryz.strconv_Itoa (n : Int) (h0 : -9223372036854775808 ≤ n) (h1 : n ≤ 9223372036854775807) (w : World) (htab : Lib.TabIs Tryz.prog w "internal/strconv.uint64pow10" .u64 Lib.pow10Tab) :
  Calls Tryz.prog 106 #[.int .i64 n] w fun e w'=>e=.returned (.string ⟨(Lib.itoa n).toArray⟩)∧∃ k os,w'=grow (w.drewN k) os:=Any.strconv_Itoa Tryz.laysM171 n h0 h1 w htab
def Tryz.laysPu14_ren:Go.Shelf.Ren:=⟨fun|14=>233|16=>263|17=>264|19=>284|20=>285|21=>286|22=>287|23=>288|24=>289|25=>302|27=>106|26=>303|28=>168|29=>218|30=>250|31=>251|32=>252|33=>253|35=>275|34=>274|36=>276|37=>277|38=>278|39=>298|40=>299|n=>n,fun|9=>9|3=>3|22=>242|24=>129|25=>268|4=>4|34=>298|5=>5|36=>284|37=>96|0=>0|39=>300|21=>21|44=>316|47=>203|50=>324|48=>322|2=>2|52=>276|55=>279|59=>292|60=>93|20=>20|61=>293|65=>320|66=>321|67=>132|n=>n,fun|0=>4|1=>5|2=>1|3=>6|4=>7|n=>n⟩
theorem Tryz.laysPu14:Go.Proofs.LaysPu.n14 Tryz.prog Tryz.laysPu14_ren:={
 mixed:=by kernel_rfl
 f14:=Tryz.func233.trans zCs
 f16:=Tryz.func263.trans zCs
 f17:=Tryz.func264.trans zCs
 f19:=Tryz.func284.trans zCs
 f20:=Tryz.func285.trans zCs
 f21:=Tryz.func286.trans zCs
 f22:=Tryz.func287.trans zCs
 f23:=Tryz.func288.trans zCs
 f24:=Tryz.func289.trans zCs
 f25:=Tryz.func302.trans zCs
 f26:=Tryz.func303.trans zCs
 f27:=Tryz.func106.trans zCs
 f28:=Tryz.func168.trans zCs
 f29:=Tryz.func218.trans zCs
 f30:=Tryz.func250.trans zCs
 f31:=Tryz.func251.trans zCs
 f32:=Tryz.func252.trans zCs
 f33:=Tryz.func253.trans zCs
 f34:=Tryz.func274.trans zCs
 f35:=Tryz.func275.trans zCs
 f36:=Tryz.func276.trans zCs
 f37:=Tryz.func277.trans zCs
 f38:=Tryz.func278.trans zCs
 f39:=Tryz.func298.trans zCs
 f40:=Tryz.func299.trans zCs
 t0:=Tryz.underlying0
 a0:=Tryz.isAgg0
 z0:=Tryz.sizeOf0
 v0:=Tryz.zeroValue0
 i0:=by kernel_rfl
 t2:=Tryz.underlying2
 a2:=Tryz.isAgg2
 z2:=Tryz.sizeOf2
 v2:=Tryz.zeroValue2
 i2:=by kernel_rfl
 t3:=Tryz.underlying3
 a3:=Tryz.isAgg3
 z3:=Tryz.sizeOf3
 v3:=Tryz.zeroValue3
 i3:=by kernel_rfl
 t4:=Tryz.underlying4
 a4:=Tryz.isAgg4
 z4:=Tryz.sizeOf4
 v4:=Tryz.zeroValue4
 i4:=by kernel_rfl
 t5:=Tryz.underlying5
 a5:=Tryz.isAgg5
 z5:=Tryz.sizeOf5
 v5:=Tryz.zeroValue5
 i5:=by kernel_rfl
 t9:=Tryz.underlying9
 a9:=Tryz.isAgg9
 z9:=Tryz.sizeOf9
 v9:=Tryz.zeroValue9
 i9:=by kernel_rfl
 t20:=Tryz.underlying20
 a20:=Tryz.isAgg20
 z20:=Tryz.sizeOf20
 v20:=Tryz.zeroValue20
 i20:=by kernel_rfl
 t21:=Tryz.underlying21
 a21:=Tryz.isAgg21
 z21:=Tryz.sizeOf21
 v21:=Tryz.zeroValue21
 i21:=by kernel_rfl
 t22:=Tryz.underlying242
 a22:=Tryz.isAgg242
 z22:=Tryz.sizeOf242
 v22:=Tryz.zeroValue242
 i22:=by kernel_rfl
 t24:=Tryz.underlying129
 a24:=Tryz.isAgg129
 z24:=Tryz.sizeOf129
 v24:=Tryz.zeroValue129
 i24:=by kernel_rfl
 t25:=Tryz.underlying268
 a25:=Tryz.isAgg268
 z25:=Tryz.sizeOf268
 v25:=Tryz.zeroValue268
 i25:=by kernel_rfl
 t34:=Tryz.underlying298
 a34:=Tryz.isAgg298
 z34:=Tryz.sizeOf298
 v34:=Tryz.zeroValue298
 i34:=by kernel_rfl
 c34:=by kernel_rfl
 t36:=Tryz.underlying284
 a36:=Tryz.isAgg284
 z36:=Tryz.sizeOf284
 v36:=Tryz.zeroValue284
 i36:=by kernel_rfl
 t37:=Tryz.underlying96
 a37:=Tryz.isAgg96
 z37:=Tryz.sizeOf96
 v37:=Tryz.zeroValue96
 i37:=by kernel_rfl
 t39:=Tryz.underlying300
 a39:=Tryz.isAgg300
 z39:=Tryz.sizeOf300
 v39:=Tryz.zeroValue300
 i39:=by kernel_rfl
 t44:=Tryz.underlying316
 a44:=Tryz.isAgg316
 z44:=Tryz.sizeOf316
 v44:=Tryz.zeroValue316
 i44:=by kernel_rfl
 t47:=Tryz.underlying203
 a47:=Tryz.isAgg203
 z47:=Tryz.sizeOf203
 v47:=Tryz.zeroValue203
 i47:=by kernel_rfl
 t48:=Tryz.underlying322
 a48:=Tryz.isAgg322
 z48:=Tryz.sizeOf322
 v48:=Tryz.zeroValue322
 i48:=by kernel_rfl
 t50:=Tryz.underlying324
 a50:=Tryz.isAgg324
 z50:=Tryz.sizeOf324
 v50:=Tryz.zeroValue324
 i50:=by kernel_rfl
 t52:=Tryz.underlying276
 a52:=Tryz.isAgg276
 z52:=Tryz.sizeOf276
 v52:=Tryz.zeroValue276
 i52:=by kernel_rfl
 t55:=Tryz.underlying279
 a55:=Tryz.isAgg279
 z55:=Tryz.sizeOf279
 v55:=Tryz.zeroValue279
 i55:=by kernel_rfl
 t59:=Tryz.underlying292
 a59:=Tryz.isAgg292
 z59:=Tryz.sizeOf292
 v59:=Tryz.zeroValue292
 i59:=by kernel_rfl
 t60:=Tryz.underlying93
 a60:=Tryz.isAgg93
 z60:=Tryz.sizeOf93
 v60:=Tryz.zeroValue93
 i60:=by kernel_rfl
 t61:=Tryz.underlying293
 a61:=Tryz.isAgg293
 z61:=Tryz.sizeOf293
 t65:=Tryz.underlying320
 a65:=Tryz.isAgg320
 z65:=Tryz.sizeOf320
 v65:=Tryz.zeroValue320
 i65:=by kernel_rfl
 t66:=Tryz.underlying321
 a66:=Tryz.isAgg321
 z66:=Tryz.sizeOf321
 v66:=Tryz.zeroValue321
 i66:=by kernel_rfl
 t67:=Tryz.underlying132
 a67:=Tryz.isAgg132
 z67:=Tryz.sizeOf132
 v67:=Tryz.zeroValue132
 i67:=by kernel_rfl
 g0:=by kernel_rfl
 m0:=by kernel_rfl
 g1:=by kernel_rfl
 m1:=by kernel_rfl
 g2:=by kernel_rfl
 m2:=by kernel_rfl
 g3:=by kernel_rfl
 m3:=by kernel_rfl
 g4:=by kernel_rfl
 m4:=by kernel_rfl }
open Go.RowKit in
theorem Tryz.strconv_ParseUint_10_at32_ok (s:ByteArray) (hmax:s.size≤9223372036854775806) (u:Nat) (h:Lib.parseUintB 32 s.data.toList=.ok u) (w:World) :
  Calls Tryz.prog 233 #[.string s,.int .i64 10,.int .i64 32] w fun e w'=>e=.returned (.tuple #[.int .u64 u,.nilIface])∧(w'=w∨w'=Lib.bytesWorld w 5 s):=Any.strconv_ParseUint_10_at32_ok Tryz.laysPu14 s hmax u h w
open Go.RowKit in
theorem Tryz.strconv_ParseUint_10_at32_range_var (s : ByteArray) (hlim : s.size ≤ 281474976710656) (h : Lib.parseUintB 32 s.data.toList = .range) (tp : TypeId) (p : Value) (w : World) (hvar : w.var? Tryz.prog "strconv.ErrRange" = some #[.iface tp p]) :
  Calls Tryz.prog 233 #[.string s,.int .i64 10,.int .i64 32] w fun e w'=>∃ N,e=.returned (.tuple #[.int .u64 4294967295,.iface 300 (.pointer (some ⟨N,0,none⟩))])∧w.heap.size≤N∧w'.heap[N]? = some (.cells #[.string ⟨#[80,97,114,115,101,85,105,110,116]⟩,.string s,.iface tp p] 316 (0,0))∧Below w.heap.size w w':=Any.strconv_ParseUint_10_at32_range_var Tryz.laysPu14 s hlim h tp p w hvar
def Tryz.lays145_ren:Go.Shelf.Ren:=⟨fun|145=>113|220=>176|219=>223|217=>255|225=>256|224=>257|267=>258|266=>280|314=>281|n=>n,fun|9=>9|4=>4|59=>205|3=>3|5=>5|46=>284|146=>295|51=>93|n=>n,fun|1=>0|n=>n⟩
theorem Tryz.lays145:Go.Proofs.Lays.n145 Tryz.prog Tryz.lays145_ren:={
 mixed:=by kernel_rfl
 f145:=Tryz.func113.trans zCs
 f217:=Tryz.func255.trans zCs
 f219:=Tryz.func223.trans zCs
 f220:=Tryz.func176.trans zCs
 f224:=Tryz.func257.trans zCs
 f225:=Tryz.func256.trans zCs
 f266:=Tryz.func280.trans zCs
 f267:=Tryz.func258.trans zCs
 f314:=Tryz.func281.trans zCs
 t3:=Tryz.underlying3
 a3:=Tryz.isAgg3
 z3:=Tryz.sizeOf3
 v3:=Tryz.zeroValue3
 t4:=Tryz.underlying4
 a4:=Tryz.isAgg4
 z4:=Tryz.sizeOf4
 v4:=Tryz.zeroValue4
 t5:=Tryz.underlying5
 a5:=Tryz.isAgg5
 z5:=Tryz.sizeOf5
 v5:=Tryz.zeroValue5
 t9:=Tryz.underlying9
 a9:=Tryz.isAgg9
 z9:=Tryz.sizeOf9
 v9:=Tryz.zeroValue9
 t46:=Tryz.underlying284
 a46:=Tryz.isAgg284
 z46:=Tryz.sizeOf284
 v46:=Tryz.zeroValue284
 t51:=Tryz.underlying93
 a51:=Tryz.isAgg93
 z51:=Tryz.sizeOf93
 v51:=Tryz.zeroValue93
 t59:=Tryz.underlying205
 a59:=Tryz.isAgg205
 z59:=Tryz.sizeOf205
 v59:=Tryz.zeroValue205
 t146:=Tryz.underlying295
 a146:=Tryz.isAgg295
 z146:=Tryz.sizeOf295
 v146:=Tryz.zeroValue295
 g1:=by kernel_rfl }
open Go.RowKit Go.Lib in
theorem Tryz.strings_Cut (s sep:ByteArray) (m:Int) (w:World) (hs:s.size<4294967281) (hm:w.cell? ⟨0,0,none⟩=some (.int .i64 m)) :
  Calls Tryz.prog 113 #[.string s,.string sep] w fun e w'=>e=.returned (.tuple #[.string ⟨(Lib.cut s.data.toList sep.data.toList).1.toArray⟩,.string ⟨(Lib.cut s.data.toList sep.data.toList).2.1.toArray⟩,.bool (Lib.cut s.data.toList sep.data.toList).2.2])∧∃ n,w'=w.drewN n:=Any.strings_Cut Tryz.lays145 s sep m w hs hm
def Tryz.lays138_ren:Go.Shelf.Ren:=⟨fun|138=>131|195=>196|218=>197|143=>198|219=>223|217=>255|225=>256|224=>257|267=>258|266=>280|314=>281|n=>n,fun|9=>9|3=>3|4=>4|5=>5|0=>0|46=>284|146=>295|51=>93|n=>n,fun|1=>0|n=>n⟩
theorem Tryz.lays138:Go.Proofs.Lays.n138 Tryz.prog Tryz.lays138_ren:={
 mixed:=by kernel_rfl
 f138:=Tryz.func131.trans zCs
 f143:=Tryz.func198.trans zCs
 f195:=Tryz.func196.trans zCs
 f217:=Tryz.func255.trans zCs
 f218:=Tryz.func197.trans zCs
 f219:=Tryz.func223.trans zCs
 f224:=Tryz.func257.trans zCs
 f225:=Tryz.func256.trans zCs
 f266:=Tryz.func280.trans zCs
 f267:=Tryz.func258.trans zCs
 f314:=Tryz.func281.trans zCs
 t0:=Tryz.underlying0
 a0:=Tryz.isAgg0
 z0:=Tryz.sizeOf0
 v0:=Tryz.zeroValue0
 t3:=Tryz.underlying3
 a3:=Tryz.isAgg3
 z3:=Tryz.sizeOf3
 v3:=Tryz.zeroValue3
 t4:=Tryz.underlying4
 a4:=Tryz.isAgg4
 z4:=Tryz.sizeOf4
 v4:=Tryz.zeroValue4
 t5:=Tryz.underlying5
 a5:=Tryz.isAgg5
 z5:=Tryz.sizeOf5
 v5:=Tryz.zeroValue5
 t9:=Tryz.underlying9
 a9:=Tryz.isAgg9
 z9:=Tryz.sizeOf9
 v9:=Tryz.zeroValue9
 t46:=Tryz.underlying284
 a46:=Tryz.isAgg284
 z46:=Tryz.sizeOf284
 v46:=Tryz.zeroValue284
 t51:=Tryz.underlying93
 a51:=Tryz.isAgg93
 z51:=Tryz.sizeOf93
 v51:=Tryz.zeroValue93
 t146:=Tryz.underlying295
 a146:=Tryz.isAgg295
 z146:=Tryz.sizeOf295
 v146:=Tryz.zeroValue295
 g1:=by kernel_rfl }
open Go.RowKit Go.Lib in
theorem Tryz.strings_Count_one (s:ByteArray) (c:UInt8) (w:World) :
  Calls Tryz.prog 131 #[.string s,.string ⟨#[c]⟩] w fun e w'=>e=.returned (.int .i64 (Lib.countByte s.data.toList c))∧w'=w:=Any.strings_Count_one Tryz.lays138 s c w
def Tryz.lays99_ren:Go.Shelf.Ren:=⟨fun|99=>22|206=>42|n=>n,fun|9=>9|4=>4|3=>3|n=>n,fun|n=>n⟩
theorem Tryz.lays99:Go.Proofs.Lays.n99 Tryz.prog Tryz.lays99_ren:={
 mixed:=by kernel_rfl
 f99:=Tryz.func22.trans zCs
 f206:=Tryz.func42.trans zCs
 t3:=Tryz.underlying3
 a3:=Tryz.isAgg3
 z3:=Tryz.sizeOf3
 v3:=Tryz.zeroValue3
 t4:=Tryz.underlying4
 a4:=Tryz.isAgg4
 z4:=Tryz.sizeOf4
 v4:=Tryz.zeroValue4
 t9:=Tryz.underlying9
 a9:=Tryz.isAgg9
 z9:=Tryz.sizeOf9
 v9:=Tryz.zeroValue9 }
open Go.RowKit Go.Lib in
theorem Tryz.strings_HasPrefix (s p:ByteArray) (w:World) :
  Calls Tryz.prog 22 #[.string s,.string p] w fun e w'=>e=.returned (.bool (Lib.hasPrefix s.data.toList p.data.toList))∧w'=w:=Any.strings_HasPrefix Tryz.lays99 s p w
def Tryz.lays146_ren:Go.Shelf.Ren:=⟨fun|146=>112|221=>175|268=>222|138=>131|143=>198|195=>196|197=>254|218=>197|219=>223|260=>279|217=>255|225=>256|224=>257|267=>258|266=>280|314=>281|n=>n,fun|9=>9|31=>22|3=>3|4=>4|0=>0|105=>281|21=>21|5=>5|46=>284|119=>310|139=>313|138=>312|146=>295|51=>93|n=>n,fun|1=>0|3=>2|4=>3|n=>n⟩
theorem Tryz.lays146:Go.Proofs.Lays.n146 Tryz.prog Tryz.lays146_ren:={
 mixed:=by kernel_rfl
 f138:=Tryz.func131.trans zCs
 f143:=Tryz.func198.trans zCs
 f146:=Tryz.func112.trans zCs
 f195:=Tryz.func196.trans zCs
 f197:=Tryz.func254.trans zCs
 f217:=Tryz.func255.trans zCs
 f218:=Tryz.func197.trans zCs
 f219:=Tryz.func223.trans zCs
 f221:=Tryz.func175.trans zCs
 f224:=Tryz.func257.trans zCs
 f225:=Tryz.func256.trans zCs
 f260:=Tryz.func279.trans zCs
 f266:=Tryz.func280.trans zCs
 f267:=Tryz.func258.trans zCs
 f268:=Tryz.func222.trans zCs
 f314:=Tryz.func281.trans zCs
 t0:=Tryz.underlying0
 a0:=Tryz.isAgg0
 z0:=Tryz.sizeOf0
 v0:=Tryz.zeroValue0
 t3:=Tryz.underlying3
 a3:=Tryz.isAgg3
 z3:=Tryz.sizeOf3
 v3:=Tryz.zeroValue3
 t4:=Tryz.underlying4
 a4:=Tryz.isAgg4
 z4:=Tryz.sizeOf4
 v4:=Tryz.zeroValue4
 t5:=Tryz.underlying5
 a5:=Tryz.isAgg5
 z5:=Tryz.sizeOf5
 v5:=Tryz.zeroValue5
 t9:=Tryz.underlying9
 a9:=Tryz.isAgg9
 z9:=Tryz.sizeOf9
 v9:=Tryz.zeroValue9
 t21:=Tryz.underlying21
 a21:=Tryz.isAgg21
 z21:=Tryz.sizeOf21
 v21:=Tryz.zeroValue21
 t31:=Tryz.underlying22
 a31:=Tryz.isAgg22
 z31:=Tryz.sizeOf22
 v31:=Tryz.zeroValue22
 t46:=Tryz.underlying284
 a46:=Tryz.isAgg284
 z46:=Tryz.sizeOf284
 v46:=Tryz.zeroValue284
 t51:=Tryz.underlying93
 a51:=Tryz.isAgg93
 z51:=Tryz.sizeOf93
 v51:=Tryz.zeroValue93
 t105:=Tryz.underlying281
 a105:=Tryz.isAgg281
 z105:=Tryz.sizeOf281
 v105:=Tryz.zeroValue281
 t119:=Tryz.underlying310
 a119:=Tryz.isAgg310
 z119:=Tryz.sizeOf310
 t138:=Tryz.underlying312
 a138:=Tryz.isAgg312
 z138:=Tryz.sizeOf312
 v138:=Tryz.zeroValue312
 t139:=Tryz.underlying313
 a139:=Tryz.isAgg313
 z139:=Tryz.sizeOf313
 v139:=Tryz.zeroValue313
 t146:=Tryz.underlying295
 a146:=Tryz.isAgg295
 z146:=Tryz.sizeOf295
 v146:=Tryz.zeroValue295
 g1:=by kernel_rfl
 g3:=by kernel_rfl
 g4:=by kernel_rfl }
open Go.RowKit Go.Lib in
theorem Tryz.strings_Split (s sep:ByteArray) (m:Int) (w:World) (hs:s.size<4294967281) (hm:w.cell? ⟨0,0,none⟩=some (.int .i64 m)) (h1:1≤sep.size) :
  Calls Tryz.prog 112 #[.string s,.string sep] w fun e w'=>
   e=.returned (.slice (some ⟨w.heap.size,0,none⟩) (Lib.countB s sep+1) (Lib.countB s sep+1))∧w'=w.alloc (.cells ((Lib.splitB sep 0 (Lib.countB s sep) s).map Value.string).toArray 9):=Any.strings_Split Tryz.lays146 (by kernel_rfl) s sep m w hs hm h1
end Go.Proofs
namespace Go.Proofs.YtpbbgkoalnonoaaGreatDoor
open Go.GL Go.RowKit Go.Stele
attribute [local irreducible] LOps LCode LStep LCalls Go.GL.Pure QThen QBlock RetPost
section
variable {B0:Nat} {w0:World}
theorem run_spec {f:FuncId} [TEnter Tryz.prog f] (p:UInt8→Bool) (hp:∀ c:UInt8,LCalls (KC B0 w0) f [int .u8 c.toNat] [] (Ret (bool (p c)))) (s:List UInt8) (hs:s.length≤1000000000) :
  LCalls (KC B0 w0) 187 [str s,.atom (.func (.func f) #[] #[])] [] (Ret (str (s.takeWhile p))):=by
 refine cI Tryz.func187 rfl (n:=22) rfl rfl rfl ?_
 refine gaa ?_
 refine oL (fun k l H=>∃ m:Nat,k=s.length-m∧l=[(0,str s),(1,.atom (.func (.func f) #[] #[])),(5,int .i64 m)]∧H=[]∧m≤s.length∧s.takeWhile p=s.take m++(s.drop m).takeWhile p)
  ⟨_,_,_,⟨0,rfl,rfl,rfl,by omega,by simp⟩,⟨rfl,rfl,rfl,trivial⟩,zhR _⟩ ?_
 rintro k l H ⟨m,rfl,rfl,rfl,hm,hI⟩ j hj
 refine gab ?_
 refine oB 10 rfl (fun ht=>?_) (fun ht=>?_)
 ·have hlt:m<s.length:=by simpa using ht
  refine gam ?_
  refine oP (Pure.sindex (c:=s[m]) rfl rfl zo (by simp)) rfl ?_
  refine LOps.want rfl rfl ?_
  refine oS (S.fnV [_] rfl rfl (hp s[m]) ?_) rfl
  refine gad ?_
  refine oC rfl (fun hc=>?_) (fun hc=>?_)
  ·refine gaa ?_
   exact ⟨_,_,_,by omega,⟨m+1,rfl,rfl,rfl,by omega,(takeWhile_step hlt hI).1 (by simpa using hc)⟩,⟨rfl,rfl,int_eq zo,trivial⟩,zhR _,hj⟩
  ·refine gaa ?_
   refine oP (Pure.sslice (i:=0) (j:=m) rfl rfl ⟨_,rfl⟩ zo zo zo) rfl ?_
   refine gae ?_
   exact retRet hj (zra rfl) (by
    rw[(takeWhile_step hlt hI).2 (by simpa using hc)]
    simp[resLV])
 ·have hge:s.length≤m:=by simpa using ht
  refine gae ?_
  refine oC rfl (fun hc=>?_) (fun hc=>?_)
  ·cases hc
  ·refine gaa ?_
   refine oP (Pure.sslice (i:=0) (j:=m) rfl rfl ⟨_,rfl⟩ zo zo zo) rfl ?_
   refine gae ?_
   exact retRet hj (zra rfl) (by
    rw[takeWhile_end hge hI]
    simp[resLV])
theorem hasPrefix_spec (s p:List UInt8):LCalls (KC B0 w0) 22 [str s,str p] [] (Ret (bool (p.isPrefixOf s))):=
 LCalls.ret_of (vs:=[.string ⟨s.toArray⟩,.string ⟨p.toArray⟩]) fun w _=>(Go.Proofs.Tryz.strings_HasPrefix _ _ w).mono fun e w' he=>by
  obtain ⟨h1,h2⟩:=he
  subst h2
  exact ⟨by simpa [Go.Lib.hasPrefix] using h1,Below.refl _ _⟩
theorem skip_spec (s:List UInt8) (hs:s.length≤1000000000):LCalls (KC B0 w0) 129 [str s] [] (Ret (int .i64 (skipLen s))):=by
 refine cI Tryz.func129 rfl (n:=11) rfl rfl rfl ?_
 refine gaa ?_
 refine oS (sF [_,_] rfl (hasPrefix_spec s [47,47]) ?_) rfl
 refine gae ?_
 refine oC rfl (fun hc=>?_) (fun hc=>?_)
 ·refine gaj ?_
  refine oS (sF [_,_] rfl (run_spec notNl notNl_spec s hs) ?_) rfl
  refine gac ?_
  exact retRet rfl (zra rfl) (by simp only[resLV,skipLen,hc,if_true])
 ·refine gaa ?_
  refine oS (sF [_,_] rfl (run_spec isWhite white_spec s hs) ?_) rfl
  refine gac ?_
  exact retRet rfl (zra rfl) (by simp only[resLV,skipLen,hc,Bool.false_eq_true,if_false])
end
end Go.Proofs.YtpbbgkoalnonoaaGreatDoor
namespace Go.Proofs.YtpbbgkoalnonoaaGreatDoor
open Go Go.Shelf Go.RowKit Go.Sort Go.Lib
set_option maxHeartbeats 6400000
theorem formatUint_main (u : Nat) (hu64 : u < 18446744073709551616) (w : World) (htab : Lib.TabIs Tryz.prog w "internal/strconv.uint64pow10" .u64 Lib.pow10Tab) :
  Calls Tryz.prog 219 #[.int .u64 u,.int .i64 10] w fun e w'=>e=.returned (.string ⟨(Lib.decDigits u).toArray⟩)∧Below w.heap.size w w':=by
 have mixed:Tryz.prog.follows .mixedOrders=true:=by kernel_rfl
 have t3:=Tryz.underlying3;have a3:=Tryz.isAgg3;have z3:=Tryz.sizeOf3;have v3:=Tryz.zeroValue3
 have t9:=Tryz.underlying9;have a9:=Tryz.isAgg9;have z9:=Tryz.sizeOf9;have v9:=Tryz.zeroValue9
 have t4:=Tryz.underlying4;have a4:=Tryz.isAgg4;have z4:=Tryz.sizeOf4;have v4:=Tryz.zeroValue4
 have t142:=Tryz.underlying276;have a142:=Tryz.isAgg276;have z142:=Tryz.sizeOf276;have v142:=Tryz.zeroValue276
 have t0:=Tryz.underlying0;have a0:=Tryz.isAgg0;have z0:=Tryz.sizeOf0;have v0:=Tryz.zeroValue0
 have t119:=Tryz.underlying242;have a119:=Tryz.isAgg242;have z119:=Tryz.sizeOf242;have v119:=Tryz.zeroValue242
 have t85:=Tryz.underlying96;have a85:=Tryz.isAgg96;have z85:=Tryz.sizeOf96;have v85:=Tryz.zeroValue96
 have t5:=Tryz.underlying5;have a5:=Tryz.isAgg5;have z5:=Tryz.sizeOf5;have v5:=Tryz.zeroValue5
 have e137:∀ args w,(callFunc 250 args).run Tryz.prog w=.ok (.enter 250 args) w:=enters_of Tryz.func250 (by kernel_rfl) rfl
 have e138:∀ args w,(callFunc 251 args).run Tryz.prog w=.ok (.enter 251 args) w:=enters_of Tryz.func251 (by kernel_rfl) rfl
 have e139:∀ args w,(callFunc 252 args).run Tryz.prog w=.ok (.enter 252 args) w:=enters_of Tryz.func252 (by kernel_rfl) rfl
 by_cases hs:u<100
 ·go_enter Tryz.func219,Tryz.ntmps219
  go_wp2_with (go_at_fn (250);refine (Tryz.internal_strconv_small u hs _).mono ?_;rintro e w' ⟨rfl,rfl⟩)
  go_ret
  exact ⟨rfl,Below.refl _ _⟩
 ·have hu1:1≤u:=by omega
  have hnd20:Lib.nDigits u≤20:=by have:=Lib.numDigits_eq u hu1 hu64;split at this <;> omega
  have hal:Tryz.prog.arrayLen 276=24:=by simp[Program.arrayLen,Tryz.underlying276]
  have hsl:∀ W,(Instr.sliceAt 276 (.pointer (some ⟨w.heap.size,0,none⟩)) none (some (.int .i64 (Lib.nDigits u:Int))) none).run Tryz.prog W=.ok (.slice (some ⟨w.heap.size,0,none⟩) (Lib.nDigits u) 24) W:=fun W=>by
   rw[run_sliceAt_array_h W 276 ⟨w.heap.size,0,none⟩ (by simp[Program.arrayLen,Program.elem,Tryz.underlying276]) .i64 (Lib.nDigits u:Int) (by omega) (by rw[hal];omega)]
   go_simp
  have hH0:=Lib.holds_zero0 w 276 (Lib.nDigits u) (by omega)
  have hfmt:=Tryz.internal_strconv_formatBase10 w.heap.size 0 24 u (Array.replicate (Lib.nDigits u) 0) (w.alloc (.cells Lib.zeros24 276)) hH0 (by rw[Array.size_replicate];exact Lib.lt_pow_nDigits u) hu64 (by rw[Array.size_replicate];omega)
  rw[Array.size_replicate] at hfmt
  have HH0:=Lib.hid hH0
  clear hH0 hal
  go_enter Tryz.func219,Tryz.ntmps219
  go_wp2_with (first
   |(go_at_fn (251);refine (Tryz.internal_strconv_numDigits u hu1 hu64 _ (Lib.tabIs_alloc htab _)).mono ?_;rintro e w' ⟨rfl,rfl⟩))
  go_at_fn (252)
  refine hfmt.mono ?_
  rintro e w' ⟨rfl,k,v',dk,rfl,hF⟩
  have hcv:(convert 96 9 (.slice (some ⟨w.heap.size,0,none⟩) (Lib.nDigits u) 24)).run Tryz.prog ((putRow (fun (b:UInt8)=>Value.int .u8 (b.toNat:Int)) (w.alloc (.cells Lib.zeros24 276)) w.heap.size 0 dk).drewN k)=.ok (.string ⟨(Lib.decDigits u).toArray⟩) ((putRow (fun (b:UInt8)=>Value.int .u8 (b.toNat:Int)) (w.alloc (.cells Lib.zeros24 276)) w.heap.size 0 dk).drewN k):=by
   have h:=run_convert_bytes_back (P:=Tryz.prog) ((putRow (fun (b:UInt8)=>Value.int .u8 (b.toNat:Int)) (w.alloc (.cells Lib.zeros24 276)) w.heap.size 0 dk).drewN k) 96 9 5 ⟨w.heap.size,0,none⟩ 24 (Lib.decDigits u) Tryz.underlying96 Tryz.underlying5 Tryz.underlying9 (fun j hj=>by
    rw[Lib.row_is_numeral hF j hj,Lib.add_plain,World.cell?_drewN]
    exact cell?_putRow (fun (b:UInt8)=>Value.int .u8 (b.toNat:Int)) _ w.heap.size 0 _ dk HH0.out (by rw[hF.size,Array.size_replicate]) j (by rw[hF.size];rw[Lib.decDigits_length] at hj;exact hj))
   rw[Lib.decDigits_length] at h
   exact h
  go_wp2
  go_ret
  refine ⟨rfl,?_⟩
  obtain ⟨os,eo⟩:=Lib.fin_at w (.cells Lib.zeros24 276) dk k 0
  rw[eo]
  exact Lib.below_grow _ w (zNr _) k os
end Go.Proofs.YtpbbgkoalnonoaaGreatDoor
