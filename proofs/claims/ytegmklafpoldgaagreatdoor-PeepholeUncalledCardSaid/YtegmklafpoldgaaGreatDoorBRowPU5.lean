/- Texts joined: ParCat, InpLaw, ChkRef2, InpKey, InpBnd, InpNodup, InpValid, InpSmall, ChkW1, ChkW2, Shelf, Lex2, FmtUint, Lex3, Lex4, ChkSize. -/
import Derived.KernelRfl
import Derived.Lib.Replace
import Derived.Shelf.Strings.Builder1
import Derived.Shelf.Strings.Builder2
import Derived.Shelf.Strings.OnBuilder
import Derived.Shelf.Strings.Trim
import Derived.Shelf.Small.Utf8
import Derived.Shelf.Small.Strs
import Derived.Shelf.Small.Wraps
import Derived.Shelf.Strings.BuilderF
import Derived.Shelf.Strings.BuilderK
import Derived.Shelf.Utf8.RuneCount
import Derived.Shelf.Strings.Builder2Cap
import Derived.Shelf.Strconv.Itoa0
import Derived.Shelf.Strconv.Itoa1
import Derived.Shelf.LaysM
import Derived.Shelf.Strconv.Itoa2
import Derived.Shelf.Strconv.Itoa3
import Derived.Shelf.Strconv.Clone
import Derived.Shelf.Strconv.SyntaxError
import Derived.Shelf.LaysC
import Derived.Shelf.Strconv.ToError
import Derived.Shelf.Strconv.Lower
import Derived.Shelf.Strconv.ParseUint10
import Derived.Shelf.Strconv.ParseUint10Empty
import Derived.Shelf.Strconv.ParseUint10Any
import Derived.Shelf.Strconv.RangeError
import Derived.Shelf.Strconv.ToErrorRange
import Derived.Shelf.Strconv.ParseUintEmpty
import Derived.Shelf.Strconv.ParseUint10b64
import Derived.Shelf.Strconv.ParseUint10b32
import Derived.Shelf.Strconv.ParseUint10b16
import Derived.Shelf.Strconv.ParseUint10b8
import Derived.Shelf.Strconv.ParseUint10At
import Derived.Ground.MpProg
import Derived.Shelf.Pu.ParseUintPublic10
import Derived.Shelf.Pu.ErrVarParseUint
import Derived.Shelf.Strings.Search1
import Derived.Shelf.Strings.Search2
import Derived.Shelf.Strings.Search3
import Derived.Shelf.Strings.Cut
import Derived.Shelf.Strings.Count
import Derived.Shelf.Strings.Shaped
import Derived.Shelf.Strings.Prefix
import Derived.Shelf.Strings.Split
import Derived.Shelf.Strings.SplitShaped
import Derived.Shelf.Unicode.Decode
import Derived.Shelf.Strings.Runes
import Derived.Shelf.Strings.RuneCount
import Derived.Shelf.Strings.AsciiSet
import Derived.Shelf.Strings.Explode
import Derived.Shelf.Unicode.DecodeSlow
import Derived.Shelf.Unicode.DecodeAny
import Derived.Shelf.Unicode.DecodeLast
import Derived.Shelf.Strings.BuilderCap
import Derived.Shelf.Slices.Turned
import Derived.Ground.Names2Prog
import Derived.Shelf.Slices.Clone
import Derived.Ground.SlgnProg
import Derived.Shelf.SlicesE.Clone
import Derived.Test.YtegmklafpoldgaaGreatDoorProg
import Derived.Lib.Walk
import Derived.Lib.ItoaMem
import Derived.Lib.AppendIntMem
import Derived.WalkKit
import Derived.BigCall
import Derived.BigGuard
import Derived.Below
import Derived.WalkSmall
import Derived.Test.YtegmklafpoldgaaGreatDoorBRowPU2
import Derived.Test.YtegmklafpoldgaaGreatDoorBRowPU3
import Derived.Test.YtegmklafpoldgaaGreatDoorBRowPU4
set_option linter.unusedVariables false
set_option linter.unusedSimpArgs false
set_option maxRecDepth 100000
set_option maxHeartbeats 4000000
namespace Go.Stele
def Pr.app (p q:Pr):Pr:=⟨p.vars++q.vars,p.arrays++q.arrays,p.funcs++q.funcs⟩
def noDecl:Pr:=⟨[],[],[]⟩
theorem Pr.app_assoc (p q r:Pr):(p.app q).app r=p.app (q.app r):=by simp[Pr.app]
theorem Pr.app_no (p:Pr):p.app noDecl=p:=by simp[Pr.app,noDecl]
theorem Pr.no_app (p:Pr):noDecl.app p=p:=by simp[Pr.app,noDecl]
inductive Decl (T:List Tok):Nat→Pr→Nat→Prop where
 |var {i j:Nat} {l:List (List UInt8)} (h:isTok T i [kwVar]=true) (f0 i1:Nat) (h1:∀ f,f0≤f→sNames T f (i+1) 0=some (.ok l i1 0)) (h2:sNeed T [59] i1 0=.ok () j 0):Decl T i ⟨l,[],[]⟩ j
 |array {i j:Nat} {a:Ar} (h0:isTok T i [kwVar]=false) (h:isTok T i [kwArray]=true) (h1:sArray T (i+1) 0=some (.ok a j 0)):Decl T i ⟨[],[a],[]⟩ j
 |func {i j:Nat} {a:FnD} (h0:isTok T i [kwVar]=false) (h0':isTok T i [kwArray]=false) (h:isTok T i [kwFunc]=true) (f0:Nat) (h1:∀ f,f0≤f→sFunc T f (i+1) 0=some (.ok a j 0)):Decl T i ⟨[],[],[a]⟩ j
inductive Decls (T:List Tok):Nat→Nat→Pr→Nat→Prop where
 |nil {i:Nat}:Decls T 0 i noDecl i
 |cons {n i j k:Nat} {p q:Pr} (h:Decl T i p j) (ht:Decls T n j q k):Decls T (n+1) i (p.app q) k
theorem Decls.trans {T:List Tok} {n m:Nat}:∀ {i j k:Nat} {p q:Pr},Decls T n i p j→Decls T m j q k→∃ o,Decls T o i (p.app q) k:=by
 intro i j k p q h1 h2
 induction h1 with
 |nil=>rw[Pr.no_app];exact ⟨m,h2⟩
 |cons h ht ih=>
  obtain ⟨o,ho⟩:=ih h2
  rw[Pr.app_assoc]
  exact ⟨o+1,.cons h ho⟩
section
variable {T T':List Tok} {d:Nat}
theorem vars_decls (hA:Ag T T' d T.length):∀ (f:Nat) (acc l:List (List UInt8)) (i i' op':Nat),sVars T f acc i 0=some (.ok l i' op')→op'=0∧∃ l2 n,l=acc++l2∧Decls T' n (i+d) ⟨l2,[],[]⟩ (i'+d)
 |0,_,_,_,_,_,h=>by cases h
 |f+1,acc,l,i,i',op',h=>by
  rw[sVars] at h
  split at h
  ·rename_i ht
   have hi:=isTok_lt ht
   rcases obind_some h with ⟨l1,i1,op1,h1,h2⟩|⟨_,_,_,h2⟩
   ·obtain ⟨_,_,g3,rfl⟩:=sNames_good T f (i+1) 0 _ h1
    rcases obind_some h2 with ⟨u,i2,op2,h3,h4⟩|⟨_,_,_,h4⟩
    ·have hg:=sNeed_good T [59] i1 0
     injection h3 with h3
     rw[h3] at hg
     obtain ⟨k1,k2,k3,rfl⟩:=hg
     have hl:=k3 (g3 (by omega))
     obtain ⟨rfl,l2,n,rfl,hD⟩:=vars_decls hA f _ _ _ _ _ h4
     refine ⟨rfl,l1++l2,n+1,by simp,?_⟩
     have e:(⟨l1++l2,[],[]⟩:Pr)=(⟨l1,[],[]⟩:Pr).app ⟨l2,[],[]⟩:=by simp[Pr.app]
     rw[e]
     refine .cons (j:=i2+d) (.var (by rw[hA.isTok hi];exact ht) f (i1+d) (fun g hg=>?_) ?_) hD
     ·have:=(names_ext hA f g (i+1) 0 hg _ _ _ h1).2.2 (.inl (by have:=k2 rfl;omega))
      rw[show i+d+1=i+1+d by omega]
      exact this
     ·have:=(need_ext hA [59] i1 0 _ _ _ (congrArg some h3)).2.2 (.inr ⟨rfl,hl⟩)
      injection this
    ·cases h4
   ·cases h2
  ·cases h
   exact ⟨rfl,[],0,by simp,.nil⟩
theorem prog_decls (hA:Ag T T' d T.length):∀ (f:Nat) (p q:Pr) (i j op':Nat),i≤T.length→sProg T f p i 0=some (.ok q j op')→∃ dl n,q=p.app dl∧Decls T' n (i+d) dl (T.length+d)
 |0,_,_,_,_,_,_,h=>by cases h
 |f+1,p,q,i,j,op',hi,h=>by
  rw[sProg] at h
  split at h
  ·cases h
   have:i=T.length:=by omega
   subst this
   exact ⟨noDecl,0,(Pr.app_no p).symm,.nil⟩
  rename_i hlt
  have hlt':i<T.length:=by omega
  split at h
  ·rcases obind_some h with ⟨l1,i1,op1,h1,h2⟩|⟨_,_,_,h2⟩
   ·obtain ⟨rfl,l2,n,rfl,hD⟩:=vars_decls hA f _ _ _ _ _ h1
    have hg:=sVars_good T f [] i 0 _ h1
    obtain ⟨dl,m,rfl,hD2⟩:=prog_decls hA f _ _ _ _ _ (hg.2.2.1 hi) h2
    obtain ⟨o,ho⟩:=hD.trans hD2
    refine ⟨_,o,?_,ho⟩
    simp[Pr.app]
   ·cases h2
  rename_i hv
  have hv':isTok T i [kwVar]=false:=by simpa using hv
  split at h
  ·rename_i ha
   rcases obind_some h with ⟨a,i1,op1,h1,h2⟩|⟨_,_,_,h2⟩
   ·obtain ⟨g1,g2,g3,rfl⟩:=sArray_good T (i+1) 0 _ h1
    obtain ⟨dl,m,rfl,hD2⟩:=prog_decls hA f _ _ _ _ _ (g3 (by omega)) h2
    refine ⟨_,m+1,?_,.cons (j:=i1+d) (.array (a:=a) (by rw[hA.isTok hlt'];exact hv') (by rw[hA.isTok hlt'];exact ha) ?_) hD2⟩
    ·simp[Pr.app]
    ·have:=(array_ext hA (i+1) 0 _ _ _ h1).2.2 (.inr ⟨rfl,g3 (by omega)⟩)
     rw[show i+d+1=i+1+d by omega]
     exact this
   ·cases h2
  rename_i ha
  have ha':isTok T i [kwArray]=false:=by simpa using ha
  split at h
  ·rename_i hf
   rcases obind_some h with ⟨a,i1,op1,h1,h2⟩|⟨_,_,_,h2⟩
   ·obtain ⟨g1,g2,g3,rfl⟩:=sFunc_good T f (i+1) 0 _ h1
    obtain ⟨dl,m,rfl,hD2⟩:=prog_decls hA f _ _ _ _ _ (g3 (by omega)) h2
    refine ⟨_,m+1,?_,.cons (j:=i1+d) (.func (a:=a) (by rw[hA.isTok hlt'];exact hv') (by rw[hA.isTok hlt'];exact ha') (by rw[hA.isTok hlt'];exact hf) f fun g hg=>?_) hD2⟩
    ·simp[Pr.app]
    ·have:=(func_ext hA f g (i+1) 0 hg _ _ _ h1).2.2 (.inr ⟨rfl,g3 (by omega)⟩)
     rw[show i+d+1=i+1+d by omega]
     exact this
   ·cases h2
  ·unfold synErr at h
   cases h
end
theorem tok_end {T:List Tok} (xs:List (List UInt8)):isTok T T.length xs=false:=by
 unfold isTok
 rw[List.getElem?_eq_none (zNr _)]
theorem decls_vars {T:List Tok} {n i j:Nat} {dl:Pr} (h:Decls T n i dl j):j=T.length→∃ f0 l i' m dl',(∀ f,f0≤f→∀ acc,sVars T f acc i 0=some (.ok (acc++l) i' 0))∧Decls T m i' dl' j∧dl=(⟨l,[],[]⟩:Pr).app dl'∧m≤n∧(isTok T i [kwVar]=true→m<n):=by
 induction h with
 |nil=>
  intro hj
  subst hj
  refine ⟨1,[],T.length,0,noDecl,fun f hf acc=>?_,.nil,by simp[Pr.app,noDecl],zNr _,fun h=>by rw[tok_end] at h;cases h⟩
  obtain ⟨g,rfl⟩:∃ g,f=g+1:=⟨f-1,by omega⟩
  rw[sVars,if_neg (by rw[tok_end];decide)]
  simp
 |@cons n i j k p q hd ht ih=>
  intro hk
  obtain ⟨f0,l,i',m,dl',h1,h2,h3,h4,h5⟩:=ih hk
  cases hd with
  |@var _ l1 hv f1 i1 hn hs=>
   refine ⟨max f0 f1+1,l1++l,i',m,dl',fun f hf acc=>?_,h2,by rw[h3];simp[Pr.app],by omega,fun _=>by omega⟩
   obtain ⟨g,rfl⟩:∃ g,f=g+1:=⟨f-1,by omega⟩
   rw[sVars,if_pos hv,hn g (by omega)]
   show obind (some (sNeed T [59] i1 0)) _=_
   rw[hs]
   show sVars T g (acc++l1) j 0=_
   rw[h1 g (by omega)]
   simp
  |@array _ a hv ha h=>
   refine ⟨1,[],i,n+1,_,fun f hf acc=>?_,.cons (.array hv ha h) ht,by rw[show (⟨[],[],[]⟩:Pr)=noDecl from rfl,Pr.no_app],by omega,fun h'=>by rw[hv] at h';cases h'⟩
   obtain ⟨g,rfl⟩:∃ g,f=g+1:=⟨f-1,by omega⟩
   rw[sVars,if_neg (by rw[hv];decide)]
   simp
  |@func _ a hv ha' ha f1 h=>
   refine ⟨1,[],i,n+1,_,fun f hf acc=>?_,.cons (.func hv ha' ha f1 h) ht,by rw[show (⟨[],[],[]⟩:Pr)=noDecl from rfl,Pr.no_app],by omega,fun h'=>by rw[hv] at h';cases h'⟩
   obtain ⟨g,rfl⟩:∃ g,f=g+1:=⟨f-1,by omega⟩
   rw[sVars,if_neg (by rw[hv];decide)]
   simp
theorem decls_prog {T:List Tok}:∀ (N n i:Nat) (dl:Pr),n≤N→Decls T n i dl T.length→∃ f0,∀ f,f0≤f→∀ p,sProg T f p i 0=some (.ok (p.app dl) T.length 0)
 |N,n,i,dl,hn,h=>by
  have hv:=decls_vars h rfl
  cases h with
  |nil=>
   refine ⟨1,fun f hf p=>?_⟩
   obtain ⟨g,rfl⟩:∃ g,f=g+1:=⟨f-1,by omega⟩
   rw[sProg,if_pos (zNr _),Pr.app_no]
  |@cons n _ j _ p q hd ht=>
   cases N with
   |zero=>omega
   |succ N=>
   cases hd with
   |@var _ l1 hv1 f1 i1 hn1 hs=>
    obtain ⟨f0,l,i',m,dl',h1,h2,h3,h4,h5⟩:=hv
    obtain ⟨f2,h6⟩:=decls_prog N m i' dl' (by have:=h5 hv1;omega) h2
    have hlt:=isTok_lt hv1
    refine ⟨max f0 f2+1,fun f hf p=>?_⟩
    obtain ⟨g,rfl⟩:∃ g,f=g+1:=⟨f-1,by omega⟩
    rw[sProg,if_neg (by omega),if_pos hv1,h1 g (by omega)]
    show sProg T g _ i' 0=_
    rw[h6 g (by omega),h3]
    simp[Pr.app]
   |@array _ a hv0 ha h=>
    obtain ⟨f2,h6⟩:=decls_prog N n j q (by omega) ht
    have hlt:=isTok_lt ha
    refine ⟨f2+1,fun f hf p=>?_⟩
    obtain ⟨g,rfl⟩:∃ g,f=g+1:=⟨f-1,by omega⟩
    rw[sProg,if_neg (by omega),if_neg (by rw[hv0];decide),if_pos ha,h]
    show sProg T g _ j 0=_
    rw[h6 g (by omega)]
    simp[Pr.app]
   |@func _ a hv0 ha hf1 f1 h=>
    obtain ⟨f2,h6⟩:=decls_prog N n j q (by omega) ht
    have hlt:=isTok_lt hf1
    refine ⟨max f1 f2+1,fun f hf p=>?_⟩
    obtain ⟨g,rfl⟩:∃ g,f=g+1:=⟨f-1,by omega⟩
    rw[sProg,if_neg (by omega),if_neg (by rw[hv0];decide),if_neg (by rw[ha];decide),if_pos hf1,h g (by omega)]
    show sProg T g _ j 0=_
    rw[h6 g (by omega)]
    simp[Pr.app]
theorem prog_cat {A B:List Tok} {p q:Pr} {fa fb i1 i2 o1 o2:Nat} (ha:sProg A fa noDecl 0 0=some (.ok p i1 o1)) (hb:sProg B fb noDecl 0 0=some (.ok q i2 o2)) {B':List Tok} (hB:B'.map (fun t=>(t.kind,t.text))=B.map (fun t=>(t.kind,t.text))) :
  ∃ i op,sProg (A++B') (10 * (A++B').length+20) noDecl 0 0=some (.ok (p.app q) i op):=by
 have hlen:B'.length=B.length:=by simpa using congrArg List.length hB
 have hA1:Ag A (A++B') 0 A.length:=fun j hj=>⟨A[j],A[j],by simp[hj],by simp[List.getElem?_append_left hj,hj],rfl,rfl⟩
 have hA2:Ag B (A++B') A.length B.length:=fun j hj=>by
  have h1:(B'.map (fun t=>(t.kind,t.text)))[j]? = (B.map (fun t=>(t.kind,t.text)))[j]? := by rw[hB]
  have hj':j<B'.length:=by omega
  refine ⟨B[j],B'[j],by simp[hj],?_,?_⟩
  ·rw[List.getElem?_append_right (by omega),Nat.add_sub_cancel]
   simp[hj']
  ·simp only[List.getElem?_map,List.getElem?_eq_getElem hj,List.getElem?_eq_getElem hj',Option.map_some,Option.some.injEq,Prod.mk.injEq] at h1
   exact h1
 obtain ⟨d1,n1,rfl,hD1⟩:=prog_decls hA1 fa _ _ 0 _ _ (Nat.zero_le _) ha
 obtain ⟨d2,n2,rfl,hD2⟩:=prog_decls hA2 fb _ _ 0 _ _ (Nat.zero_le _) hb
 rw[Nat.zero_add,Nat.add_zero] at hD1
 rw[Nat.zero_add] at hD2
 obtain ⟨o,ho⟩:=hD1.trans hD2
 rw[show B.length+A.length=(A++B').length by rw[zLa];omega] at ho
 obtain ⟨f0,h⟩:=decls_prog o o 0 _ (zNr _) ho
 obtain ⟨r,hr⟩:=sProg_ends (A++B') (10 * (A++B').length+20) noDecl 0 0 (Nat.zero_le _) (by omega)
 have h1:=prog_le (A++B') (10 * (A++B').length+20) (max f0 (10 * (A++B').length+20)) noDecl 0 0 (by omega) _ hr
 rw[h _ (by omega)] at h1
 cases h1
 rw[Pr.no_app,Pr.no_app]
 rw[Pr.no_app] at hr
 exact ⟨_,_,hr⟩
end Go.Stele
namespace Go.Stele
open Go.Lib
def parseQ (s:List UInt8):Pr×Int:=match lexAt s 1 with
 |.error (l,e)=>(⟨[],[],[]⟩,e)
 |.ok T=>match sProg T (10 * T.length+20) ⟨[],[],[]⟩ 0 0 with
  |some (.ok p _ _)=>(p,0)
  |some (.err l e)=>(⟨[],[],[]⟩,e)
  |none=>(⟨[],[],[]⟩,0)
/-! ### Limits -/
/-! ### Input -/
/-! ### The given sources -/
/-! ### Unused declarations -/
theorem commas_ge (l:List (List UInt8)):l.length≤(commas l).length:=by rw[commas_len];omega
theorem varK_ge (l:List (List UInt8)):l.length≤(varK l).length:=by 
 rw[varK_len]
 by_cases h:l=[]
 ·rw[h];exact Nat.zero_le _
 ·rw[if_neg h];omega
end Go.Stele
namespace Go.Stele
/-! ### Functions -/
theorem fresh_zero:∀ (l k:List Nm),freshE k l=0→l.Nodup∧∀ s∈l,s ∉ k∧isNm s=true
 |[],k,_=>⟨List.nodup_nil,fun s hs=>(List.not_mem_nil hs).elim⟩
 |s::l,k,h=>by
  rw[freshE] at h
  split at h
  ·cases h
  rename_i h1
  split at h
  ·cases h
  rename_i h2
  obtain ⟨g1,g2⟩:=fresh_zero l (s::k) h
  refine ⟨List.nodup_cons.2 ⟨fun hm=>(g2 s hm).1 zMs,g1⟩,fun x hx=>?_⟩
  rcases zMi.1 hx with rfl|hx
  ·exact ⟨h2,by simpa using h1⟩
  ·exact ⟨fun hm=>(g2 x hx).1 (zMo _ hm),(g2 x hx).2⟩
end Go.Stele
namespace Go.Stele
theorem noDot {s:Nm} (h:isNm s=true):(46:UInt8) ∉ s:=by
 unfold isNm at h
 rw[zBa] at h
 have h2:=h.2
 cases s with
 |nil=>exact List.not_mem_nil
 |cons c r=>
  simp only[zBa] at h2
  intro hm
  rcases zMi.1 hm with rfl|hm
  ·exact absurd h2.1 zDd
  ·exact absurd (List.all_eq_true.1 h2.2 46 hm) zDd
theorem split_dot:∀ (a b x y:Nm),(46:UInt8) ∉ a→(46:UInt8) ∉ b→a++46::x=b++46::y→a=b∧x=y
 |[],[],x,y,_,_,h=>by
  injection h with _ h
  exact ⟨rfl,h⟩
 |[],d::b,x,y,_,hb,h=>by
  injection h with h1 _
  exact absurd (h1▸List.mem_cons_self ..) hb
 |c::a,[],x,y,ha,_,h=>by
  injection h with h1 _
  exact absurd (h1▸List.mem_cons_self ..) ha
 |c::a,d::b,x,y,ha,hb,h=>by
  injection h with h1 h2
  obtain ⟨e1,e2⟩:=split_dot a b x y (fun g=>ha (zMo _ g)) (fun g=>hb (zMo _ g)) h2
  exact ⟨by rw[h1,e1],e2⟩
theorem nodup_inj {fs:List FnD} (h:(fs.map (·.name)).Nodup) {f g:FnD} (hf:f∈fs) (hg:g∈fs) (he:f.name=g.name):f=g:=by
 induction fs with
 |nil=>cases hf
 |cons a l ih=>
  rw[zMc,List.nodup_cons] at h
  rcases zMi.1 hf with rfl|hf'
  ·rcases zMi.1 hg with rfl|hg'
   ·rfl
   ·exact absurd (List.mem_map.2 ⟨g,hg',he.symm⟩) h.1
  ·rcases zMi.1 hg with rfl|hg'
   ·exact absurd (List.mem_map.2 ⟨f,hf',he⟩) h.1
   ·exact ih h.2 hf' hg'
theorem own_key {vars arrays:List Nm} {fs:List FnD} (h:freshE [] (vars++arrays++fs.map (·.name))=0) {f:FnD} (hf:f∈fs) (name:Nm):f.name++[46]++name∈scalarsP vars fs ↔ name∈f.params++f.locals:=by
 obtain ⟨h1,h2⟩:=fresh_zero _ _ h
 have hd:∀ g∈fs,(46:UInt8) ∉ g.name:=fun g hg=>noDot (h2 _ (List.mem_append.2 (.inr (List.mem_map.2 ⟨g,hg,rfl⟩)))).2
 unfold scalarsP
 rw[List.mem_append]
 constructor
 ·rintro (g|g)
  ·have:=noDot (h2 _ (List.mem_append.2 (.inl (List.mem_append.2 (.inl g))))).2
   exact absurd (by simp) this
  ·obtain ⟨l,g1,g2⟩:=List.mem_flatten.1 g
   obtain ⟨k,g3,rfl⟩:=List.mem_map.1 g1
   obtain ⟨x,g4,g5⟩:=List.mem_map.1 g2
   have g6:k.name++46::x=f.name++46::name:=by simpa using g5
   obtain ⟨e1,rfl⟩:=split_dot _ _ _ _ (hd k g3) (hd f hf) g6
   rw[←nodup_inj (List.nodup_append.1 h1).2.1 g3 hf e1]
   exact g4
 ·intro g
  exact .inr (List.mem_flatten.2 ⟨_,List.mem_map.2 ⟨f,hf,rfl⟩,List.mem_map.2 ⟨name,g,rfl⟩⟩)
theorem key_eq {vars arrays:List Nm} {fs:List FnD} (h:freshE [] (vars++arrays++fs.map (·.name))=0) {f:FnD} (hf:f∈fs) (name:Nm):(if f.name++[46]++name∈scalarsP vars fs then f.name++[46]++name else name)=keyI f name:=by
 unfold keyI
 simp only[own_key h hf,List.mem_append]
theorem key_placed {vars arrays:List Nm} {fs:List FnD} {known:List FSum} {f:FnD} (hf:f∈fs) {name:Nm} (h:scalarE (envF vars arrays (fs.map (·.name)) known f) name=0):keyI f name∈scalarsP vars fs:=by
 unfold scalarE at h
 unfold keyI scalarsP
 rw[List.mem_append]
 split at h
 ·rename_i h1
  split
  ·rename_i h2
   exact .inr (List.mem_flatten.2 ⟨_,List.mem_map.2 ⟨f,hf,rfl⟩,List.mem_map.2 ⟨name,List.mem_append.2 h2,rfl⟩⟩)
  ·rename_i h2
   rcases h1 with h1|h1
   ·exact .inl h1
   ·exact absurd (List.mem_append.1 h1) h2
 ·split at h <;> cases h
theorem fnI_mem {P:Pr} {f:FnD} (h:(P.funcs.map (·.name)).Nodup) (hf:f∈P.funcs):fnI P f.name=f:=by
 unfold fnI
 cases hg:P.funcs.find? fun g=>decide (g.name=f.name) with
 |none=>exact absurd (List.find?_eq_none.1 hg f hf) (by simp)
 |some g=>exact nodup_inj h (List.mem_of_find?_eq_some hg) hf (of_decide_eq_true (List.find?_some (p:=fun g:FnD=>decide (g.name=f.name)) hg))
end Go.Stele
namespace Go.Stele
def Lt (v:Nat):Prop:=v<4294967296
mutual
def numE:Ex→Prop
 |.mk op num name args=>Lt num∧numEs args
def numEs:List Ex→Prop
 |[]=>True
 |x::l=>numE x∧numEs l
end
mutual
def numS:Sm→Prop
 |.mk kind name index value thn els=>numEs index∧numEs value∧numSs thn∧numSs els
def numSs:List Sm→Prop
 |[]=>True
 |x::l=>numS x∧numSs l
end
end Go.Stele
namespace Go.Stele
theorem errFs_own {vars arrays later:List Nm}:∀ (fs:List FnD) (known:List FSum),errFs vars arrays later known fs=0→∀ f∈fs,(f.params++f.locals).Nodup∧∀ x∈f.params++f.locals,x ∉ vars++arrays++later
 |[],known,_,f,hf=>(List.not_mem_nil hf).elim
 |g::l,known,h,f,hf=>by
  rw[errFs] at h
  obtain ⟨h1,h2⟩:=orE_zero.1 h
  rcases zMi.1 hf with rfl|hf
  ·obtain ⟨g1,g2⟩:=fresh_zero _ _ (orE_zero.1 h1).1
   exact ⟨g1,fun x hx=>(g2 x hx).1⟩
  ·exact errFs_own l _ h2 f hf
theorem nodup_map {A B:Type} {g:A→B} (hg:∀ x y,g x=g y→x=y):∀ {l:List A},l.Nodup→(l.map g).Nodup
 |[],_=>List.nodup_nil
 |a::l,h=>by
  rw[List.nodup_cons] at h
  rw[zMc,List.nodup_cons]
  refine ⟨fun hm=>?_,nodup_map hg h.2⟩
  obtain ⟨b,hb,he⟩:=List.mem_map.1 hm
  exact h.1 (hg _ _ he▸hb)
theorem own_nodup {fs:List FnD}:(fs.map (·.name)).Nodup→(∀ f∈fs,(46:UInt8) ∉ f.name)→(∀ f∈fs,(f.params++f.locals).Nodup)→((fs.map fun f=>(f.params++f.locals).map fun x=>f.name++[46]++x).flatten).Nodup:=by
 induction fs with
 |nil=>intro _ _ _;exact List.nodup_nil
 |cons f l ih=>
  intro h1 h2 h3
  rw[zMc,List.nodup_cons] at h1
  rw[zMc,List.flatten_cons,List.nodup_append]
  refine ⟨?_,ih h1.2 (fun g hg=>h2 g (zMo _ hg)) (fun g hg=>h3 g (zMo _ hg)),?_⟩
  ·exact nodup_map (fun x y hxy=>List.append_cancel_left hxy) (h3 f zMs)
  ·intro a ha b hb he
   subst he
   obtain ⟨x,_,rfl⟩:=List.mem_map.1 ha
   obtain ⟨L,g1,g2⟩:=List.mem_flatten.1 hb
   obtain ⟨g,g3,rfl⟩:=List.mem_map.1 g1
   obtain ⟨y,_,g5⟩:=List.mem_map.1 g2
   have g6:g.name++46::y=f.name++46::x:=by simpa using g5
   obtain ⟨e1,_⟩:=split_dot _ _ _ _ (h2 g (zMo _ g3)) (h2 f zMs) g6
   exact h1.1 (List.mem_map.2 ⟨g,g3,e1⟩)
theorem scal_nodup {vars arrays:List Nm} {fs:List FnD} (h:freshE [] (vars++arrays++fs.map (·.name))=0) (hf:errFs vars arrays (fs.map (·.name)) [] fs=0):(scalarsP vars fs).Nodup:=by
 obtain ⟨h1,h2⟩:=fresh_zero _ _ h
 have ho:=errFs_own fs [] hf
 unfold scalarsP
 rw[List.nodup_append]
 refine ⟨(List.nodup_append.1 (List.nodup_append.1 h1).1).1,own_nodup (List.nodup_append.1 h1).2.1 (fun f hf=>noDot (h2 _ (List.mem_append.2 (.inr (List.mem_map.2 ⟨f,hf,rfl⟩)))).2) fun f hf=>(ho f hf).1,?_⟩
 intro a ha b hb he
 subst he
 obtain ⟨L,g1,g2⟩:=List.mem_flatten.1 hb
 obtain ⟨g,g3,rfl⟩:=List.mem_map.1 g1
 obtain ⟨y,_,g5⟩:=List.mem_map.1 g2
 have:=noDot (h2 _ (List.mem_append.2 (.inl (List.mem_append.2 (.inl ha))))).2
 rw[←g5] at this
 exact absurd (by simp) this
end Go.Stele
namespace Go.Stele
def Known (fs:List FnD) (known:List FSum):Prop:=∀ k∈known,∃ g∈fs,g.name=k.name∧g.params.length=k.params
theorem body_valid {vars arrays later:List Nm} {all:List FnD}:∀ (fs:List FnD) (known:List FSum),errFs vars arrays later known fs=0→Known all known→(∀ f∈fs,f∈all)→∀ f∈fs,∃ kn,errSs (envF vars arrays later kn f) f.body=0∧Known all kn
 |[],known,_,_,_,f,hf=>(List.not_mem_nil hf).elim
 |g::l,known,h,hk,ha,f,hf=>by
  rw[errFs] at h
  obtain ⟨h1,h2⟩:=orE_zero.1 h
  rcases zMi.1 hf with rfl|hf
  ·exact ⟨known,(orE_zero.1 h1).2,hk⟩
  ·refine body_valid l _ h2 (fun k hk'=>?_) (fun x hx=>ha x (zMo _ hx)) f hf
   rcases List.mem_append.1 hk' with g1|g1
   ·exact hk k g1
   ·rw[List.mem_singleton.1 g1]
    exact ⟨g,ha g zMs,rfl,rfl⟩
theorem sizes_valid:∀ (l:List Int) (t:Int),0≤t→sizesE t l=0→∀ n∈l,0<n∧t+n≤150000
 |[],t,_,_,n,hn=>(List.not_mem_nil hn).elim
 |a::l,t,ht,h,n,hn=>by
  rw[sizesE] at h
  split at h
  ·cases h
  split at h
  ·cases h
  rcases zMi.1 hn with rfl|hn
  ·constructor <;> omega
  ·have:=sizes_valid l (t+a) (by omega) h n hn
   constructor <;> omega
structure Valid (p:Pr):Prop where
 names:freshE [] (p.vars++p.arrays.map (·.name)++p.funcs.map (·.name))=0
 sizes:∀ a∈p.arrays,0<a.size∧a.size≤150000
 own:∀ f∈p.funcs,(f.params++f.locals).Nodup∧∀ x∈f.params++f.locals,x ∉ p.vars++p.arrays.map (·.name)++p.funcs.map (·.name)
 bodies:∀ f∈p.funcs,∃ kn,errSs (envF p.vars (p.arrays.map (·.name)) (p.funcs.map (·.name)) kn f) f.body=0∧Known p.funcs kn
 keys:(scalarsP p.vars p.funcs).Nodup
 main:mainI p∈p.funcs∧(mainI p).name=[109,97,105,110]∧(mainI p).params=[]
 few:(scalarsP p.vars p.funcs).length≤8000
theorem valid_of {p:Pr} (h:checkPr p=0):Valid p:=by
 unfold checkPr checkP at h
 have e1:(p.arrays.map fun a=>(a.name,(a.size:Int))).map (·.1)=p.arrays.map (·.name):=by rw[List.map_map];try rfl
 rw[e1] at h
 obtain ⟨h1,h⟩:=orE_zero.1 h
 obtain ⟨h2,h⟩:=orE_zero.1 h
 obtain ⟨h3,h4⟩:=orE_zero.1 h
 have hm:mainI p∈p.funcs∧(mainI p).name=[109,97,105,110]∧(mainI p).params=[]∧(scalarsP p.vars p.funcs).length≤8000:=by
  unfold mainE at h4
  split at h4
  ·rename_i f m hf hms
   split at h4
   ·rename_i h5
    split at h4
    ·rename_i h6
     have e:mainI p=f:=by unfold mainI;rw[hf];try rfl
     rw[e]
     exact ⟨List.mem_of_getLast? hf,h5.1,h5.2,h6.1⟩
    ·cases h4
   ·cases h4
  ·cases h4
 refine ⟨h1,fun a ha=>?_,errFs_own _ _ h3,body_valid _ _ h3 (fun k hk=>(List.not_mem_nil hk).elim) (fun f hf=>hf),scal_nodup h1 h3,⟨hm.1,hm.2.1,hm.2.2.1⟩,hm.2.2.2⟩
 have:=sizes_valid _ 0 zDd h2 (a.size:Int) (by
  rw[List.map_map]
  exact List.mem_map.2 ⟨a,ha,rfl⟩)
 constructor <;> omega
end Go.Stele
namespace Go.Stele
def Few6 (n:Nat):Prop:=n≤2000000
mutual
def smE:Ex→Prop
 |.mk op num name args=>Few6 args.length∧smEs args
def smEs:List Ex→Prop
 |[]=>True
 |x::l=>smE x∧smEs l
end
mutual
def smS:Sm→Prop
 |.mk kind name index value thn els=>Few6 index.length∧Few6 value.length∧Few6 thn.length∧Few6 els.length∧smEs index∧smEs value∧smSs thn∧smSs els
def smSs:List Sm→Prop
 |[]=>True
 |x::l=>smS x∧smSs l
end
structure SmF (f:FnD):Prop where
 params:Few6 f.params.length
 locals:Few6 f.locals.length
 body:Few6 f.body.length
 stmts:smSs f.body
end Go.Stele
namespace Go.Proofs.YtegmklafpoldgaaGreatDoor.Chk
open Go.GL Go.RowKit Go.Stele
def RetAcc (es:List LV) (r:LRes) (H:Heap):Prop:=∃ v,r=.ret v∧GL.Acc 1 v es H []
theorem get_mid {A B:Type} (g:A→B) (pre:List A) (a:A) (l:List A):((pre++a::l).map g)[((pre.length:Nat):Int).toNat]? = some (g a):=by
 rw[Int.toNat_natCast,List.getElem?_map,List.getElem?_append_right (zNr _),Nat.sub_self]
 rfl
theorem hsub_left {H F:Heap}:HSub H (H++F):=⟨F,List.Perm.refl _⟩
theorem str_len (l:List (List UInt8)):∀ v∈l.map str,v.cells.length=1:=fun v hv=>by
 obtain ⟨a,_,rfl⟩:=List.mem_map.1 hv
 rfl
theorem str_ok (l:List (List UInt8)):((l.map str).flatMap LV.cells).all cellOk=true:=by
 induction l with
 |nil=>rfl
 |cons a l ih=>
  simp only[zMc,List.flatMap_cons,List.all_append,ih,Bool.and_true]
  rfl
section
variable {C:Ctx} {n:Nat} {e:Env} {H H':Heap} {rs:List ResultVar} {vs:List LV} {es:List LV} {v:LV}
theorem retAcc (hd:e.ds=[]) (h:AllRes C n e H rs [v]) (hv:GL.Acc 1 v es H' []) (hH:HSub H' H):RetPost C n rs (RetAcc es) .ret e H:=rR hd h hH ⟨v,rfl,hv⟩
end
attribute [local irreducible] LOps LCode LStep LCalls Go.GL.Pure QThen QBlock RetPost LQ LAny LLate LLateOp LS
section
variable {B0:Nat} {w0:World}
theorem clone_spec (l:List (List UInt8)) (hl:l.length≤2000000):LCalls (KC B0 w0) 50 [.list (l.map str)] [] (RetAcc (l.map str)):=by
 refine cI Tryz.func50 rfl (n:=8) rfl rfl rfl ?_
 refine gf5 ?_
 refine oS (S.sliceNil (es:=l.map str) rfl fun b hb=>?_) rfl
 refine gaq ?_
 refine oC rfl (fun hc=>?_) (fun hc=>?_)
 ·have h0:=hb hc
  refine gaf ?_
  exact retAcc rfl (rC (rT (v:=nilSlice) rfl zsr) rN) (by rw[h0];exact Acc.nil) zhr
 ·refine gdn ?_
  refine oS (S.litA [] rfl eN rfl rfl rfl fun b4=>?_) rfl
  refine gb9 ?_
  refine oS (S.acc (es:=[]) (F:=[]) rfl Acc.row rfl (str_len l) (str_ok l) (by simp;omega) fun v' H' hacc=>?_) rfl
  refine oP (pA (lv:=v') rfl) rfl ?_
  refine gbj ?_
  exact retAcc rfl (rC (rT (v:=v') rfl zsr) rN) hacc zhr
theorem grow_spec (k:Nat) (hk:k≤1000000000):LCalls (KC B0 w0) 124 [nilSlice,int .i64 k] [] (RetAcc []):=by
 refine cI Tryz.func124 rfl (n:=27) rfl rfl rfl ?_
 refine gdo ?_
 refine oC rfl (fun hc=>?_) (fun _=>?_)
 ·have:=zt hc
  omega
 refine gaw ?_
 refine oP (Pure.rowCap rfl) rfl ?_
 refine oP (pM (lv:=nilSlice) rfl) rfl ?_
 refine oP (Pure.rowLen rfl) rfl ?_
 refine gf6 ?_
 refine oC rfl (fun hc=>?_) (fun hc=>?_)
 ·have h0:0<k:=by
   have:=zt hc
   simp at this
   omega
  refine gas ?_
  refine oP (Pure.rowCap rfl) rfl ?_
  refine oP (Pure.rowSlice (n:=0) rfl rfl (zNr _)) rfl ?_
  refine gat ?_
  refine oS (S.appZeros (n:=k) rfl (int_eq (by simp)) h0 zo fun b cap hcap=>?_) rfl
  refine gf7 ?_
  refine oP (Pure.rowSlice (n:=0) rfl rfl zo) rfl ?_
  refine LOps.rowOpen 25 1 pH rfl (by simp) ?_
  refine oP (pA (lv:=.app b cap 1 []) rfl) rfl ?_
  refine gf8 ?_
  exact retAcc rfl (rC (rT (v:=.app b cap 1 []) rfl zsr) rN) Acc.row zhr
 ·refine gcn ?_
  exact retAcc rfl (rC (rT (v:=nilSlice) rfl zsr) rN) Acc.nil zhr
def strsV (l:List (List UInt8)):LV:=.list (l.map str)
theorem sum_le (L:List (List (List UInt8))) (M:Nat) (h:∀ l∈L,l.length≤M):L.flatten.length≤L.length * M:=by
 induction L with
 |nil=>simp
 |cons a L ih=>
  rw[List.flatten_cons,zLa,zLc,Nat.add_mul]
  have h1:=h a zMs
  have h2:=ih fun l hl=>h l (zMo _ hl)
  omega
theorem concat_spec (L:List (List (List UInt8))) (hL:L.length≤4) (hl:∀ l∈L,l.length≤2000000):LCalls (KC B0 w0) 51 [.list (L.map strsV)] [] (RetAcc (L.flatten.map str)):=by
 have hsum:=sum_le L 2000000 hl
 refine cI Tryz.func51 rfl (n:=36) rfl rfl rfl ?_
 refine ga9 ?_
 refine oL (fun k ls H'=>∃ pre l1,L=pre++l1∧k=l1.length∧ls=[(0,.list (L.map strsV)),(3,int .i64 (pre.flatten.length:Int)),(9,.list (L.map strsV)),(10,int .i64 ((L.map strsV).length:Int)),(11,int .i64 (pre.length:Int))]∧H'=[])
  ⟨L.length,_,_,⟨[],L,rfl,rfl,rfl,rfl⟩,⟨rfl,rfl,rfl,rfl,rfl,trivial⟩,zhR _⟩ ?_
 rintro k ls H' ⟨pre,l1,hLe,rfl,rfl,rfl⟩ j hj
 have hb1:pre.flatten.length≤8000000:=by
  have h1:=hsum
  rw[hLe,List.flatten_append,zLa] at h1
  rw[hLe] at hL
  omega
 have hb2:pre.length≤4:=by
  rw[hLe,zLa] at hL
  omega
 refine gae ?_
 refine oC rfl (fun hc=>?_) (fun hc=>?_)
 ·have hlen:=zt hc
  rw[zLm,hLe,zLa] at hlen
  obtain ⟨a,l2,rfl⟩:∃ a l2,l1=a::l2:=by
   cases l1 with
   |nil=>simp at hlen
   |cons a l2=>exact ⟨a,l2,rfl⟩
  have ha:(a.map str).length≤2000000:=by
   rw[zLm]
   exact hl a (by rw[hLe];exact List.mem_append_right _ zMs)
  refine gag ?_
  refine oP (xR (el':=strsV a) (cs:=[strsV a]) rfl rfl zo (by rw[hLe];exact get_mid strsV pre a l2) rfl rfl) rfl ?_
  refine gf9 ?_
  refine oC rfl (fun hd=>?_) (fun _=>?_)
  ·have:=zt hd
   omega
  ·refine gax ?_
   exact ⟨l2.length,_,_,Nat.lt_succ_self _,⟨pre++[a],l2,by rw[hLe];simp,rfl,rfl,rfl⟩,⟨rfl,int_eq (by simp),rfl,rfl,int_eq (by simp),trivial⟩,zhR _,hj⟩
 ·have hlen:=zf hc
  rw[zLm,hLe,zLa] at hlen
  obtain rfl:l1=[]:=by
   cases l1 with
   |nil=>rfl
   |cons a l2=>simp at hlen;omega
  rw[zLz] at hLe
  subst hLe
  refine gbv ?_
  have hfl:L.flatten.length≤8000000:=by omega
  refine oS (S.callH (H1:=[]) (F:=[]) [_,_] rfl zpr (grow_spec L.flatten.length zo) ?_ (by rintro ch H' ⟨v,h,_⟩;cases h)) rfl
  rintro v Ha ⟨_,h,hacc⟩
  cases h
  rw[zLz]
  refine oP (pA (lv:=v) rfl) rfl ?_
  refine gbl ?_
  refine oL (fun k ls H'=>∃ pre l1 v1 Ha1,L=pre++l1∧k=l1.length∧ls=[(6,v1),(25,.list (L.map strsV)),(26,int .i64 ((L.map strsV).length:Int)),(27,int .i64 (pre.length:Int))]∧H'=Ha1∧GL.Acc 1 v1 (pre.flatten.map str) Ha1 [])
   ⟨L.length,_,_,⟨[],L,v,Ha,rfl,rfl,rfl,rfl,hacc⟩,⟨rfl,rfl,rfl,rfl,trivial⟩,zhR _⟩ ?_
  rintro k ls H' ⟨pre,l1,v1,Ha1,hLe,rfl,rfl,rfl,hacc1⟩ j2 hj2
  have hb1:pre.flatten.length≤8000000:=by
   have h1:=hsum
   rw[hLe,List.flatten_append,zLa] at h1
   rw[hLe] at hL
   omega
  have hb2:pre.length≤4:=by
   rw[hLe,zLa] at hL
   omega
  refine gae ?_
  refine oC rfl (fun hc=>?_) (fun hc=>?_)
  ·have hlen:=zt hc
   rw[zLm,hLe,zLa] at hlen
   obtain ⟨a,l2,rfl⟩:∃ a l2,l1=a::l2:=by
    cases l1 with
    |nil=>simp at hlen
    |cons a l2=>exact ⟨a,l2,rfl⟩
   have ha:a.length≤2000000:=hl a (by rw[hLe];exact List.mem_append_right _ zMs)
   refine gag ?_
   refine oP (xR (el':=strsV a) (cs:=[strsV a]) rfl rfl zo (by rw[hLe];exact get_mid strsV pre a l2) rfl rfl) rfl ?_
   refine gga ?_
   refine oP (pM (lv:=v1) rfl) rfl ?_
   refine gb9 ?_
   refine oS (S.acc rfl hacc1 rfl (str_len a) (str_ok a) (by rw[zLm,zLm];omega) fun v' H' hacc=>?_) rfl
   refine oP (pA (lv:=v') rfl) rfl ?_
   refine gah ?_
   exact ⟨l2.length,_,_,Nat.lt_succ_self _,⟨pre++[a],l2,v',H',by rw[hLe];simp,rfl,rfl,rfl,by
    have e:((pre++[a]).flatten.map str)=pre.flatten.map str++a.map str:=by simp
    rw[e]
    exact hacc⟩,⟨rfl,rfl,rfl,int_eq (by simp),trivial⟩,zhR _,hj2⟩
  ·have hlen:=zf hc
   rw[zLm,hLe,zLa] at hlen
   obtain rfl:l1=[]:=by
    cases l1 with
    |nil=>rfl
    |cons a l2=>simp at hlen;omega
   rw[zLz] at hLe
   rw[←hLe] at hacc1
   refine gbb ?_
   refine oP (pM (lv:=v1) rfl) rfl ?_
   refine oP (pA (lv:=v1) rfl) rfl ?_
   refine gbj ?_
   exact retAcc (hj2.trans hj) (rC (rT (v:=v1) rfl zsr) rN) hacc1 zhr
end
end Go.Proofs.YtegmklafpoldgaaGreatDoor.Chk
namespace Go.Proofs.YtegmklafpoldgaaGreatDoor.Chk
open Go.GL Go.RowKit Go.Stele
def ownS (f:FnD):List (List UInt8):=(f.params++f.locals).map fun x=>f.name++[46]++x
attribute [local irreducible] LOps LCode LStep LCalls Go.GL.Pure QThen QBlock RetPost LQ LAny LLate LLateOp LS
section
variable {B0:Nat} {w0:World}
theorem scalars_specG {vars:List Nm} {fs:List FnD} (AL:LV) (hv6:vars.length≤2000000) (hf6:fs.length≤2000000) (hsm:∀ f∈fs,SmF f) (hn:∀ f∈fs,f.name.length≤1000∧∀ x∈f.params++f.locals,x.length≤1000):LCalls (KC B0 w0) 23 [.agg [.list (vars.map str),AL,.list (fs.map encFn)]] [] (Ret (.list ((scalarsP vars fs).map str))):=by
 have hown:∀ f∈fs,(ownS f).length≤4000000:=fun f hf=>by
  have h1:f.params.length≤2000000:=(hsm f hf).params
  have h2:f.locals.length≤2000000:=(hsm f hf).locals
  unfold ownS
  rw[zLm,zLa]
  omega
 have hsum:∀ l:List FnD,(∀ f∈l,f∈fs)→((l.map ownS).flatten).length≤l.length * 4000000:=fun l hl=>by
  have:=sum_le (l.map ownS) 4000000 (fun x hx=>by
   obtain ⟨f,hf,rfl⟩:=List.mem_map.1 hx
   exact hown f (hl f hf))
  rwa [zLm] at this
 refine cI Tryz.func23 rfl (n:=40) rfl rfl rfl ?_
 refine gac ?_
 refine oS (sB rfl fun b1=>?_) rfl
 refine ggb ?_
 refine oS (S.callH (H1:=[]) (F:=[_]) [_] rfl zpr (clone_spec vars hv6) ?_ (by rintro ch H' ⟨v,h,_⟩;cases h)) rfl
 rintro v Ha ⟨_,h,hacc⟩
 cases h
 refine LOps.perm (zPc (l₂:=[_])) ?_
 refine oP (pA (lv:=v) rfl) rfl ?_
 refine gco ?_
 refine oL (fun k ls H'=>∃ pre l1 v1 Ha1,fs=pre++l1∧k=l1.length∧ls=[(3,v1),(12,.list (fs.map encFn)),(13,int .i64 ((fs.map encFn).length:Int)),(14,int .i64 (pre.length:Int))]∧H'=Ha1∧GL.Acc 1 v1 ((vars++(pre.map ownS).flatten).map str) Ha1 [])
  ⟨fs.length,_,_,⟨[],fs,v,Ha,rfl,rfl,rfl,rfl,by simpa using hacc⟩,⟨rfl,rfl,rfl,rfl,trivial⟩,zhD zhr⟩ ?_
 rintro k ls Ha1 ⟨pre,l1,v1,_,hLe,rfl,rfl,rfl,hacc1⟩ j hj
 have hb2:pre.length≤2000000:=by
  rw[hLe,zLa] at hf6
  omega
 have hb1:((pre.map ownS).flatten).length≤8000000000000:=by
  have:=hsum pre (fun f hf=>by rw[hLe];exact List.mem_append_left _ hf)
  omega
 refine gae ?_
 refine oC rfl (fun hc=>?_) (fun hc=>?_)
 ·have hlen:=zt hc
  rw[zLm,hLe,zLa] at hlen
  obtain ⟨f,l2,rfl⟩:∃ a l2,l1=a::l2:=by
   cases l1 with
   |nil=>simp at hlen
   |cons a l2=>exact ⟨a,l2,rfl⟩
  have hfm:f∈fs:=by rw[hLe];exact List.mem_append_right _ zMs
  obtain ⟨hn1,hn2⟩:=hn f hfm
  have hp6:f.params.length≤2000000:=(hsm f hfm).params
  have hl6:f.locals.length≤2000000:=(hsm f hfm).locals
  refine gag ?_
  refine oP (xR (el':=encFn f) (cs:=[_,_,_,_]) rfl rfl zo (by rw[hLe];exact get_mid encFn pre f l2) rfl rfl) rfl ?_
  refine gan ?_
  refine oS (sA fun b5=>?_) rfl
  refine ggc ?_
  refine oS (sL (es:=[strsV f.params,strsV f.locals]) [_,_] rfl (eC rfl rfl (eC rfl rfl eN)) rfl rfl rfl ?_) rfl
  refine oS (S.callH (H1:=[]) (F:=(b5,.cells 89 [str f.name,strsV f.params,strsV f.locals,.list (f.body.map encS)])::Ha1) [_] rfl zpr (concat_spec [f.params,f.locals] (by simp) (by
   intro l hl
   rcases zMi.1 hl with rfl|hl
   ·exact hp6
   ·rw[List.mem_singleton.1 hl]
    exact hl6)) ?_ (by rintro ch H' ⟨v,h,_⟩;cases h)) rfl
  rintro v2 Ha2 ⟨_,h,hacc2⟩
  cases h
  have hfl:[f.params,f.locals].flatten=f.params++f.locals:=by simp
  rw[hfl] at hacc2
  refine LOps.sub 23 rfl hacc2.sub ?_
  refine LOps.weak (H':=(b5,.cells 89 [str f.name,strsV f.params,strsV f.locals,.list (f.body.map encS)])::Ha1) ⟨Ha2,zPc⟩ ?_
  refine gbf ?_
  refine oL (fun k ls H'=>∃ pre2 l3 v3 Ha3,f.params++f.locals=pre2++l3∧k=l3.length∧ls=[(3,v3),(5,ptr b5 0),(12,.list (fs.map encFn)),(13,int .i64 ((fs.map encFn).length:Int)),(14,int .i64 (pre.length:Int)),(23,.list ((f.params++f.locals).map str)),(24,int .i64 (((f.params++f.locals).map str).length:Int)),(25,int .i64 (pre2.length:Int))] ∧
    H'=(b5,.cells 89 [str f.name,strsV f.params,strsV f.locals,.list (f.body.map encS)])::Ha3∧GL.Acc 1 v3 ((vars++(pre.map ownS).flatten++pre2.map fun x=>f.name++[46]++x).map str) Ha3 [])
   ⟨(f.params++f.locals).length,_,_,⟨[],f.params++f.locals,v1,Ha1,rfl,rfl,rfl,rfl,by simpa using hacc1⟩,⟨rfl,rfl,rfl,rfl,rfl,rfl,rfl,rfl,trivial⟩,zhR _⟩ ?_
  rintro k ls H' ⟨pre2,l3,v3,Ha3,hLe2,rfl,rfl,rfl,hacc3⟩ j2 hj2
  have hb3:pre2.length≤4000000:=by
   have:(f.params++f.locals).length≤4000000:=by rw[zLa];omega
   rw[hLe2,zLa] at this
   omega
  refine gae ?_
  refine oC rfl (fun hd=>?_) (fun hd=>?_)
  ·have hlen2:=zt hd
   rw[zLm,hLe2,zLa] at hlen2
   obtain ⟨x,l4,rfl⟩:∃ a l2,l3=a::l2:=by
    cases l3 with
    |nil=>simp at hlen2
    |cons a l2=>exact ⟨a,l2,rfl⟩
   have hx:x.length≤1000:=hn2 x (by rw[hLe2];exact List.mem_append_right _ zMs)
   refine gag ?_
   refine oP (xR (el':=str x) (cs:=[str x]) rfl rfl zo (by rw[hLe2];exact get_mid str pre2 x l4) rfl rfl) rfl ?_
   refine ggd ?_
   refine oP (pM (lv:=v3) rfl) rfl ?_
   refine gge ?_
   refine oS (sL (es:=[str (f.name++[46]++x)]) [_] rfl (eC rfl rfl eN) rfl rfl rfl ?_) rfl
   refine oS (S.acc1 rfl hacc3 rfl (str_len [f.name++[46]++x]) rfl (by rw[zLm,zLa,zLa,zLm,zLc,zLn];omega) fun v' H' hacc'=>?_) rfl
   refine oP (pA (lv:=v') rfl) rfl ?_
   refine gah ?_
   exact ⟨l4.length,_,_,Nat.lt_succ_self _,⟨pre2++[x],l4,v',H',by rw[hLe2];simp,rfl,rfl,rfl,by
    have e:((vars++(pre.map ownS).flatten++(pre2++[x]).map fun x=>f.name++[46]++x).map str)=((vars++(pre.map ownS).flatten++pre2.map fun x=>f.name++[46]++x).map str)++[str (f.name++[46]++x)]:=by simp
    rw[e]
    exact hacc'⟩,⟨rfl,rfl,rfl,rfl,rfl,rfl,rfl,int_eq (by simp),trivial⟩,zhR _,hj2⟩
  ·have hlen2:=zf hd
   rw[zLm,hLe2,zLa] at hlen2
   obtain rfl:l3=[]:=by
    cases l3 with
    |nil=>rfl
    |cons a l2=>simp at hlen2;omega
   rw[zLz] at hLe2
   refine gdp ?_
   exact ⟨l2.length,_,_,Nat.lt_succ_self _,⟨pre++[f],l2,v3,Ha3,by rw[hLe];simp,rfl,rfl,rfl,by
    have e:((vars++((pre++[f]).map ownS).flatten).map str)=(vars++(pre.map ownS).flatten++pre2.map fun x=>f.name++[46]++x).map str:=by
     rw[←hLe2]
     simp[ownS]
    rw[e]
    exact hacc3⟩,⟨rfl,rfl,rfl,int_eq (by simp),trivial⟩,zhD zhr,hj2.trans hj⟩
 ·have hlen:=zf hc
  rw[zLm,hLe,zLa] at hlen
  obtain rfl:l1=[]:=by
   cases l1 with
   |nil=>rfl
   |cons a l2=>simp at hlen;omega
  rw[zLz] at hLe
  rw[←hLe] at hacc1
  refine gbb ?_
  refine oP (pM (lv:=v1) rfl) rfl ?_
  refine oP (pA (lv:=v1) rfl) rfl ?_
  refine gbj ?_
  exact rR hj (rC (rT (v:=v1) rfl hacc1.sub) rN) zhn ⟨rfl,rfl⟩
end
end Go.Proofs.YtegmklafpoldgaaGreatDoor.Chk
namespace Go.Proofs
def Tryz.lays156_ren:Go.Shelf.Ren:=⟨fun|156=>26|165=>56|166=>57|169=>58|240=>128|241=>129|276=>171|277=>172|n=>n,fun|31=>24|9=>9|3=>3|4=>4|0=>0|20=>20|72=>134|76=>138|70=>132|37=>80|75=>137|127=>195|164=>221|5=>5|80=>140|n=>n,fun|n=>n⟩
theorem Tryz.lays156:Go.Proofs.Lays.n156 Tryz.prog Tryz.lays156_ren:={
 mixed:=by kernel_rfl
 f156:=Tryz.func26.trans zCs
 f165:=Tryz.func56.trans zCs
 f166:=Tryz.func57.trans zCs
 f169:=Tryz.func58.trans zCs
 f240:=Tryz.func128.trans zCs
 f241:=Tryz.func129.trans zCs
 f276:=Tryz.func171.trans zCs
 f277:=Tryz.func172.trans zCs
 t0:=Tryz.underlying0
 a0:=Tryz.isAgg0
 z0:=Tryz.sizeOf0
 v0:=Tryz.zeroValue0
 t3:=Tryz.underlying3
 a3:=Tryz.isAgg3
 z3:=Tryz.sizeOf3
 v3:=Tryz.zeroValue3
 t4:=Tryz.underlying4
 a4:=Tryz.isAgg4
 z4:=Tryz.sizeOf4
 v4:=Tryz.zeroValue4
 t9:=Tryz.underlying9
 a9:=Tryz.isAgg9
 z9:=Tryz.sizeOf9
 v9:=Tryz.zeroValue9
 t20:=Tryz.underlying20
 a20:=Tryz.isAgg20
 z20:=Tryz.sizeOf20
 v20:=Tryz.zeroValue20
 t31:=Tryz.underlying24
 a31:=Tryz.isAgg24
 z31:=Tryz.sizeOf24
 v31:=Tryz.zeroValue24
 t37:=Tryz.underlying80
 a37:=Tryz.isAgg80
 z37:=Tryz.sizeOf80
 v37:=Tryz.zeroValue80
 t70:=Tryz.underlying132
 a70:=Tryz.isAgg132
 z70:=Tryz.sizeOf132
 v70:=Tryz.zeroValue132
 t72:=Tryz.underlying134
 a72:=Tryz.isAgg134
 z72:=Tryz.sizeOf134
 v72:=Tryz.zeroValue134
 t75:=Tryz.underlying137
 a75:=Tryz.isAgg137
 z75:=Tryz.sizeOf137
 v75:=Tryz.zeroValue137
 t76:=Tryz.underlying138
 a76:=Tryz.isAgg138
 z76:=Tryz.sizeOf138
 v76:=Tryz.zeroValue138
 t127:=Tryz.underlying195
 a127:=Tryz.isAgg195
 z127:=Tryz.sizeOf195
 v127:=Tryz.zeroValue195
 t164:=Tryz.underlying221
 a164:=Tryz.isAgg221
 z164:=Tryz.sizeOf221
 v164:=Tryz.zeroValue221 }
theorem Tryz.Builder_Extra_156:Builder.Extra Tryz.prog Tryz.lays156_ren:={
 sizeBuilder:=by kernel_rfl
 liesBuilder:=by kernel_rfl
 t5:=Tryz.underlying5
 a5:=Tryz.isAgg5
 z5:=Tryz.sizeOf5
 v5:=Tryz.zeroValue5
 infoByte:=by kernel_rfl
 cellsByte:=by kernel_rfl
 sizeByte:=by kernel_rfl
 neB5:=by decide }
open Go.RowKit in
theorem Tryz.strings_Join_none (a:Option Addr) (c:Nat) (sep:ByteArray) (w:World) :
  Calls Tryz.prog 26 #[.slice a 0 c,.string sep] w fun e w'=>e=.returned (.string ⟨#[]⟩)∧w'=w:=Any.strings_Join_none Tryz.lays156 Tryz.Builder_Extra_156 a c sep w
open Go.RowKit in
theorem Tryz.strings_Join (bk o c:Nat) (xs:List ByteArray) (sep:ByteArray) (w:World) (hcells:∀ (j:Nat) x,xs[j]? = some x→w.cell? ⟨bk,o+j,none⟩=some (.string x)) (hbk:bk<w.heap.size) (hN:xs.length≤140737488355328) (hcap:xs.length≤c) (hlen:(Lib.join (xs.map (·.data.toList)) sep.data.toList).length≤140737488355328) :
  Calls Tryz.prog 26 #[.slice (some ⟨bk,o,none⟩) xs.length c,.string sep] w fun e w'=>e=.returned (.string ⟨(Lib.join (xs.map (·.data.toList)) sep.data.toList).toArray⟩)∧Below w.heap.size w w':=Any.strings_Join Tryz.lays156 Tryz.Builder_Extra_156 bk o c xs sep w hcells hbk hN hcap hlen
def Tryz.lays160_ren:Go.Shelf.Ren:=⟨fun|160=>159|232=>191|231=>190|227=>192|234=>194|233=>193|236=>196|235=>195|228=>218|271=>220|151=>219|197=>216|120=>239|152=>238|260=>237|137=>245|119=>246|224=>202|225=>201|217=>200|266=>227|n=>n,fun|9=>9|4=>4|3=>3|5=>5|117=>241|116=>240|0=>0|124=>244|21=>21|105=>252|46=>234|119=>279|139=>282|138=>281|n=>n,fun|3=>6|4=>7|n=>n⟩
theorem Tryz.lays160:Go.Proofs.Lays.n160 Tryz.prog Tryz.lays160_ren:={
 mixed:=by kernel_rfl
 f119:=Tryz.func246.trans zCs
 f120:=Tryz.func239.trans zCs
 f137:=Tryz.func245.trans zCs
 f151:=Tryz.func219.trans zCs
 f152:=Tryz.func238.trans zCs
 f160:=Tryz.func159.trans zCs
 f197:=Tryz.func216.trans zCs
 f217:=Tryz.func200.trans zCs
 f224:=Tryz.func202.trans zCs
 f225:=Tryz.func201.trans zCs
 f227:=Tryz.func192.trans zCs
 f228:=Tryz.func218.trans zCs
 f231:=Tryz.func190.trans zCs
 f232:=Tryz.func191.trans zCs
 f233:=Tryz.func193.trans zCs
 f234:=Tryz.func194.trans zCs
 f235:=Tryz.func195.trans zCs
 f236:=Tryz.func196.trans zCs
 f260:=Tryz.func237.trans zCs
 f266:=Tryz.func227.trans zCs
 f271:=Tryz.func220.trans zCs
 t0:=Tryz.underlying0
 a0:=Tryz.isAgg0
 z0:=Tryz.sizeOf0
 v0:=Tryz.zeroValue0
 t3:=Tryz.underlying3
 a3:=Tryz.isAgg3
 z3:=Tryz.sizeOf3
 v3:=Tryz.zeroValue3
 t4:=Tryz.underlying4
 a4:=Tryz.isAgg4
 z4:=Tryz.sizeOf4
 v4:=Tryz.zeroValue4
 t5:=Tryz.underlying5
 a5:=Tryz.isAgg5
 z5:=Tryz.sizeOf5
 v5:=Tryz.zeroValue5
 t9:=Tryz.underlying9
 a9:=Tryz.isAgg9
 z9:=Tryz.sizeOf9
 v9:=Tryz.zeroValue9
 t21:=Tryz.underlying21
 a21:=Tryz.isAgg21
 z21:=Tryz.sizeOf21
 v21:=Tryz.zeroValue21
 t46:=Tryz.underlying234
 a46:=Tryz.isAgg234
 z46:=Tryz.sizeOf234
 v46:=Tryz.zeroValue234
 t105:=Tryz.underlying252
 a105:=Tryz.isAgg252
 z105:=Tryz.sizeOf252
 v105:=Tryz.zeroValue252
 t116:=Tryz.underlying240
 a116:=Tryz.isAgg240
 z116:=Tryz.sizeOf240
 t117:=Tryz.underlying241
 a117:=Tryz.isAgg241
 z117:=Tryz.sizeOf241
 v117:=Tryz.zeroValue241
 t119:=Tryz.underlying279
 a119:=Tryz.isAgg279
 z119:=Tryz.sizeOf279
 t124:=Tryz.underlying244
 a124:=Tryz.isAgg244
 z124:=Tryz.sizeOf244
 v124:=Tryz.zeroValue244
 t138:=Tryz.underlying281
 a138:=Tryz.isAgg281
 z138:=Tryz.sizeOf281
 v138:=Tryz.zeroValue281
 t139:=Tryz.underlying282
 a139:=Tryz.isAgg282
 z139:=Tryz.sizeOf282
 v139:=Tryz.zeroValue282
 g3:=by kernel_rfl
 g4:=by kernel_rfl }
def Tryz.lays103_ren:Go.Shelf.Ren:=⟨fun|103=>131|210=>177|206=>160|n=>n,fun|9=>9|4=>4|24=>151|3=>3|n=>n,fun|n=>n⟩
theorem Tryz.lays103:Go.Proofs.Lays.n103 Tryz.prog Tryz.lays103_ren:={
 mixed:=by kernel_rfl
 f103:=Tryz.func131.trans zCs
 f206:=Tryz.func160.trans zCs
 f210:=Tryz.func177.trans zCs
 t3:=Tryz.underlying3
 a3:=Tryz.isAgg3
 z3:=Tryz.sizeOf3
 v3:=Tryz.zeroValue3
 t4:=Tryz.underlying4
 a4:=Tryz.isAgg4
 z4:=Tryz.sizeOf4
 v4:=Tryz.zeroValue4
 t9:=Tryz.underlying9
 a9:=Tryz.isAgg9
 z9:=Tryz.sizeOf9
 v9:=Tryz.zeroValue9
 t24:=Tryz.underlying151
 a24:=Tryz.isAgg151
 z24:=Tryz.sizeOf151
 v24:=Tryz.zeroValue151 }
open Go.RowKit in
theorem Tryz.strings_CutPrefix (s p:ByteArray) (w:World) :
  Calls Tryz.prog 131 #[.string s,.string p] w fun e w'=>e=.returned (.tuple #[.string ⟨(Lib.trimPrefix s.data.toList p.data.toList).toArray⟩,.bool (Lib.hasPrefix s.data.toList p.data.toList)])∧w'=w:=Any.strings_CutPrefix Tryz.lays103 s p w
def Tryz.lays104_ren:Go.Shelf.Ren:=⟨fun|104=>157|211=>189|207=>217|n=>n,fun|9=>9|4=>4|24=>151|3=>3|n=>n,fun|n=>n⟩
theorem Tryz.lays104:Go.Proofs.Lays.n104 Tryz.prog Tryz.lays104_ren:={
 mixed:=by kernel_rfl
 f104:=Tryz.func157.trans zCs
 f207:=Tryz.func217.trans zCs
 f211:=Tryz.func189.trans zCs
 t3:=Tryz.underlying3
 a3:=Tryz.isAgg3
 z3:=Tryz.sizeOf3
 v3:=Tryz.zeroValue3
 t4:=Tryz.underlying4
 a4:=Tryz.isAgg4
 z4:=Tryz.sizeOf4
 v4:=Tryz.zeroValue4
 t9:=Tryz.underlying9
 a9:=Tryz.isAgg9
 z9:=Tryz.sizeOf9
 v9:=Tryz.zeroValue9
 t24:=Tryz.underlying151
 a24:=Tryz.isAgg151
 z24:=Tryz.sizeOf151
 v24:=Tryz.zeroValue151 }
open Go.RowKit in
theorem Tryz.strings_CutSuffix (s p:ByteArray) (w:World) (hs:s.size≤9223372036854775807) :
  Calls Tryz.prog 157 #[.string s,.string p] w fun e w'=>e=.returned (.tuple #[.string ⟨(Lib.trimSuffix s.data.toList p.data.toList).toArray⟩,.bool (Lib.hasSuffix s.data.toList p.data.toList)])∧w'=w:=Any.strings_CutSuffix Tryz.lays104 s p w hs
def Tryz.lays283_ren:Go.Shelf.Ren:=⟨fun|283=>149|n=>n,fun|3=>3|9=>9|4=>4|n=>n,fun|n=>n⟩
theorem Tryz.lays283:Go.Proofs.Lays.n283 Tryz.prog Tryz.lays283_ren:={
 mixed:=by kernel_rfl
 f283:=Tryz.func149.trans zCs
 t3:=Tryz.underlying3
 a3:=Tryz.isAgg3
 z3:=Tryz.sizeOf3
 v3:=Tryz.zeroValue3
 t4:=Tryz.underlying4
 a4:=Tryz.isAgg4
 z4:=Tryz.sizeOf4
 v4:=Tryz.zeroValue4
 t9:=Tryz.underlying9
 a9:=Tryz.isAgg9
 z9:=Tryz.sizeOf9
 v9:=Tryz.zeroValue9 }
open Go.Lib in
theorem Tryz.internal_strconv_small (i:Nat) (h:i<100) (w:World) :
  Calls Tryz.prog 149 #[.int .i64 i] w fun e w'=>e=.returned (.string ⟨(Lib.decDigits i).toArray⟩)∧w'=w:=Any.internal_strconv_small Tryz.lays283 i h w
def Tryz.laysM284_ren:Go.Shelf.Ren:=⟨fun|284=>150|129=>183|317=>182|318=>184|n=>n,fun|53=>208|3=>3|212=>231|0=>0|4=>4|46=>234|5=>5|9=>9|n=>n,fun|17=>1|n=>n⟩
theorem Tryz.laysM284:Go.Proofs.LaysM.n284 Tryz.prog Tryz.laysM284_ren:={
 mixed:=by kernel_rfl
 f129:=Tryz.func183.trans zCs
 f284:=Tryz.func150.trans zCs
 f317:=Tryz.func182.trans zCs
 f318:=Tryz.func184.trans zCs
 t0:=Tryz.underlying0
 a0:=Tryz.isAgg0
 z0:=Tryz.sizeOf0
 v0:=Tryz.zeroValue0
 t3:=Tryz.underlying3
 a3:=Tryz.isAgg3
 z3:=Tryz.sizeOf3
 v3:=Tryz.zeroValue3
 t4:=Tryz.underlying4
 a4:=Tryz.isAgg4
 z4:=Tryz.sizeOf4
 v4:=Tryz.zeroValue4
 t5:=Tryz.underlying5
 a5:=Tryz.isAgg5
 z5:=Tryz.sizeOf5
 v5:=Tryz.zeroValue5
 t9:=Tryz.underlying9
 a9:=Tryz.isAgg9
 z9:=Tryz.sizeOf9
 v9:=Tryz.zeroValue9
 t46:=Tryz.underlying234
 a46:=Tryz.isAgg234
 z46:=Tryz.sizeOf234
 v46:=Tryz.zeroValue234
 t53:=Tryz.underlying208
 a53:=Tryz.isAgg208
 z53:=Tryz.sizeOf208
 v53:=Tryz.zeroValue208
 t212:=Tryz.underlying231
 a212:=Tryz.isAgg231
 z212:=Tryz.sizeOf231
 v212:=Tryz.zeroValue231
 g17:=by kernel_rfl
 i0:=by kernel_rfl
 i3:=by kernel_rfl
 i4:=by kernel_rfl
 i5:=by kernel_rfl
 i9:=by kernel_rfl
 i46:=by kernel_rfl
 i53:=by kernel_rfl
 i212:=by kernel_rfl
 m17:=by kernel_rfl }
open Go.Lib in
theorem Tryz.internal_strconv_numDigits (u : Nat) (h1 : 1 ≤ u) (h2 : u < 18446744073709551616) (w : World) (htab : Lib.TabIs Tryz.prog w "internal/strconv.uint64pow10" .u64 Lib.pow10Tab) :
  Calls Tryz.prog 150 #[.int .u64 u] w fun e w'=>e=.returned (.int .i64 (Lib.nDigits u))∧w'=w:=Any.internal_strconv_numDigits Tryz.laysM284 u h1 h2 w htab
def Tryz.lays285_ren:Go.Shelf.Ren:=⟨fun|285=>151|n=>n,fun|37=>80|53=>208|3=>3|4=>4|51=>84|9=>9|5=>5|0=>0|n=>n,fun|n=>n⟩
theorem Tryz.lays285:Go.Proofs.Lays.n285 Tryz.prog Tryz.lays285_ren:={
 mixed:=by kernel_rfl
 f285:=Tryz.func151.trans zCs
 t0:=Tryz.underlying0
 a0:=Tryz.isAgg0
 z0:=Tryz.sizeOf0
 v0:=Tryz.zeroValue0
 t3:=Tryz.underlying3
 a3:=Tryz.isAgg3
 z3:=Tryz.sizeOf3
 v3:=Tryz.zeroValue3
 t4:=Tryz.underlying4
 a4:=Tryz.isAgg4
 z4:=Tryz.sizeOf4
 v4:=Tryz.zeroValue4
 t5:=Tryz.underlying5
 a5:=Tryz.isAgg5
 z5:=Tryz.sizeOf5
 v5:=Tryz.zeroValue5
 t9:=Tryz.underlying9
 a9:=Tryz.isAgg9
 z9:=Tryz.sizeOf9
 v9:=Tryz.zeroValue9
 t37:=Tryz.underlying80
 a37:=Tryz.isAgg80
 z37:=Tryz.sizeOf80
 v37:=Tryz.zeroValue80
 t51:=Tryz.underlying84
 a51:=Tryz.isAgg84
 z51:=Tryz.sizeOf84
 v51:=Tryz.zeroValue84
 t53:=Tryz.underlying208
 a53:=Tryz.isAgg208
 z53:=Tryz.sizeOf208
 v53:=Tryz.zeroValue208 }
open Go.RowKit Go.Sort Go.Lib in
theorem Tryz.internal_strconv_formatBase10 (blk off cap:Nat) (u:Nat) (d:Array UInt8) (w:World) (hH:Holds (fun (b:UInt8)=>Value.int .u8 (b.toNat:Int)) w blk off d) (hu:u<10 ^ d.size) (hu64:u<18446744073709551616) (hsz:d.size<4611686018427387904) :
  Calls Tryz.prog 151 #[.slice (some ⟨blk,off,none⟩) d.size cap,.int .u64 u] w fun e w'=>
   e=.returned (.tuple #[])∧∃ (n v':Nat) (dk:Array UInt8),w'=(putRow (fun (b:UInt8)=>Value.int .u8 (b.toNat:Int)) w blk off dk).drewN n∧FmtInv d.size u 0 v' dk:=Any.internal_strconv_formatBase10 Tryz.lays285 blk off cap u d w hH hu hu64 hsz
def Tryz.laysM171_ren:Go.Shelf.Ren:=⟨fun|171=>13|243=>32|246=>89|283=>149|284=>150|285=>151|286=>152|129=>183|317=>182|318=>184|319=>185|320=>186|337=>210|338=>211|n=>n,fun|3=>3|9=>9|2=>2|4=>4|171=>207|0=>0|53=>208|37=>80|5=>5|173=>211|212=>231|51=>84|20=>20|213=>232|46=>234|232=>268|233=>269|n=>n,fun|17=>1|18=>2|19=>3|n=>n⟩
theorem Tryz.laysM171:Go.Proofs.LaysM.n171 Tryz.prog Tryz.laysM171_ren:={
 mixed:=by kernel_rfl
 f129:=Tryz.func183.trans zCs
 f171:=Tryz.func13.trans zCs
 f243:=Tryz.func32.trans zCs
 f246:=Tryz.func89.trans zCs
 f283:=Tryz.func149.trans zCs
 f284:=Tryz.func150.trans zCs
 f285:=Tryz.func151.trans zCs
 f286:=Tryz.func152.trans zCs
 f317:=Tryz.func182.trans zCs
 f318:=Tryz.func184.trans zCs
 f319:=Tryz.func185.trans zCs
 f320:=Tryz.func186.trans zCs
 f337:=Tryz.func210.trans zCs
 f338:=Tryz.func211.trans zCs
 t0:=Tryz.underlying0
 a0:=Tryz.isAgg0
 z0:=Tryz.sizeOf0
 v0:=Tryz.zeroValue0
 t2:=Tryz.underlying2
 a2:=Tryz.isAgg2
 z2:=Tryz.sizeOf2
 v2:=Tryz.zeroValue2
 t3:=Tryz.underlying3
 a3:=Tryz.isAgg3
 z3:=Tryz.sizeOf3
 v3:=Tryz.zeroValue3
 t4:=Tryz.underlying4
 a4:=Tryz.isAgg4
 z4:=Tryz.sizeOf4
 v4:=Tryz.zeroValue4
 t5:=Tryz.underlying5
 a5:=Tryz.isAgg5
 z5:=Tryz.sizeOf5
 v5:=Tryz.zeroValue5
 t9:=Tryz.underlying9
 a9:=Tryz.isAgg9
 z9:=Tryz.sizeOf9
 v9:=Tryz.zeroValue9
 t20:=Tryz.underlying20
 a20:=Tryz.isAgg20
 z20:=Tryz.sizeOf20
 v20:=Tryz.zeroValue20
 t37:=Tryz.underlying80
 a37:=Tryz.isAgg80
 z37:=Tryz.sizeOf80
 v37:=Tryz.zeroValue80
 t46:=Tryz.underlying234
 a46:=Tryz.isAgg234
 z46:=Tryz.sizeOf234
 v46:=Tryz.zeroValue234
 t51:=Tryz.underlying84
 a51:=Tryz.isAgg84
 z51:=Tryz.sizeOf84
 v51:=Tryz.zeroValue84
 t53:=Tryz.underlying208
 a53:=Tryz.isAgg208
 z53:=Tryz.sizeOf208
 v53:=Tryz.zeroValue208
 t171:=Tryz.underlying207
 a171:=Tryz.isAgg207
 z171:=Tryz.sizeOf207
 v171:=Tryz.zeroValue207
 t173:=Tryz.underlying211
 a173:=Tryz.isAgg211
 z173:=Tryz.sizeOf211
 v173:=Tryz.zeroValue211
 t212:=Tryz.underlying231
 a212:=Tryz.isAgg231
 z212:=Tryz.sizeOf231
 v212:=Tryz.zeroValue231
 t213:=Tryz.underlying232
 a213:=Tryz.isAgg232
 z213:=Tryz.sizeOf232
 t232:=Tryz.underlying268
 a232:=Tryz.isAgg268
 z232:=Tryz.sizeOf268
 v232:=Tryz.zeroValue268
 t233:=Tryz.underlying269
 a233:=Tryz.isAgg269
 z233:=Tryz.sizeOf269
 v233:=Tryz.zeroValue269
 g17:=by kernel_rfl
 g18:=by kernel_rfl
 g19:=by kernel_rfl
 i0:=by kernel_rfl
 i2:=by kernel_rfl
 i3:=by kernel_rfl
 i4:=by kernel_rfl
 i5:=by kernel_rfl
 i9:=by kernel_rfl
 i20:=by kernel_rfl
 i37:=by kernel_rfl
 i46:=by kernel_rfl
 i51:=by kernel_rfl
 i53:=by kernel_rfl
 i171:=by kernel_rfl
 i173:=by kernel_rfl
 i212:=by kernel_rfl
 i232:=by kernel_rfl
 i233:=by kernel_rfl
 m17:=by kernel_rfl
 m18:=by kernel_rfl
 m19:=by kernel_rfl }
open Go.RowKit Go.Sort Go.Lib in
theorem Tryz.strconv_Itoa (n : Int) (h0 : -9223372036854775808 ≤ n) (h1 : n ≤ 9223372036854775807) (w : World) (htab : Lib.TabIs Tryz.prog w "internal/strconv.uint64pow10" .u64 Lib.pow10Tab) :
  Calls Tryz.prog 13 #[.int .i64 n] w fun e w'=>e=.returned (.string ⟨(Lib.itoa n).toArray⟩)∧∃ k os,w'=grow (w.drewN k) os:=Any.strconv_Itoa Tryz.laysM171 n h0 h1 w htab
def Tryz.laysPu14_ren:Go.Shelf.Ren:=⟨fun|14=>161|16=>197|17=>198|19=>221|20=>222|21=>223|22=>224|23=>225|24=>226|25=>240|27=>13|26=>241|28=>32|29=>89|30=>149|31=>150|32=>151|33=>152|35=>183|34=>182|36=>184|37=>185|38=>186|39=>210|40=>211|n=>n,fun|9=>9|3=>3|22=>208|24=>137|25=>215|4=>4|34=>255|5=>5|36=>234|37=>80|0=>0|39=>257|21=>21|44=>274|47=>195|50=>286|48=>284|2=>2|52=>207|55=>211|59=>231|60=>84|20=>20|61=>232|65=>268|66=>269|67=>140|n=>n,fun|0=>4|1=>5|2=>1|3=>2|4=>3|n=>n⟩
theorem Tryz.laysPu14:Go.Proofs.LaysPu.n14 Tryz.prog Tryz.laysPu14_ren:={
 mixed:=by kernel_rfl
 f14:=Tryz.func161.trans zCs
 f16:=Tryz.func197.trans zCs
 f17:=Tryz.func198.trans zCs
 f19:=Tryz.func221.trans zCs
 f20:=Tryz.func222.trans zCs
 f21:=Tryz.func223.trans zCs
 f22:=Tryz.func224.trans zCs
 f23:=Tryz.func225.trans zCs
 f24:=Tryz.func226.trans zCs
 f25:=Tryz.func240.trans zCs
 f26:=Tryz.func241.trans zCs
 f27:=Tryz.func13.trans zCs
 f28:=Tryz.func32.trans zCs
 f29:=Tryz.func89.trans zCs
 f30:=Tryz.func149.trans zCs
 f31:=Tryz.func150.trans zCs
 f32:=Tryz.func151.trans zCs
 f33:=Tryz.func152.trans zCs
 f34:=Tryz.func182.trans zCs
 f35:=Tryz.func183.trans zCs
 f36:=Tryz.func184.trans zCs
 f37:=Tryz.func185.trans zCs
 f38:=Tryz.func186.trans zCs
 f39:=Tryz.func210.trans zCs
 f40:=Tryz.func211.trans zCs
 t0:=Tryz.underlying0
 a0:=Tryz.isAgg0
 z0:=Tryz.sizeOf0
 v0:=Tryz.zeroValue0
 i0:=by kernel_rfl
 t2:=Tryz.underlying2
 a2:=Tryz.isAgg2
 z2:=Tryz.sizeOf2
 v2:=Tryz.zeroValue2
 i2:=by kernel_rfl
 t3:=Tryz.underlying3
 a3:=Tryz.isAgg3
 z3:=Tryz.sizeOf3
 v3:=Tryz.zeroValue3
 i3:=by kernel_rfl
 t4:=Tryz.underlying4
 a4:=Tryz.isAgg4
 z4:=Tryz.sizeOf4
 v4:=Tryz.zeroValue4
 i4:=by kernel_rfl
 t5:=Tryz.underlying5
 a5:=Tryz.isAgg5
 z5:=Tryz.sizeOf5
 v5:=Tryz.zeroValue5
 i5:=by kernel_rfl
 t9:=Tryz.underlying9
 a9:=Tryz.isAgg9
 z9:=Tryz.sizeOf9
 v9:=Tryz.zeroValue9
 i9:=by kernel_rfl
 t20:=Tryz.underlying20
 a20:=Tryz.isAgg20
 z20:=Tryz.sizeOf20
 v20:=Tryz.zeroValue20
 i20:=by kernel_rfl
 t21:=Tryz.underlying21
 a21:=Tryz.isAgg21
 z21:=Tryz.sizeOf21
 v21:=Tryz.zeroValue21
 i21:=by kernel_rfl
 t22:=Tryz.underlying208
 a22:=Tryz.isAgg208
 z22:=Tryz.sizeOf208
 v22:=Tryz.zeroValue208
 i22:=by kernel_rfl
 t24:=Tryz.underlying137
 a24:=Tryz.isAgg137
 z24:=Tryz.sizeOf137
 v24:=Tryz.zeroValue137
 i24:=by kernel_rfl
 t25:=Tryz.underlying215
 a25:=Tryz.isAgg215
 z25:=Tryz.sizeOf215
 v25:=Tryz.zeroValue215
 i25:=by kernel_rfl
 t34:=Tryz.underlying255
 a34:=Tryz.isAgg255
 z34:=Tryz.sizeOf255
 v34:=Tryz.zeroValue255
 i34:=by kernel_rfl
 c34:=by kernel_rfl
 t36:=Tryz.underlying234
 a36:=Tryz.isAgg234
 z36:=Tryz.sizeOf234
 v36:=Tryz.zeroValue234
 i36:=by kernel_rfl
 t37:=Tryz.underlying80
 a37:=Tryz.isAgg80
 z37:=Tryz.sizeOf80
 v37:=Tryz.zeroValue80
 i37:=by kernel_rfl
 t39:=Tryz.underlying257
 a39:=Tryz.isAgg257
 z39:=Tryz.sizeOf257
 v39:=Tryz.zeroValue257
 i39:=by kernel_rfl
 t44:=Tryz.underlying274
 a44:=Tryz.isAgg274
 z44:=Tryz.sizeOf274
 v44:=Tryz.zeroValue274
 i44:=by kernel_rfl
 t47:=Tryz.underlying195
 a47:=Tryz.isAgg195
 z47:=Tryz.sizeOf195
 v47:=Tryz.zeroValue195
 i47:=by kernel_rfl
 t48:=Tryz.underlying284
 a48:=Tryz.isAgg284
 z48:=Tryz.sizeOf284
 v48:=Tryz.zeroValue284
 i48:=by kernel_rfl
 t50:=Tryz.underlying286
 a50:=Tryz.isAgg286
 z50:=Tryz.sizeOf286
 v50:=Tryz.zeroValue286
 i50:=by kernel_rfl
 t52:=Tryz.underlying207
 a52:=Tryz.isAgg207
 z52:=Tryz.sizeOf207
 v52:=Tryz.zeroValue207
 i52:=by kernel_rfl
 t55:=Tryz.underlying211
 a55:=Tryz.isAgg211
 z55:=Tryz.sizeOf211
 v55:=Tryz.zeroValue211
 i55:=by kernel_rfl
 t59:=Tryz.underlying231
 a59:=Tryz.isAgg231
 z59:=Tryz.sizeOf231
 v59:=Tryz.zeroValue231
 i59:=by kernel_rfl
 t60:=Tryz.underlying84
 a60:=Tryz.isAgg84
 z60:=Tryz.sizeOf84
 v60:=Tryz.zeroValue84
 i60:=by kernel_rfl
 t61:=Tryz.underlying232
 a61:=Tryz.isAgg232
 z61:=Tryz.sizeOf232
 t65:=Tryz.underlying268
 a65:=Tryz.isAgg268
 z65:=Tryz.sizeOf268
 v65:=Tryz.zeroValue268
 i65:=by kernel_rfl
 t66:=Tryz.underlying269
 a66:=Tryz.isAgg269
 z66:=Tryz.sizeOf269
 v66:=Tryz.zeroValue269
 i66:=by kernel_rfl
 t67:=Tryz.underlying140
 a67:=Tryz.isAgg140
 z67:=Tryz.sizeOf140
 v67:=Tryz.zeroValue140
 i67:=by kernel_rfl
 g0:=by kernel_rfl
 m0:=by kernel_rfl
 g1:=by kernel_rfl
 m1:=by kernel_rfl
 g2:=by kernel_rfl
 m2:=by kernel_rfl
 g3:=by kernel_rfl
 m3:=by kernel_rfl
 g4:=by kernel_rfl
 m4:=by kernel_rfl }
open Go.RowKit in
theorem Tryz.strconv_ParseUint_10_at32_ok (s:ByteArray) (hmax:s.size≤9223372036854775806) (u:Nat) (h:Lib.parseUintB 32 s.data.toList=.ok u) (w:World) :
  Calls Tryz.prog 161 #[.string s,.int .i64 10,.int .i64 32] w fun e w'=>e=.returned (.tuple #[.int .u64 u,.nilIface])∧(w'=w∨w'=Lib.bytesWorld w 5 s):=Any.strconv_ParseUint_10_at32_ok Tryz.laysPu14 s hmax u h w
open Go.RowKit in
theorem Tryz.strconv_ParseUint_10_at32_syntax_var (s : ByteArray) (hlim : s.size ≤ 281474976710656) (h : (∀ u, Lib.parseUintB 32 s.data.toList ≠ .ok u) ∧ Lib.parseUintB 32 s.data.toList ≠ .range) (tp : TypeId) (p : Value) (w : World) (hvar : w.var? Tryz.prog "strconv.ErrSyntax" = some #[.iface tp p]) :
  Calls Tryz.prog 161 #[.string s,.int .i64 10,.int .i64 32] w fun e w'=>∃ N,e=.returned (.tuple #[.int .u64 0,.iface 257 (.pointer (some ⟨N,0,none⟩))])∧w.heap.size≤N∧w'.heap[N]? = some (.cells #[.string ⟨#[80,97,114,115,101,85,105,110,116]⟩,.string s,.iface tp p] 274 (0,0))∧Below w.heap.size w w':=by
 refine Any.strconv_ParseUint_10_at32_syntax_var Tryz.laysPu14 s hlim ?_ tp p w hvar
 cases hq:Lib.parseUintB 32 s.data.toList with
 |ok u=>exact absurd hq (h.1 u)
 |range=>exact absurd hq h.2
 |_=>rfl
open Go.RowKit in
theorem Tryz.strconv_ParseUint_10_at32_range_var (s : ByteArray) (hlim : s.size ≤ 281474976710656) (h : Lib.parseUintB 32 s.data.toList = .range) (tp : TypeId) (p : Value) (w : World) (hvar : w.var? Tryz.prog "strconv.ErrRange" = some #[.iface tp p]) :
  Calls Tryz.prog 161 #[.string s,.int .i64 10,.int .i64 32] w fun e w'=>∃ N,e=.returned (.tuple #[.int .u64 4294967295,.iface 257 (.pointer (some ⟨N,0,none⟩))])∧w.heap.size≤N∧w'.heap[N]? = some (.cells #[.string ⟨#[80,97,114,115,101,85,105,110,116]⟩,.string s,.iface tp p] 274 (0,0))∧Below w.heap.size w w':=Any.strconv_ParseUint_10_at32_range_var Tryz.laysPu14 s hlim h tp p w hvar
def Tryz.lays145_ren:Go.Shelf.Ren:=⟨fun|145=>95|220=>156|219=>165|217=>200|225=>201|224=>202|267=>203|266=>227|314=>228|n=>n,fun|9=>9|4=>4|59=>178|3=>3|5=>5|46=>234|146=>260|51=>84|n=>n,fun|1=>0|n=>n⟩
theorem Tryz.lays145:Go.Proofs.Lays.n145 Tryz.prog Tryz.lays145_ren:={
 mixed:=by kernel_rfl
 f145:=Tryz.func95.trans zCs
 f217:=Tryz.func200.trans zCs
 f219:=Tryz.func165.trans zCs
 f220:=Tryz.func156.trans zCs
 f224:=Tryz.func202.trans zCs
 f225:=Tryz.func201.trans zCs
 f266:=Tryz.func227.trans zCs
 f267:=Tryz.func203.trans zCs
 f314:=Tryz.func228.trans zCs
 t3:=Tryz.underlying3
 a3:=Tryz.isAgg3
 z3:=Tryz.sizeOf3
 v3:=Tryz.zeroValue3
 t4:=Tryz.underlying4
 a4:=Tryz.isAgg4
 z4:=Tryz.sizeOf4
 v4:=Tryz.zeroValue4
 t5:=Tryz.underlying5
 a5:=Tryz.isAgg5
 z5:=Tryz.sizeOf5
 v5:=Tryz.zeroValue5
 t9:=Tryz.underlying9
 a9:=Tryz.isAgg9
 z9:=Tryz.sizeOf9
 v9:=Tryz.zeroValue9
 t46:=Tryz.underlying234
 a46:=Tryz.isAgg234
 z46:=Tryz.sizeOf234
 v46:=Tryz.zeroValue234
 t51:=Tryz.underlying84
 a51:=Tryz.isAgg84
 z51:=Tryz.sizeOf84
 v51:=Tryz.zeroValue84
 t59:=Tryz.underlying178
 a59:=Tryz.isAgg178
 z59:=Tryz.sizeOf178
 v59:=Tryz.zeroValue178
 t146:=Tryz.underlying260
 a146:=Tryz.isAgg260
 z146:=Tryz.sizeOf260
 v146:=Tryz.zeroValue260
 g1:=by kernel_rfl }
open Go.RowKit Go.Lib in
theorem Tryz.strings_Cut (s sep:ByteArray) (m:Int) (w:World) (hs:s.size<4294967281) (hm:w.cell? ⟨0,0,none⟩=some (.int .i64 m)) :
  Calls Tryz.prog 95 #[.string s,.string sep] w fun e w'=>e=.returned (.tuple #[.string ⟨(Lib.cut s.data.toList sep.data.toList).1.toArray⟩,.string ⟨(Lib.cut s.data.toList sep.data.toList).2.1.toArray⟩,.bool (Lib.cut s.data.toList sep.data.toList).2.2])∧∃ n,w'=w.drewN n:=Any.strings_Cut Tryz.lays145 s sep m w hs hm
def Tryz.lays138_ren:Go.Shelf.Ren:=⟨fun|138=>41|195=>113|218=>114|143=>115|219=>165|217=>200|225=>201|224=>202|267=>203|266=>227|314=>228|n=>n,fun|9=>9|3=>3|4=>4|5=>5|0=>0|46=>234|146=>260|51=>84|n=>n,fun|1=>0|n=>n⟩
theorem Tryz.lays138:Go.Proofs.Lays.n138 Tryz.prog Tryz.lays138_ren:={
 mixed:=by kernel_rfl
 f138:=Tryz.func41.trans zCs
 f143:=Tryz.func115.trans zCs
 f195:=Tryz.func113.trans zCs
 f217:=Tryz.func200.trans zCs
 f218:=Tryz.func114.trans zCs
 f219:=Tryz.func165.trans zCs
 f224:=Tryz.func202.trans zCs
 f225:=Tryz.func201.trans zCs
 f266:=Tryz.func227.trans zCs
 f267:=Tryz.func203.trans zCs
 f314:=Tryz.func228.trans zCs
 t0:=Tryz.underlying0
 a0:=Tryz.isAgg0
 z0:=Tryz.sizeOf0
 v0:=Tryz.zeroValue0
 t3:=Tryz.underlying3
 a3:=Tryz.isAgg3
 z3:=Tryz.sizeOf3
 v3:=Tryz.zeroValue3
 t4:=Tryz.underlying4
 a4:=Tryz.isAgg4
 z4:=Tryz.sizeOf4
 v4:=Tryz.zeroValue4
 t5:=Tryz.underlying5
 a5:=Tryz.isAgg5
 z5:=Tryz.sizeOf5
 v5:=Tryz.zeroValue5
 t9:=Tryz.underlying9
 a9:=Tryz.isAgg9
 z9:=Tryz.sizeOf9
 v9:=Tryz.zeroValue9
 t46:=Tryz.underlying234
 a46:=Tryz.isAgg234
 z46:=Tryz.sizeOf234
 v46:=Tryz.zeroValue234
 t51:=Tryz.underlying84
 a51:=Tryz.isAgg84
 z51:=Tryz.sizeOf84
 v51:=Tryz.zeroValue84
 t146:=Tryz.underlying260
 a146:=Tryz.isAgg260
 z146:=Tryz.sizeOf260
 v146:=Tryz.zeroValue260
 g1:=by kernel_rfl }
open Go.RowKit Go.Lib in
theorem Tryz.strings_Count_one (s:ByteArray) (c:UInt8) (w:World) :
  Calls Tryz.prog 41 #[.string s,.string ⟨#[c]⟩] w fun e w'=>e=.returned (.int .i64 (Lib.countByte s.data.toList c))∧w'=w:=Any.strings_Count_one Tryz.lays138 s c w
def Tryz.lays99_ren:Go.Shelf.Ren:=⟨fun|99=>103|206=>160|n=>n,fun|9=>9|4=>4|3=>3|n=>n,fun|n=>n⟩
theorem Tryz.lays99:Go.Proofs.Lays.n99 Tryz.prog Tryz.lays99_ren:={
 mixed:=by kernel_rfl
 f99:=Tryz.func103.trans zCs
 f206:=Tryz.func160.trans zCs
 t3:=Tryz.underlying3
 a3:=Tryz.isAgg3
 z3:=Tryz.sizeOf3
 v3:=Tryz.zeroValue3
 t4:=Tryz.underlying4
 a4:=Tryz.isAgg4
 z4:=Tryz.sizeOf4
 v4:=Tryz.zeroValue4
 t9:=Tryz.underlying9
 a9:=Tryz.isAgg9
 z9:=Tryz.sizeOf9
 v9:=Tryz.zeroValue9 }
open Go.RowKit Go.Lib in
theorem Tryz.strings_HasPrefix (s p:ByteArray) (w:World) :
  Calls Tryz.prog 103 #[.string s,.string p] w fun e w'=>e=.returned (.bool (Lib.hasPrefix s.data.toList p.data.toList))∧w'=w:=Any.strings_HasPrefix Tryz.lays99 s p w
def Tryz.lays146_ren:Go.Shelf.Ren:=⟨fun|146=>94|221=>155|268=>188|138=>41|143=>115|195=>113|197=>216|218=>114|219=>165|260=>237|217=>200|225=>201|224=>202|267=>203|266=>227|314=>228|n=>n,fun|9=>9|31=>24|3=>3|4=>4|0=>0|105=>252|21=>21|5=>5|46=>234|119=>279|139=>282|138=>281|146=>260|51=>84|n=>n,fun|1=>0|3=>6|4=>7|n=>n⟩
theorem Tryz.lays146:Go.Proofs.Lays.n146 Tryz.prog Tryz.lays146_ren:={
 mixed:=by kernel_rfl
 f138:=Tryz.func41.trans zCs
 f143:=Tryz.func115.trans zCs
 f146:=Tryz.func94.trans zCs
 f195:=Tryz.func113.trans zCs
 f197:=Tryz.func216.trans zCs
 f217:=Tryz.func200.trans zCs
 f218:=Tryz.func114.trans zCs
 f219:=Tryz.func165.trans zCs
 f221:=Tryz.func155.trans zCs
 f224:=Tryz.func202.trans zCs
 f225:=Tryz.func201.trans zCs
 f260:=Tryz.func237.trans zCs
 f266:=Tryz.func227.trans zCs
 f267:=Tryz.func203.trans zCs
 f268:=Tryz.func188.trans zCs
 f314:=Tryz.func228.trans zCs
 t0:=Tryz.underlying0
 a0:=Tryz.isAgg0
 z0:=Tryz.sizeOf0
 v0:=Tryz.zeroValue0
 t3:=Tryz.underlying3
 a3:=Tryz.isAgg3
 z3:=Tryz.sizeOf3
 v3:=Tryz.zeroValue3
 t4:=Tryz.underlying4
 a4:=Tryz.isAgg4
 z4:=Tryz.sizeOf4
 v4:=Tryz.zeroValue4
 t5:=Tryz.underlying5
 a5:=Tryz.isAgg5
 z5:=Tryz.sizeOf5
 v5:=Tryz.zeroValue5
 t9:=Tryz.underlying9
 a9:=Tryz.isAgg9
 z9:=Tryz.sizeOf9
 v9:=Tryz.zeroValue9
 t21:=Tryz.underlying21
 a21:=Tryz.isAgg21
 z21:=Tryz.sizeOf21
 v21:=Tryz.zeroValue21
 t31:=Tryz.underlying24
 a31:=Tryz.isAgg24
 z31:=Tryz.sizeOf24
 v31:=Tryz.zeroValue24
 t46:=Tryz.underlying234
 a46:=Tryz.isAgg234
 z46:=Tryz.sizeOf234
 v46:=Tryz.zeroValue234
 t51:=Tryz.underlying84
 a51:=Tryz.isAgg84
 z51:=Tryz.sizeOf84
 v51:=Tryz.zeroValue84
 t105:=Tryz.underlying252
 a105:=Tryz.isAgg252
 z105:=Tryz.sizeOf252
 v105:=Tryz.zeroValue252
 t119:=Tryz.underlying279
 a119:=Tryz.isAgg279
 z119:=Tryz.sizeOf279
 t138:=Tryz.underlying281
 a138:=Tryz.isAgg281
 z138:=Tryz.sizeOf281
 v138:=Tryz.zeroValue281
 t139:=Tryz.underlying282
 a139:=Tryz.isAgg282
 z139:=Tryz.sizeOf282
 v139:=Tryz.zeroValue282
 t146:=Tryz.underlying260
 a146:=Tryz.isAgg260
 z146:=Tryz.sizeOf260
 v146:=Tryz.zeroValue260
 g1:=by kernel_rfl
 g3:=by kernel_rfl
 g4:=by kernel_rfl }
open Go.RowKit Go.Lib in
theorem Tryz.strings_Split (s sep:ByteArray) (m:Int) (w:World) (hs:s.size<4294967281) (hm:w.cell? ⟨0,0,none⟩=some (.int .i64 m)) (h1:1≤sep.size) :
  Calls Tryz.prog 94 #[.string s,.string sep] w fun e w'=>
   e=.returned (.slice (some ⟨w.heap.size,0,none⟩) (Lib.countB s sep+1) (Lib.countB s sep+1))∧w'=w.alloc (.cells ((Lib.splitB sep 0 (Lib.countB s sep) s).map Value.string).toArray 9):=Any.strings_Split Tryz.lays146 (by kernel_rfl) s sep m w hs hm h1
end Go.Proofs
namespace Go.Proofs.YtegmklafpoldgaaGreatDoor
open Go.GL Go.RowKit Go.Stele
attribute [local irreducible] LOps LCode LStep LCalls Go.GL.Pure QThen QBlock RetPost
section
variable {B0:Nat} {w0:World}
theorem run_spec {f:FuncId} [TEnter Tryz.prog f] (p:UInt8→Bool) (hp:∀ c:UInt8,LCalls (KC B0 w0) f [int .u8 c.toNat] [] (Ret (bool (p c)))) (s:List UInt8) (hs:s.length≤1000000000) :
  LCalls (KC B0 w0) 104 [str s,.atom (.func (.func f) #[] #[])] [] (Ret (str (s.takeWhile p))):=by
 refine cI Tryz.func104 rfl (n:=22) rfl rfl rfl ?_
 refine gca ?_
 refine oL (fun k l H=>∃ m:Nat,k=s.length-m∧l=[(0,str s),(1,.atom (.func (.func f) #[] #[])),(5,int .i64 m)]∧H=[]∧m≤s.length∧s.takeWhile p=s.take m++(s.drop m).takeWhile p)
  ⟨_,_,_,⟨0,rfl,rfl,rfl,by omega,by simp⟩,⟨rfl,rfl,rfl,trivial⟩,zhR _⟩ ?_
 rintro k l H ⟨m,rfl,rfl,rfl,hm,hI⟩ j hj
 refine ggf ?_
 refine oB 10 rfl (fun ht=>?_) (fun ht=>?_)
 ·have hlt:m<s.length:=by simpa using ht
  refine gaj ?_
  refine oP (pI (c:=s[m]) rfl rfl zo (by simp)) rfl ?_
  refine LOps.want rfl rfl ?_
  refine oS (S.fnV [_] rfl rfl (hp s[m]) ?_) rfl
  refine gcp ?_
  refine oC rfl (fun hc=>?_) (fun hc=>?_)
  ·refine ggg ?_
   exact ⟨_,_,_,by omega,⟨m+1,rfl,rfl,rfl,by omega,(takeWhile_step hlt hI).1 (by simpa using hc)⟩,⟨rfl,rfl,int_eq zo,trivial⟩,zhR _,hj⟩
  ·refine gbv ?_
   refine oP (Pure.sslice (i:=0) (j:=m) rfl rfl ⟨_,rfl⟩ zo zo zo) rfl ?_
   refine ga0 ?_
   exact retRet hj (zra rfl) (by
    rw[(takeWhile_step hlt hI).2 (by simpa using hc)]
    simp[resLV])
 ·have hge:s.length≤m:=by simpa using ht
  refine gbm ?_
  refine oC rfl (fun hc=>?_) (fun hc=>?_)
  ·cases hc
  ·refine gbv ?_
   refine oP (Pure.sslice (i:=0) (j:=m) rfl rfl ⟨_,rfl⟩ zo zo zo) rfl ?_
   refine ga0 ?_
   exact retRet hj (zra rfl) (by
    rw[takeWhile_end hge hI]
    simp[resLV])
theorem hasPrefix_spec (s p:List UInt8):LCalls (KC B0 w0) 103 [str s,str p] [] (Ret (bool (p.isPrefixOf s))):=
 LCalls.ret_of (vs:=[.string ⟨s.toArray⟩,.string ⟨p.toArray⟩]) fun w _=>(Go.Proofs.Tryz.strings_HasPrefix _ _ w).mono fun e w' he=>by
  obtain ⟨h1,h2⟩:=he
  subst h2
  exact ⟨by simpa [Go.Lib.hasPrefix] using h1,Below.refl _ _⟩
theorem skip_spec (s:List UInt8) (hs:s.length≤1000000000):LCalls (KC B0 w0) 39 [str s] [] (Ret (int .i64 (skipLen s))):=by
 refine cI Tryz.func39 rfl (n:=11) rfl rfl rfl ?_
 refine gal ?_
 refine oS (sF [_,_] rfl (hasPrefix_spec s [47,47]) ?_) rfl
 refine gaq ?_
 refine oC rfl (fun hc=>?_) (fun hc=>?_)
 ·refine gab ?_
  refine oS (sF [_,_] rfl (run_spec notNl notNl_spec s hs) ?_) rfl
  refine ggh ?_
  exact retRet rfl (zra rfl) (by simp only[resLV,skipLen,hc,if_true])
 ·refine gaw ?_
  refine oS (sF [_,_] rfl (run_spec isWhite white_spec s hs) ?_) rfl
  refine ggi ?_
  exact retRet rfl (zra rfl) (by simp only[resLV,skipLen,hc,Bool.false_eq_true,if_false])
end
end Go.Proofs.YtegmklafpoldgaaGreatDoor
namespace Go.Proofs.YtegmklafpoldgaaGreatDoor
open Go Go.Shelf Go.RowKit Go.Sort Go.Lib
set_option maxHeartbeats 6400000
theorem formatUint_main (u : Nat) (hu64 : u < 18446744073709551616) (w : World) (htab : Lib.TabIs Tryz.prog w "internal/strconv.uint64pow10" .u64 Lib.pow10Tab) :
  Calls Tryz.prog 199 #[.int .u64 u,.int .i64 10] w fun e w'=>e=.returned (.string ⟨(Lib.decDigits u).toArray⟩)∧Below w.heap.size w w':=by
 have mixed:Tryz.prog.follows .mixedOrders=true:=by kernel_rfl
 have t3:=Tryz.underlying3;have a3:=Tryz.isAgg3;have z3:=Tryz.sizeOf3;have v3:=Tryz.zeroValue3
 have t9:=Tryz.underlying9;have a9:=Tryz.isAgg9;have z9:=Tryz.sizeOf9;have v9:=Tryz.zeroValue9
 have t4:=Tryz.underlying4;have a4:=Tryz.isAgg4;have z4:=Tryz.sizeOf4;have v4:=Tryz.zeroValue4
 have t142:=Tryz.underlying207;have a142:=Tryz.isAgg207;have z142:=Tryz.sizeOf207;have v142:=Tryz.zeroValue207
 have t0:=Tryz.underlying0;have a0:=Tryz.isAgg0;have z0:=Tryz.sizeOf0;have v0:=Tryz.zeroValue0
 have t119:=Tryz.underlying208;have a119:=Tryz.isAgg208;have z119:=Tryz.sizeOf208;have v119:=Tryz.zeroValue208
 have t85:=Tryz.underlying80;have a85:=Tryz.isAgg80;have z85:=Tryz.sizeOf80;have v85:=Tryz.zeroValue80
 have t5:=Tryz.underlying5;have a5:=Tryz.isAgg5;have z5:=Tryz.sizeOf5;have v5:=Tryz.zeroValue5
 have e137:∀ args w,(callFunc 149 args).run Tryz.prog w=.ok (.enter 149 args) w:=enters_of Tryz.func149 (by kernel_rfl) rfl
 have e138:∀ args w,(callFunc 150 args).run Tryz.prog w=.ok (.enter 150 args) w:=enters_of Tryz.func150 (by kernel_rfl) rfl
 have e139:∀ args w,(callFunc 151 args).run Tryz.prog w=.ok (.enter 151 args) w:=enters_of Tryz.func151 (by kernel_rfl) rfl
 by_cases hs:u<100
 ·go_enter Tryz.func199,Tryz.ntmps199
  go_wp2_with (go_at_fn (149);refine (Tryz.internal_strconv_small u hs _).mono ?_;rintro e w' ⟨rfl,rfl⟩)
  go_ret
  exact ⟨rfl,Below.refl _ _⟩
 ·have hu1:1≤u:=by omega
  have hnd20:Lib.nDigits u≤20:=by have:=Lib.numDigits_eq u hu1 hu64;split at this <;> omega
  have hal:Tryz.prog.arrayLen 207=24:=by simp[Program.arrayLen,Tryz.underlying207]
  have hsl:∀ W,(Instr.sliceAt 207 (.pointer (some ⟨w.heap.size,0,none⟩)) none (some (.int .i64 (Lib.nDigits u:Int))) none).run Tryz.prog W=.ok (.slice (some ⟨w.heap.size,0,none⟩) (Lib.nDigits u) 24) W:=fun W=>by
   rw[run_sliceAt_array_h W 207 ⟨w.heap.size,0,none⟩ (by simp[Program.arrayLen,Program.elem,Tryz.underlying207]) .i64 (Lib.nDigits u:Int) (by omega) (by rw[hal];omega)]
   go_simp
  have hH0:=Lib.holds_zero0 w 207 (Lib.nDigits u) (by omega)
  have hfmt:=Tryz.internal_strconv_formatBase10 w.heap.size 0 24 u (Array.replicate (Lib.nDigits u) 0) (w.alloc (.cells Lib.zeros24 207)) hH0 (by rw[Array.size_replicate];exact Lib.lt_pow_nDigits u) hu64 (by rw[Array.size_replicate];omega)
  rw[Array.size_replicate] at hfmt
  have HH0:=Lib.hid hH0
  clear hH0 hal
  go_enter Tryz.func199,Tryz.ntmps199
  go_wp2_with (first
   |(go_at_fn (150);refine (Tryz.internal_strconv_numDigits u hu1 hu64 _ (Lib.tabIs_alloc htab _)).mono ?_;rintro e w' ⟨rfl,rfl⟩))
  go_at_fn (151)
  refine hfmt.mono ?_
  rintro e w' ⟨rfl,k,v',dk,rfl,hF⟩
  have hcv:(convert 80 9 (.slice (some ⟨w.heap.size,0,none⟩) (Lib.nDigits u) 24)).run Tryz.prog ((putRow (fun (b:UInt8)=>Value.int .u8 (b.toNat:Int)) (w.alloc (.cells Lib.zeros24 207)) w.heap.size 0 dk).drewN k)=.ok (.string ⟨(Lib.decDigits u).toArray⟩) ((putRow (fun (b:UInt8)=>Value.int .u8 (b.toNat:Int)) (w.alloc (.cells Lib.zeros24 207)) w.heap.size 0 dk).drewN k):=by
   have h:=run_convert_bytes_back (P:=Tryz.prog) ((putRow (fun (b:UInt8)=>Value.int .u8 (b.toNat:Int)) (w.alloc (.cells Lib.zeros24 207)) w.heap.size 0 dk).drewN k) 80 9 5 ⟨w.heap.size,0,none⟩ 24 (Lib.decDigits u) Tryz.underlying80 Tryz.underlying5 Tryz.underlying9 (fun j hj=>by
    rw[Lib.row_is_numeral hF j hj,Lib.add_plain,World.cell?_drewN]
    exact cell?_putRow (fun (b:UInt8)=>Value.int .u8 (b.toNat:Int)) _ w.heap.size 0 _ dk HH0.out (by rw[hF.size,Array.size_replicate]) j (by rw[hF.size];rw[Lib.decDigits_length] at hj;exact hj))
   rw[Lib.decDigits_length] at h
   exact h
  go_wp2
  go_ret
  refine ⟨rfl,?_⟩
  obtain ⟨os,eo⟩:=Lib.fin_at w (.cells Lib.zeros24 207) dk k 0
  rw[eo]
  exact Lib.below_grow _ w (zNr _) k os
end Go.Proofs.YtegmklafpoldgaaGreatDoor
namespace Go.Proofs.YtegmklafpoldgaaGreatDoor
open Go.GL Go.RowKit Go.Stele
attribute [local irreducible] LOps LCode LStep LCalls Go.GL.Pure QThen QBlock RetPost
structure GW (B0:Nat) (w0:World):Prop where
 pow10 : Go.Lib.TabIs Tryz.prog w0 "internal/strconv.uint64pow10" .u64 Go.Lib.pow10Tab
 errRange : ∃ tp p, w0.var? Tryz.prog "strconv.ErrRange" = some #[.iface tp p]
 big:8≤B0
section
variable {B0:Nat} {w0:World}
theorem GW.tab (h : GW B0 w0) {w : World} (hb : Below B0 w0 w) : Go.Lib.TabIs Tryz.prog w "internal/strconv.uint64pow10" .u64 Go.Lib.pow10Tab := by
 have hg : Tryz.prog.globalNamed "internal/strconv.uint64pow10" = some 1 := by kernel_rfl
 exact var?_below hb hg (Nat.lt_of_lt_of_le zDd h.big) h.pow10
theorem GW.err (h : GW B0 w0) {w : World} (hb : Below B0 w0 w) : ∃ tp p, w.var? Tryz.prog "strconv.ErrRange" = some #[.iface tp p] := by
 have hg : Tryz.prog.globalNamed "strconv.ErrRange" = some 5 := by kernel_rfl
 obtain ⟨tp,p,hv⟩:=h.errRange
 exact ⟨tp,p,var?_below hb hg (Nat.lt_of_lt_of_le zDd h.big) hv⟩
theorem itoa_spec (hG:GW B0 w0) (u:Nat) (hu:u≤9223372036854775807):LCalls (KC B0 w0) 13 [int .i64 u] [] (Ret (str (Go.Lib.decDigits u))):=
 LCalls.ret_of (vs:=[.int .i64 u]) fun w hw=>(Go.Proofs.Tryz.strconv_Itoa u zo zo w (hG.tab hw)).mono fun e w' he=>by
  obtain ⟨h1,k,os,h2⟩:=he
  rw[Go.Lib.itoa_nonneg] at h1
  exact ⟨h1,by rw[h2];exact Go.Lib.below_grow _ w (zNr _) k os⟩
theorem fmtUint_spec (hG:GW B0 w0) (u:Nat) (hu:u<18446744073709551616):LCalls (KC B0 w0) 162 [int .u64 u,int .i64 10] [] (Ret (str (Go.Lib.decDigits u))):=by
 refine cI Tryz.func162 rfl (n:=8) rfl rfl rfl ?_
 refine gal ?_
 refine oS (sF [_,_] rfl (LCalls.ret_of (vs:=[.int .u64 u,.int .i64 10]) fun w hw=>formatUint_main u hu w (hG.tab hw)) ?_) rfl
 refine ga0 ?_
 exact retRet rfl (zra rfl) rfl
theorem parseUint_ok (s:List UInt8) (hs:s.length≤1000000000) (u:Nat) (h:Go.Lib.parseUintB 32 s=.ok u) :
  LCalls (KC B0 w0) 161 [str s,int .i64 10,int .i64 32] [] (Ret (.tuple [int .u64 u,.atom .nilIface])):=by
 refine LCalls.mono (LCalls.of_belowT (vs:=[.string ⟨s.toArray⟩,.int .i64 10,.int .i64 32]) (p:=fun us=>us=[.int .u64 u,.nilIface]) fun w hw=>?_) ?_
 ·refine (Go.Proofs.Tryz.strconv_ParseUint_10_at32_ok ⟨s.toArray⟩ ?_ u (by simpa using h) w).mono fun e w' he=>⟨_,he.1,rfl,?_⟩
  ·show s.toArray.size≤_
   simp
   omega
  ·rcases he.2 with h2|h2
   ·rw[h2];exact Below.refl _ _
   ·rw[h2]
    exact ⟨rfl,rfl,rfl,by rw[Go.Lib.bytesWorld_size];omega,fun k hk=>Go.Lib.bytesWorld_at_old w 5 _ k hk⟩
 ·rintro r H ⟨v,rfl,⟨us,rfl,rfl⟩,rfl⟩
  exact ⟨rfl,rfl⟩
theorem parseUint_range (hG:GW B0 w0) (s:List UInt8) (hs:s.length≤1000000000) (h:Go.Lib.parseUintB 32 s=.range) :
  LCalls (KC B0 w0) 161 [str s,int .i64 10,int .i64 32] [] (RetIf fun lv=>∃ v t p,lv=.tuple [int .u64 v,.atom (.iface t p)]):=by
 refine LCalls.mono (LCalls.of_belowT (vs:=[.string ⟨s.toArray⟩,.int .i64 10,.int .i64 32]) (p:=fun us=>∃ v t p,us=[.int .u64 v,.iface t p]) fun w hw=>?_) ?_
 ·obtain ⟨tp,p,hv⟩:=hG.err hw
  refine (Go.Proofs.Tryz.strconv_ParseUint_10_at32_range_var ⟨s.toArray⟩ ?_ (by simpa using h) tp p w hv).mono fun e w' he=>?_
  ·show s.toArray.size≤_
   simp
   omega
  ·obtain ⟨N,h1,_,_,h4⟩:=he
   exact ⟨_,h1,⟨_,_,_,rfl⟩,h4⟩
 ·rintro r H ⟨v,rfl,⟨us,⟨a,t,p,rfl⟩,rfl⟩,rfl⟩
  exact ⟨_,rfl,⟨a,t,p,rfl⟩,rfl⟩
theorem countNl_spec (s:List UInt8):LCalls (KC B0 w0) 41 [str s,str [10]] [] (Ret (int .i64 (s.count 10))):=
 LCalls.ret_of (vs:=[.string ⟨s.toArray⟩,.string ⟨#[10]⟩]) fun w _=>(Go.Proofs.Tryz.strings_Count_one _ _ w).mono fun e w' he=>by
  obtain ⟨h1,h2⟩:=he
  subst h2
  exact ⟨by simpa [Go.Lib.countByte] using h1,Below.refl _ _⟩
end
end Go.Proofs.YtegmklafpoldgaaGreatDoor
namespace Go.Proofs.YtegmklafpoldgaaGreatDoor
open Go.GL Go.RowKit Go.Stele
attribute [local irreducible] LOps LCode LStep LCalls Go.GL.Pure QThen QBlock RetPost
def encTok (t:Tok):LV:=.agg [int .i64 t.kind,str t.text,int .i64 t.line]
def encTokR (r:TokR):LV:=.tuple [encTok r.1,int .i64 r.2.1,int .i64 r.2.2]
theorem elemsOk_strs (l:List (List UInt8)):elemsOk 1 (l.map str):=fun v hv=>by
 obtain ⟨x,_,rfl⟩:=List.mem_map.1 hv
 exact ⟨rfl,rfl⟩
section
variable {B0:Nat} {w0:World}
theorem Keywords_spec:LCalls (KC B0 w0) 164 [] [] (Ret (.list (keywords.map str))):=by
 refine cI Tryz.func164 rfl (n:=2) rfl rfl rfl ?_
 refine ga1 ?_
 refine oS (sL [_,_,_,_,_,_,_,_] rfl (elemsOk_strs keywords) rfl rfl rfl ?_) rfl
 refine gcq ?_
 exact retRet rfl (rC (rT (v:=.list _) rfl zsr) rN) rfl
theorem signs_spec:LCalls (KC B0 w0) 112 [] [] (Ret (.list (signs.map str))):=by
 refine cI Tryz.func112 rfl (n:=2) rfl rfl rfl ?_
 refine ga1 ?_
 refine oS (sL [_,_,_,_,_,_,_,_,_,_,_,_,_,_,_,_,_,_,_,_,_,_,_,_] rfl (elemsOk_strs signs) rfl rfl rfl ?_) rfl
 refine gcq ?_
 exact retRet rfl (rC (rT (v:=.list _) rfl zsr) rN) rfl
theorem Index_spec (l:List (List UInt8)) (x:List UInt8) (hl:l.length≤1000000000):LCalls (KC B0 w0) 166 [.list (l.map str),str x] [] (RetIf fun lv=>∃ n:Int,lv=int .i64 n∧decide (0≤n)=l.contains x):=by
 refine cI Tryz.func166 rfl (n:=19) rfl rfl rfl ?_
 refine ga9 ?_
 refine oL (fun k ls H=>∃ m:Nat,k=l.length-m∧ls=[(0,.list (l.map str)),(1,str x),(7,int .i64 (l.map str).length),(8,int .i64 m)]∧H=[]∧m≤l.length∧l.contains x=(l.drop m).contains x)
  ⟨_,_,_,⟨0,rfl,rfl,rfl,by omega,by simp⟩,⟨rfl,rfl,rfl,rfl,trivial⟩,zhR _⟩ ?_
 rintro k ls H ⟨m,rfl,rfl,rfl,hm,hI⟩ j hj
 refine gae ?_
 refine oC rfl (fun hc=>?_) (fun hc=>?_)
 ·have hlt:m<l.length:=by simpa using hc
  refine ggj ?_
  refine oP (xR (el':=str l[m]) rfl rfl zo (by simp) rfl rfl) rfl ?_
  refine ggk ?_
  refine oC rfl (fun he=>?_) (fun he=>?_)
  ·refine gcr ?_
   have hx:x=l[m]:=by simpa using he
   exact retRetIf hj (zra rfl) ⟨m,rfl,by
    rw[hx,decide_eq_true zo]
    simp⟩
  ·refine gax ?_
   have hx:¬ x=l[m]:=by simpa using he
   exact ⟨_,_,_,by omega,⟨m+1,rfl,rfl,rfl,by omega,by
    rw[hI,List.drop_eq_getElem_cons hlt,List.contains_cons]
    simp[hx]⟩,⟨rfl,rfl,rfl,int_eq zo,trivial⟩,zhR _,hj⟩
 ·have hge:l.length≤m:=by simpa using hc
  refine gbw ?_
  exact retRetIf hj (zra rfl) ⟨-1,rfl,by
   rw[hI,List.drop_eq_nil_of_le hge]
   rfl⟩
theorem Contains_spec (l:List (List UInt8)) (x:List UInt8) (hl:l.length≤1000000000):LCalls (KC B0 w0) 116 [.list (l.map str),str x] [] (Ret (bool (l.contains x))):=by
 refine cI Tryz.func116 rfl (n:=9) rfl rfl rfl ?_
 refine ggl ?_
 refine oS (S.fnIf [_,_] rfl (Index_spec l x hl) ?_) rfl
 rintro lv ⟨n,rfl,hn⟩
 refine ggm ?_
 exact retRet rfl (zra rfl) (by rw[←hn];rfl)
theorem name_spec (s:List UInt8) (hs:s.length≤1000000000):LCalls (KC B0 w0) 110 [str s] [] (Ret (encTokR (lexName s))):=by
 refine cI Tryz.func110 rfl (n:=21) rfl rfl rfl ?_
 refine gac ?_
 refine oS (sA fun b=>?_) rfl
 refine gal ?_
 refine oS (sF [_,_] rfl (run_spec isInner inner_spec s hs) ?_) rfl
 refine gcs ?_
 refine oC rfl (fun hc=>?_) (fun hc=>?_)
 ·refine gbx ?_
  exact retRet rfl (rC (rA rfl zm0 rfl zsr) (rC (zrt rfl) (zra rfl))) (by
   rw[lexName,if_pos (by have:=zt hc;omega)]
   rfl)
 ·refine ggn ?_
  refine oS (sF [] rfl Keywords_spec ?_) rfl
  refine gat ?_
  refine oS (sF [_,_] rfl (Contains_spec keywords (s.takeWhile isInner) zDd) ?_) rfl
  refine gaq ?_
  refine oC rfl (fun hk=>?_) (fun hk=>?_)
  ·refine ggo ?_
   exact retRet rfl (rC (rA rfl zm0 rfl zsr) (rC (zrt rfl) (zra rfl))) (by
    rw[lexName,if_neg (by have:=zf hc;omega),if_pos hk]
    rfl)
  ·refine ggp ?_
   exact retRet rfl (rC (rA rfl zm0 rfl zsr) (rC (zrt rfl) (zra rfl))) (by
    rw[lexName,if_neg (by have:=zf hc;omega),if_neg (by rw[hk];decide)]
    rfl)
end
end Go.Proofs.YtegmklafpoldgaaGreatDoor
namespace Go.Stele
mutual
def ndE:Ex→Nat
 |.mk op num name args=>1+ndEs args
def ndEs:List Ex→Nat
 |[]=>0
 |x::l=>ndE x+ndEs l
end
mutual
def ndS:Sm→Nat
 |.mk kind name index value thn els=>1+(ndEs index+ndEs value+ndSs thn+ndSs els)
def ndSs:List Sm→Nat
 |[]=>0
 |x::l=>ndS x+ndSs l
end
def ndF (f:FnD):Nat:=1+f.params.length+f.locals.length+ndSs f.body
def ndFs:List FnD→Nat
 |[]=>0
 |f::l=>ndF f+ndFs l
theorem ndE_pos (x:Ex):1≤ndE x:=by
 obtain ⟨op,num,name,args⟩:=x
 rw[ndE]
 omega
theorem ndS_pos (x:Sm):1≤ndS x:=by
 obtain ⟨k,n,i,v,t,e⟩:=x
 rw[ndS]
 omega
theorem ndEs_len:∀ l:List Ex,l.length≤ndEs l
 |[]=>zNr _
 |x::l=>by
  have h1:=ndE_pos x
  have h2:=ndEs_len l
  rw[ndEs,zLc]
  omega
theorem ndSs_len:∀ l:List Sm,l.length≤ndSs l
 |[]=>zNr _
 |x::l=>by
  have h1:=ndS_pos x
  have h2:=ndSs_len l
  rw[ndSs,zLc]
  omega
theorem ndFs_len:∀ l:List FnD,l.length≤ndFs l
 |[]=>zNr _
 |x::l=>by
  have h2:=ndFs_len l
  rw[ndFs,zLc]
  unfold ndF
  omega
theorem ndFs_mem:∀ {l:List FnD} {f:FnD},f∈l→ndF f≤ndFs l
 |g::l,f,h=>by
  rw[ndFs]
  rcases zMi.1 h with rfl|h
  ·omega
  ·have:=ndFs_mem h
   omega
theorem ndEs_mem:∀ {l:List Ex} {f:Ex},f∈l→ndE f≤ndEs l
 |g::l,f,h=>by
  rw[ndEs]
  rcases zMi.1 h with rfl|h
  ·omega
  ·have:=ndEs_mem h
   omega
mutual
theorem smE_of:∀ x:Ex,ndE x≤2000000→smE x
 |.mk op num name args,h=>by
  rw[ndE] at h
  have:=ndEs_len args
  exact ⟨show args.length≤2000000 by omega,smEs_of args (by omega)⟩
theorem smEs_of:∀ l:List Ex,ndEs l≤2000000→smEs l
 |[],_=>trivial
 |x::l,h=>by
  rw[ndEs] at h
  exact ⟨smE_of x (by omega),smEs_of l (by omega)⟩
end
mutual
theorem smS_of:∀ x:Sm,ndS x≤2000000→smS x
 |.mk k n i v t e,h=>by
  rw[ndS] at h
  have h1:=ndEs_len i
  have h2:=ndEs_len v
  have h3:=ndSs_len t
  have h4:=ndSs_len e
  exact ⟨show i.length≤2000000 by omega,show v.length≤2000000 by omega,show t.length≤2000000 by omega,show e.length≤2000000 by omega,smEs_of i (by omega),smEs_of v (by omega),smSs_of t (by omega),smSs_of e (by omega)⟩
theorem smSs_of:∀ l:List Sm,ndSs l≤2000000→smSs l
 |[],_=>trivial
 |x::l,h=>by
  rw[ndSs] at h
  exact ⟨smS_of x (by omega),smSs_of l (by omega)⟩
end
theorem smF_of {f:FnD} (h:ndF f≤2000000):SmF f:=by
 unfold ndF at h
 have:=ndSs_len f.body
 exact ⟨show f.params.length≤2000000 by omega,show f.locals.length≤2000000 by omega,show f.body.length≤2000000 by omega,smSs_of _ (by omega)⟩
/-! ### Needs and depths -/
def KnB (B D:Nat) (known:List FSum):Prop:=∀ k∈known,k.need≤B∧k.params+1≤B∧k.depth≤D
theorem stair_le (B:Nat) (c:CEnv):∀ (l:List Ex) (i m:Nat),(∀ x∈l,needE c x≤4 * ndE x+B)→stair i (needEs c l) m≤max m (4 * ndEs l+i+B)
 |[],i,m,_=>by rw[needEs,stair];exact Nat.le_max_left _ _
 |x::l,i,m,h=>by
  rw[needEs,stair,ndEs]
  have h1:=h x zMs
  have h2:=stair_le B c l (i+1) (max m (i+needE c x)) (fun y hy=>h y (zMo _ hy))
  have h3:=ndE_pos x
  omega
mutual
theorem needE_le (B D:Nat) (c:CEnv) (hB:KnB B D c.funcs):∀ x:Ex,needE c x≤4 * ndE x+B
 |.mk op num name args=>by
  rw[needE,ndE]
  have ha:=needEs_le B D c hB args
  have h0:(needEs c args).headD 0≤4 * ndEs args+B:=by
   cases args with
   |nil=>rw[needEs];exact Nat.zero_le _
   |cons x l=>
    have:=ha x zMs
    rw[needEs,ndEs]
    show needE c x≤_
    omega
  have h1:(needEs c args).tail.headD 0≤4 * ndEs args+B:=by
   cases args with
   |nil=>rw[needEs];exact Nat.zero_le _
   |cons x l=>
    cases l with
    |nil=>rw[needEs,needEs];exact Nat.zero_le _
    |cons y l=>
     have:=ha y (zMo _ zMs)
     rw[needEs,needEs,ndEs,ndEs]
     show needE c y≤_
     omega
  have hc:callN c name (needEs c args)≤4 * (1+ndEs args)+B:=by
   unfold callN
   split
   ·omega
   split
   ·omega
   ·unfold CEnv.fn
    split
    ·rename_i k hk
     have hkb:=hB k (List.mem_of_find?_eq_some hk)
     have:=stair_le B c args 0 (max (k.params+1) k.need) ha
     omega
    ·omega
  unfold opN
  split
  ·omega
  split
  ·omega
  split
  ·exact hc
  split
  ·omega
  split
  ·omega
  split
  ·omega
  split
  ·omega
  split
  ·omega
  ·omega
theorem needEs_le (B D:Nat) (c:CEnv) (hB:KnB B D c.funcs):∀ (l:List Ex),∀ x∈l,needE c x≤4 * ndE x+B
 |[],x,h=>(List.not_mem_nil h).elim
 |a::l,x,h=>by
  rcases zMi.1 h with h1|h1
  ·rw[h1]
   exact needE_le B D c hB a
  ·exact needEs_le B D c hB l x h1
end
theorem callD_le {B D:Nat} {c:CEnv} (hB:KnB B D c.funcs) (op name:Nm):callD c op name≤D+1:=by
 unfold callD
 split
 ·unfold CEnv.fn
  split
  ·rename_i k hk
   have:=hB k (List.mem_of_find?_eq_some hk)
   omega
  ·omega
 ·omega
mutual
theorem depE_le (B D:Nat) (c:CEnv) (hB:KnB B D c.funcs):∀ x:Ex,depE c x≤D+1
 |.mk op num name args=>by
  rw[depE]
  have h1:=depEs_le B D c hB args
  have h2:=callD_le hB op name
  omega
theorem depEs_le (B D:Nat) (c:CEnv) (hB:KnB B D c.funcs):∀ l:List Ex,depEs c l≤D+1
 |[]=>Nat.zero_le _
 |x::l=>by
  rw[depEs]
  have h1:=depE_le B D c hB x
  have h2:=depEs_le B D c hB l
  omega
end
theorem headNeed_le {B D:Nat} {c:CEnv} (hB:KnB B D c.funcs) (l:List Ex):needE c (l.headD default)≤4 * (ndEs l+1)+B:=by
 cases l with
 |nil=>
  have:=needE_le B D c hB (default:Ex)
  have h1:ndE (default:Ex)=1:=by
   show ndE (.mk [] 0 [] [])=1
   rw[ndE,ndEs]
  show needE c default≤_
  rw[ndEs]
  omega
 |cons x l=>
  have:=needE_le B D c hB x
  show needE c x≤_
  rw[ndEs]
  omega
mutual
theorem needS_le (B D:Nat) (c:CEnv) (hB:KnB B D c.funcs):∀ x:Sm,needS c x≤8 * ndS x+B
 |.mk k n i v t e=>by
  rw[needS,ndS]
  have h1:=headNeed_le hB v
  have h2:=headNeed_le hB i
  have h3:=needSs_le B D c hB t
  have h4:=needSs_le B D c hB e
  split
  ·omega
  split
  ·omega
  split
  ·omega
  ·omega
theorem needSs_le (B D:Nat) (c:CEnv) (hB:KnB B D c.funcs):∀ l:List Sm,needSs c l≤8 * ndSs l+B
 |[]=>by rw[needSs];exact Nat.zero_le _
 |x::l=>by
  rw[needSs,ndSs]
  have h1:=needS_le B D c hB x
  have h2:=needSs_le B D c hB l
  omega
end
mutual
theorem depS_le (B D:Nat) (c:CEnv) (hB:KnB B D c.funcs):∀ x:Sm,depS c x≤D+1
 |.mk k n i v t e=>by
  rw[depS]
  have h1:=depEs_le B D c hB v
  have h2:=depEs_le B D c hB i
  have h3:=depSs_le B D c hB t
  have h4:=depSs_le B D c hB e
  omega
theorem depSs_le (B D:Nat) (c:CEnv) (hB:KnB B D c.funcs):∀ l:List Sm,depSs c l≤D+1
 |[]=>by rw[depSs];exact Nat.zero_le _
 |x::l=>by
  rw[depSs]
  have h1:=depS_le B D c hB x
  have h2:=depSs_le B D c hB l
  omega
end
theorem sumF_le {B D:Nat} {vars arrays later:List Nm} {known:List FSum} {f:FnD} (hB:KnB B D known):(sumF vars arrays later known f).need≤8 * ndF f+B∧(sumF vars arrays later known f).params+1≤8 * ndF f+B∧(sumF vars arrays later known f).depth≤D+1:=by
 have h1:=needSs_le B D (envF vars arrays later known f) hB f.body
 have h2:=depSs_le B D (envF vars arrays later known f) hB f.body
 unfold sumF ndF
 simp only
 omega
end Go.Stele
