/- Texts joined: InpLaw, ChkRef2, InpKey, CmpSpec, InpBnd, InpNodup, InpValid, CmpSim, CmpSim2, CmpSim3, CmpSim4, CmpSim5, CmpSim6. -/
import Derived.KernelRfl
import Derived.Lib.Replace
import Derived.Test.YtpbbgkoalnonoaaGreatDoorBRowM23
import Derived.Test.YtpbbgkoalnonoaaGreatDoorBRowM25
import Derived.Test.YtpbbgkoalnonoaaGreatDoorBRowM26
set_option linter.unusedVariables false
set_option linter.unusedSimpArgs false
set_option maxRecDepth 100000
set_option maxHeartbeats 4000000
namespace Go.Stele
open Go.Lib
def parseQ (s:List UInt8):Pr×Int:=match lexAt s 1 with
 |.error (l,e)=>(⟨[],[],[]⟩,e)
 |.ok T=>match sProg T (10 * T.length+20) ⟨[],[],[]⟩ 0 0 with
  |some (.ok p _ _)=>(p,0)
  |some (.err l e)=>(⟨[],[],[]⟩,e)
  |none=>(⟨[],[],[]⟩,0)
def limitI (p:Pr) (inp:List Nat) (steps:Int):OutI:=if 100000000<steps then ⟨[],6,0⟩ else if steps≤0 then ⟨[],13,0⟩ else runI p inp steps.toNat
def sourceI (s:List UInt8) (inp:List Nat) (steps:Int):OutI:=
 if (parseQ s).2≠0 then ⟨[],(parseQ s).2,0⟩ else if checkPr (parseQ s).1≠0 then ⟨[],checkPr (parseQ s).1,0⟩ else limitI (parseQ s).1 inp steps
theorem source_ok {s:List UInt8} {p:Pr} (h:parseQ s=(p,0)) (hc:checkPr p=0) (inp:List Nat) (steps:Int):sourceI s inp steps=limitI p inp steps:=by
 unfold sourceI
 rw[h,if_neg (by simp),hc,if_neg (by simp)]
/-! ### Limits -/
/-! ### Input -/
/-! ### The given sources -/
/-! ### Unused declarations -/
theorem commas_ge (l:List (List UInt8)):l.length≤(commas l).length:=by rw[commas_len];omega
theorem varK_ge (l:List (List UInt8)):l.length≤(varK l).length:=by 
 rw[varK_len]
 by_cases h:l=[]
 ·rw[h];exact Nat.zero_le _
 ·rw[if_neg h];omega
end Go.Stele
namespace Go.Stele
/-! ### Functions -/
theorem fresh_zero:∀ (l k:List Nm),freshE k l=0→l.Nodup∧∀ s∈l,s ∉ k∧isNm s=true
 |[],k,_=>⟨List.nodup_nil,fun s hs=>(List.not_mem_nil hs).elim⟩
 |s::l,k,h=>by
  rw[freshE] at h
  split at h
  ·cases h
  rename_i h1
  split at h
  ·cases h
  rename_i h2
  obtain ⟨g1,g2⟩:=fresh_zero l (s::k) h
  refine ⟨List.nodup_cons.2 ⟨fun hm=>(g2 s hm).1 zMs,g1⟩,fun x hx=>?_⟩
  rcases zMi.1 hx with rfl|hx
  ·exact ⟨h2,by simpa using h1⟩
  ·exact ⟨fun hm=>(g2 x hx).1 (zMo _ hm),(g2 x hx).2⟩
end Go.Stele
namespace Go.Stele
theorem noDot {s:Nm} (h:isNm s=true):(46:UInt8) ∉ s:=by
 unfold isNm at h
 rw[zBa] at h
 have h2:=h.2
 cases s with
 |nil=>exact List.not_mem_nil
 |cons c r=>
  simp only[zBa] at h2
  intro hm
  rcases zMi.1 hm with rfl|hm
  ·exact absurd h2.1 zDd
  ·exact absurd (List.all_eq_true.1 h2.2 46 hm) zDd
theorem split_dot:∀ (a b x y:Nm),(46:UInt8) ∉ a→(46:UInt8) ∉ b→a++46::x=b++46::y→a=b∧x=y
 |[],[],x,y,_,_,h=>by
  injection h with _ h
  exact ⟨rfl,h⟩
 |[],d::b,x,y,_,hb,h=>by
  injection h with h1 _
  exact absurd (h1▸List.mem_cons_self ..) hb
 |c::a,[],x,y,ha,_,h=>by
  injection h with h1 _
  exact absurd (h1▸List.mem_cons_self ..) ha
 |c::a,d::b,x,y,ha,hb,h=>by
  injection h with h1 h2
  obtain ⟨e1,e2⟩:=split_dot a b x y (fun g=>ha (zMo _ g)) (fun g=>hb (zMo _ g)) h2
  exact ⟨by rw[h1,e1],e2⟩
theorem nodup_inj {fs:List FnD} (h:(fs.map (·.name)).Nodup) {f g:FnD} (hf:f∈fs) (hg:g∈fs) (he:f.name=g.name):f=g:=by
 induction fs with
 |nil=>cases hf
 |cons a l ih=>
  rw[zMc,List.nodup_cons] at h
  rcases zMi.1 hf with rfl|hf'
  ·rcases zMi.1 hg with rfl|hg'
   ·rfl
   ·exact absurd (List.mem_map.2 ⟨g,hg',he.symm⟩) h.1
  ·rcases zMi.1 hg with rfl|hg'
   ·exact absurd (List.mem_map.2 ⟨f,hf',he⟩) h.1
   ·exact ih h.2 hf' hg'
theorem own_key {vars arrays:List Nm} {fs:List FnD} (h:freshE [] (vars++arrays++fs.map (·.name))=0) {f:FnD} (hf:f∈fs) (name:Nm):f.name++[46]++name∈scalarsP vars fs ↔ name∈f.params++f.locals:=by
 obtain ⟨h1,h2⟩:=fresh_zero _ _ h
 have hd:∀ g∈fs,(46:UInt8) ∉ g.name:=fun g hg=>noDot (h2 _ (List.mem_append.2 (.inr (List.mem_map.2 ⟨g,hg,rfl⟩)))).2
 unfold scalarsP
 rw[List.mem_append]
 constructor
 ·rintro (g|g)
  ·have:=noDot (h2 _ (List.mem_append.2 (.inl (List.mem_append.2 (.inl g))))).2
   exact absurd (by simp) this
  ·obtain ⟨l,g1,g2⟩:=List.mem_flatten.1 g
   obtain ⟨k,g3,rfl⟩:=List.mem_map.1 g1
   obtain ⟨x,g4,g5⟩:=List.mem_map.1 g2
   have g6:k.name++46::x=f.name++46::name:=by simpa using g5
   obtain ⟨e1,rfl⟩:=split_dot _ _ _ _ (hd k g3) (hd f hf) g6
   rw[←nodup_inj (List.nodup_append.1 h1).2.1 g3 hf e1]
   exact g4
 ·intro g
  exact .inr (List.mem_flatten.2 ⟨_,List.mem_map.2 ⟨f,hf,rfl⟩,List.mem_map.2 ⟨name,g,rfl⟩⟩)
theorem key_eq {vars arrays:List Nm} {fs:List FnD} (h:freshE [] (vars++arrays++fs.map (·.name))=0) {f:FnD} (hf:f∈fs) (name:Nm):(if f.name++[46]++name∈scalarsP vars fs then f.name++[46]++name else name)=keyI f name:=by
 unfold keyI
 simp only[own_key h hf,List.mem_append]
theorem key_placed {vars arrays:List Nm} {fs:List FnD} {known:List FSum} {f:FnD} (hf:f∈fs) {name:Nm} (h:scalarE (envF vars arrays (fs.map (·.name)) known f) name=0):keyI f name∈scalarsP vars fs:=by
 unfold scalarE at h
 unfold keyI scalarsP
 rw[List.mem_append]
 split at h
 ·rename_i h1
  split
  ·rename_i h2
   exact .inr (List.mem_flatten.2 ⟨_,List.mem_map.2 ⟨f,hf,rfl⟩,List.mem_map.2 ⟨name,List.mem_append.2 h2,rfl⟩⟩)
  ·rename_i h2
   rcases h1 with h1|h1
   ·exact .inl h1
   ·exact absurd (List.mem_append.1 h1) h2
 ·split at h <;> cases h
theorem fnI_mem {P:Pr} {f:FnD} (h:(P.funcs.map (·.name)).Nodup) (hf:f∈P.funcs):fnI P f.name=f:=by
 unfold fnI
 cases hg:P.funcs.find? fun g=>decide (g.name=f.name) with
 |none=>exact absurd (List.find?_eq_none.1 hg f hf) (by simp)
 |some g=>exact nodup_inj h (List.mem_of_find?_eq_some hg) hf (of_decide_eq_true (List.find?_some (p:=fun g:FnD=>decide (g.name=f.name)) hg))
end Go.Stele
namespace Go.Stele
open Go.Lib
structure CC where
 sc:Nm→Wd
 ar:Nm→Wd
 t0:Wd
 t1:Wd
 t2:Wd
def greaterW (c:CC):List Wd:=[c.t2,[33],c.t1,[33],c.t2,[64],c.t1,[64],[60]]
def opW (c:CC) (op:Nm) (num:Nat) (name:Nm) (l:List (List Wd)):List Wd:=
 if op=nNum then [decDigits num]
 else if op=nVar then [c.sc name,[64]]
 else if op=nElem then c.ar name::(l.headD []++[[43],[64]])
 else if op=nCall then l.flatten++(if name=[105,110] then [[44]] else if name=[111,117,116] then [[46],[48]] else [[38,102,95]++name,[58]])
 else if op=nNeg then [48]::(l.headD []++[[45]])
 else if op=nNot then l.headD []++[[49],[60]]
 else if op=[33,61] then [48]::(l.headD []++(l.drop 1).headD []++[[94],[60]])
 else if op=[38,38] then [48]::(l.headD []++[[60],[48]]++(l.drop 1).headD []++[[60],[42]])
 else if op=[124,124] then [48]::[48]::(l.headD []++[[60],[48]]++(l.drop 1).headD []++[[60],[43],[60]])
 else l.headD []++(l.drop 1).headD []++(if op=[62] then greaterW c else if op=[60,61] then greaterW c++[[49],[94]] else if op=[62,61] then [[60],[49],[94]] else if op=[61,61] then [[94],[49],[60]] else [op])
mutual
def exW (c:CC):Ex→List Wd
 |.mk op num name args=>opW c op num name (exWl c args)
def exWl (c:CC):List Ex→List (List Wd)
 |[]=>[]
 |x::l=>exW c x::exWl c l
end
def labW (n:Nat):Wd:=106::decDigits n
mutual
def stW (c:CC):Nat→Sm→List Wd×Nat
 |n,.mk kind name index value thn els=>
  if kind=1 then (exW c (value.headD default)++[c.sc name,[33]],n)
  else if kind=2 then (exW c (value.headD default)++c.ar name::(exW c (index.headD default)++[[43],[33]]),n)
  else if kind=3 then
   (match els with
   |[]=>(exW c (value.headD default)++[38::labW n,[63]]++(stWs c (n+1) thn).1++[labW n++[58]],(stWs c (n+1) thn).2)
   |_::_=>(exW c (value.headD default)++[38::labW n,[63]]++(stWs c (n+2) thn).1++[[48],38::labW (n+1),[63],labW n++[58]]++(stWs c (stWs c (n+2) thn).2 els).1++[labW (n+1)++[58]],(stWs c (stWs c (n+2) thn).2 els).2))
  else if kind=4 then ([labW n++[58]]++exW c (value.headD default)++[38::labW (n+1),[63]]++(stWs c (n+2) thn).1++[[48],38::labW n,[63],labW (n+1)++[58]],(stWs c (n+2) thn).2)
  else if kind=5 then (exW c (value.headD default)++[[59]],n)
  else if kind=6 then (exW c (value.headD default)++[c.t0,[33]],n)
  else if kind=7 then ([[36]],n)
  else ([],n)
def stWs (c:CC):Nat→List Sm→List Wd×Nat
 |n,[]=>([],n)
 |n,s::l=>((stW c n s).1++(stWs c (stW c n s).2 l).1,(stWs c (stW c n s).2 l).2)
end
def placeA (l:List Nm) (S:Int) (k:Nm):Int:=if k∈l then S+3+(l.idxOf k:Nat) else 0
def keyC (l:List Nm) (own name:Nm):Nm:=if own++[46]++name∈l then own++[46]++name else name
def arrA:Int→List (Nm×Int)→Nm→Int
 |_,[],_=>0
 |at',(x,n)::r,name=>if x=name then at' else arrA (at'+n) r name
structure Org where
 code:Int
 scalars:Int
 arrays:Int
def ccF (vars:List Nm) (arrays:List (Nm×Int)) (fs:List FnD) (o:Org) (own:Nm):CC:=
 ⟨fun s=>itoa (placeA (scalarsP vars fs) o.scalars (keyC (scalarsP vars fs) own s)),fun s=>itoa (arrA o.arrays arrays s),itoa o.scalars,itoa (o.scalars+1),itoa (o.scalars+2)⟩
def fnW (c:CC) (n:Nat) (f:FnD):List Wd×Nat:=
 ([[102,95]++f.name++[58]]++f.params.reverse.flatMap (fun p=>[c.sc p,[33]])++(stWs c n f.body).1++[[48],[59]],(stWs c n f.body).2)
def fnWs (cc:Nm→CC):Nat→List FnD→List Wd×Nat
 |n,[]=>([],n)
 |n,f::l=>((fnW (cc f.name) n f).1++(fnWs cc (fnW (cc f.name) n f).2 l).1,(fnWs cc (fnW (cc f.name) n f).2 l).2)
def prW (vars:List Nm) (arrays:List (Nm×Int)) (fs:List FnD) (o:Org):List Wd:=
 [[38,102,95,109,97,105,110],[58],itoa o.scalars,[33],[36]]++(fnWs (ccF vars arrays fs o) 0 fs).1
def insideA (a n:Int):Bool:=decide (0≤a∧a≤262144-n)
def meetsA (a n b m:Int):Bool:=decide (0<n∧0<m∧a<b+m∧b<a+n)
def fitsP (vars:List Nm) (arrays:List (Nm×Int)) (fs:List FnD) (o:Org):Bool:=
 let total:=(arrays.map (·.2)).sum
 let n:Int:=3+(scalarsP vars fs).length
 insideA o.scalars n && insideA o.code 40000 && insideA o.arrays total && !meetsA o.code 40000 o.scalars n && !meetsA o.arrays total o.scalars n && !meetsA o.arrays total o.code 40000
def cmpP (vars:List Nm) (arrays:List (Nm×Int)) (fs:List FnD) (o:Org):Except Int Wd:=
 if checkP vars arrays fs≠0 then .error (checkP vars arrays fs)
 else if fitsP vars arrays fs o=false then .error 2
 else match asmP (join (prW vars arrays fs o) [32]) o.code with
  |.error e=>.error e.2
  |.ok _=>.ok (join (prW vars arrays fs o) [32])
end Go.Stele
namespace Go.Stele
def Lt (v:Nat):Prop:=v<4294967296
mutual
def numE:Ex→Prop
 |.mk op num name args=>Lt num∧numEs args
def numEs:List Ex→Prop
 |[]=>True
 |x::l=>numE x∧numEs l
end
mutual
def numS:Sm→Prop
 |.mk kind name index value thn els=>numEs index∧numEs value∧numSs thn∧numSs els
def numSs:List Sm→Prop
 |[]=>True
 |x::l=>numS x∧numSs l
end
theorem numEs_mem:∀ {l:List Ex} {x:Ex},numEs l→x∈l→numE x
 |a::l,x,h,hx=>by
  rcases zMi.1 hx with rfl|hx
  ·exact h.1
  ·exact numEs_mem h.2 hx
theorem numSs_mem:∀ {l:List Sm} {x:Sm},numSs l→x∈l→numS x
 |a::l,x,h,hx=>by
  rcases zMi.1 hx with rfl|hx
  ·exact h.1
  ·exact numSs_mem h.2 hx
theorem numE_head {l:List Ex} (h:numEs l):numE (l.headD default):=by
 cases l with
 |nil=>exact ⟨by unfold Lt;decide,trivial⟩
 |cons a l=>exact h.1
structure Bnd (s:IS):Prop where
 sc:∀ k,Lt (s.sc k)
 ar:∀ x,∀ v∈s.ar x,Lt v
 inp:∀ v∈s.inp,Lt v
def Bd {A:Type} (P:A→Prop):IR A→Prop
 |.ok v s=>P v∧Bnd s
 |.stop _ _=>True
theorem Bd.bind {A B:Type} {P:A→Prop} {Q:B→Prop} {r:IR A} {f:A→IS→IR B} (h:Bd P r) (hf:∀ v s,P v→Bnd s→Bd Q (f v s)):Bd Q (r.bind f):=by
 cases r with
 |ok v s=>exact hf v s h.1 h.2
 |stop e s=>trivial
def OptLt (r:Option Nat):Prop:=∀ v,r=some v→Lt v
theorem OptLt.none:OptLt none:=fun _ h=>by cases h
theorem OptLt.some {v:Nat} (h:Lt v):OptLt (some v):=fun _ e=>by cases e;exact h
theorem tick_bd {s:IS} (h:Bnd s):Bd (fun _=>True) (tick s):=by
 unfold tick
 split
 ·trivial
 ·exact ⟨trivial,h.sc,h.ar,h.inp⟩
theorem mapR_bd {A:Type} {g:A→IS→IR Nat}:∀ (l:List A) (s:IS),(∀ a∈l,∀ s,Bnd s→Bd Lt (g a s))→Bnd s→Bd (fun vs=>∀ v∈vs,Lt v) (mapR g l s)
 |[],s,_,hs=>⟨fun v hv=>(List.not_mem_nil hv).elim,hs⟩
 |a::l,s,h,hs=>by
  unfold mapR
  refine (h a zMs s hs).bind fun v s hv hs=>(mapR_bd l s (fun b hb=>h b (zMo _ hb)) hs).bind fun vs s hvs hs=>⟨fun x hx=>?_,hs⟩
  rcases zMi.1 hx with rfl|hx
  ·exact hv
  ·exact hvs x hx
theorem blkR_bd {g:Sm→IS→IR (Option Nat)}:∀ (l:List Sm) (s:IS),(∀ a∈l,∀ s,Bnd s→Bd OptLt (g a s))→Bnd s→Bd OptLt (blkR g l s)
 |[],s,_,hs=>⟨OptLt.none,hs⟩
 |a::l,s,h,hs=>by
  unfold blkR
  refine (h a zMs s hs).bind fun r s hr hs=>?_
  cases r with
  |some v=>exact ⟨hr,hs⟩
  |none=>exact blkR_bd l s (fun b hb=>h b (zMo _ hb)) hs
theorem whlR_bd {c:IS→IR Nat} {b:IS→IR (Option Nat)} (hc:∀ s,Bnd s→Bd Lt (c s)) (hb:∀ s,Bnd s→Bd OptLt (b s)):∀ (m v:Nat) (s:IS),Bnd s→Bd OptLt (whlR c b m v s)
 |0,v,s,hs=>by
  unfold whlR
  split
  ·exact ⟨OptLt.none,hs⟩
  ·trivial
 |m+1,v,s,hs=>by
  unfold whlR
  split
  ·exact ⟨OptLt.none,hs⟩
  ·refine (hb s hs).bind fun r s hr hs=>?_
   cases r with
   |some x=>exact ⟨hr,hs⟩
   |none=>exact (hc s hs).bind fun v s _ hs=>whlR_bd hc hb m v s hs
theorem b2n_lt (b:Bool):Lt (b2n b):=by unfold b2n Lt;split <;> decide
theorem binI_lt {op:List UInt8} {a b v:Nat} (ha:Lt a) (hb:Lt b) (h:binI op a b=some v):Lt v:=by
 have hm:∀ n:Nat,Lt (n % 4294967296):=fun n=>Nat.mod_lt _ zDd
 have hx:Lt (a ^^^ b):=Nat.xor_lt_two_pow (n:=32) ha hb
 have hi:∀ {c:Prop} [Decidable c] {x y:Option Nat},OptLt x→OptLt y→OptLt (if c then x else y):=fun h1 h2=>by
  split
  ·exact h1
  ·exact h2
 have hB:∀ b,OptLt (some (b2n b)):=fun b=>OptLt.some (b2n_lt b)
 have:OptLt (binI op a b):=hi (OptLt.some (hm _)) (hi (OptLt.some (hm _)) (hi (OptLt.some (hm _)) (hi (OptLt.some hx) (hi (hB _) (hi (hB _) (hi (hB _) (hi (hB _) (hi (hB _) (hi (hB _) (hi (hB _) (hi (hB _) (hi OptLt.none
  (hi (OptLt.some (Nat.lt_of_le_of_lt (Nat.div_le_self _ _) ha)) (OptLt.some (Nat.lt_of_le_of_lt (Nat.mod_le _ _) ha)))))))))))))))
 exact this v h
theorem setPs_bd (f:FnD):∀ (ps:List (List UInt8)) (vs:List Nat) (s:IS),(∀ v∈vs,Lt v)→Bnd s→Bnd (setPs f ps vs s)
 |p::ps,v::vs,s,hv,hs=>by
  unfold setPs
  refine setPs_bd f ps vs _ (fun x hx=>hv x (zMo _ hx)) ⟨fun k=>?_,hs.ar,hs.inp⟩
  show Lt (if k=keyI f p then v else s.sc k)
  split
  ·exact hv v zMs
  ·exact hs.sc k
 |[],_,s,_,hs=>by unfold setPs;exact hs
 |_::_,[],s,_,hs=>by unfold setPs;exact hs
theorem head_lt {l:List Nat} (h:∀ v∈l,Lt v):Lt (l.headD 0):=by
 cases l with
 |nil=>unfold Lt;decide
 |cons a l=>exact h a zMs
theorem opI_bd {P:Pr} {g:FnD→Sm→IS→IR (Option Nat)} (hP:∀ f∈P.funcs,numSs f.body) (hg:∀ f x s,numS x→Bnd s→Bd OptLt (g f x s)) (f:FnD) (op:List UInt8) {num:Nat} (hn:Lt num) (name:List UInt8) {vs:List Nat} (hv:∀ v∈vs,Lt v) {s:IS} (hs:Bnd s):Bd Lt (opI P g f op num name vs s):=by
 have ht:Lt (vs.tail.headD 0):=head_lt fun v h=>hv v (List.mem_of_mem_tail h)
 unfold opI
 split
 ·exact ⟨hn,hs⟩
 split
 ·exact ⟨hs.sc _,hs⟩
 split
 ·split
  ·rename_i v h
   exact ⟨hs.ar _ v (List.mem_of_getElem? h),hs⟩
  ·trivial
 split
 ·exact ⟨Nat.mod_lt _ zDd,hs⟩
 split
 ·exact ⟨b2n_lt _,hs⟩
 split
 ·unfold callI
  split
  ·split
   ·exact ⟨by unfold Lt;decide,hs⟩
   ·rename_i v r h
    exact ⟨hs.inp v (by rw[h];exact List.mem_cons_self ..),hs.sc,hs.ar,fun x hx=>hs.inp x (by rw[h];exact zMo _ hx)⟩
  split
  ·exact ⟨by unfold Lt;decide,hs.sc,hs.ar,hs.inp⟩
  ·refine (blkR_bd _ _ (fun x hx s hs=>hg _ x s ?_ hs) (setPs_bd _ _ _ _ hv hs)).bind fun r s hr hs=>⟨?_,hs⟩
   ·unfold fnI at hx
    cases hf:P.funcs.find? fun f=>decide (f.name=name) with
    |none=>rw[hf] at hx;cases hx
    |some f'=>
     rw[hf] at hx
     exact numSs_mem (hP f' (List.mem_of_find?_eq_some hf)) hx
   ·cases r with
    |none=>show Lt 0;unfold Lt;decide
    |some v=>exact hr v rfl
 ·split
  ·rename_i v h
   exact ⟨binI_lt (head_lt hv) ht h,hs⟩
  ·trivial
theorem bd_all {P:Pr} (hP:∀ f∈P.funcs,numSs f.body):∀ n:Nat,(∀ f x s,numE x→Bnd s→Bd Lt (evI P n f x s))∧∀ f x s,numS x→Bnd s→Bd OptLt (stI P n f x s)
 |0=>⟨fun f x s _ _=>by unfold evI;trivial,fun f x s _ _=>by unfold stI;trivial⟩
 |n+1=>by
  obtain ⟨i1,i2⟩:=bd_all hP n
  refine ⟨fun f x s hx hs=>?_,fun f x s hx hs=>?_⟩
  ·obtain ⟨op,num,name,args⟩:=x
   unfold evI
   exact (tick_bd hs).bind fun _ s _ hs=>(mapR_bd args s (fun a ha s hs=>i1 f a s (numEs_mem hx.2 ha) hs) hs).bind fun vs s hvs hs=>opI_bd hP i2 f op hx.1 name hvs hs
  ·obtain ⟨kind,name,index,value,thn,els⟩:=x
   obtain ⟨h1,h2,h3,h4⟩:=hx
   unfold stI
   refine (tick_bd hs).bind fun _ s _ hs=>?_
   split
   ·trivial
   refine (i1 f _ s (numE_head h2) hs).bind fun v s hv hs=>?_
   split
   ·refine ⟨OptLt.none,fun k=>?_,hs.ar,hs.inp⟩
    show Lt (if k=keyI f name then v else s.sc k)
    split
    ·exact hv
    ·exact hs.sc k
   split
   ·refine (i1 f _ s (numE_head h1) hs).bind fun i s hi hs=>?_
    split
    ·refine ⟨OptLt.none,hs.sc,fun x w hw=>?_,hs.inp⟩
     have hw':w∈(if x=name then (s.ar name).set i v else s.ar x):=hw
     split at hw'
     ·rcases List.mem_or_eq_of_mem_set hw' with g|rfl
      ·exact hs.ar name w g
      ·exact hv
     ·exact hs.ar x w hw'
    ·trivial
   split
   ·exact ⟨OptLt.some hv,hs⟩
   split
   ·split
    ·exact blkR_bd _ _ (fun a ha s hs=>i2 f a s (numSs_mem h3 ha) hs) hs
    ·exact blkR_bd _ _ (fun a ha s hs=>i2 f a s (numSs_mem h4 ha) hs) hs
   split
   ·exact whlR_bd (fun s hs=>i1 f _ s (numE_head h2) hs) (fun s hs=>blkR_bd _ _ (fun a ha s hs=>i2 f a s (numSs_mem h3 ha) hs) hs) n v s hs
   ·exact ⟨OptLt.none,hs⟩
end Go.Stele
namespace Go.Stele
theorem errFs_own {vars arrays later:List Nm}:∀ (fs:List FnD) (known:List FSum),errFs vars arrays later known fs=0→∀ f∈fs,(f.params++f.locals).Nodup∧∀ x∈f.params++f.locals,x ∉ vars++arrays++later
 |[],known,_,f,hf=>(List.not_mem_nil hf).elim
 |g::l,known,h,f,hf=>by
  rw[errFs] at h
  obtain ⟨h1,h2⟩:=orE_zero.1 h
  rcases zMi.1 hf with rfl|hf
  ·obtain ⟨g1,g2⟩:=fresh_zero _ _ (orE_zero.1 h1).1
   exact ⟨g1,fun x hx=>(g2 x hx).1⟩
  ·exact errFs_own l _ h2 f hf
theorem nodup_map {A B:Type} {g:A→B} (hg:∀ x y,g x=g y→x=y):∀ {l:List A},l.Nodup→(l.map g).Nodup
 |[],_=>List.nodup_nil
 |a::l,h=>by
  rw[List.nodup_cons] at h
  rw[zMc,List.nodup_cons]
  refine ⟨fun hm=>?_,nodup_map hg h.2⟩
  obtain ⟨b,hb,he⟩:=List.mem_map.1 hm
  exact h.1 (hg _ _ he▸hb)
theorem own_nodup {fs:List FnD}:(fs.map (·.name)).Nodup→(∀ f∈fs,(46:UInt8) ∉ f.name)→(∀ f∈fs,(f.params++f.locals).Nodup)→((fs.map fun f=>(f.params++f.locals).map fun x=>f.name++[46]++x).flatten).Nodup:=by
 induction fs with
 |nil=>intro _ _ _;exact List.nodup_nil
 |cons f l ih=>
  intro h1 h2 h3
  rw[zMc,List.nodup_cons] at h1
  rw[zMc,List.flatten_cons,List.nodup_append]
  refine ⟨?_,ih h1.2 (fun g hg=>h2 g (zMo _ hg)) (fun g hg=>h3 g (zMo _ hg)),?_⟩
  ·exact nodup_map (fun x y hxy=>List.append_cancel_left hxy) (h3 f zMs)
  ·intro a ha b hb he
   subst he
   obtain ⟨x,_,rfl⟩:=List.mem_map.1 ha
   obtain ⟨L,g1,g2⟩:=List.mem_flatten.1 hb
   obtain ⟨g,g3,rfl⟩:=List.mem_map.1 g1
   obtain ⟨y,_,g5⟩:=List.mem_map.1 g2
   have g6:g.name++46::y=f.name++46::x:=by simpa using g5
   obtain ⟨e1,_⟩:=split_dot _ _ _ _ (h2 g (zMo _ g3)) (h2 f zMs) g6
   exact h1.1 (List.mem_map.2 ⟨g,g3,e1⟩)
theorem scal_nodup {vars arrays:List Nm} {fs:List FnD} (h:freshE [] (vars++arrays++fs.map (·.name))=0) (hf:errFs vars arrays (fs.map (·.name)) [] fs=0):(scalarsP vars fs).Nodup:=by
 obtain ⟨h1,h2⟩:=fresh_zero _ _ h
 have ho:=errFs_own fs [] hf
 unfold scalarsP
 rw[List.nodup_append]
 refine ⟨(List.nodup_append.1 (List.nodup_append.1 h1).1).1,own_nodup (List.nodup_append.1 h1).2.1 (fun f hf=>noDot (h2 _ (List.mem_append.2 (.inr (List.mem_map.2 ⟨f,hf,rfl⟩)))).2) fun f hf=>(ho f hf).1,?_⟩
 intro a ha b hb he
 subst he
 obtain ⟨L,g1,g2⟩:=List.mem_flatten.1 hb
 obtain ⟨g,g3,rfl⟩:=List.mem_map.1 g1
 obtain ⟨y,_,g5⟩:=List.mem_map.1 g2
 have:=noDot (h2 _ (List.mem_append.2 (.inl (List.mem_append.2 (.inl ha))))).2
 rw[←g5] at this
 exact absurd (by simp) this
end Go.Stele
namespace Go.Stele
def Known (fs:List FnD) (known:List FSum):Prop:=∀ k∈known,∃ g∈fs,g.name=k.name∧g.params.length=k.params
theorem body_valid {vars arrays later:List Nm} {all:List FnD}:∀ (fs:List FnD) (known:List FSum),errFs vars arrays later known fs=0→Known all known→(∀ f∈fs,f∈all)→∀ f∈fs,∃ kn,errSs (envF vars arrays later kn f) f.body=0∧Known all kn
 |[],known,_,_,_,f,hf=>(List.not_mem_nil hf).elim
 |g::l,known,h,hk,ha,f,hf=>by
  rw[errFs] at h
  obtain ⟨h1,h2⟩:=orE_zero.1 h
  rcases zMi.1 hf with rfl|hf
  ·exact ⟨known,(orE_zero.1 h1).2,hk⟩
  ·refine body_valid l _ h2 (fun k hk'=>?_) (fun x hx=>ha x (zMo _ hx)) f hf
   rcases List.mem_append.1 hk' with g1|g1
   ·exact hk k g1
   ·rw[List.mem_singleton.1 g1]
    exact ⟨g,ha g zMs,rfl,rfl⟩
theorem sizes_valid:∀ (l:List Int) (t:Int),0≤t→sizesE t l=0→∀ n∈l,0<n∧t+n≤150000
 |[],t,_,_,n,hn=>(List.not_mem_nil hn).elim
 |a::l,t,ht,h,n,hn=>by
  rw[sizesE] at h
  split at h
  ·cases h
  split at h
  ·cases h
  rcases zMi.1 hn with rfl|hn
  ·constructor <;> omega
  ·have:=sizes_valid l (t+a) (by omega) h n hn
   constructor <;> omega
structure Valid (p:Pr):Prop where
 names:freshE [] (p.vars++p.arrays.map (·.name)++p.funcs.map (·.name))=0
 sizes:∀ a∈p.arrays,0<a.size∧a.size≤150000
 own:∀ f∈p.funcs,(f.params++f.locals).Nodup∧∀ x∈f.params++f.locals,x ∉ p.vars++p.arrays.map (·.name)++p.funcs.map (·.name)
 bodies:∀ f∈p.funcs,∃ kn,errSs (envF p.vars (p.arrays.map (·.name)) (p.funcs.map (·.name)) kn f) f.body=0∧Known p.funcs kn
 keys:(scalarsP p.vars p.funcs).Nodup
 main:mainI p∈p.funcs∧(mainI p).name=[109,97,105,110]∧(mainI p).params=[]
 few:(scalarsP p.vars p.funcs).length≤8000
theorem valid_of {p:Pr} (h:checkPr p=0):Valid p:=by
 unfold checkPr checkP at h
 have e1:(p.arrays.map fun a=>(a.name,(a.size:Int))).map (·.1)=p.arrays.map (·.name):=by rw[List.map_map];try rfl
 rw[e1] at h
 obtain ⟨h1,h⟩:=orE_zero.1 h
 obtain ⟨h2,h⟩:=orE_zero.1 h
 obtain ⟨h3,h4⟩:=orE_zero.1 h
 have hm:mainI p∈p.funcs∧(mainI p).name=[109,97,105,110]∧(mainI p).params=[]∧(scalarsP p.vars p.funcs).length≤8000:=by
  unfold mainE at h4
  split at h4
  ·rename_i f m hf hms
   split at h4
   ·rename_i h5
    split at h4
    ·rename_i h6
     have e:mainI p=f:=by unfold mainI;rw[hf];try rfl
     rw[e]
     exact ⟨List.mem_of_getLast? hf,h5.1,h5.2,h6.1⟩
    ·cases h4
   ·cases h4
  ·cases h4
 refine ⟨h1,fun a ha=>?_,errFs_own _ _ h3,body_valid _ _ h3 (fun k hk=>(List.not_mem_nil hk).elim) (fun f hf=>hf),scal_nodup h1 h3,⟨hm.1,hm.2.1,hm.2.2.1⟩,hm.2.2.2⟩
 have:=sizes_valid _ 0 zDd h2 (a.size:Int) (by
  rw[List.map_map]
  exact List.mem_map.2 ⟨a,ha,rfl⟩)
 constructor <;> omega
theorem call_valid {p:Pr} {f:FnD} {kn:List FSum} (hv:Valid p) (hk:Known p.funcs kn) {name:Nm} {n:Nat} (h:callE (envF p.vars (p.arrays.map (·.name)) (p.funcs.map (·.name)) kn f) name n=0) (h1:name≠[105,110]) (h2:name≠[111,117,116]):fnI p name∈p.funcs∧(fnI p name).name=name∧(fnI p name).params.length=n:=by
 unfold callE at h
 rw[if_neg h1,if_neg h2] at h
 unfold CEnv.fn at h
 rw[show (envF p.vars (p.arrays.map (·.name)) (p.funcs.map (·.name)) kn f).funcs=kn from rfl] at h
 cases hf:kn.find? fun f=>decide (f.name=name) with
 |none=>
  rw[hf] at h
  simp only at h
  split at h <;> cases h
 |some k=>
  rw[hf] at h
  simp only at h
  split at h
  ·rename_i hn
   obtain ⟨g,g1,g2,g3⟩:=hk k (List.mem_of_find?_eq_some hf)
   have hkn:k.name=name:=of_decide_eq_true (List.find?_some (p:=fun g:FSum=>decide (g.name=name)) hf)
   have e:=fnI_mem (P:=p) (List.nodup_append.1 (fresh_zero _ _ hv.names).1).2.1 g1
   rw[g2,hkn] at e
   rw[e]
   exact ⟨g1,g2.trans hkn,by rw[g3,hn]⟩
  ·cases h
end Go.Stele
namespace Go.Stele
open Go.Lib
def StopM (B:Int) (m:MS) (e:Int) (s:IS):Prop:=
 (e=0∨e=12→∃ k:Nat,∃ m',(k:Int)≤B∧Stp k m m'∧stepM m'=.stop e.toNat s.out)∧(e=13→∃ k m',Stp k m m'∧m'.out=s.out)
def PostG {A:Type} (Q:A→IS→MS→Prop) (c d:Int) (m:MS) (s:IS):IR A→Prop
 |.ok v s'=>s'.left≤s.left∧∃ k:Nat,∃ m',(k:Int)≤c+60 * ((s.left:Int)-(s'.left:Int))∧Stp k m m'∧Q v s' m'
 |.stop e s'=>StopM (d+60 * (s.left:Int)+60) m e s'
theorem StopM.pre {k:Nat} {B:Int} {m m1:MS} {e:Int} {s:IS} (h:Stp k m m1) (g:StopM B m1 e s):StopM (k+B) m e s:=by
 refine ⟨fun he=>?_,fun he=>?_⟩
 ·obtain ⟨y,m',k1,k2,k3⟩:=g.1 he
  exact ⟨k+y,m',by omega,h.trans k2,k3⟩
 ·obtain ⟨y,m',k2,k3⟩:=g.2 he
  exact ⟨k+y,m',h.trans k2,k3⟩
theorem StopM.mono {B B':Int} {m:MS} {e:Int} {s:IS} (h:StopM B m e s) (hb:B≤B'):StopM B' m e s:=
 ⟨fun he=>by
  obtain ⟨y,m',k1,k2,k3⟩:=h.1 he
  exact ⟨y,m',by omega,k2,k3⟩,h.2⟩
section
variable {A B:Type} {Q:A→IS→MS→Prop} {R:B→IS→MS→Prop} {c d c1 d1 c2 d2:Int} {m m1:MS} {s:IS}
theorem PostG.pre {r:IR A} {a:Nat} (h:Stx a m m1) (g:PostG Q c1 d1 m1 s r) (hc:a+c1≤c) (hd:a+d1≤d):PostG Q c d m s r:=by
 obtain ⟨x,hx,hs⟩:=h
 cases r with
 |ok v s'=>
  obtain ⟨h1,k,m',h2,h3,h4⟩:=g
  exact ⟨h1,x+k,m',by omega,hs.trans h3,h4⟩
 |stop e s'=>exact (StopM.pre hs g).mono (by omega)
theorem PostG.ok {v:A} (h:Q v s m) (hc:0≤c):PostG Q c d m s (.ok v s):=⟨zNr _,0,m,by omega,.zero _,h⟩
theorem PostG.bind {r:IR A} {f:A→IS→IR B} (h:PostG Q c1 d1 m s r) (hc:c1+c2≤c) (hd:d1≤d) (hd2:c1+d2≤d) (hf:∀ v s' m',Q v s' m'→PostG R c2 d2 m' s' (f v s')):PostG R c d m s (r.bind f):=by
 cases r with
 |ok v s1=>
  obtain ⟨h1,k,m',h2,h3,h4⟩:=h
  have g:=hf v s1 m' h4
  show PostG R c d m s (f v s1)
  revert g
  cases f v s1 with
  |ok w s2=>
   rintro ⟨k1,k',m2,k2,k3,k4⟩
   exact ⟨by omega,k+k',m2,by omega,h3.trans k3,k4⟩
  |stop e s2=>exact fun g=>(StopM.pre h3 g).mono (by omega)
 |stop e s1=>exact StopM.mono (s:=s1) h (by omega)
theorem PostG.post {r:IR A} {R:A→IS→MS→Prop} {a:Nat} (h:PostG Q c1 d1 m s r) (hc:c1+a≤c) (hd:d1≤d) (hf:∀ v s' m',Q v s' m'→∃ m2,Stx a m' m2∧R v s' m2):PostG R c d m s r:=by
 cases r with
 |ok v s1=>
  obtain ⟨h1,k,m',h2,h3,h4⟩:=h
  obtain ⟨m2,⟨x,hx,k1⟩,k2⟩:=hf v s1 m' h4
  exact ⟨h1,k+x,m2,by omega,h3.trans k1,k2⟩
 |stop e s1=>exact StopM.mono h (by omega)
theorem PostG.tick {f:Unit→IS→IR A} (hout:m.out=s.out) (h:s.left≠0→PostG Q (c+60) (d+60) m { s with left:=s.left-1 } (f () { s with left:=s.left-1 })):PostG Q c d m s ((Go.Stele.tick s).bind f):=by
 unfold Go.Stele.tick
 split
 ·exact ⟨fun he=>(by rcases he with he|he <;> cases he),fun _=>⟨0,m,.zero _,hout⟩⟩
 ·rename_i h0
  have k:=h h0
  show PostG Q c d m s (f () { s with left:=s.left-1 })
  revert k
  cases f () { s with left:=s.left-1 } with
  |ok v s1=>
   rintro ⟨k1,k,m2,k2,k3⟩
   simp only at k1 k2
   exact ⟨by omega,k,m2,by omega,k3⟩
  |stop e s1=>
   intro k
   exact StopM.mono k (by simp only;omega)
theorem PostG.limit (hout:m.out=s.out):PostG Q c d m s (.stop 13 s):=⟨fun he=>(by rcases he with he|he <;> cases he),fun _=>⟨0,m,.zero _,hout⟩⟩
theorem PostG.other {e:Int} (h:e≠0∧e≠12∧e≠13):PostG Q c d m s (.stop e s):=⟨fun he=>(by rcases he with he|he <;> omega),fun he=>by omega⟩
theorem PostG.trap {e:Int} (hd : -60≤d) (he:e=0∨e=12) (h:stepM m=.stop e.toNat s.out):PostG Q c d m s (.stop e s):=⟨fun _=>⟨0,m,by omega,.zero _,h⟩,fun he'=>by omega⟩
end
theorem bind_bind {A B D:Type} (r:IR A) (f:A→IS→IR B) (g:B→IS→IR D):(r.bind f).bind g=r.bind fun v s=>(f v s).bind g:=by cases r <;> rfl
structure Trn where
 C:PW
 P:Pr
 cc:FnD→CC
 cenv:FnD→CEnv
 sa:Nm→Nat
 aa:Nm→Nat
 S:Nat
 fst:FnD→Nat
def Trn.keys (X:Trn):List Nm:=scalarsP X.P.vars X.P.funcs
def Trn.Data (X:Trn) (x:Nat):Prop:=(∃ k∈X.keys,x=X.sa k)∨(X.S≤x∧x≤X.S+2)∨∃ a∈X.P.arrays,∃ i,i<a.size∧x=X.aa a.name+i
structure TrnOk (X:Trn):Prop where
 sc:∀ f∈X.P.funcs,∀ name,scalarE (X.cenv f) name=0→(X.cc f).sc name=decDigits (X.sa (keyI f name))∧keyI f name∈X.keys
 ar:∀ f∈X.P.funcs,∀ name,arrayE (X.cenv f) name=0→(X.cc f).ar name=decDigits (X.aa name)∧∃ a∈X.P.arrays,a.name=name
 temps:∀ f∈X.P.funcs,(X.cc f).t0=decDigits X.S∧(X.cc f).t1=decDigits (X.S+1)∧(X.cc f).t2=decDigits (X.S+2)
 low:∀ x,X.Data x→x<262144
 free:∀ x,X.Data x→x<X.C.og∨X.C.og+(textA X.C.known X.C.W).length≤x
 keyLow:∀ k∈X.keys,X.S+3≤X.sa k
 inj:∀ k∈X.keys,∀ k'∈X.keys,X.sa k=X.sa k'→k=k'
 apart:∀ a∈X.P.arrays,∀ i,i<a.size→(∀ k∈X.keys,X.sa k≠X.aa a.name+i)∧¬ (X.S≤X.aa a.name+i∧X.aa a.name+i≤X.S+2)
 arInj:∀ a∈X.P.arrays,∀ b∈X.P.arrays,∀ i j,i<a.size→j<b.size→X.aa a.name+i=X.aa b.name+j→a.name=b.name∧i=j
 arLow:∀ a∈X.P.arrays,X.aa a.name<1000000
 arName:∀ a∈X.P.arrays,∀ b∈X.P.arrays,a.name=b.name→a.size=b.size
 body:∀ f∈X.P.funcs,errSs (X.cenv f) f.body=0∧numSs f.body
 fn:∀ f∈X.P.funcs,∀ name g,(X.cenv f).fn name=some g→fnI X.P name∈X.P.funcs∧(fnI X.P name).name=name∧g.params=(fnI X.P name).params.length∧needSs (X.cenv (fnI X.P name)) (fnI X.P name).body≤g.need∧depSs (X.cenv (fnI X.P name)) (fnI X.P name).body≤g.depth
 par:∀ f∈X.P.funcs,(∀ p∈f.params,keyI f p∈X.keys∧(X.cc f).sc p=decDigits (X.sa (keyI f p)))∧(f.params.map (keyI f)).Nodup
 code:∀ f∈X.P.funcs,∃ nl,X.C.Code (X.fst f) (fnW (X.cc f) nl f).1
 ldef:∀ (j n:Nat),X.C.W[j]? = some (labW n++[58])→defW (labW n++[58])=some (labW n)
 lref:∀ (j n:Nat),X.C.W[j]? = some (38::labW n)→refW (38::labW n)=some (labW n)
 fdef:∀ f∈X.P.funcs,defW ([102,95]++f.name++[58])=some ([102,95]++f.name)
 fref:∀ f∈X.P.funcs,refW ([38,102,95]++f.name)=some ([102,95]++f.name)
 label:∀ (j:Nat) (w x:Wd),X.C.W[j]? = some w→defW w=some x→X.C.known x=X.C.plc j
structure Trn.Rel (X:Trn) (s:IS) (m:MS):Prop where
 ok:X.C.Ok m.mem
 sc:∀ k∈X.keys,m.mem (X.sa k)=s.sc k
 ar:∀ a∈X.P.arrays,(s.ar a.name).length=a.size∧∀ i (h:i<(s.ar a.name).length),m.mem (X.aa a.name+i)=(s.ar a.name)[i]
 inp:m.inp=s.inp
 out:m.out=s.out
theorem Trn.Rel.same {X:Trn} {s s':IS} {m m':MS} (h:X.Rel s m) (h1:m'.mem=m.mem) (h2:m'.inp=m.inp) (h3:m'.out=m.out) (k1:s'.sc=s.sc) (k2:s'.ar=s.ar) (k3:s'.inp=s.inp) (k4:s'.out=s.out):X.Rel s' m':=
 ⟨by rw[h1];exact h.ok,by rw[h1,k1];exact h.sc,by rw[h1,k2];exact h.ar,by rw[h2,k3];exact h.inp,by rw[h3,k4];exact h.out⟩
theorem Trn.ok_store {X:Trn} (hX:TrnOk X) {mem:Nat→Nat} (h:X.C.Ok mem) {x v:Nat} (hx:X.Data x):X.C.Ok (fun i=>if i=x then v else mem i):=by
 refine ⟨fun i hi=>?_,h.fits⟩
 have h1:=hX.free x hx
 have h2:=h.here i hi
 rw[if_neg (by omega)]
 exact h2
theorem Trn.Rel.temp {X:Trn} (hX:TrnOk X) {s:IS} {m:MS} (h:X.Rel s m) {x v:Nat} (hx:X.S≤x∧x≤X.S+2) {m':MS} (h1:m'.mem=fun i=>if i=x then v else m.mem i) (h2:m'.inp=m.inp) (h3:m'.out=m.out):X.Rel s m':=by
 refine ⟨by rw[h1];exact X.ok_store hX h.ok (.inr (.inl hx)),fun k hk=>?_,fun a ha=>?_,by rw[h2];exact h.inp,by rw[h3];exact h.out⟩
 ·rw[h1]
  simp only
  have:=hX.keyLow k hk
  rw[if_neg (by omega)]
  exact h.sc k hk
 ·obtain ⟨e1,e2⟩:=h.ar a ha
  refine ⟨e1,fun i hi=>?_⟩
  rw[h1]
  simp only
  have:=(hX.apart a ha i (by omega)).2
  rw[if_neg (fun h=>this (by rw[h];exact hx))]
  exact e2 i hi
theorem Trn.Rel.scal {X:Trn} (hX:TrnOk X) {s:IS} {m:MS} (h:X.Rel s m) {k:Nm} (hk:k∈X.keys) {v:Nat} {m':MS} (h1:m'.mem=fun i=>if i=X.sa k then v else m.mem i) (h2:m'.inp=m.inp) (h3:m'.out=m.out):X.Rel (setSc s k v) m':=by
 refine ⟨by rw[h1];exact X.ok_store hX h.ok (.inl ⟨k,hk,rfl⟩),fun k' hk'=>?_,fun a ha=>?_,by rw[h2];exact h.inp,by rw[h3];exact h.out⟩
 ·rw[h1]
  unfold setSc
  simp only
  by_cases he:k'=k
  ·subst he
   rw[if_pos rfl,if_pos rfl]
  ·rw[if_neg (fun h=>he (hX.inj _ hk' _ hk h)),if_neg he]
   exact h.sc k' hk'
 ·obtain ⟨e1,e2⟩:=h.ar a ha
  refine ⟨e1,fun i hi=>?_⟩
  rw[h1]
  simp only
  have hi2:i<(s.ar a.name).length:=hi
  have:=(hX.apart a ha i (by omega)).1 k hk
  rw[if_neg (fun h=>this h.symm)]
  exact e2 i hi2
theorem Trn.Rel.elem {X:Trn} (hX:TrnOk X) {s:IS} {m:MS} (h:X.Rel s m) {a:Ar} (ha:a∈X.P.arrays) {i v:Nat} (hi:i<(s.ar a.name).length) {m':MS} (h1:m'.mem=fun x=>if x=X.aa a.name+i then v else m.mem x) (h2:m'.inp=m.inp) (h3:m'.out=m.out) :
  X.Rel { s with ar:=fun x=>if x=a.name then (s.ar a.name).set i v else s.ar x } m':=by
 have hs:=(h.ar a ha).1
 refine ⟨by rw[h1];exact X.ok_store hX h.ok (.inr (.inr ⟨a,ha,i,by omega,rfl⟩)),fun k' hk'=>?_,fun b hb=>?_,by rw[h2];exact h.inp,by rw[h3];exact h.out⟩
 ·rw[h1]
  simp only
  rw[if_neg ((hX.apart a ha i (by omega)).1 k' hk')]
  exact h.sc k' hk'
 ·obtain ⟨e1,e2⟩:=h.ar b hb
  by_cases he:b.name=a.name
  ·have hab:=hX.arName b hb a ha he
   simp only[he,if_true,List.length_set]
   refine ⟨by omega,fun j hj=>?_⟩
   rw[h1]
   simp only
   by_cases hj2:j=i
   ·subst hj2
    rw[if_pos rfl,List.getElem_set_self]
   ·rw[if_neg (by omega),List.getElem_set_ne (fun h=>hj2 h.symm)]
    exact (h.ar a ha).2 j hj
  ·simp only[he,if_false]
   refine ⟨e1,fun j hj=>?_⟩
   rw[h1]
   simp only
   rw[if_neg (fun h=>he (hX.arInj b hb a ha j i (by omega) (by omega) h).1)]
   exact e2 j hj
end Go.Stele
namespace Go.Stele
open Go.Lib
structure Trn.Vw (X:Trn) (s:IS) (i:Nat) (d c:List Nat) (m:MS):Prop where
 here:X.C.At m i
 rel:X.Rel s m
 data:m.data=d
 calls:m.calls=c
theorem Trn.Vw.cast {X:Trn} {s:IS} {i j:Nat} {d c:List Nat} {m:MS} (v:X.Vw s i d c m) (h:i=j):X.Vw s j d c m:=h▸v
section
variable {X:Trn} {s:IS} {i:Nat} {d c:List Nat} {m:MS}
theorem Trn.Vw.steps (v:X.Vw s i d c m) (l:Nat):X.Vw { s with left:=l } i d c m:=⟨v.here,v.rel.same rfl rfl rfl rfl rfl rfl rfl,v.data,v.calls⟩
theorem Trn.Vw.num (v:X.Vw s i d c m) {n k:Nat} (hw:X.C.W[i]? = some (decDigits n)) (hn:n<4294967296) (hl:(decDigits n).length+1≤k) (hd:d.length<256):∃ m',Stx k m m'∧X.Vw s (i+1) (n::d) c m'∧m'.mem=m.mem:=by
 obtain ⟨a1,a2,a3,a4,a5,a6⟩:=dec_num n
 have hp:pieceW X.C.known (decDigits n)=decDigits n:=by unfold pieceW;rw[a2]
 have h1:=X.C.digs v.rel.ok v.here hw a1 (by rw[hp];exact decDigits_ne n) (by rw[hp];exact dec_digits n) (by rw[hp,valD_dec];exact hn) (by rw[v.data];exact hd)
 rw[hp,valD_dec] at h1
 exact ⟨_,h1.1.mono hl,⟨⟨rfl,fun _=>h1.2⟩,v.rel.same rfl rfl rfl rfl rfl rfl rfl,by simp only;rw[v.data],v.calls⟩,rfl⟩
theorem len6 {n:Nat} (h:n<1000000):(decDigits n).length+1≤7:=by have:=dec_lenM 5 n h;omega
theorem Trn.Vw.addr (v:X.Vw s i d c m) {n:Nat} (hw:X.C.W[i]? = some (decDigits n)) (hn:n<1000000) (hd:d.length<256):∃ m',Stx 7 m m'∧X.Vw s (i+1) (n::d) c m'∧m'.mem=m.mem:=v.num hw (by omega) (len6 hn) hd
theorem dec_small {n:Nat} (h:n<10):decDigits n=[UInt8.ofNat (48+n)]:=by rw[decDigits,dif_pos h]
theorem Trn.Vw.dig (v:X.Vw s i d c m) {n:Nat} {w:Wd} (hw:X.C.W[i]? = some w) (hn:n<10) (he:w=[UInt8.ofNat (48+n)]) (hd:d.length<256):∃ m',Stx 2 m m'∧X.Vw s (i+1) (n::d) c m'∧m'.mem=m.mem:=by
 rw[he,←dec_small hn] at hw
 exact v.num hw (by omega) (by rw[dec_small hn];exact zNr 2) hd
theorem Trn.Vw.lab (hX:TrnOk X) (v:X.Vw s i d c m) {w x:Wd} {j:Nat} {wj:Wd} (hw:X.C.W[i]? = some w) (hr:refW w=some x) (hj:X.C.W[j]? = some wj) (hdj:defW wj=some x) (hd:d.length<256):∃ m',Stx 7 m m'∧X.Vw s (i+1) (X.C.plc j::d) c m'∧m'.mem=m.mem:=by
 have h1:=hX.label j wj x hj hdj
 have h2:=X.C.pre_le j
 have h3:=v.rel.ok.fits
 obtain ⟨m',k1,k2,k3⟩:=PW.ref v.rel.ok v.here hw hr (by omega) (by rw[v.data];exact hd)
 refine ⟨m',k1,⟨k2,?_,?_,?_⟩,?_⟩
 ·subst k3;exact v.rel.same rfl rfl rfl rfl rfl rfl rfl
 ·subst k3;simp only;rw[h1,v.data]
 ·subst k3;exact v.calls
 ·subst k3;rfl
theorem Trn.Vw.load {a:Nat} (v:X.Vw s i (a::d) c m) (hw:X.C.W[i]? = some [64]) (ha:a<262144) (hd:d.length<256):∃ m',Stx 1 m m'∧X.Vw s (i+1) (m.mem a::d) c m'∧m'.mem=m.mem:=
 ⟨_,PW.load v.rel.ok v.here hw v.data ha hd,⟨X.C.put_at _ _ _,v.rel.same rfl rfl rfl rfl rfl rfl rfl,rfl,v.calls⟩,rfl⟩
theorem Trn.Vw.op {a b x:Nat} {ch:UInt8} (v:X.Vw s i (b::a::d) c m) (hw:X.C.W[i]? = some [ch]) (ho:isOp ch) (hv:binM ch.toNat a b=some x) (hd:d.length<256):∃ m',Stx 1 m m'∧X.Vw s (i+1) (x::d) c m'∧m'.mem=m.mem:=
 ⟨_,PW.op v.rel.ok v.here ho hw v.data hv hd,⟨X.C.put_at _ _ _,v.rel.same rfl rfl rfl rfl rfl rfl rfl,rfl,v.calls⟩,rfl⟩
theorem Trn.Vw.temp (hX:TrnOk X) {a x:Nat} (v:X.Vw s i (a::x::d) c m) (hw:X.C.W[i]? = some [33]) (ha:X.S≤a∧a≤X.S+2):∃ m',Stx 1 m m'∧X.Vw s (i+1) d c m'∧m'.mem=fun y=>if y=a then x else m.mem y:=
 ⟨_,PW.store v.rel.ok v.here hw v.data (hX.low a (.inr (.inl ha))),⟨⟨rfl,fun h=>by cases h⟩,v.rel.temp hX ha rfl rfl rfl,rfl,v.calls⟩,rfl⟩
theorem Trn.Vw.scal (hX:TrnOk X) {k:Nm} {x:Nat} (hk:k∈X.keys) (v:X.Vw s i (X.sa k::x::d) c m) (hw:X.C.W[i]? = some [33]):∃ m',Stx 1 m m'∧X.Vw (setSc s k x) (i+1) d c m':=
 ⟨_,PW.store v.rel.ok v.here hw v.data (hX.low _ (.inl ⟨k,hk,rfl⟩)),⟨⟨rfl,fun h=>by cases h⟩,v.rel.scal hX hk rfl rfl rfl,rfl,v.calls⟩⟩
theorem Trn.Vw.read (v:X.Vw s i d c m) (hw:X.C.W[i]? = some [44]) (hd:d.length<256):∃ m',Stx 1 m m'∧X.Vw { s with inp:=s.inp.tail } (i+1) (s.inp.headD 4294967295::d) c m':=by
 refine ⟨_,PW.read v.rel.ok v.here hw (by rw[v.data];exact hd),⟨⟨rfl,fun h=>by cases h⟩,⟨v.rel.ok,v.rel.sc,v.rel.ar,?_,v.rel.out⟩,?_,v.calls⟩⟩
 ·simp only;rw[v.rel.inp]
 ·simp only[PW.put];rw[v.rel.inp,v.data]
theorem Trn.Vw.write {x:Nat} (v:X.Vw s i (x::d) c m) (hw:X.C.W[i]? = some [46]):∃ m',Stx 1 m m'∧X.Vw { s with out:=s.out++[UInt8.ofNat x] } (i+1) d c m':=by
 refine ⟨_,PW.write v.rel.ok v.here hw v.data,⟨⟨rfl,fun h=>by cases h⟩,⟨v.rel.ok,v.rel.sc,v.rel.ar,v.rel.inp,?_⟩,rfl,v.calls⟩⟩
 simp only
 rw[v.rel.out]
theorem Trn.Vw.greater (hX:TrnOk X) {f:FnD} (hf:f∈X.P.funcs) {a b:Nat} (v:X.Vw s i (b::a::d) c m) (hc:X.C.Code i (greaterW (X.cc f))) (hd:d.length+3≤256):∃ m',Stx 33 m m'∧X.Vw s (i+9) (b2n (decide (b<a))::d) c m':=by
 obtain ⟨_,t1,t2⟩:=hX.temps f hf
 unfold greaterW at hc
 rw[t1,t2] at hc
 have hS:X.S+2<262144:=hX.low _ (.inr (.inl ⟨by omega,by omega⟩))
 obtain ⟨w0,hc⟩:=hc.cons
 obtain ⟨w1,hc⟩:=hc.cons
 obtain ⟨w2,hc⟩:=hc.cons
 obtain ⟨w3,hc⟩:=hc.cons
 obtain ⟨w4,hc⟩:=hc.cons
 obtain ⟨w5,hc⟩:=hc.cons
 obtain ⟨w6,hc⟩:=hc.cons
 obtain ⟨w7,hc⟩:=hc.cons
 obtain ⟨w8,hc⟩:=hc.cons
 obtain ⟨m1,s1,v1,e1⟩:=v.addr w0 (by omega) (by simp only[zLc];omega)
 obtain ⟨m2,s2,v2,e2⟩:=v1.temp hX w1 ⟨by omega,by omega⟩
 obtain ⟨m3,s3,v3,e3⟩:=v2.addr w2 (by omega) (by simp only[zLc];omega)
 obtain ⟨m4,s4,v4,e4⟩:=v3.temp hX w3 ⟨by omega,by omega⟩
 obtain ⟨m5,s5,v5,e5⟩:=v4.addr w4 (by omega) (by omega)
 obtain ⟨m6,s6,v6,e6⟩:=v5.load w5 (by omega) (by omega)
 obtain ⟨m7,s7,v7,e7⟩:=v6.addr w6 (by omega) (by simp only[zLc];omega)
 obtain ⟨m8,s8,v8,e8⟩:=v7.load w7 (by omega) (by simp only[zLc];omega)
 have q1:m5.mem (X.S+2)=b:=by
  rw[e5,e4]
  simp only
  rw[if_neg (by omega),e3,e2]
  simp
 have q2:m7.mem (X.S+1)=a:=by
  rw[e7,e6,e5,e4]
  simp
 rw[q1] at v6 v7 v8
 rw[q2] at v8
 obtain ⟨m9,s9,v9,_⟩:=v8.op (x:=b2n (decide (b<a))) w8 (by unfold isOp;simp) (by
  unfold binM b2n
  simp) (by omega)
 exact ⟨m9,(s1.trans (s2.trans (s3.trans (s4.trans (s5.trans (s6.trans (s7.trans (s8.trans s9)))))))).mono (by omega),v9⟩
end
end Go.Stele
namespace Go.Stele
open Go.Lib
def EvOk (X:Trn) (n:Nat):Prop:=∀ f∈X.P.funcs,∀ e i s m d c,numE e→errE (X.cenv f) e=0→X.C.Code i (exW (X.cc f) e)→X.Vw s i d c m→d.length+needE (X.cenv f) e≤256→c.length+depE (X.cenv f) e≤64 →
 PostG (fun v s' m'=>X.Vw s' (i+(exW (X.cc f) e).length) (v::d) c m') (-20) 0 m s (evI X.P n f e s)
def CallOk (X:Trn) (n:Nat):Prop:=∀ f∈X.P.funcs,∀ name vs i s m d c,name≠[105,110]→name≠[111,117,116]→callE (X.cenv f) name vs.length=0→X.C.Code i [[38,102,95]++name,[58]]→X.Vw s i (vs.reverse++d) c m →
 (∀ g,(X.cenv f).fn name=some g→d.length+max (g.params+1) g.need≤256∧c.length+(g.depth+1)≤64) →
 PostG (fun v s' m'=>X.Vw s' (i+2) (v::d) c m') (8 * vs.length+25) (8 * vs.length+25) m s (callI X.P (stI X.P n) name vs s)
theorem mapR_one {A:Type} (g:A→IS→IR Nat) (x:A) (s:IS):mapR g [x] s=(g x s).bind fun v s=>.ok [v] s:=by
 unfold mapR
 cases g x s <;> rfl
theorem mapR_two {A:Type} (g:A→IS→IR Nat) (x y:A) (s:IS):mapR g [x,y] s=(g x s).bind fun a s=>(g y s).bind fun b s=>.ok [a,b] s:=by
 unfold mapR
 cases g x s with
 |stop e s=>rfl
 |ok a s=>
  show (mapR g [y] s).bind _=(g y s).bind _
  rw[mapR_one]
  cases g y s <;> rfl
section
variable {X:Trn} {n:Nat}
theorem args_ok (hE:EvOk X n) {f:FnD} (hf:f∈X.P.funcs):∀ (l:List Ex) i s m d c,numEs l→errEs (X.cenv f) l=0→X.C.Code i (exWl (X.cc f) l).flatten→X.Vw s i d c m→(∀ k (h:k<l.length),d.length+k+needE (X.cenv f) l[k]≤256)→c.length+depEs (X.cenv f) l≤64 →
  PostG (fun vs s' m'=>vs.length=l.length∧X.Vw s' (i+(exWl (X.cc f) l).flatten.length) (vs.reverse++d) c m') (-20 * l.length) 0 m s (mapR (evI X.P n f) l s)
 |[],i,s,m,d,c,_,_,_,v,_,_=>PostG.ok ⟨rfl,v⟩ (by simp)
 |e::l,i,s,m,d,c,hn,he,hc,v,hd,hdep=>by
  rw[errEs] at he
  obtain ⟨he1,he2⟩:=orE_zero.1 he
  rw[depEs] at hdep
  rw[exWl,List.flatten_cons] at hc
  obtain ⟨hc1,hc2⟩:=hc.app
  unfold mapR
  have h0:=hd 0 (by simp)
  simp only[List.getElem_cons_zero] at h0
  refine PostG.bind (c2 := -20 * l.length) (d2:=0) (hE f hf e i s m d c hn.1 he1 hc1 v (by omega) (by omega)) (by rw[zLc];omega) (Int.le_refl _) (by omega) fun a s' m' va=>?_
  refine PostG.bind (c2:=0) (d2:=0) (args_ok hE hf l _ s' m' (a::d) c hn.2 he2 hc2 va (fun k hk=>?_) (by omega)) (by omega) (Int.le_refl _) (by omega) fun vs s2 m2 hv=>?_
  ·have:=hd (k+1) (by rw[zLc];omega)
   simp only[List.getElem_cons_succ] at this
   rw[zLc]
   omega
  ·refine PostG.ok ⟨by rw[zLc,zLc,hv.1],?_⟩ (Int.le_refl _)
   have:=hv.2
   rw[exWl,List.flatten_cons,zLa,←Nat.add_assoc]
   simpa using this
theorem b2n_less (a b:Nat):(if a<b then 1 else 0)=b2n (decide (a<b)):=by unfold b2n;simp
theorem xor_zero {a b:Nat}:a ^^^ b<1 ↔ a=b:=by
 constructor
 ·intro h
  have h0:a ^^^ b=0:=by omega
  exact Nat.eq_of_testBit_eq fun j=>by
   have h2:=congrArg (fun x=>x.testBit j) h0
   simp only[Nat.testBit_xor,Nat.zero_testBit] at h2
   revert h2
   cases a.testBit j <;> cases b.testBit j <;> simp
 ·rintro rfl
  rw[Nat.xor_self]
  decide
theorem stair_leC:∀ (ns:List Nat) (i m B:Nat),stair i ns m≤B→m≤B∧∀ k (h:k<ns.length),i+k+ns[k]≤B
 |[],i,m,B,h=>⟨h,fun k hk=>by cases hk⟩
 |a::ns,i,m,B,h=>by
  rw[stair] at h
  obtain ⟨h1,h2⟩:=stair_leC ns (i+1) _ B h
  refine ⟨by omega,fun k hk=>?_⟩
  cases k with
  |zero=>simp only[List.getElem_cons_zero];omega
  |succ k=>
   have:=h2 k (by simpa using hk)
   simp only[List.getElem_cons_succ]
   omega
theorem needEs_get (c:CEnv):∀ (l:List Ex),(needEs c l).length=l.length∧∀ k (h:k<l.length) (h2:k<(needEs c l).length),(needEs c l)[k]=needE c l[k]
 |[]=>⟨by simp[needEs],fun k h=>by cases h⟩
 |x::l=>by
  obtain ⟨h1,h2⟩:=needEs_get c l
  refine ⟨by simp[needEs,h1],fun k hk hk2=>?_⟩
  cases k with
  |zero=>simp[needEs]
  |succ k=>
   simp only[needEs,List.getElem_cons_succ]
   exact h2 k (by simpa using hk) _
theorem bin_ok (hX:TrnOk X) {f:FnD} (hf:f∈X.P.funcs) {op:Nm} (hop:op∈binOps) (h1:op≠[33,61]) (h2:op≠[38,38]) (h3:op≠[124,124]) {s:IS} {i a b:Nat} {d c:List Nat} {m:MS} (v:X.Vw s i (b::a::d) c m) (hd:d.length+3≤256∨(d.length+2≤256∧op≠[62]∧op≠[60,61]))
  {ws:List Wd} (hw:ws=(if op=[62] then greaterW (X.cc f) else if op=[60,61] then greaterW (X.cc f)++[[49],[94]] else if op=[62,61] then [[60],[49],[94]] else if op=[61,61] then [[94],[49],[60]] else [op])) (hc:X.C.Code i ws) :
  PostG (fun r s' m'=>X.Vw s' (i+ws.length) (r::d) c m') 36 0 m s (match binI op a b with
   |some r=>.ok r s
   |none=>.stop 12 s):=by
 have hd2:d.length+2≤256:=by omega
 have simple:∀ ch:UInt8,op=[ch]→isOp ch→(ws=[op])→binI op a b=binM ch.toNat a b→PostG (fun r s' m'=>X.Vw s' (i+ws.length) (r::d) c m') 36 0 m s (match binI op a b with
   |some r=>.ok r s
   |none=>.stop 12 s):=by
  intro ch e1 e2 e3 e4
  subst e3
  obtain ⟨w0,_⟩:=hc.cons
  rw[e1] at w0
  rw[e4]
  cases hv:binM ch.toNat a b with
  |some r=>
   obtain ⟨m1,t1,v1,_⟩:=v.op w0 e2 hv (by omega)
   exact PostG.pre t1 (PostG.ok (c:=0) (d := -1) v1 (Int.le_refl 0)) (by omega) (by omega)
  |none=>exact PostG.trap (by omega) (.inr rfl) (by rw[PW.opTrap v.rel.ok v.here e2 w0 v.data hv,v.rel.out];try rfl)
 simp only[binOps,zMi,List.not_mem_nil,or_false] at hop
 rcases hop with rfl|rfl|rfl|rfl|rfl|rfl|rfl|rfl|rfl|rfl|rfl|rfl|rfl|rfl
 ·exact absurd rfl h3
 ·exact absurd rfl h2
 ·-- ==
  have hw:ws=[[94],[49],[60]]:=hw
  subst hw
  obtain ⟨w0,hc⟩:=hc.cons
  obtain ⟨w1,hc⟩:=hc.cons
  obtain ⟨w2,hc⟩:=hc.cons
  obtain ⟨m1,t1,v1,_⟩:=v.op (x:=a ^^^ b) w0 (by unfold isOp;simp) rfl (by omega)
  obtain ⟨m2,t2,v2,_⟩:=v1.dig (n:=1) w1 zDd rfl (by simp only[zLc];omega)
  obtain ⟨m3,t3,v3,_⟩:=v2.op (x:=b2n (decide (a=b))) w2 (by unfold isOp;simp) (by
   unfold binM
   simp only[xor_zero]
   unfold b2n
   simp) (by omega)
  exact PostG.pre (t1.trans (t2.trans t3)) (PostG.ok (c:=0) (d := -4) v3 (Int.le_refl 0)) (by omega) (by omega)
 ·exact absurd rfl h1
 ·exact simple 60 rfl (by unfold isOp;simp) hw (by unfold binM;rw[if_neg zDd,if_neg zDd,if_neg zDd,if_neg zDd,if_neg zDd,if_neg zDd,b2n_less];try rfl)
 ·-- >
  have hw:ws=greaterW (X.cc f):=hw
  subst hw
  obtain ⟨m1,t1,v1⟩:=v.greater hX hf hc (by rcases hd with h|h;omega;exact absurd rfl h.2.1)
  exact PostG.pre t1 (PostG.ok (c:=0) (d := -33) v1 (Int.le_refl 0)) (by omega) (by omega)
 ·-- <=
  have hw:ws=greaterW (X.cc f)++[[49],[94]]:=hw
  subst hw
  obtain ⟨hc1,hc2⟩:=hc.app
  obtain ⟨m1,t1,v1⟩:=v.greater hX hf hc1 (by rcases hd with h|h;omega;exact absurd rfl h.2.2)
  have hl:(greaterW (X.cc f)).length=9:=rfl
  rw[hl] at hc2
  obtain ⟨w1,hc2⟩:=hc2.cons
  obtain ⟨w2,hc2⟩:=hc2.cons
  obtain ⟨m2,t2,v2,_⟩:=v1.dig (n:=1) w1 zDd rfl (by simp only[zLc];omega)
  obtain ⟨m3,t3,v3,_⟩:=v2.op (x:=b2n (decide (a≤b))) w2 (by unfold isOp;simp) (by
   unfold binM b2n
   by_cases h:b<a
   ·simp[h,show ¬ a≤b by omega]
   ·simp[h,show a≤b by omega]) (by omega)
  exact PostG.pre (t1.trans (t2.trans t3)) (PostG.ok (c:=0) (d := -36) (by
   have:i+9+1+1=i+(greaterW (X.cc f)++[[49],[94]]).length:=rfl
   exact v3.cast this) (Int.le_refl 0)) (by omega) (by omega)
 ·-- >=
  have hw:ws=[[60],[49],[94]]:=hw
  subst hw
  obtain ⟨w0,hc⟩:=hc.cons
  obtain ⟨w1,hc⟩:=hc.cons
  obtain ⟨w2,hc⟩:=hc.cons
  obtain ⟨m1,t1,v1,_⟩:=v.op (x:=b2n (decide (a<b))) w0 (by unfold isOp;simp) (by unfold binM;rw[if_neg zDd,if_neg zDd,if_neg zDd,if_neg zDd,if_neg zDd,if_neg zDd,b2n_less]) (by omega)
  obtain ⟨m2,t2,v2,_⟩:=v1.dig (n:=1) w1 zDd rfl (by simp only[zLc];omega)
  obtain ⟨m3,t3,v3,_⟩:=v2.op (x:=b2n (decide (b≤a))) w2 (by unfold isOp;simp) (by
   unfold binM b2n
   by_cases h:a<b
   ·simp[h,show ¬ b≤a by omega]
   ·simp[h,show b≤a by omega]) (by omega)
  exact PostG.pre (t1.trans (t2.trans t3)) (PostG.ok (c:=0) (d := -4) v3 (Int.le_refl 0)) (by omega) (by omega)
 ·exact simple 94 rfl (by unfold isOp;simp) hw rfl
 ·exact simple 43 rfl (by unfold isOp;simp) hw rfl
 ·exact simple 45 rfl (by unfold isOp;simp) hw rfl
 ·exact simple 42 rfl (by unfold isOp;simp) hw rfl
 ·exact simple 47 rfl (by unfold isOp;simp) hw (by unfold binM binI;by_cases h:b=0 <;> simp[h])
 ·exact simple 37 rfl (by unfold isOp;simp) hw (by unfold binM binI;by_cases h:b=0 <;> simp[h])
end
end Go.Stele
namespace Go.Stele
open Go.Lib
theorem b2n_le (b:Bool):b2n b≤1:=by unfold b2n;split <;> omega
theorem ops_rest {op:Nm} (h:opnds op=2):op∈binOps∧op≠nNum∧op≠nVar∧op≠nElem∧op≠nNeg∧op≠nNot∧op≠nCall:=by
 unfold opnds at h
 split at h
 ·cases h
 ·rename_i h1
  split at h
  ·cases h
  ·rename_i h2
   split at h
   ·cases h
   ·rename_i h3
    split at h
    ·rename_i h4
     exact ⟨h4,fun e=>h1 (.inl e),fun e=>h1 (.inr e),fun e=>h2 (.inl e),fun e=>h2 (.inr (.inl e)),fun e=>h2 (.inr (.inr e)),h3⟩
    ·cases h
theorem opI_bin (P:Pr) (g:FnD→Sm→IS→IR (Option Nat)) (f:FnD) {op:Nm} (h:op∈binOps) (num:Nat) (name:Nm) (a b:Nat) (s:IS):opI P g f op num name [a,b] s=match binI op a b with
  |some r=>.ok r s
  |none=>.stop 12 s:=by
 simp only[binOps,zMi,List.not_mem_nil,or_false] at h
 rcases h with rfl|rfl|rfl|rfl|rfl|rfl|rfl|rfl|rfl|rfl|rfl|rfl|rfl|rfl <;> rfl
theorem stair_ge:∀ (ns:List Nat) (i m:Nat),m≤stair i ns m
 |[],i,m=>zNr _
 |a::ns,i,m=>by
  rw[stair]
  have:=stair_ge ns (i+1) (max m (i+a))
  omega
theorem need_pos (c:CEnv):∀ e:Ex,errE c e=0→1≤needE c e
 |.mk op num name args,h=>by
  rw[errE] at h
  split at h
  case isFalse=>cases h
  rename_i hop
  obtain ⟨h1,h2⟩:=orE_zero.1 h
  rw[needE]
  unfold opN
  split
  ·omega
  ·split
   ·omega
   ·split
    ·rename_i hc
     subst hc
     have he3:callE c name args.length=0:=h2
     unfold callN
     split
     ·omega
     ·rename_i k1
      split
      ·rename_i k2
       unfold callE at he3
       rw[if_neg k1,if_pos k2] at he3
       split at he3
       ·rename_i hl
        obtain ⟨x,rfl⟩:=List.length_eq_one_iff.1 hl
        rw[errEs] at h1
        have:=need_pos c x (orE_zero.1 h1).1
        rw[needEs]
        exact this
       ·cases he3
      ·rename_i k2
       unfold callE at he3
       rw[if_neg k1,if_neg k2] at he3
       split
       ·rename_i g hg
        have:=stair_ge (needEs c args) 0 (max (g.params+1) g.need)
        omega
       ·rename_i hg
        rw[hg] at he3
        simp only at he3
        split at he3 <;> cases he3
    ·repeat' split
     all_goals omega
section
variable {X:Trn} {n:Nat}
theorem ev_step (hX:TrnOk X) (hE:EvOk X n) (hC:CallOk X n):EvOk X (n+1):=by
 intro f hf e i s m d c hn he hc v hd hdep
 obtain ⟨op,num,name,args⟩:=e
 rw[errE] at he
 split at he
 case isFalse=>cases he
 rename_i hop
 obtain ⟨he1,he2⟩:=orE_zero.1 he
 rw[evI]
 refine PostG.tick v.rel.out fun hleft=>?_
 have v:=v.steps (s.left-1)
 generalize { s with left:=s.left-1 }=s1 at v ⊢
 clear hleft
 obtain ⟨hnum,hn⟩:=hn
 rw[exW] at hc ⊢
 rw[needE] at hd
 rw[depE] at hdep
 have hdep2:c.length+depEs (X.cenv f) args≤64:=by omega
 by_cases h1:op=nNum
 ·subst h1
  have ha:args=[]:=List.eq_nil_of_length_eq_zero (by
   have e:opnds nNum=0:=rfl
   rw[e] at hop
   omega)
  subst ha
  have hr:((mapR (evI X.P n f) [] s1).bind fun vs s=>opI X.P (stI X.P n) f nNum num name vs s)=.ok num s1:=rfl
  rw[hr]
  have hw:opW (X.cc f) nNum num name (exWl (X.cc f) [])=[decDigits num]:=by rw[exWl];try rfl
  rw[hw] at hc ⊢
  obtain ⟨w0,_⟩:=hc.cons
  have hroom:d.length<256:=by
   have:opN (X.cenv f) nNum name (needEs (X.cenv f) [])=1:=rfl
   omega
  obtain ⟨m1,t1,v1,_⟩:=v.num (k:=12) w0 hnum (by have:=dec_lenM 9 num (Nat.lt_of_lt_of_le hnum zDd);omega) hroom
  exact PostG.pre t1 (PostG.ok (c:=0) (d:=0) v1 (Int.le_refl 0)) (by omega) (by omega)
 by_cases h2:op=nVar
 ·subst h2
  have ha:args=[]:=List.eq_nil_of_length_eq_zero (by
   have e:opnds nVar=0:=rfl
   rw[e] at hop
   omega)
  subst ha
  have hr:((mapR (evI X.P n f) [] s1).bind fun vs s=>opI X.P (stI X.P n) f nVar num name vs s)=.ok (s1.sc (keyI f name)) s1:=rfl
  rw[hr]
  have he3:scalarE (X.cenv f) name=0:=he2
  obtain ⟨a1,a2⟩:=hX.sc f hf name he3
  have hw:opW (X.cc f) nVar num name (exWl (X.cc f) [])=[(X.cc f).sc name,[64]]:=by rw[exWl];try rfl
  rw[hw,a1] at hc
  rw[hw]
  obtain ⟨w0,hc⟩:=hc.cons
  obtain ⟨w1,hc⟩:=hc.cons
  have hroom:d.length<256:=by
   have:opN (X.cenv f) nVar name (needEs (X.cenv f) [])=1:=rfl
   omega
  have hlow:=hX.low _ (.inl ⟨_,a2,rfl⟩)
  obtain ⟨m1,t1,v1,e1⟩:=v.addr w0 (by omega) hroom
  obtain ⟨m2,t2,v2,e2⟩:=v1.load w1 hlow hroom
  rw[e1,v.rel.sc _ a2] at v2
  exact PostG.pre (t1.trans t2) (PostG.ok (c:=0) (d:=0) v2 (Int.le_refl 0)) (by omega) (by omega)
 by_cases h3:op=nElem
 ·subst h3
  obtain ⟨x,rfl⟩:∃ x,args=[x]:=List.length_eq_one_iff.1 (by
   have e:opnds nElem=1:=rfl
   rw[e] at hop
   omega)
  rw[mapR_one,bind_bind]
  have he3:arrayE (X.cenv f) name=0:=he2
  obtain ⟨a1,A,hA,rfl⟩:=hX.ar f hf name he3
  have hw:opW (X.cc f) nElem num A.name (exWl (X.cc f) [x])=(X.cc f).ar A.name::(exW (X.cc f) x++[[43],[64]]):=by rw[exWl];try rfl
  rw[hw,a1] at hc
  rw[hw]
  obtain ⟨w0,hc⟩:=hc.cons
  obtain ⟨hcx,hc⟩:=hc.app
  obtain ⟨w1,hc⟩:=hc.cons
  obtain ⟨w2,hc⟩:=hc.cons
  have hneed:d.length+(1+needE (X.cenv f) x)≤256:=hd
  rw[errEs] at he1
  rw[depEs] at hdep2
  have hbase:∀ j,j<A.size→X.aa A.name+j<262144:=fun j hj=>hX.low _ (.inr (.inr ⟨A,hA,j,hj,rfl⟩))
  have haa:X.aa A.name<1000000:=hX.arLow A hA
  obtain ⟨m1,t1,v1,e1⟩:=v.addr w0 haa (by omega)
  refine PostG.pre t1 (c := -20+60) (d:=0+60) (c1:=30) (d1:=50) ?_ (by omega) (by omega)
  refine PostG.bind (c2:=2) (d2:=2) (hE f hf x (i+1) s1 m1 (X.aa A.name::d) c hn.1 (orE_zero.1 he1).1 hcx v1 (by rw[zLc];omega) (by omega)) (by omega) (by omega) (by omega) fun a s' m' va=>?_
  show PostG _ 2 2 m' s' (match (s'.ar A.name)[a]? with
   |some v=>.ok v s'
   |none=>.stop 2 s')
  cases hg:(s'.ar A.name)[a]? with
  |none=>exact PostG.other zDd
  |some r=>
   obtain ⟨hlt,hr⟩:=List.getElem?_eq_some_iff.1 hg
   obtain ⟨b1,b2⟩:=va.rel.ar A hA
   have hb:=hbase a (by omega)
   obtain ⟨m2,t2,v2,e2⟩:=va.op (x:=X.aa A.name+a) w1 (by unfold isOp;simp) (by
    show some ((X.aa A.name+a) % 4294967296)=_
    rw[Nat.mod_eq_of_lt (by omega)]) (by omega)
   obtain ⟨m3,t3,v3,e3⟩:=v2.load w2 hb (by omega)
   rw[e2,b2 a hlt,hr] at v3
   refine PostG.pre (t2.trans t3) (PostG.ok (c:=0) (d:=0) (v3.cast ?_) (Int.le_refl 0)) (by omega) (by omega)
   simp only[zLc,zLa,zLn]
   omega
 by_cases h4:op=nNeg
 ·subst h4
  obtain ⟨x,rfl⟩:∃ x,args=[x]:=List.length_eq_one_iff.1 (by
   have e:opnds nNeg=1:=rfl
   rw[e] at hop
   omega)
  rw[mapR_one,bind_bind]
  have hw:opW (X.cc f) nNeg num name (exWl (X.cc f) [x])=[48]::(exW (X.cc f) x++[[45]]):=by rw[exWl];try rfl
  rw[hw] at hc ⊢
  obtain ⟨w0,hc⟩:=hc.cons
  obtain ⟨hcx,hc⟩:=hc.app
  obtain ⟨w1,hc⟩:=hc.cons
  have hneed:d.length+(1+needE (X.cenv f) x)≤256:=hd
  rw[errEs] at he1
  rw[depEs] at hdep2
  obtain ⟨m1,t1,v1,e1⟩:=v.dig (n:=0) w0 zDd rfl (by omega)
  refine PostG.pre t1 (c := -20+60) (d:=0+60) (c1:=30) (d1:=50) ?_ (by omega) (by omega)
  refine PostG.bind (c2:=2) (d2:=2) (hE f hf x (i+1) s1 m1 (0::d) c hn.1 (orE_zero.1 he1).1 hcx v1 (by rw[zLc];omega) (by omega)) (by omega) (by omega) (by omega) fun a s' m' va=>?_
  show PostG _ 2 2 m' s' (.ok ((4294967296-a) % 4294967296) s')
  obtain ⟨m2,t2,v2,e2⟩:=va.op (x:=(4294967296-a) % 4294967296) w1 (by unfold isOp;simp) (by
   show some ((0+4294967296-a) % 4294967296)=_
   rw[Nat.zero_add]) (by omega)
  refine PostG.pre t2 (PostG.ok (c:=0) (d:=0) (v2.cast ?_) (Int.le_refl 0)) (by omega) (by omega)
  simp only[zLc,zLa,zLn]
  omega
 by_cases h5:op=nNot
 ·subst h5
  obtain ⟨x,rfl⟩:∃ x,args=[x]:=List.length_eq_one_iff.1 (by
   have e:opnds nNot=1:=rfl
   rw[e] at hop
   omega)
  rw[mapR_one,bind_bind]
  have hw:opW (X.cc f) nNot num name (exWl (X.cc f) [x])=exW (X.cc f) x++[[49],[60]]:=by rw[exWl];try rfl
  rw[hw] at hc ⊢
  obtain ⟨hcx,hc⟩:=hc.app
  obtain ⟨w0,hc⟩:=hc.cons
  obtain ⟨w1,hc⟩:=hc.cons
  have hneed:d.length+max 2 (needE (X.cenv f) x)≤256:=hd
  rw[errEs] at he1
  rw[depEs] at hdep2
  refine PostG.bind (c2:=20) (d2:=20) (hE f hf x i s1 m d c hn.1 (orE_zero.1 he1).1 hcx v (by omega) (by omega)) (by omega) (by omega) (by omega) fun a s' m' va=>?_
  show PostG _ 20 20 m' s' (.ok (b2n (decide (a=0))) s')
  obtain ⟨m1,t1,v1,e1⟩:=va.dig (n:=1) w0 zDd rfl (by simp only[zLc];omega)
  obtain ⟨m2,t2,v2,e2⟩:=v1.op (x:=b2n (decide (a=0))) w1 (by unfold isOp;simp) (by
   show some (if a<1 then 1 else 0)=_
   rw[b2n_less]
   congr 3
   exact propext ⟨fun h=>by omega,fun h=>by omega⟩) (by omega)
  refine PostG.pre (t1.trans t2) (PostG.ok (c:=0) (d:=0) (v2.cast ?_) (Int.le_refl 0)) (by omega) (by omega)
  simp only[zLc,zLa,zLn]
  omega
 by_cases h6:op=nCall
 ·subst h6
  have hneed:d.length+callN (X.cenv f) name (needEs (X.cenv f) args)≤256:=hd
  have hw:opW (X.cc f) nCall num name (exWl (X.cc f) args)=(exWl (X.cc f) args).flatten++(if name=[105,110] then [[44]] else if name=[111,117,116] then [[46],[48]] else [[38,102,95]++name,[58]]):=rfl
  have he3:callE (X.cenv f) name args.length=0:=he2
  have hop2:∀ vs s,opI X.P (stI X.P n) f nCall num name vs s=callI X.P (stI X.P n) name vs s:=fun vs s=>rfl
  rw[hw] at hc ⊢
  obtain ⟨hca,hc⟩:=hc.app
  by_cases k1:name=[105,110]
  ·subst k1
   rw[if_pos rfl] at hc ⊢
   have ha:args=[]:=List.eq_nil_of_length_eq_zero (by
    unfold callE at he3
    rw[if_pos rfl] at he3
    split at he3
    ·assumption
    ·cases he3)
   subst ha
   rw[exWl] at hc ⊢
   obtain ⟨w0,_⟩:=hc.cons
   have hroom:d.length<256:=by
    have:callN (X.cenv f) [105,110] (needEs (X.cenv f) [])=1:=rfl
    omega
   obtain ⟨m1,t1,v1⟩:=v.read w0 hroom
   have hr:((mapR (evI X.P n f) [] s1).bind fun vs s=>opI X.P (stI X.P n) f nCall num [105,110] vs s)=.ok (s1.inp.headD 4294967295) { s1 with inp:=s1.inp.tail }:=by
    show callI X.P (stI X.P n) [105,110] [] s1=_
    unfold callI
    rw[if_pos rfl]
    cases hi:s1.inp with
    |nil=>simp only[List.headD_nil,List.tail_nil];congr 1;cases s1;simp only at hi;subst hi;rfl
    |cons a r=>rfl
   rw[hr]
   refine PostG.pre (s:=s1) t1 (c := -20+60) (d:=0+60) (c1:=0) (d1:=0) ?_ (by omega) (by omega)
   exact ⟨zNr _,0,m1,by simp,.zero _,v1⟩
  by_cases k2:name=[111,117,116]
  ·subst k2
   rw[if_neg zDd,if_pos rfl] at hc ⊢
   obtain ⟨x,rfl⟩:∃ x,args=[x]:=List.length_eq_one_iff.1 (by
    unfold callE at he3
    rw[if_neg zDd,if_pos rfl] at he3
    split at he3
    ·assumption
    ·cases he3)
   rw[mapR_one,bind_bind]
   have hfl:(exWl (X.cc f) [x]).flatten=exW (X.cc f) x:=by rw[exWl,exWl];simp
   rw[hfl] at hc hca ⊢
   obtain ⟨w0,hc⟩:=hc.cons
   obtain ⟨w1,_⟩:=hc.cons
   have hneed2:d.length+needE (X.cenv f) x≤256:=hneed
   have hpos:1≤needE (X.cenv f) x:=need_pos _ _ (orE_zero.1 (by rw[errEs] at he1;exact he1)).1
   rw[errEs] at he1
   rw[depEs] at hdep2
   refine PostG.bind (c2:=5) (d2:=5) (hE f hf x i s1 m d c hn.1 (orE_zero.1 he1).1 hca v (by omega) (by omega)) (by omega) (by omega) (by omega) fun a s' m' va=>?_
   show PostG _ 5 5 m' s' (.ok 0 { s' with out:=s'.out++[UInt8.ofNat a] })
   obtain ⟨m1,t1,v1⟩:=va.write w0
   obtain ⟨m2,t2,v2,_⟩:=v1.dig (n:=0) w1 zDd rfl (by omega)
   refine PostG.pre (s:=s') (t1.trans t2) (c1:=0) (d1:=0) ?_ (by omega) (by omega)
   refine ⟨zNr _,0,m2,by simp,.zero _,v2.cast ?_⟩
   simp only[zLc,zLa,zLn]
   omega
  ·rw[if_neg k1,if_neg k2] at hc ⊢
   have hcn:callN (X.cenv f) name (needEs (X.cenv f) args)=match (X.cenv f).fn name with
     |some g=>stair 0 (needEs (X.cenv f) args) (max (g.params+1) g.need)
     |none=>0:=by unfold callN;rw[if_neg k1,if_neg k2];try rfl
   have hcd:callD (X.cenv f) nCall name=match (X.cenv f).fn name with
     |some g=>g.depth+1
     |none=>0:=by unfold callD;rw[if_pos ⟨rfl,k1,k2⟩];try rfl
   obtain ⟨g,hg⟩:∃ g,(X.cenv f).fn name=some g:=by
    cases hq:(X.cenv f).fn name with
    |some g=>exact ⟨g,rfl⟩
    |none=>
     unfold callE at he3
     rw[if_neg k1,if_neg k2,hq] at he3
     simp only at he3
     split at he3 <;> cases he3
   rw[hg] at hcn hcd
   simp only at hcn hcd
   obtain ⟨q1,q2⟩:=stair_leC (needEs (X.cenv f) args) 0 (max (g.params+1) g.need) (256-d.length) (by omega)
   obtain ⟨r1,r2⟩:=needEs_get (X.cenv f) args
   refine PostG.bind (c2:=8 * args.length+25) (d2:=8 * args.length+25) (args_ok hE hf args i s1 m d c hn he1 hca v (fun k hk=>?_) hdep2) (by omega) (by omega) (by omega) fun vs s' m' hv=>?_
   ·have:=q2 k (by omega)
    rw[r2 k hk (by omega)] at this
    have hdl:d.length≤256:=by omega
    omega
   ·rw[hop2]
    obtain ⟨hv1,hv2⟩:=hv
    rw[←hv1]
    have:=hC f hf name vs _ s' m' d c k1 k2 (by rw[hv1];exact he3) hc hv2 (fun g' hg'=>by
     rw[hg] at hg'
     cases hg'
     have hdl:d.length≤256:=by omega
     exact ⟨by omega,by omega⟩)
    refine PostG.post (a:=0) this (by omega) (Int.le_refl _) fun r s2 m2 h=>⟨m2,.refl _,h.cast ?_⟩
    rw[zLa]
    simp only[zLc,zLn]
    omega
 have hop2:opnds op=2∧args.length=2:=by
  unfold opnds at hop ⊢
  simp only[h1,h2,h3,h4,h5,h6,or_self,if_false] at hop ⊢
  split at hop
  ·rename_i hb
   exact ⟨if_pos hb,by rcases hop with h|h <;> omega⟩
  ·rcases hop with h|h <;> omega
 obtain ⟨hbin,_⟩:=ops_rest hop2.1
 obtain ⟨x,y,rfl⟩:∃ x y,args=[x,y]:=by
  have h:=hop2.2
  match args,h with
  |[x,y],_=>exact ⟨x,y,rfl⟩
 rw[mapR_two,bind_bind]
 simp only[bind_bind]
 have hcont:∀ a b s,(IR.ok [a,b] s).bind (fun vs s=>opI X.P (stI X.P n) f op num name vs s)=match binI op a b with
   |some r=>.ok r s
   |none=>.stop 12 s:=fun a b s=>opI_bin X.P (stI X.P n) f hbin num name a b s
 simp only[hcont]
 have hnx:=hn.1
 have hny:=hn.2.1
 rw[errEs,errEs] at he1
 obtain ⟨he1,he3⟩:=orE_zero.1 he1
 obtain ⟨he3,_⟩:=orE_zero.1 he3
 rw[depEs,depEs] at hdep2
 have hwl:exWl (X.cc f) [x,y]=[exW (X.cc f) x,exW (X.cc f) y]:=by rw[exWl,exWl,exWl]
 have hnl:needEs (X.cenv f) [x,y]=[needE (X.cenv f) x,needE (X.cenv f) y]:=by rw[needEs,needEs,needEs]
 rw[hwl] at hc ⊢
 rw[hnl] at hd
 by_cases b1:op=[33,61]
 ·subst b1
  have hw:opW (X.cc f) [33,61] num name [exW (X.cc f) x,exW (X.cc f) y]=[48]::(exW (X.cc f) x++exW (X.cc f) y++[[94],[60]]):=rfl
  rw[hw] at hc ⊢
  have hneed:d.length+max (max 3 (1+needE (X.cenv f) x)) (2+needE (X.cenv f) y)≤256:=hd
  obtain ⟨w0,hc⟩:=hc.cons
  obtain ⟨hc,hc3⟩:=hc.app
  obtain ⟨hc1,hc2⟩:=hc.app
  obtain ⟨w1,hc3⟩:=hc3.cons
  obtain ⟨w2,_⟩:=hc3.cons
  obtain ⟨m1,t1,v1,e1⟩:=v.dig (n:=0) w0 zDd rfl (by omega)
  refine PostG.pre t1 (c := -20+60) (d:=0+60) (c1:=30) (d1:=50) ?_ (by omega) (by omega)
  refine PostG.bind (c2:=20) (d2:=20) (hE f hf x (i+1) s1 m1 (0::d) c hnx he1 hc1 v1 (by rw[zLc];omega) (by omega)) (by omega) (by omega) (by omega) fun a s' m' va=>?_
  refine PostG.bind (c2:=5) (d2:=5) (hE f hf y _ s' m' (a::0::d) c hny he3 hc2 va (by rw[zLc,zLc];omega) (by omega)) (by omega) (by omega) (by omega) fun b s2 m2 vb=>?_
  rw[zLa,←Nat.add_assoc] at w1 w2
  obtain ⟨m3,t3,v3,_⟩:=vb.op (x:=a ^^^ b) w1 (by unfold isOp;simp) rfl (by simp only[zLc];omega)
  obtain ⟨m4,t4,v4,_⟩:=v3.op (x:=b2n (decide (a≠b))) w2 (by unfold isOp;simp) (by
   show some (if 0<a ^^^ b then 1 else 0)=_
   rw[b2n_less]
   congr 3
   refine propext ⟨fun h e=>?_,fun h=>?_⟩
   ·have:=xor_zero.2 e;omega
   ·have:=mt xor_zero.1 h;omega) (by omega)
  refine PostG.pre (t3.trans t4) (PostG.ok (c:=0) (d:=0) (v4.cast ?_) (Int.le_refl 0)) (by omega) (by omega)
  simp only[zLc,zLa,zLn]
  omega
 by_cases b2:op=[38,38]
 ·subst b2
  have hw:opW (X.cc f) [38,38] num name [exW (X.cc f) x,exW (X.cc f) y]=[48]::(exW (X.cc f) x++[[60],[48]]++exW (X.cc f) y++[[60],[42]]):=rfl
  rw[hw] at hc ⊢
  have hneed:d.length+max (1+needE (X.cenv f) x) (2+needE (X.cenv f) y)≤256:=hd
  have hpx:=need_pos _ _ he1
  have hpy:=need_pos _ _ he3
  obtain ⟨w0,hc⟩:=hc.cons
  obtain ⟨hc,hc4⟩:=hc.app
  obtain ⟨hc,hc3⟩:=hc.app
  obtain ⟨hc1,hc2⟩:=hc.app
  obtain ⟨w1,hc2⟩:=hc2.cons
  obtain ⟨w2,_⟩:=hc2.cons
  obtain ⟨w3,hc4⟩:=hc4.cons
  obtain ⟨w4,_⟩:=hc4.cons
  obtain ⟨m1,t1,v1,e1⟩:=v.dig (n:=0) w0 zDd rfl (by omega)
  refine PostG.pre t1 (c := -20+60) (d:=0+60) (c1:=30) (d1:=50) ?_ (by omega) (by omega)
  refine PostG.bind (c2:=20) (d2:=20) (hE f hf x (i+1) s1 m1 (0::d) c hnx he1 hc1 v1 (by rw[zLc];omega) (by omega)) (by omega) (by omega) (by omega) fun a s' m' va=>?_
  obtain ⟨m2,t2,v2,_⟩:=va.op (x:=b2n (decide (0<a))) w1 (by unfold isOp;simp) (by
   show some (if 0<a then 1 else 0)=_
   rw[b2n_less]) (by omega)
  obtain ⟨m3,t3,v3,_⟩:=v2.dig (n:=0) w2 zDd rfl (by simp only[zLc];omega)
  refine PostG.pre (t2.trans t3) (c1:=10) (d1:=10) ?_ (by omega) (by omega)
  refine PostG.bind (c2:=5) (d2:=5) (hE f hf y _ s' m3 (0::b2n (decide (0<a))::d) c hny he3 (by
   rw[zLa,←Nat.add_assoc] at hc3
   exact hc3) v3 (by rw[zLc,zLc];omega) (by omega)) (by omega) (by omega) (by omega) fun b s2 m4 vb=>?_
  have w3':X.C.W[i+1+(exW (X.cc f) x).length+1+1+(exW (X.cc f) y).length]? = some [60]:=by
   rw[←w3];congr 1;simp only[zLa,zLc,zLn];omega
  have w4':X.C.W[i+1+(exW (X.cc f) x).length+1+1+(exW (X.cc f) y).length+1]? = some [42]:=by
   rw[←w4];congr 1;simp only[zLa,zLc,zLn];omega
  obtain ⟨m5,t5,v5,_⟩:=vb.op (x:=b2n (decide (0<b))) w3' (by unfold isOp;simp) (by
   show some (if 0<b then 1 else 0)=_
   rw[b2n_less]) (by simp only[zLc];omega)
  obtain ⟨m6,t6,v6,_⟩:=v5.op (x:=b2n (decide (a≠0∧b≠0))) w4' (by unfold isOp;simp) (by
   show some (b2n (decide (0<a)) * b2n (decide (0<b)) % 4294967296)=_
   congr 1
   unfold b2n
   by_cases ha:0<a <;> by_cases hb:0<b <;> simp[ha,hb,Nat.pos_iff_ne_zero.1,show a=0 ↔ ¬ 0<a by omega,show b=0 ↔ ¬ 0<b by omega]) (by omega)
  refine PostG.pre (t5.trans t6) (PostG.ok (c:=0) (d:=0) (v6.cast ?_) (Int.le_refl 0)) (by omega) (by omega)
  simp only[zLc,zLa,zLn]
  omega
 by_cases b3:op=[124,124]
 ·subst b3
  have hw:opW (X.cc f) [124,124] num name [exW (X.cc f) x,exW (X.cc f) y]=[48]::[48]::(exW (X.cc f) x++[[60],[48]]++exW (X.cc f) y++[[60],[43],[60]]):=rfl
  rw[hw] at hc ⊢
  have hneed:d.length+max (2+needE (X.cenv f) x) (3+needE (X.cenv f) y)≤256:=hd
  have hpx:=need_pos _ _ he1
  have hpy:=need_pos _ _ he3
  obtain ⟨w0,hc⟩:=hc.cons
  obtain ⟨w00,hc⟩:=hc.cons
  obtain ⟨hc,hc4⟩:=hc.app
  obtain ⟨hc,hc3⟩:=hc.app
  obtain ⟨hc1,hc2⟩:=hc.app
  obtain ⟨w1,hc2⟩:=hc2.cons
  obtain ⟨w2,_⟩:=hc2.cons
  obtain ⟨w3,hc4⟩:=hc4.cons
  obtain ⟨w4,hc4⟩:=hc4.cons
  obtain ⟨w5,_⟩:=hc4.cons
  obtain ⟨m0,t0,v0,e0⟩:=v.dig (n:=0) w0 zDd rfl (by omega)
  obtain ⟨m1,t1,v1,e1⟩:=v0.dig (n:=0) w00 zDd rfl (by simp only[zLc];omega)
  refine PostG.pre (t0.trans t1) (c := -20+60) (d:=0+60) (c1:=30) (d1:=50) ?_ (by omega) (by omega)
  refine PostG.bind (c2:=20) (d2:=20) (hE f hf x (i+1+1) s1 m1 (0::0::d) c hnx he1 hc1 v1 (by rw[zLc,zLc];omega) (by omega)) (by omega) (by omega) (by omega) fun a s' m' va=>?_
  obtain ⟨m2,t2,v2,_⟩:=va.op (x:=b2n (decide (0<a))) w1 (by unfold isOp;simp) (by
   show some (if 0<a then 1 else 0)=_
   rw[b2n_less]) (by simp only[zLc];omega)
  obtain ⟨m3,t3,v3,_⟩:=v2.dig (n:=0) w2 zDd rfl (by simp only[zLc];omega)
  refine PostG.pre (t2.trans t3) (c1:=10) (d1:=10) ?_ (by omega) (by omega)
  refine PostG.bind (c2:=6) (d2:=6) (hE f hf y _ s' m3 (0::b2n (decide (0<a))::0::d) c hny he3 (by
   rw[zLa,←Nat.add_assoc] at hc3
   exact hc3) v3 (by rw[zLc,zLc,zLc];omega) (by omega)) (by omega) (by omega) (by omega) fun b s2 m4 vb=>?_
  have w3':X.C.W[i+1+1+(exW (X.cc f) x).length+1+1+(exW (X.cc f) y).length]? = some [60]:=by
   rw[←w3];congr 1;simp only[zLa,zLc,zLn];omega
  have w4':X.C.W[i+1+1+(exW (X.cc f) x).length+1+1+(exW (X.cc f) y).length+1]? = some [43]:=by
   rw[←w4];congr 1;simp only[zLa,zLc,zLn];omega
  have w5':X.C.W[i+1+1+(exW (X.cc f) x).length+1+1+(exW (X.cc f) y).length+1+1]? = some [60]:=by
   rw[←w5];congr 1;simp only[zLa,zLc,zLn];omega
  obtain ⟨m5,t5,v5,_⟩:=vb.op (x:=b2n (decide (0<b))) w3' (by unfold isOp;simp) (by
   show some (if 0<b then 1 else 0)=_
   rw[b2n_less]) (by simp only[zLc];omega)
  obtain ⟨m6,t6,v6,_⟩:=v5.op (x:=b2n (decide (0<a))+b2n (decide (0<b))) w4' (by unfold isOp;simp) (by
   show some ((b2n (decide (0<a))+b2n (decide (0<b))) % 4294967296)=_
   have h1:=b2n_le (decide (0<a))
   have h2:=b2n_le (decide (0<b))
   rw[Nat.mod_eq_of_lt (by omega)]) (by simp only[zLc];omega)
  obtain ⟨m7,t7,v7,_⟩:=v6.op (x:=b2n (decide (a≠0∨b≠0))) w5' (by unfold isOp;simp) (by
   show some (if 0<b2n (decide (0<a))+b2n (decide (0<b)) then 1 else 0)=_
   congr 1
   unfold b2n
   by_cases ha:0<a <;> by_cases hb:0<b <;> simp[ha,hb,show a=0 ↔ ¬ 0<a by omega,show b=0 ↔ ¬ 0<b by omega]) (by omega)
  refine PostG.pre (t5.trans (t6.trans t7)) (PostG.ok (c:=0) (d:=0) (v7.cast ?_) (Int.le_refl 0)) (by omega) (by omega)
  simp only[zLc,zLa,zLn]
  omega
 ·obtain ⟨_,o1,o2,o3,o4,o5,o6⟩:=ops_rest hop2.1
  have hw:opW (X.cc f) op num name [exW (X.cc f) x,exW (X.cc f) y]=exW (X.cc f) x++exW (X.cc f) y++(if op=[62] then greaterW (X.cc f) else if op=[60,61] then greaterW (X.cc f)++[[49],[94]] else if op=[62,61] then [[60],[49],[94]] else if op=[61,61] then [[94],[49],[60]] else [op]):=by
   unfold opW
   rw[if_neg o1,if_neg o2,if_neg o3,if_neg o6,if_neg o4,if_neg o5,if_neg b1,if_neg b2,if_neg b3]
   try rfl
  rw[hw] at hc ⊢
  obtain ⟨hc,hc3⟩:=hc.app
  obtain ⟨hc1,hc2⟩:=hc.app
  have hneed:d.length+(if op=[62]∨op=[60,61] then max (max 3 (needE (X.cenv f) x)) (1+needE (X.cenv f) y) else max (max 2 (needE (X.cenv f) x)) (1+needE (X.cenv f) y))≤256:=by
   have:opN (X.cenv f) op name [needE (X.cenv f) x,needE (X.cenv f) y]=(if op=[62]∨op=[60,61] then max (max 3 (needE (X.cenv f) x)) (1+needE (X.cenv f) y) else max (max 2 (needE (X.cenv f) x)) (1+needE (X.cenv f) y)):=by
    unfold opN
    rw[if_neg (by rintro (h|h);exact o1 h;exact o2 h),if_neg (by rintro (h|h);exact o3 h;exact o4 h),if_neg o6,if_neg o5,if_neg b1,if_neg b2,if_neg b3]
    try rfl
   rw[this] at hd
   exact hd
  have hdx:d.length+needE (X.cenv f) x≤256∧d.length+1+needE (X.cenv f) y≤256∧(d.length+3≤256∨(d.length+2≤256∧op≠[62]∧op≠[60,61])):=by
   split at hneed
   ·exact ⟨by omega,by omega,.inl (by omega)⟩
   ·rename_i h
    exact ⟨by omega,by omega,.inr ⟨by omega,fun e=>h (.inl e),fun e=>h (.inr e)⟩⟩
  refine PostG.bind (c2:=26) (d2:=26) (hE f hf x i s1 m d c hnx he1 hc1 v hdx.1 (by omega)) (by omega) (by omega) (by omega) fun a s' m' va=>?_
  refine PostG.bind (c2:=36) (d2:=0) (hE f hf y _ s' m' (a::d) c hny he3 hc2 va (by rw[zLc];omega) (by omega)) (by omega) (by omega) (by omega) fun b s2 m2 vb=>?_
  rw[zLa,←Nat.add_assoc] at hc3
  refine PostG.post (a:=0) (bin_ok hX hf hbin b1 b2 b3 vb hdx.2.2 rfl hc3) (by omega) (Int.le_refl _) fun r s3 m3 h=>⟨m3,.refl _,h.cast ?_⟩
  rw[zLa,zLa]
  omega
end
end Go.Stele
namespace Go.Stele
open Go.Lib
def StQ (X:Trn) (j:Nat) (d:List Nat) (t:Nat) (rest:List Nat):Option Nat→IS→MS→Prop
 |none,s',m'=>X.Vw s' j d (t::rest) m'
 |some v,s',m'=>m'.pc=t∧m'.digit=false∧X.Rel s' m'∧m'.data=v::d∧m'.calls=rest
def StOk (X:Trn) (n:Nat):Prop:=∀ f∈X.P.funcs,∀ st i nl s m d t rest,numS st→errS (X.cenv f) st=0→X.C.Code i (stW (X.cc f) nl st).1→X.Vw s i d (t::rest) m→d.length+needS (X.cenv f) st≤256→rest.length+1+depS (X.cenv f) st≤64 →
 PostG (StQ X (i+(stW (X.cc f) nl st).1.length) d t rest) 0 0 m s (stI X.P n f st s)
section
variable {X:Trn} {n:Nat}
theorem blk_ok (hS:StOk X n) {f:FnD} (hf:f∈X.P.funcs):∀ (l:List Sm) i nl s m d t rest,numSs l→errSs (X.cenv f) l=0→X.C.Code i (stWs (X.cc f) nl l).1→X.Vw s i d (t::rest) m→d.length+needSs (X.cenv f) l≤256→rest.length+1+depSs (X.cenv f) l≤64 →
  PostG (StQ X (i+(stWs (X.cc f) nl l).1.length) d t rest) 0 0 m s (blkR (stI X.P n f) l s)
 |[],i,nl,s,m,d,t,rest,_,_,_,v,_,_=>PostG.ok (by rw[stWs];exact v) (Int.le_refl 0)
 |a::l,i,nl,s,m,d,t,rest,hn,he,hc,v,hd,hdep=>by
  rw[errSs] at he
  obtain ⟨he1,he2⟩:=orE_zero.1 he
  rw[needSs] at hd
  rw[depSs] at hdep
  rw[stWs] at hc ⊢
  obtain ⟨hc1,hc2⟩:=hc.app
  unfold blkR
  refine PostG.bind (c2:=0) (d2:=0) (hS f hf a i nl s m d t rest hn.1 he1 hc1 v (by omega) (by omega)) (by omega) (by omega) (by omega) fun r s' m' h=>?_
  cases r with
  |some w=>exact PostG.ok h (Int.le_refl 0)
  |none=>
   have:=blk_ok hS hf l _ _ s' m' d t rest hn.2 he2 hc2 h (by omega) (by omega)
   rw[zLa,←Nat.add_assoc]
   exact this
/-! ### Jumps -/
section
variable {s:IS} {i j:Nat} {d c:List Nat} {m:MS}
theorem Trn.Vw.branch (hX:TrnOk X) {a k:Nat} (v:X.Vw s i (a::d) c m) (hc:X.C.Code i [38::labW k,[63]]) (hj:X.C.W[j]? = some (labW k++[58])) (hd:d.length+2≤256):∃ m',Stx 8 m m'∧X.Vw s (if a=0 then j+1 else i+2) d c m':=by
 obtain ⟨w0,hc⟩:=hc.cons
 obtain ⟨w1,_⟩:=hc.cons
 have h1:=hX.ldef j k hj
 obtain ⟨m1,t1,v1,_⟩:=v.lab hX w0 (hX.lref _ _ w0) hj h1 (by simp only[zLc];omega)
 have t2:=PW.jump v1.rel.ok v1.here w1 v1.data
 by_cases ha:a=0
 ·subst ha
  rw[if_pos rfl] at t2 ⊢
  exact ⟨_,(t1.trans t2).mono (by omega),⟨PW.atDef (C:=X.C) (i:=j) ⟨rfl,fun h=>by cases h⟩ hj h1,v1.rel.same rfl rfl rfl rfl rfl rfl rfl,rfl,v1.calls⟩⟩
 ·rw[if_neg ha] at t2 ⊢
  exact ⟨_,(t1.trans t2).mono (by omega),⟨⟨rfl,fun h=>by cases h⟩,v1.rel.same rfl rfl rfl rfl rfl rfl rfl,rfl,v1.calls⟩⟩
theorem Trn.Vw.goto (hX:TrnOk X) {k:Nat} (v:X.Vw s i d c m) (hc:X.C.Code i [[48],38::labW k,[63]]) (hj:X.C.W[j]? = some (labW k++[58])) (hd:d.length+2≤256):∃ m',Stx 10 m m'∧X.Vw s (j+1) d c m':=by
 obtain ⟨w0,hc⟩:=hc.cons
 obtain ⟨m1,t1,v1,_⟩:=v.dig (n:=0) w0 zDd rfl (by omega)
 obtain ⟨m2,t2,v2⟩:=v1.branch hX hc hj hd
 rw[if_pos rfl] at v2
 exact ⟨m2,(t1.trans t2).mono (by omega),v2⟩
theorem Trn.Vw.pass (v:X.Vw s i d c m) {w x:Wd} (hw:X.C.W[i]? = some w) (hd:defW w=some x):X.Vw s (i+1) d c m:=⟨PW.atDef v.here hw hd,v.rel,v.data,v.calls⟩
end
/-! ### Calls -/
theorem setSc_comm (s:IS) {k k':Nm} (h:k≠k') (v v':Nat):setSc (setSc s k v) k' v'=setSc (setSc s k' v') k v:=by
 unfold setSc
 congr 1
 funext x
 by_cases h1:x=k
 ·subst h1
  simp[h]
 ·simp[h1]
theorem setPs_comm (g:FnD):∀ (ps:List Nm) (vs:List Nat) (s:IS) (k:Nm) (v:Nat),k ∉ ps.map (keyI g)→setPs g ps vs (setSc s k v)=setSc (setPs g ps vs s) k v
 |[],vs,s,k,v,_=>by cases vs <;> rfl
 |p::ps,[],s,k,v,_=>rfl
 |p::ps,w::vs,s,k,v,h=>by
  rw[zMc,zMi,not_or] at h
  rw[setPs,setPs,setSc_comm s h.1,setPs_comm g ps vs _ k v h.2]
theorem setPs_snoc (g:FnD):∀ (ps:List Nm) (vs:List Nat) (s:IS) (p:Nm) (v:Nat),ps.length=vs.length→setPs g (ps++[p]) (vs++[v]) s=setSc (setPs g ps vs s) (keyI g p) v
 |[],[],s,p,v,_=>rfl
 |q::ps,w::vs,s,p,v,h=>by
  rw[List.cons_append,List.cons_append,setPs,setPs,setPs_snoc g ps vs _ p v (by simpa using h)]
theorem setPs_left (g:FnD):∀ (ps:List Nm) (vs:List Nat) (s:IS),(setPs g ps vs s).left=s.left
 |[],vs,s=>by cases vs <;> rfl
 |p::ps,[],s=>rfl
 |p::ps,w::vs,s=>by rw[setPs,setPs_left g ps vs];try rfl
theorem PostG.left {A:Type} {Q:A→IS→MS→Prop} {c d:Int} {m:MS} {s s':IS} {r:IR A} (h:PostG Q c d m s r) (hl:s.left=s'.left):PostG Q c d m s' r:=by
 cases r with
 |ok v s2=>
  unfold PostG at h ⊢
  rw[←hl]
  exact h
 |stop e s2=>
  unfold PostG at h ⊢
  rw[←hl]
  exact h
theorem pops_ok (hX:TrnOk X) {g:FnD}:∀ (k:Nat) (ps:List Nm) (vs:List Nat) (i:Nat) (s:IS) (d c:List Nat) (m:MS),ps.length=k→ps.length=vs.length→(∀ p∈ps,keyI g p∈X.keys∧(X.cc g).sc p=decDigits (X.sa (keyI g p)))→(ps.map (keyI g)).Nodup→X.C.Code i (ps.reverse.flatMap fun p=>[(X.cc g).sc p,[33]])→X.Vw s i (vs.reverse++d) c m→d.length+ps.length+1≤256 →
  ∃ m',Stx (8 * ps.length) m m'∧X.Vw (setPs g ps vs s) (i+(ps.reverse.flatMap fun p=>[(X.cc g).sc p,[33]]).length) d c m'
 |0,ps,vs,i,s,d,c,m,hk,hl,_,_,_,v,_=>by
  obtain rfl:=List.eq_nil_of_length_eq_zero hk
  obtain rfl:vs=[]:=List.eq_nil_of_length_eq_zero (by rw[←hl];try rfl)
  exact ⟨m,.refl _,v⟩
 |k+1,ps,vs,i,s,d,c,m,hk,hl,hp,hnd,hc,v,hd=>by
  have hne:ps≠[]:=fun h=>by rw[h] at hk;cases hk
  have hnv:vs≠[]:=fun h=>by rw[h] at hl;rw[hk] at hl;cases hl
  have e1:=(List.dropLast_concat_getLast hne).symm
  have e2:=(List.dropLast_concat_getLast hnv).symm
  generalize ps.dropLast=ps' at e1
  generalize ps.getLast hne=p at e1
  generalize vs.dropLast=vs' at e2
  generalize vs.getLast hnv=w at e2
  subst e1 e2
  rw[zLa,List.length_singleton] at hk hd
  rw[zLa,zLa,List.length_singleton,List.length_singleton] at hl
  rw[List.reverse_append] at hc v ⊢
  simp only[List.reverse_cons,List.reverse_nil,List.nil_append,List.cons_append,List.flatMap_cons] at hc v ⊢
  rw[zMa,List.map_singleton] at hnd
  obtain ⟨n1,n2,n3⟩:=List.nodup_append.1 hnd
  obtain ⟨q1,q2⟩:=hp p (by simp)
  rw[q2] at hc
  obtain ⟨w0,hc⟩:=hc.cons
  obtain ⟨w1,hc⟩:=hc.cons
  have hlow:=hX.low _ (.inl ⟨_,q1,rfl⟩)
  obtain ⟨m1,t1,v1,_⟩:=v.addr w0 (by omega) (by simp only[zLc,zLa,List.length_reverse];omega)
  obtain ⟨m2,t2,v2⟩:=v1.scal hX q1 w1
  obtain ⟨m3,t3,v3⟩:=pops_ok hX k ps' vs' (i+1+1) (setSc s (keyI g p) w) d c m2 (by omega) (by omega) (fun x hx=>hp x (by simp[hx])) n1 hc v2 (by omega)
  refine ⟨m3,(t1.trans (t2.trans t3)).mono (by rw[zLa,List.length_singleton];omega),?_⟩
  rw[setPs_snoc g ps' vs' s p w (by omega),←setPs_comm g ps' vs' s (keyI g p) w (fun h=>n3 _ h _ (List.mem_singleton.2 rfl) rfl)]
  exact v3.cast (by simp only[zLc];omega)
theorem call_ok (hX:TrnOk X) (hS:StOk X n):CallOk X n:=by
 intro f hf name vs i s m d c k1 k2 he hc v hneed
 obtain ⟨g,hg⟩:∃ g,(X.cenv f).fn name=some g:=by
  cases hq:(X.cenv f).fn name with
  |some g=>exact ⟨g,rfl⟩
  |none=>
   unfold callE at he
   rw[if_neg k1,if_neg k2,hq] at he
   simp only at he
   split at he <;> cases he
 have hlen:vs.length=g.params:=by
  unfold callE at he
  rw[if_neg k1,if_neg k2,hg] at he
  simp only at he
  split at he
  ·assumption
  ·cases he
 obtain ⟨n1,n2⟩:=hneed g hg
 obtain ⟨a1,a2,a3,a4,a5⟩:=hX.fn f hf name g hg
 have hci:callI X.P (stI X.P n) name vs s=(blkR (stI X.P n (fnI X.P name)) (fnI X.P name).body (setPs (fnI X.P name) (fnI X.P name).params vs s)).bind fun r s=>.ok (r.getD 0) s:=by
  unfold callI
  rw[if_neg k1,if_neg k2]
 rw[hci]
 generalize hk:fnI X.P name=k at *
 obtain ⟨nl,hcode⟩:=hX.code k a1
 obtain ⟨b1,b2⟩:=hX.body k a1
 obtain ⟨p1,p2⟩:=hX.par k a1
 have hfd:=hX.fdef k a1
 have hfr:=hX.fref k a1
 rw[a2] at hfd hfr
 unfold fnW at hcode
 simp only at hcode
 rw[a2] at hcode
 obtain ⟨hcode,hc4⟩:=hcode.app
 obtain ⟨hcode,hc3⟩:=hcode.app
 obtain ⟨hc1,hc2⟩:=hcode.app
 obtain ⟨w0,hc⟩:=hc.cons
 obtain ⟨w1,_⟩:=hc.cons
 obtain ⟨wd,_⟩:=hc1.cons
 have hvl:(vs.reverse++d).length=vs.length+d.length:=by rw[zLa,List.length_reverse]
 obtain ⟨m1,t1,v1,_⟩:=v.lab hX w0 hfr wd hfd (by omega)
 have t2:=PW.call v1.rel.ok v1.here w1 v1.data (by rw[v1.calls];omega)
 have v2:X.Vw s (X.fst k) (vs.reverse++d) (X.C.plc (i+1+1)::c) { X.C.put m1 (i+1+1) (vs.reverse++d) with pc:=X.C.plc (X.fst k),calls:=X.C.plc (i+1+1)::m1.calls }:=
  ⟨⟨rfl,fun h=>by cases h⟩,v1.rel.same rfl rfl rfl rfl rfl rfl rfl,rfl,by simp only;rw[v1.calls]⟩
 have v3:=v2.pass wd hfd
 obtain ⟨m3,t3,v4⟩:=pops_ok hX k.params.length k.params vs _ s d _ _ rfl (by omega) p1 p2 hc2 v3 (by omega)
 refine PostG.pre (t1.trans (t2.trans t3)) (c1:=6) (d1:=6) ?_ (by omega) (by omega)
 have hb:=blk_ok hS a1 k.body _ nl _ m3 d (X.C.plc (i+1+1)) c b2 b1 hc3 (v4.cast (by simp only[zLa,zLc,zLn];omega)) (by omega) (by omega)
 generalize hidx:X.fst k+([[102,95]++name++[58]]++k.params.reverse.flatMap fun p=>[(X.cc k).sc p,[33]]).length=i3 at hb
 have hfin:∀ s' m',X.Vw s' (i3+(stWs (X.cc k) nl k.body).1.length) d (X.C.plc (i+1+1)::c) m'→∃ m2,Stx 3 m' m2∧X.Vw s' (i+2) (0::d) c m2:=by
  intro s' m' v5
  obtain ⟨w2,hc4⟩:=hc4.cons
  obtain ⟨w3,_⟩:=hc4.cons
  rw[zLa,←Nat.add_assoc,hidx] at w2 w3
  obtain ⟨m6,t6,v6,_⟩:=v5.dig (n:=0) w2 zDd rfl (by omega)
  have t7:=PW.back v6.rel.ok v6.here w3 v6.calls
  exact ⟨_,(t6.trans t7).mono zDd,⟨⟨rfl,fun h=>by cases h⟩,v6.rel.same rfl rfl rfl rfl rfl rfl rfl,v6.data,rfl⟩⟩
 refine PostG.bind (c1:=0) (d1:=0) (c2:=3) (d2:=3) (hb.left (setPs_left _ _ _ _)) (by omega) (by omega) (by omega) fun r s' m' h=>?_
 cases r with
 |none=>
  obtain ⟨m2,t5,v5⟩:=hfin s' m' h
  exact PostG.pre t5 (PostG.ok (c:=0) (d:=0) v5 (Int.le_refl 0)) (by omega) (by omega)
 |some w=>
  obtain ⟨g1,g2,g3,g4,g5⟩:=h
  exact PostG.ok ⟨⟨g1,fun h=>by rw[g2] at h;cases h⟩,g3,g4,g5⟩ (by omega)
end
end Go.Stele
namespace Go.Stele
open Go.Lib
section
variable {X:Trn} {n:Nat}
theorem Trn.Vw.elem (hX:TrnOk X) {s:IS} {i:Nat} {d c:List Nat} {m:MS} {A:Ar} (hA:A∈X.P.arrays) {j x:Nat} (v:X.Vw s i ((X.aa A.name+j)::x::d) c m) (hj:j<(s.ar A.name).length) (hw:X.C.W[i]? = some [33]):∃ m',Stx 1 m m'∧X.Vw { s with ar:=fun y=>if y=A.name then (s.ar A.name).set j x else s.ar y } (i+1) d c m':=
 ⟨_,PW.store v.rel.ok v.here hw v.data (hX.low _ (.inr (.inr ⟨A,hA,j,by have:=(v.rel.ar A hA).1;omega,rfl⟩))),⟨⟨rfl,fun h=>by cases h⟩,v.rel.elem hX hA hj rfl rfl rfl,rfl,v.calls⟩⟩
theorem whl_ok (hX:TrnOk X) (hE:EvOk X n) (hS:StOk X n) {f:FnD} (hf:f∈X.P.funcs) {x:Ex} {thn:List Sm} {i0 k0 k1 nb:Nat} {d:List Nat} {t:Nat} {rest:List Nat} (hnx:numE x) (hex:errE (X.cenv f) x=0) (hnt:numSs thn) (het:errSs (X.cenv f) thn=0)
  (hw0:X.C.W[i0]? = some (labW k0++[58])) (hcx:X.C.Code (i0+1) (exW (X.cc f) x)) (hcb:X.C.Code (i0+1+(exW (X.cc f) x).length) [38::labW k1,[63]]) (hct:X.C.Code (i0+1+(exW (X.cc f) x).length+2) (stWs (X.cc f) nb thn).1)
  (hcg:X.C.Code (i0+1+(exW (X.cc f) x).length+2+(stWs (X.cc f) nb thn).1.length) [[48],38::labW k0,[63]]) (hwe:X.C.W[i0+1+(exW (X.cc f) x).length+2+(stWs (X.cc f) nb thn).1.length+3]? = some (labW k1++[58]))
  (hdx:d.length+needE (X.cenv f) x≤256) (hdt:d.length+needSs (X.cenv f) thn≤256) (hd2:d.length+2≤256) (hpx:rest.length+1+depE (X.cenv f) x≤64) (hpt:rest.length+1+depSs (X.cenv f) thn≤64) :
  ∀ (k a:Nat) (s:IS) (m:MS),X.Vw s (i0+1+(exW (X.cc f) x).length) (a::d) (t::rest) m→PostG (StQ X (i0+1+(exW (X.cc f) x).length+2+(stWs (X.cc f) nb thn).1.length+3+1) d t rest) 8 18 m s (whlR (evI X.P n f x) (blkR (stI X.P n f) thn) k a s)
 |0,a,s,m,v=>by
  unfold whlR
  obtain ⟨m1,t1,v1⟩:=v.branch hX hcb hwe hd2
  by_cases ha:a=0
  ·rw[if_pos ha] at v1 ⊢
   exact PostG.pre t1 (PostG.ok (c:=0) (d:=0) v1 (Int.le_refl 0)) (by omega) (by omega)
  ·rw[if_neg ha]
   exact PostG.limit v.rel.out
 |k+1,a,s,m,v=>by
  unfold whlR
  obtain ⟨m1,t1,v1⟩:=v.branch hX hcb hwe hd2
  by_cases ha:a=0
  ·rw[if_pos ha] at v1 ⊢
   exact PostG.pre t1 (PostG.ok (c:=0) (d:=0) v1 (Int.le_refl 0)) (by omega) (by omega)
  ·rw[if_neg ha] at v1 ⊢
   refine PostG.pre t1 (c1:=0) (d1:=10) ?_ (by omega) (by omega)
   refine PostG.bind (c1:=0) (d1:=0) (c2:=0) (d2:=10) (blk_ok hS hf thn _ nb s m1 d t rest hnt het hct v1 (by omega) (by omega)) (by omega) (by omega) (by omega) fun r s' m' h=>?_
   cases r with
   |some w=>exact PostG.ok h (by omega)
   |none=>
    obtain ⟨m2,t2,v2⟩:=Trn.Vw.goto hX h hcg hw0 hd2
    refine PostG.pre t2 (c1 := -10) (d1:=0) ?_ (by omega) (by omega)
    refine PostG.bind (c1 := -20) (d1:=0) (c2:=8) (d2:=18) (hE f hf x _ s' m2 d (t::rest) hnx hex hcx v2 (by omega) (by rw[zLc];omega)) (by omega) (by omega) (by omega) fun a' s2 m3 v3=>?_
    exact whl_ok hX hE hS hf hnx hex hnt het hw0 hcx hcb hct hcg hwe hdx hdt hd2 hpx hpt k a' s2 m3 v3
theorem stW_eq (c:CC) (n:Nat) (kind:Int) (name:Nm) (index value:List Ex) (thn els:List Sm):stW c n (.mk kind name index value thn els) =
  if kind=1 then (exW c (value.headD default)++[c.sc name,[33]],n)
  else if kind=2 then (exW c (value.headD default)++c.ar name::(exW c (index.headD default)++[[43],[33]]),n)
  else if kind=3 then
   (match els with
   |[]=>(exW c (value.headD default)++[38::labW n,[63]]++(stWs c (n+1) thn).1++[labW n++[58]],(stWs c (n+1) thn).2)
   |_::_=>(exW c (value.headD default)++[38::labW n,[63]]++(stWs c (n+2) thn).1++[[48],38::labW (n+1),[63],labW n++[58]]++(stWs c (stWs c (n+2) thn).2 els).1++[labW (n+1)++[58]],(stWs c (stWs c (n+2) thn).2 els).2))
  else if kind=4 then ([labW n++[58]]++exW c (value.headD default)++[38::labW (n+1),[63]]++(stWs c (n+2) thn).1++[[48],38::labW n,[63],labW (n+1)++[58]],(stWs c (n+2) thn).2)
  else if kind=5 then (exW c (value.headD default)++[[59]],n)
  else if kind=6 then (exW c (value.headD default)++[c.t0,[33]],n)
  else if kind=7 then ([[36]],n)
  else ([],n):=by
 rw[stW.eq_def];try rfl
theorem one_of {A:Type} {l:List A} (h:l.length=1):∃ x,l=[x]:=List.length_eq_one_iff.1 h
theorem st_step (hX:TrnOk X) (hE:EvOk X n) (hS:StOk X n):StOk X (n+1):=by
 intro f hf st i nl s m d t rest hn he hc v hd hdep
 obtain ⟨kind,name,index,value,thn,els⟩:=st
 rw[errS] at he
 split at he
 ·cases he
 rename_i hform
 obtain ⟨ev,he⟩:=orE_zero.1 he
 obtain ⟨ei,he⟩:=orE_zero.1 he
 obtain ⟨eu,he⟩:=orE_zero.1 he
 obtain ⟨et,ee⟩:=orE_zero.1 he
 obtain ⟨ni,nv,nt,ne⟩:=hn
 rw[stI]
 refine PostG.tick v.rel.out fun hleft=>?_
 have v:=v.steps (s.left-1)
 generalize { s with left:=s.left-1 }=s1 at v ⊢
 clear hleft
 rw[stW_eq] at hc ⊢
 rw[needS] at hd
 rw[depS] at hdep
 unfold formS at hform
 simp only at hform
 by_cases k7:kind=7
 ·subst k7
  rw[if_pos rfl]
  have hc:X.C.Code i [[36]]:=hc
  obtain ⟨w0,_⟩:=hc.cons
  exact PostG.trap (by omega) (.inl rfl) (by rw[PW.halt v.rel.ok v.here w0,v.rel.out];try rfl)
 rw[if_neg k7]
 rw[if_neg k7] at hd
 have hval:value.length=1:=by
  by_cases q1:kind=1
  ·rw[if_pos q1] at hform;simp only[Bool.not_eq_false,zDe] at hform;exact hform.2.2.1
  rw[if_neg q1] at hform
  by_cases q2:kind=2
  ·rw[if_pos q2] at hform;simp only[Bool.not_eq_false,zDe] at hform;exact hform.2.2.1
  rw[if_neg q2] at hform
  by_cases q3:kind=3
  ·rw[if_pos q3] at hform;simp only[Bool.not_eq_false,zDe] at hform;exact hform.2.2
  rw[if_neg q3] at hform
  by_cases q4:kind=4
  ·rw[if_pos q4] at hform;simp only[Bool.not_eq_false,zDe] at hform;exact hform.2.2.1
  rw[if_neg q4] at hform
  by_cases q5:kind=5
  ·rw[if_pos q5] at hform;simp only[Bool.not_eq_false,zDe] at hform;exact hform.2.2.1
  rw[if_neg q5] at hform
  by_cases q6:kind=6
  ·rw[if_pos q6] at hform;simp only[Bool.not_eq_false,zDe] at hform;exact hform.2.2.1
  rw[if_neg q6,if_neg k7] at hform
  exact absurd rfl hform
 obtain ⟨x,rfl⟩:=one_of hval
 have hx0:([x]:List Ex).headD default=x:=rfl
 simp only[hx0] at hc hd ⊢
 rw[errEs] at ev
 have evx:=(orE_zero.1 ev).1
 have nvx:=nv.1
 have hdx:(t::rest).length+depE (X.cenv f) x≤64:=by
  rw[depEs] at hdep
  rw[zLc]
  omega
 by_cases k1:kind=1
 ·subst k1
  rw[if_pos rfl] at hc ⊢
  rw[if_neg zDd,if_neg zDd] at hd
  simp only at hc ⊢
  obtain ⟨hcx,hc⟩:=hc.app
  obtain ⟨w0,hc⟩:=hc.cons
  obtain ⟨w1,_⟩:=hc.cons
  have eu:scalarE (X.cenv f) name=0:=eu
  obtain ⟨a1,a2⟩:=hX.sc f hf name eu
  rw[a1] at w0
  have hlow:=hX.low _ (.inl ⟨_,a2,rfl⟩)
  refine PostG.bind (c1 := -20) (d1:=0) (c2:=8) (d2:=8) (hE f hf x i s1 m d (t::rest) nvx evx hcx v (by omega) hdx) (by omega) (by omega) (by omega) fun a s' m' va=>?_
  rw[if_pos trivial]
  obtain ⟨m1,t1,v1,_⟩:=va.addr w0 (by omega) (by simp only[zLc];omega)
  obtain ⟨m2,t2,v2⟩:=v1.scal hX a2 w1
  refine (PostG.pre (s:=setSc s' (keyI f name) a) (t1.trans t2) (PostG.ok (c:=0) (d:=0) (v:=none) (v2.cast ?_) (Int.le_refl 0)) (by omega) (by omega)).left rfl
  simp only[zLa,zLc,zLn]
  omega
 by_cases k2:kind=2
 ·subst k2
  rw[if_neg zDd,if_pos rfl] at hc ⊢
  rw[if_pos rfl] at hd
  rw[if_neg zDd,if_pos rfl] at hform
  simp only[Bool.not_eq_false,zDe] at hform
  obtain ⟨y,rfl⟩:=one_of hform.2.1
  have hy0:([y]:List Ex).headD default=y:=rfl
  simp only[hy0] at hc hd ⊢
  rw[errEs] at ei
  have eiy:=(orE_zero.1 ei).1
  have niy:=ni.1
  have hdy:(t::rest).length+depE (X.cenv f) y≤64:=by
   rw[depEs,depEs,depEs,depEs] at hdep
   rw[zLc]
   omega
  obtain ⟨hcx,hc⟩:=hc.app
  obtain ⟨w0,hc⟩:=hc.cons
  obtain ⟨hcy,hc⟩:=hc.app
  obtain ⟨w1,hc⟩:=hc.cons
  obtain ⟨w2,_⟩:=hc.cons
  have eu:arrayE (X.cenv f) name=0:=eu
  obtain ⟨a1,A,hA,rfl⟩:=hX.ar f hf name eu
  rw[a1] at w0
  have haa:X.aa A.name<1000000:=hX.arLow A hA
  refine PostG.bind (c1 := -20) (d1:=0) (c2:=20) (d2:=20) (hE f hf x i s1 m d (t::rest) nvx evx hcx v (by omega) hdx) (by omega) (by omega) (by omega) fun a s' m' va=>?_
  rw[if_neg zDd,if_pos trivial]
  obtain ⟨m1,t1,v1,_⟩:=va.addr w0 haa (by simp only[zLc];omega)
  refine PostG.pre t1 (c1:=10) (d1:=10) ?_ (by omega) (by omega)
  refine PostG.bind (c1 := -20) (d1:=0) (c2:=5) (d2:=5) (hE f hf y _ s' m1 (X.aa A.name::a::d) (t::rest) niy eiy hcy v1 (by rw[zLc,zLc];omega) hdy) (by omega) (by omega) (by omega) fun b s2 m2 vb=>?_
  cases hg:(s2.ar A.name)[b]? with
  |none=>exact PostG.other zDd
  |some r=>
   obtain ⟨hlt,hr⟩:=List.getElem?_eq_some_iff.1 hg
   have hsz:=(vb.rel.ar A hA).1
   have hb:=hX.low _ (.inr (.inr ⟨A,hA,b,by omega,rfl⟩))
   obtain ⟨m3,t3,v3,_⟩:=vb.op (x:=X.aa A.name+b) w1 (by unfold isOp;simp) (by
    show some ((X.aa A.name+b) % 4294967296)=_
    rw[Nat.mod_eq_of_lt (by omega)]) (by simp only[zLc];omega)
   obtain ⟨m4,t4,v4⟩:=v3.elem hX hA hlt w2
   refine (PostG.pre (s:={ s2 with ar:=fun y=>if y=A.name then (s2.ar A.name).set b a else s2.ar y }) (t3.trans t4) (PostG.ok (c:=0) (d:=0) (v:=none) (v4.cast ?_) (Int.le_refl 0)) (by omega) (by omega)).left rfl
   simp only[zLa,zLc,zLn]
   omega
 rw[if_neg k2] at hd
 by_cases k5:kind=5
 ·subst k5
  rw[if_neg zDd,if_neg zDd,if_neg zDd,if_neg zDd,if_pos rfl] at hc ⊢
  rw[if_pos rfl] at hd
  simp only at hc ⊢
  obtain ⟨hcx,hc⟩:=hc.app
  obtain ⟨w0,_⟩:=hc.cons
  refine PostG.bind (c1 := -20) (d1:=0) (c2:=8) (d2:=8) (hE f hf x i s1 m d (t::rest) nvx evx hcx v (by omega) hdx) (by omega) (by omega) (by omega) fun a s' m' va=>?_
  rw[if_neg zDd,if_neg zDd,if_pos trivial]
  have t1:=PW.back va.rel.ok va.here w0 va.calls
  exact PostG.pre t1 (PostG.ok (c:=0) (d:=0) (v:=some a) ⟨rfl,rfl,va.rel.same rfl rfl rfl rfl rfl rfl rfl,va.data,rfl⟩ (Int.le_refl 0)) (by omega) (by omega)
 rw[if_neg k5] at hd
 by_cases k6:kind=6
 ·subst k6
  rw[if_neg zDd,if_neg zDd,if_neg zDd,if_neg zDd,if_neg zDd,if_pos rfl] at hc ⊢
  simp only at hc ⊢
  obtain ⟨hcx,hc⟩:=hc.app
  obtain ⟨w0,hc⟩:=hc.cons
  obtain ⟨w1,_⟩:=hc.cons
  obtain ⟨t0,_,_⟩:=hX.temps f hf
  rw[t0] at w0
  have hS:X.S+2<262144:=hX.low _ (.inr (.inl ⟨by omega,by omega⟩))
  refine PostG.bind (c1 := -20) (d1:=0) (c2:=8) (d2:=8) (hE f hf x i s1 m d (t::rest) nvx evx hcx v (by omega) hdx) (by omega) (by omega) (by omega) fun a s' m' va=>?_
  rw[if_neg zDd,if_neg zDd,if_neg zDd,if_neg zDd,if_neg zDd]
  obtain ⟨m1,t1,v1,_⟩:=va.addr w0 (by omega) (by simp only[zLc];omega)
  obtain ⟨m2,t2,v2,_⟩:=v1.temp hX w1 ⟨by omega,by omega⟩
  refine PostG.pre (t1.trans t2) (PostG.ok (c:=0) (d:=0) (v:=none) (v2.cast ?_) (Int.le_refl 0)) (by omega) (by omega)
  simp only[zLa,zLc,zLn]
  omega
 by_cases k3:kind=3
 ·subst k3
  rw[if_neg zDd,if_neg zDd,if_pos rfl] at hc ⊢
  cases els with
  |nil=>
   simp only at hc ⊢
   obtain ⟨hc,hc4⟩:=hc.app
   obtain ⟨hc,hc3⟩:=hc.app
   obtain ⟨hcx,hc2⟩:=hc.app
   obtain ⟨wl,_⟩:=hc4.cons
   refine PostG.bind (c1 := -20) (d1:=0) (c2:=20) (d2:=20) (hE f hf x i s1 m d (t::rest) nvx evx hcx v (by omega) hdx) (by omega) (by omega) (by omega) fun a s' m' va=>?_
   rw[if_neg zDd,if_neg zDd,if_neg zDd,if_pos trivial]
   have hidx:i+(exW (X.cc f) x++[38::labW nl,[63]]).length=i+(exW (X.cc f) x).length+2:=by rw[zLa];try rfl
   rw[hidx] at hc3
   rw[zLa,←Nat.add_assoc,hidx] at wl
   obtain ⟨m1,t1,v1⟩:=va.branch hX hc2 wl (by omega)
   have hend:i+(exW (X.cc f) x).length+2+(stWs (X.cc f) (nl+1) thn).1.length+1=i+(exW (X.cc f) x++[38::labW nl,[63]]++(stWs (X.cc f) (nl+1) thn).1++[labW nl++[58]]).length:=by
    simp only[zLa,zLc,zLn];omega
   refine PostG.pre t1 (c1:=5) (d1:=5) ?_ (by omega) (by omega)
   by_cases ha:a=0
   ·rw[if_pos ha] at v1
    rw[if_neg (by simp[ha])]
    exact PostG.ok (v1.cast hend) (by omega)
   ·rw[if_neg ha] at v1
    rw[if_pos ha]
    refine PostG.post (a:=0) (blk_ok hS hf thn _ (nl+1) s' m1 d t rest nt et hc3 v1 (by omega) (by omega)) (by omega) (by omega) fun r s2 m2 h=>⟨m2,.refl _,?_⟩
    cases r with
    |some w=>exact h
    |none=>
     have h:X.Vw s2 _ d (t::rest) m2:=h
     exact (h.pass wl (hX.ldef _ _ wl)).cast hend
  |cons e els=>
   simp only at hc ⊢
   obtain ⟨hc,hc6⟩:=hc.app
   obtain ⟨hc,hc5⟩:=hc.app
   obtain ⟨hc,hc4⟩:=hc.app
   obtain ⟨hc,hc3⟩:=hc.app
   obtain ⟨hcx,hc2⟩:=hc.app
   obtain ⟨we,_⟩:=hc6.cons
   have hidx:i+(exW (X.cc f) x++[38::labW nl,[63]]).length=i+(exW (X.cc f) x).length+2:=by rw[zLa];try rfl
   rw[hidx] at hc3
   rw[zLa,←Nat.add_assoc,hidx] at hc4
   generalize hi3:i+(exW (X.cc f) x).length+2=i3 at *
   generalize hB:(stWs (X.cc f) (nl+2) thn).1=tw at *
   generalize hN:(stWs (X.cc f) (nl+2) thn).2=n2 at *
   have hlen5:i+(exW (X.cc f) x++[38::labW nl,[63]]++tw++[[48],38::labW (nl+1),[63],labW nl++[58]]).length=i3+tw.length+3+1:=by
    rw[←hi3]
    simp only[zLa,zLc,zLn];omega
   rw[hlen5] at hc5
   have hlen6:i+(exW (X.cc f) x++[38::labW nl,[63]]++tw++[[48],38::labW (nl+1),[63],labW nl++[58]]++(stWs (X.cc f) n2 (e::els)).1).length=i3+tw.length+3+1+(stWs (X.cc f) n2 (e::els)).1.length:=by
    rw[zLa,←Nat.add_assoc,hlen5]
   rw[hlen6] at we
   have hc4':X.C.Code (i3+tw.length) ([[48],38::labW (nl+1),[63]]++[labW nl++[58]]):=hc4
   obtain ⟨hcg,hcl⟩:=hc4'.app
   obtain ⟨wl,_⟩:=hcl.cons
   have wl:X.C.W[i3+tw.length+3]? = some (labW nl++[58]):=wl
   have hend:i3+tw.length+3+1+(stWs (X.cc f) n2 (e::els)).1.length+1=i+(exW (X.cc f) x++[38::labW nl,[63]]++tw++[[48],38::labW (nl+1),[63],labW nl++[58]]++(stWs (X.cc f) n2 (e::els)).1++[labW (nl+1)++[58]]).length:=by
    have:=hlen6
    simp only[zLa,zLc,zLn] at this ⊢
    omega
   rw[←hend]
   refine PostG.bind (c1 := -20) (d1:=0) (c2:=30) (d2:=30) (hE f hf x i s1 m d (t::rest) nvx evx hcx v (by omega) hdx) (by omega) (by omega) (by omega) fun a s' m' va=>?_
   rw[if_neg zDd,if_neg zDd,if_neg zDd,if_pos trivial]
   obtain ⟨m1,t1,v1⟩:=va.branch hX hc2 wl (by omega)
   refine PostG.pre t1 (c1:=15) (d1:=15) ?_ (by omega) (by omega)
   by_cases ha:a=0
   ·rw[if_pos ha] at v1
    rw[if_neg (by simp[ha])]
    refine PostG.post (a:=0) (blk_ok hS hf (e::els) _ n2 s' m1 d t rest ne ee hc5 v1 (by omega) (by omega)) (by omega) (by omega) fun r s2 m2 h=>⟨m2,.refl _,?_⟩
    cases r with
    |some w=>exact h
    |none=>
     have h:X.Vw s2 _ d (t::rest) m2:=h
     exact h.pass we (hX.ldef _ _ we)
   ·rw[if_neg ha] at v1
    rw[if_pos ha]
    have hb:=blk_ok hS hf thn i3 (nl+2) s' m1 d t rest nt et (by rw[hB];exact hc3) (v1.cast (by omega)) (by omega) (by omega)
    rw[hB] at hb
    refine PostG.post (a:=10) hb (by omega) (by omega) fun r s2 m2 h=>?_
    cases r with
    |some w=>exact ⟨m2,(Stx.refl _).mono (by omega),h⟩
    |none=>
     have h:X.Vw s2 _ d (t::rest) m2:=h
     exact h.goto hX hcg we (by omega)
 by_cases k4:kind=4
 ·subst k4
  rw[if_neg zDd,if_neg zDd,if_neg zDd,if_pos rfl] at hc ⊢
  simp only at hc ⊢
  obtain ⟨hc,hc5⟩:=hc.app
  obtain ⟨hc,hc4⟩:=hc.app
  obtain ⟨hc,hc3⟩:=hc.app
  obtain ⟨hc1,hc2⟩:=hc.app
  obtain ⟨w0,_⟩:=hc1.cons
  have e3:i+([labW nl++[58]]++exW (X.cc f) x).length=i+1+(exW (X.cc f) x).length:=by simp only[zLa,zLc,zLn];omega
  rw[e3] at hc3
  have e4:i+([labW nl++[58]]++exW (X.cc f) x++[38::labW (nl+1),[63]]).length=i+1+(exW (X.cc f) x).length+2:=by simp only[zLa,zLc,zLn];omega
  rw[e4] at hc4
  have e5:i+([labW nl++[58]]++exW (X.cc f) x++[38::labW (nl+1),[63]]++(stWs (X.cc f) (nl+2) thn).1).length=i+1+(exW (X.cc f) x).length+2+(stWs (X.cc f) (nl+2) thn).1.length:=by
   have:=e4
   simp only[zLa,zLc,zLn] at this ⊢
   omega
  rw[e5] at hc5
  have hc5':X.C.Code (i+1+(exW (X.cc f) x).length+2+(stWs (X.cc f) (nl+2) thn).1.length) ([[48],38::labW nl,[63]]++[labW (nl+1)++[58]]):=hc5
  obtain ⟨hcg,hcl⟩:=hc5'.app
  obtain ⟨we,_⟩:=hcl.cons
  have v1:=v.pass w0 (hX.ldef _ _ w0)
  refine PostG.bind (c1 := -20) (d1:=0) (c2:=8) (d2:=18) (hE f hf x (i+1) s1 m d (t::rest) nvx evx hc2 v1 (by omega) hdx) (by omega) (by omega) (by omega) fun a s' m' va=>?_
  rw[if_neg zDd,if_neg zDd,if_neg zDd,if_neg zDd,if_pos trivial]
  rw[zLc] at hdx
  have:=whl_ok hX hE hS hf nvx evx nt et w0 hc2 hc3 hc4 hcg we (by omega) (by omega) (by omega) (by omega) (by omega) n a s' m' va
  have e6:i+1+(exW (X.cc f) x).length+2+(stWs (X.cc f) (nl+2) thn).1.length+3+1=i+([labW nl++[58]]++exW (X.cc f) x++[38::labW (nl+1),[63]]++(stWs (X.cc f) (nl+2) thn).1++[[48],38::labW nl,[63],labW (nl+1)++[58]]).length:=by
   have:=e5
   simp only[zLa,zLc,zLn] at this ⊢
   omega
  rw[←e6]
  exact this
 ·rw[if_neg k1,if_neg k2,if_neg k3,if_neg k4,if_neg k5,if_neg k6,if_neg k7] at hform
  exact absurd rfl hform
theorem all_ok (hX:TrnOk X):∀ n,EvOk X n∧StOk X n
 |0=>⟨fun f hf e i s m d c hn he hc v hd hdep=>PostG.limit v.rel.out,fun f hf st i nl s m d t rest hn he hc v hd hdep=>PostG.limit v.rel.out⟩
 |n+1=>by
  obtain ⟨h1,h2⟩:=all_ok hX n
  exact ⟨ev_step hX h1 (call_ok hX h2),st_step hX h1 h2⟩
end
end Go.Stele
