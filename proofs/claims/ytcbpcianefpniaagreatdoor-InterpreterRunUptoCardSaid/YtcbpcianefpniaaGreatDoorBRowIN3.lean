/- Texts joined: InpOut, InpShort, InpSmall, InpW1, InpW2, InpW3, InpW4, InpW5, GlPair, GlPart, InpW6, InpW7, InpW8, Shelf, Lex2, FmtUint, Lex3, Lex4, Lex5, Lex6, ParP1. -/
import Derived.Deep.WholeRow
import Derived.DeepKeys
import Derived.Shelf.Strings.Builder1
import Derived.Shelf.Strings.Builder2
import Derived.Shelf.Strings.BuilderF
import Derived.Shelf.Strings.BuilderK
import Derived.Shelf.Utf8.RuneCount
import Derived.Shelf.Strings.Builder2Cap
import Derived.Shelf.Strconv.Itoa0
import Derived.Shelf.Strconv.Itoa1
import Derived.Shelf.LaysM
import Derived.Shelf.Strconv.Itoa2
import Derived.Shelf.Strconv.Itoa3
import Derived.Shelf.Strconv.Clone
import Derived.Shelf.Strconv.SyntaxError
import Derived.Shelf.LaysC
import Derived.Shelf.Strconv.ToError
import Derived.Shelf.Strconv.Lower
import Derived.Shelf.Strconv.ParseUint10
import Derived.Shelf.Strconv.ParseUint10Empty
import Derived.Shelf.Strconv.ParseUint10Any
import Derived.Shelf.Strconv.RangeError
import Derived.Shelf.Strconv.ToErrorRange
import Derived.Shelf.Strconv.ParseUintEmpty
import Derived.Shelf.Strconv.ParseUint10b64
import Derived.Shelf.Strconv.ParseUint10b32
import Derived.Shelf.Strconv.ParseUint10b16
import Derived.Shelf.Strconv.ParseUint10b8
import Derived.Shelf.Strconv.ParseUint10At
import Derived.Ground.MpProg
import Derived.Shelf.Pu.ParseUintPublic10
import Derived.Shelf.Pu.ErrVarParseUint
import Derived.Shelf.Strings.Search1
import Derived.Shelf.Strings.Search2
import Derived.Shelf.Strings.Search3
import Derived.Shelf.Strings.Count
import Derived.Shelf.Strings.Shaped
import Derived.Shelf.Strings.Prefix
import Derived.Shelf.Strings.Split
import Derived.Shelf.Strings.Replace
import Derived.Shelf.Strings.SplitShaped
import Derived.Shelf.Unicode.Decode
import Derived.Shelf.Strings.RuneCount
import Derived.Shelf.Unicode.DecodeSlow
import Derived.Shelf.Unicode.DecodeAny
import Derived.Shelf.Strings.BuilderCap
import Derived.Shelf.Slices.Turned
import Derived.Ground.Names2Prog
import Derived.Shelf.Slices.Clone
import Derived.Test.YtcbpcianefpniaaGreatDoorProg
import Derived.Lib.Walk
import Derived.Lib.ItoaMem
import Derived.Lib.AppendIntMem
import Derived.WalkKit
import Derived.BigCall
import Derived.BigGuard
import Derived.Below
import Derived.WalkSmall
import Derived.Test.YtcbpcianefpniaaGreatDoorBRowIN1
import Derived.Test.YtcbpcianefpniaaGreatDoorBRowIN2
set_option linter.unusedVariables false
set_option linter.unusedSimpArgs false
namespace Go.Stele
def Few {A:Type} (k:Nat) (s:IS) (r:IR A):Prop:=r.st.out.length+r.st.left≤s.out.length+s.left+k
theorem Few.bind {A B:Type} {k:Nat} {s:IS} {r:IR A} {f:A→IS→IR B} (h:Few 0 s r) (hf:∀ v s',Few k s' (f v s')):Few k s (r.bind f):=by
 cases r with
 |ok v s'=>exact Nat.le_trans (hf v s') (Nat.add_le_add_right h k)
 |stop e s'=>exact Nat.le_trans h (Nat.le_add_right _ _)
theorem Few.bind' {A B:Type} {k:Nat} {s:IS} {r:IR A} {f:A→IS→IR B} (h:Few k s r) (hf:∀ v s',Few 0 s' (f v s')):Few k s (r.bind f):=by
 cases r with
 |ok v s'=>exact Nat.le_trans (hf v s') h
 |stop e s'=>exact h
theorem Few.refl {A:Type} {k:Nat} {v:A} {s:IS}:Few k s (.ok v s):=Nat.le_add_right _ _
theorem Few.reflS {A:Type} {k:Nat} {e:Int} {s:IS}:Few (A:=A) k s (.stop e s):=Nat.le_add_right _ _
theorem Few.tick {B:Type} {s:IS} {f:Unit→IS→IR B} (hf:∀ s',Few 1 s' (f () s')):Few 0 s ((tick s).bind f):=by
 unfold Go.Stele.tick
 split
 ·exact Few.reflS
 ·rename_i h
  have:=hf { s with left:=s.left-1 }
  unfold Few at this ⊢
  simp only at this
  show (f () { s with left:=s.left-1 }).st.out.length+(f () { s with left:=s.left-1 }).st.left≤_
  omega
theorem Few.up {A:Type} {s:IS} {r:IR A} (h:Few 0 s r):Few 1 s r:=Nat.le_trans h (Nat.le_add_right _ _)
theorem mapR_few {A:Type} {g:A→IS→IR Nat} (h:∀ a s,Few 0 s (g a s)):∀ (l:List A) (s:IS),Few 0 s (mapR g l s)
 |[],s=>Few.refl
 |a::l,s=>(h a s).bind fun v s=>(mapR_few h l s).bind fun vs s=>Few.refl
theorem blkR_few {g:Sm→IS→IR (Option Nat)} (h:∀ a s,Few 0 s (g a s)):∀ (l:List Sm) (s:IS),Few 0 s (blkR g l s)
 |[],s=>Few.refl
 |a::l,s=>(h a s).bind fun r s=>by
  cases r with
  |none=>exact blkR_few h l s
  |some v=>exact Few.refl
theorem whlR_few {c:IS→IR Nat} {b:IS→IR (Option Nat)} (hc:∀ s,Few 0 s (c s)) (hb:∀ s,Few 0 s (b s)):∀ (m v:Nat) (s:IS),Few 0 s (whlR c b m v s)
 |0,v,s=>by
  unfold whlR
  split
  ·exact Few.refl
  ·exact Few.reflS
 |m+1,v,s=>by
  unfold whlR
  split
  ·exact Few.refl
  ·refine (hb s).bind fun r s=>?_
   cases r with
   |some x=>exact Few.refl
   |none=>exact (hc s).bind fun v s=>whlR_few hc hb m v s
theorem opI_few {P:Pr} {g:FnD→Sm→IS→IR (Option Nat)} (h:∀ f a s,Few 0 s (g f a s)) (f:FnD) (op:List UInt8) (num:Nat) (name:List UInt8) (vs:List Nat) (s:IS):Few 1 s (opI P g f op num name vs s):=by
 unfold opI
 split
 ·exact Few.refl
 split
 ·exact Few.refl
 split
 ·split
  ·exact Few.refl
  ·exact Few.reflS
 split
 ·exact Few.refl
 split
 ·exact Few.refl
 split
 ·unfold callI
  split
  ·split
   ·exact Few.refl
   ·exact Nat.le_add_right _ _
  split
  ·unfold Few
   simp only[IR.st,List.length_append,List.length_cons,List.length_nil]
   omega
  ·refine Few.bind' (Few.up ?_) fun r s=>Few.refl
   have:=blkR_few (h (fnI P name)) (fnI P name).body (setPs (fnI P name) (fnI P name).params vs s)
   unfold Few at this ⊢
   rwa [(setPs_same _ _ _ _).1,(setPs_same _ _ _ _).2.1] at this
 ·split
  ·exact Few.refl
  ·exact Few.reflS
theorem few_all (P:Pr):∀ n:Nat,(∀ f x s,Few 0 s (evI P n f x s))∧∀ f x s,Few 0 s (stI P n f x s)
 |0=>⟨fun f x s=>by unfold evI;exact Few.reflS,fun f x s=>by unfold stI;exact Few.reflS⟩
 |n+1=>by
  obtain ⟨h1,h2⟩:=few_all P n
  refine ⟨fun f x s=>?_,fun f x s=>?_⟩
  ·obtain ⟨op,num,name,args⟩:=x
   unfold evI
   exact Few.tick fun s=>(mapR_few (h1 f) args s).bind fun vs s=>opI_few h2 f op num name vs s
  ·obtain ⟨kind,name,index,value,thn,els⟩:=x
   unfold stI
   refine Few.tick fun s=>Few.up ?_
   split
   ·exact Few.reflS
   refine (h1 f _ s).bind fun v s=>?_
   split
   ·exact Few.refl
   split
   ·refine (h1 f _ s).bind fun i s=>?_
    split
    ·exact Few.refl
    ·exact Few.reflS
   split
   ·exact Few.refl
   split
   ·split
    ·exact blkR_few (h2 f) _ _
    ·exact blkR_few (h2 f) _ _
   split
   ·exact whlR_few (h1 f _) (blkR_few (h2 f) _) _ _ _
   ·exact Few.refl
end Go.Stele
namespace Go.Stele
theorem nm_short {s:Nm} (h:isNm s=true):s.length≤24:=by
 unfold isNm at h
 simp only[Bool.and_eq_true,decide_eq_true_eq] at h
 exact h.1.1
theorem errFs_nm {vars arrays later:List Nm}:∀ (fs:List FnD) (known:List FSum),errFs vars arrays later known fs=0→∀ f∈fs,∀ x∈f.params++f.locals,isNm x=true
 |[],known,_,f,hf=>(List.not_mem_nil hf).elim
 |g::l,known,h,f,hf=>by
  rw[errFs] at h
  obtain ⟨h1,h2⟩:=orE_zero.1 h
  rcases List.mem_cons.1 hf with rfl|hf
  ·obtain ⟨g1,g2⟩:=fresh_zero _ _ (orE_zero.1 h1).1
   exact fun x hx=>(g2 x hx).2
  ·exact errFs_nm l _ h2 f hf
theorem short_of {p:Pr} (h:checkPr p=0):(∀ f∈p.funcs,f.name.length≤24)∧∀ k∈scalarsP p.vars p.funcs,k.length≤49:=by
 unfold checkPr checkP at h
 have e1:(p.arrays.map fun a=>(a.name,(a.size:Int))).map (·.1)=p.arrays.map (·.name):=by rw[List.map_map];rfl
 rw[e1] at h
 obtain ⟨h1,h⟩:=orE_zero.1 h
 obtain ⟨h2,h⟩:=orE_zero.1 h
 obtain ⟨h3,h4⟩:=orE_zero.1 h
 have hn:=(fresh_zero _ _ h1).2
 have hf:∀ f∈p.funcs,f.name.length≤24:=fun f hf=>nm_short (hn _ (List.mem_append.2 (.inr (List.mem_map.2 ⟨f,hf,rfl⟩)))).2
 refine ⟨hf,fun k hk=>?_⟩
 unfold scalarsP at hk
 rcases List.mem_append.1 hk with g|g
 ·have:=nm_short (hn k (List.mem_append.2 (.inl (List.mem_append.2 (.inl g))))).2
  omega
 ·obtain ⟨l,g1,g2⟩:=List.mem_flatten.1 g
  obtain ⟨f,g3,rfl⟩:=List.mem_map.1 g1
  obtain ⟨x,g4,rfl⟩:=List.mem_map.1 g2
  have a1:=hf f g3
  have a2:=nm_short (errFs_nm _ _ h3 f g3 x g4)
  simp only[List.length_append,List.length_cons,List.length_nil]
  omega
theorem own_short {p:Pr} (h:checkPr p=0):∀ f∈p.funcs,f.name.length≤1000∧∀ x∈f.params++f.locals,x.length≤1000:=by
 have h0:=(short_of h).1
 unfold checkPr checkP at h
 have e1:(p.arrays.map fun a=>(a.name,(a.size:Int))).map (·.1)=p.arrays.map (·.name):=by rw[List.map_map];rfl
 rw[e1] at h
 have h3:=(orE_zero.1 (orE_zero.1 (orE_zero.1 h).2).2).1
 exact fun f hf=>⟨Nat.le_trans (h0 f hf) (by decide),fun x hx=>Nat.le_trans (nm_short (errFs_nm _ _ h3 f hf x hx)) (by decide)⟩
theorem key_short {p:Pr} {f:FnD} {name:Nm} (h:∀ k∈scalarsP p.vars p.funcs,k.length≤49) (hk:keyI f name∈scalarsP p.vars p.funcs):name.length≤49:=by
 have:=h _ hk
 unfold keyI at this
 split at this
 ·simp only[List.length_append,List.length_cons,List.length_nil] at this
  omega
 ·exact this
end Go.Stele
namespace Go.Stele
def Few6 (n:Nat):Prop:=n≤2000000
mutual
def smE:Ex→Prop
 |.mk op num name args=>Few6 args.length∧smEs args
def smEs:List Ex→Prop
 |[]=>True
 |x::l=>smE x∧smEs l
end
mutual
def smS:Sm→Prop
 |.mk kind name index value thn els=>Few6 index.length∧Few6 value.length∧Few6 thn.length∧Few6 els.length∧smEs index∧smEs value∧smSs thn∧smSs els
def smSs:List Sm→Prop
 |[]=>True
 |x::l=>smS x∧smSs l
end
structure SmF (f:FnD):Prop where
 params:Few6 f.params.length
 locals:Few6 f.locals.length
 body:Few6 f.body.length
 stmts:smSs f.body
structure SmP (p:Pr):Prop where
 vars:Few6 p.vars.length
 arrays:Few6 p.arrays.length
 funcs:Few6 p.funcs.length
 each:∀ f∈p.funcs,SmF f
end Go.Stele
namespace Go.Proofs.YtcbpcianefpniaaGreatDoor.Inp
open Go.GL Go.RowKit Go.Stele
set_option maxRecDepth 100000
set_option maxHeartbeats 4000000
@[reducible] def u32 (n:Nat):LV:=int .u32 (n:Int)
def unitV:Unit→LV:=fun _=>.tuple []
def retV:Option Nat→LV:=fun r=>.tuple [u32 (r.getD 0),bool r.isSome]
@[reducible] def fnV (f:FuncId):LV:=.atom (.func (.func f) #[] #[])
def opsKV (db:Nat):KV:=[([43],fnV 58),([45],fnV 59),([42],fnV 60),([47],.atom (.func (.func 61) #[] #[.pointer (some ⟨db,0,none⟩)])),([37],.atom (.func (.func 62) #[] #[.pointer (some ⟨db,0,none⟩)])),
 ([94],fnV 63),([61,61],fnV 64),([33,61],fnV 66),([60],fnV 67),([62],fnV 68),([60,61],fnV 69),([62,61],fnV 70),([38,38],fnV 71),([124,124],fnV 72)]
structure Cfg where
 p:Pr
 rb:Nat
 db:Nat
 om:Nat
 sm:Nat
 am:Nat
 fm:Nat
 oc:Nat
 sc:Nat
 ac:Nat
 fc:Nat
 sb:List (List UInt8×Nat)
 ab:List (List UInt8×Nat×Nat)
 lim:Nat
def scKV (sb:List (List UInt8×Nat)):KV:=sb.map fun q=>(q.1,ptr q.2 0)
def arKV (ab:List (List UInt8×Nat×Nat)):KV:=ab.map fun q=>(q.1,rowV q.2.1 q.2.2)
def fnKV (fs:List FnD):KV:=fs.map fun f=>(f.name,encFn f)
def runC (c:Cfg) (s:IS) (v:LV):List LV:=[.list (c.p.vars.map str),.list (c.p.arrays.map encAr),.list (c.p.funcs.map encFn),.atom (.map (some c.om)),.list (s.inp.map u32),v,int .i64 ((c.lim-s.left:Nat):Int),int .i64 (s.left:Int),.atom (.map (some c.sm)),.atom (.map (some c.am)),.atom (.map (some c.fm))]
def scH (sb:List (List UInt8×Nat)) (s:IS):Heap:=sb.map fun q=>(q.2,LObj.cells 43 [u32 (s.sc q.1)])
def arH (ab:List (List UInt8×Nat×Nat)) (s:IS):Heap:=ab.map fun q=>(q.2.1,LObj.cells 43 ((s.ar q.1).map u32))
@[reducible] def divH (db:Nat):Nat×LObj:=(db,.cells 132 [fnV 57])
def stH (c:Cfg) (s:IS) (v:LV) (Ha:Heap):Heap:=(c.rb,.cells 72 (runC c s v))::(c.sm,.map (kvs (scKV c.sb)) c.sc)::(c.am,.map (kvs (arKV c.ab)) c.ac)::(c.fm,.map (kvs (fnKV c.p.funcs)) c.fc)::(c.om,.map (kvs (opsKV c.db)) c.oc)::divH c.db::(scH c.sb s++(arH c.ab s++Ha))
def St (c:Cfg) (s:IS) (H:Heap):Prop:=(∀ q∈c.ab,(s.ar q.1).length=q.2.2)∧s.left≤c.lim∧∃ v Ha,Acc 1 v (byts s.out) Ha []∧H=stH c s v Ha
structure CfgOk (c:Cfg):Prop where
 valid:Valid c.p
 nums:∀ f∈c.p.funcs,numSs f.body
 sbk:c.sb.map (·.1)=scalarsP c.p.vars c.p.funcs
 abk:c.ab.map (·.1)=c.p.arrays.map (·.name)
 small:SmP c.p
 asz:∀ q∈c.ab,q.2.2≤150000
 lim:c.lim≤100000000
 fshort:∀ f∈c.p.funcs,f.name.length≤24
 short:∀ k∈scalarsP c.p.vars c.p.funcs,k.length≤49
def panI (e:Int):List PanicEntry:=[{ v:=.iface 131 (.agg #[.int .i64 e]),recovered:=false }]
def PostI {A:Type} (c:Cfg) (enc:A→LV) (r:IR A) (res:LRes) (H:Heap):Prop:=match r with
 |.ok v s=>res=.ret (enc v)∧St c s H
 |.stop e s=>res=.panic (panI e)∧St c s H
@[reducible] def Same (v:LV) (H:Heap):LRes→Heap→Prop:=fun r H'=>r=.ret v∧H'=H
section steps
variable {C:Ctx} {n:Nat} {e:Env} {H:Heap} {dst:Option Nat} {ty:TypeId} {pos:String} {aft:Array Edge} {g:Option (Nat×Bool)} {K:LV→Heap→Prop} {X:List PanicEntry→Heap→Prop}
theorem S.callS {f:FuncId} [TEnter C.P f] (args:List Operand) {ats:Array TypeId} {av:List LV} {lv:LV} {H1 F:Heap} (has:args.map e.ev=av) (hp:H.Perm (H1++F)) (hc:LCalls C f av H1 (Same lv H1)) (hk:K lv (H1++F)) :
  LStep C ⟨dst,.call { callee:=.value (.func f),args:=args.toArray,argTypes:=ats },ty,pos,aft,g⟩ e H K X:=
 S.callH args has hp hc (by rintro v H' ⟨h,rfl⟩;cases h;exact hk) (by rintro ch H' ⟨h,_⟩;cases h)
theorem S.callI {A:Type} {c:Cfg} {enc:A→LV} {r:IR A} {f:FuncId} [TEnter C.P f] (args:List Operand) {ats:Array TypeId} {av:List LV} {H1 F:Heap} (has:args.map e.ev=av) (hp:H.Perm (H1++F))
  (hc:LCalls C f av H1 (PostI c enc r)) (hk:∀ v s H',r=.ok v s→St c s H'→K (enc v) (H'++F)) (hx:∀ er s H',r=.stop er s→St c s H'→X (panI er) (H'++F)) :
  LStep C ⟨dst,.call { callee:=.value (.func f),args:=args.toArray,argTypes:=ats },ty,pos,aft,g⟩ e H K X:=by
 refine S.callH args has hp hc ?_ ?_
 ·intro v H' h
  cases hr:r with
  |ok u s=>
   rw[hr] at h
   obtain ⟨h1,h2⟩:=h
   cases h1
   exact hk _ _ _ hr h2
  |stop er s=>
   rw[hr] at h
   obtain ⟨h1,_⟩:=h
   cases h1
 ·intro ch H' h
  cases hr:r with
  |ok u s=>
   rw[hr] at h
   obtain ⟨h1,_⟩:=h
   cases h1
  |stop er s=>
   rw[hr] at h
   obtain ⟨h1,h2⟩:=h
   cases h1
   exact hx _ _ _ hr h2
theorem retI {A:Type} {c:Cfg} {enc:A→LV} {r:IR A} {rs:List ResultVar} {vs:List LV} {v:A} {s:IS} {H':Heap} (hd:e.ds=[]) (h:AllRes C n e H rs vs) (hr:r=.ok v s) (hv:resLV vs=enc v) (hH:HSub H' H) (hs:St c s H') :
  RetPost C n rs (PostI c enc r) .ret e H:=rR hd h hH (by rw[hr];exact ⟨by rw[hv],hs⟩)
theorem retIn {A:Type} {c:Cfg} {enc:A→LV} {r:IR A} {rs:List ResultVar} {vs:List LV} {v:A} {s:IS} {H':Heap} (hd:e.ds=[]) (h:AllRes C n e H rs vs) (hr:r=.ok v s) (hv:resLV vs=enc v) (hH:HSub H' H) (hs:St c s H') :
  RetPost C n rs (PostI c enc r) .normal e H:=RetPost.normal hd h hH (by rw[hr];exact ⟨by rw[hv],hs⟩)
theorem panI_ {A:Type} {c:Cfg} {enc:A→LV} {r:IR A} {rs:List ResultVar} {er:Int} {s:IS} {H':Heap} (hd:e.ds=[]) (hr:r=.stop er s) (hH:HSub H' H) (hs:St c s H') :
  RetPost C n rs (PostI c enc r) (.panic (panI er)) e H:=RetPost.panic hd hH (by rw[hr];exact ⟨rfl,hs⟩)
theorem retS {rs:List ResultVar} {vs:List LV} {lv:LV} {H0:Heap} (hd:e.ds=[]) (h:AllRes C n e H rs vs) (hv:resLV vs=lv) (hH:HSub H0 H):RetPost C n rs (Same lv H0) .ret e H:=
 rR hd h hH ⟨by rw[hv],rfl⟩
end steps
instance:TMap Tryz.prog 68 74 (.pointer none) (.atom (.pointer none)):=⟨⟨9,by kernel_rfl,by kernel_rfl⟩,fun w=>(Go.zero_of_info (P:=Tryz.prog) (n:=1) zk).1 w,fun _ _=>rep_atom⟩
instance:TMap Tryz.prog 69 22 (.slice none 0 0) nilSlice:=⟨⟨9,by kernel_rfl,by kernel_rfl⟩,fun w=>(Go.zero_of_info (P:=Tryz.prog) (n:=1) zk).1 w,fun _ _=>rep_atom⟩
instance:TMap Tryz.prog 70 63 (.agg [.string ⟨#[]⟩,.slice none 0 0,.slice none 0 0,.slice none 0 0].toArray) (.agg ([.string ⟨#[]⟩,.slice none 0 0,.slice none 0 0,.slice none 0 0].map .atom)):=⟨⟨9,by kernel_rfl,by kernel_rfl⟩,fun w=>(Go.zero_of_info (P:=Tryz.prog) (n:=4) zk).1 w,fun w L=>rep_aggs w L _⟩
instance:TMap Tryz.prog 66 133 .nilFunc (.atom .nilFunc):=⟨⟨9,by kernel_rfl,by kernel_rfl⟩,fun w=>(Go.zero_of_info (P:=Tryz.prog) (n:=1) zk).1 w,fun _ _=>rep_atom⟩
attribute [local irreducible] LOps LCode LStep LCalls Go.GL.Pure QThen QBlock RetPost LQ LAny LLate LLateOp
section
variable {B0:Nat} {w0:World} {H:Heap}
theorem step_spec {c:Cfg} (hC:CfgOk c) {s:IS} (hs:St c s H):LCalls (KC B0 w0) 157 [ptr c.rb 0] H (PostI c unitV (tick s)):=by
 have hs0:=hs
 have hlim:=hC.lim
 obtain ⟨hl,hle,v,Ha,hacc,rfl⟩:=hs
 refine cI Tryz.func157 rfl (n:=23) rfl rfl rfl ?_
 refine gaa ?_
 refine oC rfl (fun hc=>?_) (fun hc=>?_)
 ·refine gaa ?_
  refine oS (LStep.panic rfl fun e' he'=>?_) rfl
  refine gam ?_
  have h0:s.left=0:=by have:=zt hc;omega
  exact panI_ (he'.trans rfl) (by rw[tick,if_pos h0]) zhr hs0
 ·have h0:¬ s.left=0:=by have:=zf hc;omega
  refine gaa ?_
  have e1:(s.left:Int)-1=((s.left-1:Nat):Int):=by omega
  have e2:((c.lim-s.left:Nat):Int)+1=((c.lim-(s.left-1):Nat):Int):=by omega
  rw[e1,e2]
  exact retIn rfl rN (v:=()) (s:={ s with left:=s.left-1 }) (by rw[tick,if_neg h0]) rfl zhr ⟨hl,by show s.left-1≤c.lim;omega,v,Ha,hacc,rfl⟩
theorem truth_spec (b:Bool):LCalls (KC B0 w0) 65 [bool b] H (Same (u32 (b2n b)) H):=by
 refine cI Tryz.func65 rfl (n:=4) rfl rfl rfl ?_
 refine gay ?_
 refine oC rfl (fun hc=>?_) (fun hc=>?_)
 ·refine gau ?_
  exact retS rfl (zra rfl) (by rw[hc];rfl) zhr
 ·refine gac ?_
  exact retS rfl (zra rfl) (by rw[hc];rfl) zhr
end
end Go.Proofs.YtcbpcianefpniaaGreatDoor.Inp
namespace Go.Proofs.YtcbpcianefpniaaGreatDoor.Inp
open Go.GL Go.RowKit Go.Stele
set_option maxRecDepth 100000
set_option maxHeartbeats 4000000
theorem wrapU (n:Int):IntKind.u32.wrap n=n % 4294967296:=by
 simp only[IntKind.wrap,IntKind.bits,IntKind.signed,Bool.false_and]
 rfl
theorem u32_eq {a:Int} {b:Nat} (h:a=b):int .u32 a=u32 b:=by rw[h]
theorem b2n_dec {p q:Prop} [Decidable p] [Decidable q] (h:p ↔ q):b2n (decide p)=b2n (decide q):=by rw[decide_eq_decide.2 h]
attribute [local irreducible] LOps LCode LStep LCalls Go.GL.Pure QThen QBlock RetPost LQ LAny LLate LLateOp
section
variable {B0:Nat} {w0:World} {H:Heap} {a b:Nat}
theorem xor_u32 (ha:a<4294967296) (hb:b<4294967296):IntKind.u32.wrap ((BitVec.ofInt IntKind.u32.bits a ^^^ BitVec.ofInt IntKind.u32.bits b).toNat:Nat)=((a ^^^ b:Nat):Int):=by
 rw[wrapU,BitVec.toNat_xor]
 have h1:∀ n:Nat,n<4294967296→(BitVec.ofInt IntKind.u32.bits (n:Int)).toNat=n:=fun n hn=>by
  rw[BitVec.ofInt_natCast,BitVec.toNat_ofNat]
  exact Nat.mod_eq_of_lt hn
 rw[h1 a ha,h1 b hb]
 have:a ^^^ b<4294967296:=Nat.xor_lt_two_pow (n:=32) ha hb
 omega
theorem op2_spec (ha:a<4294967296) (hb:b<4294967296):LCalls (KC B0 w0) 58 [u32 a,u32 b] H (Same (u32 ((a+b) % 4294967296)) H):=by
 refine cI Tryz.func58 rfl (n:=8) rfl rfl rfl ?_
 refine gay ?_
 refine oP (Pure.addW rfl rfl) rfl ?_
 refine gaf ?_
 exact retS rfl (zra rfl) (u32_eq (by rw[wrapU];omega)) zhr
theorem op3_spec (ha:a<4294967296) (hb:b<4294967296):LCalls (KC B0 w0) 59 [u32 a,u32 b] H (Same (u32 ((a+4294967296-b) % 4294967296)) H):=by
 refine cI Tryz.func59 rfl (n:=8) rfl rfl rfl ?_
 refine gay ?_
 refine oP (Pure.subW rfl rfl) rfl ?_
 refine gaf ?_
 exact retS rfl (zra rfl) (u32_eq (by rw[wrapU];omega)) zhr
theorem op4_spec (ha:a<4294967296) (hb:b<4294967296):LCalls (KC B0 w0) 60 [u32 a,u32 b] H (Same (u32 (a * b % 4294967296)) H):=by
 refine cI Tryz.func60 rfl (n:=8) rfl rfl rfl ?_
 refine gay ?_
 refine oP (Pure.mulW rfl rfl) rfl ?_
 refine gaf ?_
 exact retS rfl (zra rfl) (u32_eq (by rw[wrapU,←Int.natCast_mul];generalize a * b=q;omega)) zhr
theorem op7_spec (ha:a<4294967296) (hb:b<4294967296):LCalls (KC B0 w0) 63 [u32 a,u32 b] H (Same (u32 (a ^^^ b)) H):=by
 refine cI Tryz.func63 rfl (n:=8) rfl rfl rfl ?_
 refine gay ?_
 refine oP (Pure.xorW rfl rfl) rfl ?_
 refine gaf ?_
 exact retS rfl (zra rfl) (u32_eq (xor_u32 ha hb)) zhr
theorem op8_spec:LCalls (KC B0 w0) 64 [u32 a,u32 b] H (Same (u32 (b2n (decide (a=b)))) H):=by
 refine cI Tryz.func64 rfl (n:=9) rfl rfl rfl ?_
 refine gac ?_
 refine oS (S.callS (H1:=H) (F:=[]) [_] rfl (by rw[List.append_nil]) (truth_spec _) ?_) rfl
 rw[List.append_nil]
 refine gaf ?_
 exact retS rfl (zra rfl) (congrArg u32 (b2n_dec zo)) zhr
theorem b2n_not:b2n (!decide ((a:Int)=b))=b2n (decide (a≠b)):=by
 by_cases h:a=b
 ·simp[h,b2n]
 ·have:¬ (a:Int)=b:=by omega
  simp[h,this,b2n]
theorem op9_spec:LCalls (KC B0 w0) 66 [u32 a,u32 b] H (Same (u32 (b2n (decide (a≠b)))) H):=by
 refine cI Tryz.func66 rfl (n:=9) rfl rfl rfl ?_
 refine gaa ?_
 refine oS (S.callS (H1:=H) (F:=[]) [_] rfl (by rw[List.append_nil]) (truth_spec _) ?_) rfl
 rw[List.append_nil]
 refine gaf ?_
 exact retS rfl (zra rfl) (congrArg u32 (b2n_not)) zhr
theorem op10_spec:LCalls (KC B0 w0) 67 [u32 a,u32 b] H (Same (u32 (b2n (decide (a<b)))) H):=by
 refine cI Tryz.func67 rfl (n:=9) rfl rfl rfl ?_
 refine gac ?_
 refine oS (S.callS (H1:=H) (F:=[]) [_] rfl (by rw[List.append_nil]) (truth_spec _) ?_) rfl
 rw[List.append_nil]
 refine gaf ?_
 exact retS rfl (zra rfl) (congrArg u32 (b2n_dec zo)) zhr
theorem op11_spec:LCalls (KC B0 w0) 68 [u32 a,u32 b] H (Same (u32 (b2n (decide (b<a)))) H):=by
 refine cI Tryz.func68 rfl (n:=9) rfl rfl rfl ?_
 refine gaa ?_
 refine oS (S.callS (H1:=H) (F:=[]) [_] rfl (by rw[List.append_nil]) (truth_spec _) ?_) rfl
 rw[List.append_nil]
 refine gaf ?_
 exact retS rfl (zra rfl) (congrArg u32 (b2n_dec zo)) zhr
theorem op12_spec:LCalls (KC B0 w0) 69 [u32 a,u32 b] H (Same (u32 (b2n (decide (a≤b)))) H):=by
 refine cI Tryz.func69 rfl (n:=9) rfl rfl rfl ?_
 refine gaa ?_
 refine oS (S.callS (H1:=H) (F:=[]) [_] rfl (by rw[List.append_nil]) (truth_spec _) ?_) rfl
 rw[List.append_nil]
 refine gaf ?_
 exact retS rfl (zra rfl) (congrArg u32 (b2n_dec zo)) zhr
theorem op13_spec:LCalls (KC B0 w0) 70 [u32 a,u32 b] H (Same (u32 (b2n (decide (b≤a)))) H):=by
 refine cI Tryz.func70 rfl (n:=9) rfl rfl rfl ?_
 refine gaa ?_
 refine oS (S.callS (H1:=H) (F:=[]) [_] rfl (by rw[List.append_nil]) (truth_spec _) ?_) rfl
 rw[List.append_nil]
 refine gaf ?_
 exact retS rfl (zra rfl) (congrArg u32 (b2n_dec zo)) zhr
theorem op14_spec:LCalls (KC B0 w0) 71 [u32 a,u32 b] H (Same (u32 (b2n (decide (a≠0∧b≠0)))) H):=by
 refine cI Tryz.func71 rfl (n:=12) rfl rfl rfl ?_
 refine gaa ?_
 refine oB 7 rfl (fun ht=>?_) (fun ht=>?_)
 ·have h1:a≠0:=by
   intro h
   rw[h] at ht
   exact absurd ht (by decide)
  refine gab ?_
  refine oS (S.callS (H1:=H) (F:=[]) [_] rfl (by rw[List.append_nil]) (truth_spec _) ?_) rfl
  rw[List.append_nil]
  refine gaf ?_
  exact retS rfl (zra rfl) (congrArg u32 (by simp[b2n,h1])) zhr
 ·have h1:a=0:=by
   have:(a:Int)=0:=by simpa using ht
   omega
  refine gah ?_
  refine oS (S.callS (H1:=H) (F:=[]) [_] rfl (by rw[List.append_nil]) (truth_spec _) ?_) rfl
  rw[List.append_nil]
  refine gaf ?_
  exact retS rfl (zra rfl) (congrArg u32 (by simp[b2n,h1])) zhr
theorem op15_spec:LCalls (KC B0 w0) 72 [u32 a,u32 b] H (Same (u32 (b2n (decide (a≠0∨b≠0)))) H):=by
 refine cI Tryz.func72 rfl (n:=12) rfl rfl rfl ?_
 refine gaa ?_
 refine oB 7 rfl (fun ht=>?_) (fun ht=>?_)
 ·have h1:a≠0:=by
   intro h
   rw[h] at ht
   exact absurd ht (by decide)
  refine gad ?_
  refine oS (S.callS (H1:=H) (F:=[]) [_] rfl (by rw[List.append_nil]) (truth_spec _) ?_) rfl
  rw[List.append_nil]
  refine gaf ?_
  exact retS rfl (zra rfl) (congrArg u32 (by simp[b2n,h1])) zhr
 ·have h1:a=0:=by
   have:(a:Int)=0:=by simpa using ht
   omega
  refine gab ?_
  refine oS (S.callS (H1:=H) (F:=[]) [_] rfl (by rw[List.append_nil]) (truth_spec _) ?_) rfl
  rw[List.append_nil]
  refine gaf ?_
  exact retS rfl (zra rfl) (congrArg u32 (by simp[b2n,h1])) zhr
theorem divisor_spec:LCalls (KC B0 w0) 57 [u32 b] H (fun r H'=>H'=H∧r=if b=0 then .panic (panI 12) else .ret (u32 b)):=by
 refine cI Tryz.func57 rfl (n:=8) rfl rfl rfl ?_
 refine gac ?_
 refine oC rfl (fun hc=>?_) (fun hc=>?_)
 ·have h0:b=0:=by have:=zt hc;omega
  refine gaa ?_
  refine oS (LStep.panic rfl fun e' he'=>?_) rfl
  refine gam ?_
  exact RetPost.panic (he'.trans rfl) zhr ⟨rfl,by rw[if_pos h0];rfl⟩
 ·have h0:¬ b=0:=by have:=zf hc;omega
  refine gac ?_
  exact rR rfl (zra rfl) zhr ⟨rfl,by rw[if_neg h0];rfl⟩
theorem op5_spec {db:Nat} (ha:a<4294967296):LCalls (KC B0 w0) 61 [u32 a,u32 b,ptr db 0] [divH db] (fun r H'=>H'=[divH db]∧r=if b=0 then .panic (panI 12) else .ret (u32 (a / b))):=by
 refine cI Tryz.func61 rfl (n:=11) rfl rfl rfl ?_
 refine gac ?_
 by_cases h0:b=0
 ·refine oS (S.callV (f:=57) (first:=#[]) (caps:=#[]) (H1:=[divH db]) (F:=[]) [_] rfl rfl (by simp) divisor_spec ?_ ?_) rfl
  ·rintro v H' ⟨rfl,h⟩
   rw[if_pos h0] at h
   cases h
  ·rintro ch H' ⟨rfl,h⟩ e' he'
   rw[if_pos h0] at h
   cases h
   refine gam ?_
   exact RetPost.panic (he'.trans rfl) zhr ⟨rfl,by rw[if_pos h0]⟩
 ·refine oS (S.callV (f:=57) (first:=#[]) (caps:=#[]) (H1:=[divH db]) (F:=[]) [_] rfl rfl (by simp) divisor_spec ?_ ?_) rfl
  ·rintro v H' ⟨rfl,h⟩
   rw[if_neg h0] at h
   cases h
   refine oP (Pure.quoW rfl rfl zo) rfl ?_
   refine gaf ?_
   refine rR rfl (zra rfl) zhr ⟨rfl,?_⟩
   rw[if_neg h0]
   exact congrArg LRes.ret (u32_eq (by rw[wrapU,Int.tdiv_eq_ediv_of_nonneg zo,←Int.natCast_ediv];have hq:a / b<4294967296:=Nat.lt_of_le_of_lt (Nat.div_le_self a b) ha;generalize a / b=q at hq ⊢;omega))
  ·rintro ch H' ⟨rfl,h⟩
   rw[if_neg h0] at h
   cases h
theorem op6_spec {db:Nat} (ha:a<4294967296):LCalls (KC B0 w0) 62 [u32 a,u32 b,ptr db 0] [divH db] (fun r H'=>H'=[divH db]∧r=if b=0 then .panic (panI 12) else .ret (u32 (a % b))):=by
 refine cI Tryz.func62 rfl (n:=11) rfl rfl rfl ?_
 refine gac ?_
 by_cases h0:b=0
 ·refine oS (S.callV (f:=57) (first:=#[]) (caps:=#[]) (H1:=[divH db]) (F:=[]) [_] rfl rfl (by simp) divisor_spec ?_ ?_) rfl
  ·rintro v H' ⟨rfl,h⟩
   rw[if_pos h0] at h
   cases h
  ·rintro ch H' ⟨rfl,h⟩ e' he'
   rw[if_pos h0] at h
   cases h
   refine gam ?_
   exact RetPost.panic (he'.trans rfl) zhr ⟨rfl,by rw[if_pos h0]⟩
 ·refine oS (S.callV (f:=57) (first:=#[]) (caps:=#[]) (H1:=[divH db]) (F:=[]) [_] rfl rfl (by simp) divisor_spec ?_ ?_) rfl
  ·rintro v H' ⟨rfl,h⟩
   rw[if_neg h0] at h
   cases h
   refine oP (Pure.remW rfl rfl zo) rfl ?_
   refine gaf ?_
   refine rR rfl (zra rfl) zhr ⟨rfl,?_⟩
   rw[if_neg h0]
   exact congrArg LRes.ret (u32_eq (by rw[Int.tmod_eq_emod_of_nonneg zo,←Int.natCast_emod]))
  ·rintro ch H' ⟨rfl,h⟩
   rw[if_neg h0] at h
   cases h
def resB (o:Option Nat):LRes:=match o with
 |some v=>.ret (u32 v)
 |none=>.panic (panI 12)
theorem binop_spec {db:Nat} {op:List UInt8} (hop:op∈binOps) (ha:a<4294967296) (hb:b<4294967296):∃ (f:FuncId) (caps:Array Value),GL.kvGet (opsKV db) op=some (.atom (.func (.func f) #[] caps))∧TEnter Tryz.prog f ∧
  LCalls (KC B0 w0) f ([u32 a,u32 b]++caps.toList.map .atom) [divH db] (fun r H'=>H'=[divH db]∧r=resB (binI op a b)):=by
 simp only[binOps,List.mem_cons,List.not_mem_nil,or_false] at hop
 rcases hop with rfl|rfl|rfl|rfl|rfl|rfl|rfl|rfl|rfl|rfl|rfl|rfl|rfl|rfl
 ·exact ⟨72,#[],rfl,inferInstance,LCalls.mono (op15_spec) fun r H' ⟨h1,h2⟩=>⟨h2,h1⟩⟩
 ·exact ⟨71,#[],rfl,inferInstance,LCalls.mono (op14_spec) fun r H' ⟨h1,h2⟩=>⟨h2,h1⟩⟩
 ·exact ⟨64,#[],rfl,inferInstance,LCalls.mono (op8_spec) fun r H' ⟨h1,h2⟩=>⟨h2,h1⟩⟩
 ·exact ⟨66,#[],rfl,inferInstance,LCalls.mono (op9_spec) fun r H' ⟨h1,h2⟩=>⟨h2,h1⟩⟩
 ·exact ⟨67,#[],rfl,inferInstance,LCalls.mono (op10_spec) fun r H' ⟨h1,h2⟩=>⟨h2,h1⟩⟩
 ·exact ⟨68,#[],rfl,inferInstance,LCalls.mono (op11_spec) fun r H' ⟨h1,h2⟩=>⟨h2,h1⟩⟩
 ·exact ⟨69,#[],rfl,inferInstance,LCalls.mono (op12_spec) fun r H' ⟨h1,h2⟩=>⟨h2,h1⟩⟩
 ·exact ⟨70,#[],rfl,inferInstance,LCalls.mono (op13_spec) fun r H' ⟨h1,h2⟩=>⟨h2,h1⟩⟩
 ·exact ⟨63,#[],rfl,inferInstance,LCalls.mono (op7_spec ha hb) fun r H' ⟨h1,h2⟩=>⟨h2,h1⟩⟩
 ·exact ⟨58,#[],rfl,inferInstance,LCalls.mono (op2_spec ha hb) fun r H' ⟨h1,h2⟩=>⟨h2,h1⟩⟩
 ·exact ⟨59,#[],rfl,inferInstance,LCalls.mono (op3_spec ha hb) fun r H' ⟨h1,h2⟩=>⟨h2,h1⟩⟩
 ·exact ⟨60,#[],rfl,inferInstance,LCalls.mono (op4_spec ha hb) fun r H' ⟨h1,h2⟩=>⟨h2,h1⟩⟩
 ·refine ⟨61,#[.pointer (some ⟨db,0,none⟩)],rfl,inferInstance,LCalls.mono (op5_spec ha) fun r H' ⟨h1,h2⟩=>⟨h1,h2.trans ?_⟩⟩
  by_cases h0:b=0
  ·rw[if_pos h0,h0]
   rfl
  ·rw[if_neg h0]
   show _=resB (if b=0 then none else _)
   rw[if_neg h0]
   rfl
 ·refine ⟨62,#[.pointer (some ⟨db,0,none⟩)],rfl,inferInstance,LCalls.mono (op6_spec ha) fun r H' ⟨h1,h2⟩=>⟨h1,h2.trans ?_⟩⟩
  by_cases h0:b=0
  ·rw[if_pos h0,h0]
   rfl
  ·rw[if_neg h0]
   show _=resB (if b=0 then none else _)
   rw[if_neg h0]
   rfl
end
end Go.Proofs.YtcbpcianefpniaaGreatDoor.Inp
namespace Go.Proofs.YtcbpcianefpniaaGreatDoor.Inp
open Go.GL Go.RowKit Go.Stele
set_option maxRecDepth 100000
set_option maxHeartbeats 4000000
theorem CfgOk.keys {c:Cfg} (hC:CfgOk c):(c.sb.map (·.1)).Nodup:=by rw[hC.sbk];exact hC.valid.keys
theorem CfgOk.block {c:Cfg} (hC:CfgOk c) {k:List UInt8} (hk:k∈scalarsP c.p.vars c.p.funcs):∃ b,(k,b)∈c.sb∧GL.kvGet (scKV c.sb) k=some (ptr b 0):=by
 rw[←hC.sbk] at hk
 obtain ⟨⟨k',b⟩,h1,rfl⟩:=List.mem_map.1 hk
 exact ⟨b,h1,kv_hit (A:=List UInt8×Nat) (·.1) (fun q=>ptr q.2 0) hC.keys h1⟩
theorem CfgOk.miss {c:Cfg} (hC:CfgOk c) {k:List UInt8} (hk:k ∉ scalarsP c.p.vars c.p.funcs):GL.kvGet (scKV c.sb) k=none:=by
 rw[←hC.sbk] at hk
 exact kv_miss (A:=List UInt8×Nat) (·.1) (fun q=>ptr q.2 0) hk
theorem CfgOk.akeys {c:Cfg} (hC:CfgOk c):(c.ab.map (·.1)).Nodup:=by
 rw[hC.abk]
 exact (List.nodup_append.1 (List.nodup_append.1 (fresh_zero _ _ hC.valid.names).1).1).2.1
theorem CfgOk.arr {c:Cfg} (hC:CfgOk c) {k:List UInt8} (hk:k∈c.p.arrays.map (·.name)):∃ b n,(k,b,n)∈c.ab∧GL.kvGet (arKV c.ab) k=some (rowV b n):=by
 rw[←hC.abk] at hk
 obtain ⟨⟨k',b,n⟩,h1,rfl⟩:=List.mem_map.1 hk
 exact ⟨b,n,h1,kv_hit (A:=List UInt8×Nat×Nat) (·.1) (fun q=>rowV q.2.1 q.2.2) hC.akeys h1⟩
attribute [local irreducible] LOps LCode LStep LCalls Go.GL.Pure QThen QBlock RetPost LQ LAny LLate LLateOp
section
variable {B0:Nat} {w0:World} {H:Heap}
theorem scalar_spec {c:Cfg} (hC:CfgOk c) {s:IS} (hs:St c s H) {f:FnD} (hf:f∈c.p.funcs) {name:List UInt8} (hk:keyI f name∈scalarsP c.p.vars c.p.funcs) {b:Nat} (hb:GL.kvGet (scKV c.sb) (keyI f name)=some (ptr b 0)) :
  LCalls (KC B0 w0) 159 [ptr c.rb 0,encFn f,str name] H (Same (ptr b 0) H):=by
 have hke:=key_eq hC.valid.names hf name
 have hfl:=hC.fshort f hf
 have hnl:=key_short hC.short hk
 obtain ⟨hl,hle,v,Ha,hacc,rfl⟩:=hs
 refine cI Tryz.func159 rfl (n:=30) rfl rfl rfl ?_
 refine gag ?_
 refine oS (S.box rfl fun b4=>?_) rfl
 refine gad ?_
 refine LCode.quiet zk ?_
 refine gab ?_
 by_cases hin:f.name++[46]++name∈scalarsP c.p.vars c.p.funcs
 ·rw[if_pos hin] at hke
  rw[←hke] at hb
  refine LQ.pure (Pure.kvHit2 rfl rfl zm2 hb) rfl ?_
  refine gaa ?_
  refine oC rfl (fun hc=>?_) (fun hc=>?_)
  ·refine gap ?_
   exact retS rfl (zra rfl) rfl (zhD zhr)
  ·cases hc
 ·rw[if_neg hin] at hke
  rw[←hke] at hb
  refine LQ.pure (Pure.kvMiss2 rfl rfl zm2 (hC.miss hin)) rfl ?_
  refine gaa ?_
  refine oC rfl (fun hc=>?_) (fun hc=>?_)
  ·cases hc
  ·refine gaa ?_
   refine oP (Pure.kvHit rfl rfl zm2 hb) rfl ?_
   refine gaf ?_
   exact retS rfl (zra rfl) rfl (zhD zhr)
theorem wrapU64 {n:Nat} (h:n<18446744073709551616):IntKind.u64.wrap (n:Int)=n:=by
 have:IntKind.u64.wrap (n:Int)=(n:Int) % 18446744073709551616:=by
  simp only[IntKind.wrap,IntKind.bits,IntKind.signed,Bool.false_and]
  rfl
 rw[this]
 omega
theorem element_spec {c:Cfg} (hC:CfgOk c) {s:IS} (hs:St c s H) {name:List UInt8} {b n i:Nat} (hb:(name,b,n)∈c.ab) (hg:GL.kvGet (arKV c.ab) name=some (rowV b n)) (hi:i<4294967296) :
  LCalls (KC B0 w0) 160 [ptr c.rb 0,str name,u32 i] H (fun r H'=>H'=H∧r=if i<n then .ret (ptr b i) else .panic (panI 2)):=by
 have hn:=hC.asz _ hb
 simp only at hn
 obtain ⟨hl,hle,v,Ha,hacc,rfl⟩:=hs
 refine cI Tryz.func160 rfl (n:=25) rfl rfl rfl ?_
 refine gaa ?_
 refine oP (Pure.kvHit rfl rfl zm2 hg) rfl ?_
 refine gaa ?_
 refine oP (Pure.rowLen rfl) rfl ?_
 refine gab ?_
 have e1:=wrapU64 (n:=i) zo
 have e2:=wrapU64 (n:=n) zo
 refine oC rfl (fun hc=>?_) (fun hc=>?_)
 ·have h0:¬ i<n:=by
   have:=zt hc
   rw[e1,e2] at this
   omega
  refine gaa ?_
  refine oS (LStep.panic rfl fun e' he'=>?_) rfl
  refine gam ?_
  exact RetPost.panic (he'.trans rfl) zhr ⟨rfl,by rw[if_neg h0];rfl⟩
 ·have h0:i<n:=by
   have:=zf hc
   rw[e1,e2] at this
   omega
  refine gac ?_
  refine oP (Pure.indexRow rfl rfl zo zo) rfl ?_
  refine gaf ?_
  refine rR rfl (zra rfl) zhr ⟨rfl,?_⟩
  rw[if_pos h0]
  show LRes.ret (ptr b (0+(i:Int).toNat * 1))=_
  rw[Int.toNat_natCast,Nat.mul_one,Nat.zero_add]
end
end Go.Proofs.YtcbpcianefpniaaGreatDoor.Inp
namespace Go.Proofs.YtcbpcianefpniaaGreatDoor.Inp
open Go.GL Go.RowKit Go.Stele
set_option maxRecDepth 100000
theorem sc_pick {sb:List (List UInt8×Nat)} {k:List UInt8} {b:Nat} (s:IS):(sb.map (·.1)).Nodup→(k,b)∈sb→∃ F,(scH sb s).Perm ((b,.cells 43 [u32 (s.sc k)])::F)∧∀ x,(scH sb (setSc s k x)).Perm ((b,.cells 43 [u32 x])::F):=by
 induction sb with
 |nil=>intro _ h;cases h
 |cons q l ih=>
  intro hn h
  rw[List.map_cons,List.nodup_cons] at hn
  have same:∀ (l:List (List UInt8×Nat)) x,k ∉ l.map (·.1)→scH l (setSc s k x)=scH l s:=fun l x hk=>by
   unfold scH
   refine List.map_congr_left fun p hp=>?_
   show (p.2,LObj.cells 43 [u32 (if p.1=k then x else s.sc p.1)])=_
   rw[if_neg (fun he=>hk (by rw[←he];exact List.mem_map_of_mem hp))]
  rcases List.mem_cons.1 h with rfl|h
  ·refine ⟨scH l s,List.Perm.refl _,fun x=>?_⟩
   show List.Perm ((b,LObj.cells 43 [u32 (if k=k then x else s.sc k)])::scH l (setSc s k x)) _
   rw[if_pos rfl,same l x hn.1]
  ·obtain ⟨F,h1,h2⟩:=ih hn.2 h
   have hne:¬ q.1=k:=fun he=>hn.1 (by rw[he];exact List.mem_map_of_mem h)
   refine ⟨(q.2,.cells 43 [u32 (s.sc q.1)])::F,(List.Perm.cons _ h1).trans (List.Perm.swap _ _ _),fun x=>?_⟩
   show List.Perm ((q.2,LObj.cells 43 [u32 (if q.1=k then x else s.sc q.1)])::scH l (setSc s k x)) _
   rw[if_neg hne]
   exact (List.Perm.cons _ (h2 x)).trans (List.Perm.swap _ _ _)
def hdH (c:Cfg) (s:IS) (v:LV):Heap:=[(c.rb,.cells 72 (runC c s v)),(c.sm,.map (kvs (scKV c.sb)) c.sc),(c.am,.map (kvs (arKV c.ab)) c.ac),(c.fm,.map (kvs (fnKV c.p.funcs)) c.fc),(c.om,.map (kvs (opsKV c.db)) c.oc),divH c.db]
theorem stH_eq (c:Cfg) (s:IS) (v:LV) (Ha:Heap):stH c s v Ha=hdH c s v++(scH c.sb s++(arH c.ab s++Ha)):=rfl
theorem fst_inj {A B:Type}:∀ (L:List (A×B)),(L.map (·.1)).Nodup→∀ {x y:A×B},x∈L→y∈L→x.1=y.1→x=y
 |[],_,x,y,hx,_,_=>by cases hx
 |z::L,hn,x,y,hx,hy,he=>by
  rw[List.map_cons,List.nodup_cons] at hn
  rcases List.mem_cons.1 hx with hx1|hx1
  ·rcases List.mem_cons.1 hy with hy1|hy1
   ·rw[hx1,hy1]
   ·exact absurd (by rw[←hx1,he];exact List.mem_map_of_mem (f:=Prod.fst) hy1) hn.1
  ·rcases List.mem_cons.1 hy with hy1|hy1
   ·exact absurd (by rw[←hy1,←he];exact List.mem_map_of_mem (f:=Prod.fst) hx1) hn.1
   ·exact fst_inj L hn.2 hx1 hy1 he
def setAr (s:IS) (name:List UInt8) (l:List Nat):IS:={ s with ar:=fun x=>if x=name then l else s.ar x }
theorem ar_pick {ab:List (List UInt8×Nat×Nat)} {k:List UInt8} {b n:Nat} (s:IS):(ab.map (·.1)).Nodup→(k,b,n)∈ab→∃ F,(arH ab s).Perm ((b,.cells 43 ((s.ar k).map u32))::F)∧∀ l,(arH ab (setAr s k l)).Perm ((b,.cells 43 (l.map u32))::F):=by
 induction ab with
 |nil=>intro _ h;cases h
 |cons q r ih=>
  intro hn h
  rw[List.map_cons,List.nodup_cons] at hn
  have same:∀ (r:List (List UInt8×Nat×Nat)) l,k ∉ r.map (·.1)→arH r (setAr s k l)=arH r s:=fun r l hk=>by
   unfold arH
   refine List.map_congr_left fun p hp=>?_
   show (p.2.1,LObj.cells 43 ((if p.1=k then l else s.ar p.1).map u32))=_
   rw[if_neg (fun he=>hk (by rw[←he];exact List.mem_map_of_mem hp))]
  rcases List.mem_cons.1 h with rfl|h
  ·refine ⟨arH r s,List.Perm.refl _,fun l=>?_⟩
   show List.Perm ((b,LObj.cells 43 ((if k=k then l else s.ar k).map u32))::arH r (setAr s k l)) _
   rw[if_pos rfl,same r l hn.1]
  ·obtain ⟨F,h1,h2⟩:=ih hn.2 h
   have hne:¬ q.1=k:=fun he=>hn.1 (by rw[he];exact List.mem_map_of_mem (f:=Prod.fst) h)
   refine ⟨(q.2.1,.cells 43 ((s.ar q.1).map u32))::F,(List.Perm.cons _ h1).trans (List.Perm.swap _ _ _),fun l=>?_⟩
   show List.Perm ((q.2.1,LObj.cells 43 ((if q.1=k then l else s.ar q.1).map u32))::arH r (setAr s k l)) _
   rw[if_neg hne]
   exact (List.Perm.cons _ (h2 l)).trans (List.Perm.swap _ _ _)
theorem st_sc {c:Cfg} (hC:CfgOk c) {s:IS} {H:Heap} {k:List UInt8} {b:Nat} (hb:(k,b)∈c.sb) (hs:St c s H) :
  ∃ G,H.Perm ((b,.cells 43 [u32 (s.sc k)])::G)∧∀ x,∃ H',St c (setSc s k x) H'∧List.Perm ((b,.cells 43 [u32 x])::G) H':=by
 obtain ⟨hl,hle,v,Ha,hacc,rfl⟩:=hs
 obtain ⟨F,h1,h2⟩:=sc_pick s hC.keys hb
 have key:∀ (X S R:Heap) (p:Nat×LObj),S.Perm (p::F)→List.Perm (X++(S++R)) (p::(X++(F++R))):=fun X S R p h=>((h.append_right R).append_left X).trans List.perm_middle
 refine ⟨_,key (hdH c s v) _ _ _ h1,fun x=>⟨stH c (setSc s k x) v Ha,⟨hl,hle,v,Ha,hacc,rfl⟩,(key (hdH c s v) _ _ _ (h2 x)).symm⟩⟩
theorem st_ar {c:Cfg} (hC:CfgOk c) {s:IS} {H:Heap} {k:List UInt8} {b n:Nat} (hb:(k,b,n)∈c.ab) (hs:St c s H) :
  (s.ar k).length=n∧∃ G,H.Perm ((b,.cells 43 ((s.ar k).map u32))::G)∧∀ l,l.length=n→∃ H',St c (setAr s k l) H'∧List.Perm ((b,.cells 43 (l.map u32))::G) H':=by
 obtain ⟨hl,hle,v,Ha,hacc,rfl⟩:=hs
 have hn:=hl _ hb
 simp only at hn
 refine ⟨hn,?_⟩
 obtain ⟨F,h1,h2⟩:=ar_pick s hC.akeys hb
 have key:∀ (X S R:Heap) (p:Nat×LObj),S.Perm (p::F)→List.Perm (X++(S++R)) (p::(X++(F++R))):=fun X S R p h=>((h.append_right R).append_left X).trans List.perm_middle
 have asc:∀ (X S A R:Heap),X++(S++(A++R))=(X++S)++(A++R):=fun X S A R=>(List.append_assoc X S _).symm
 refine ⟨(hdH c s v++scH c.sb s)++(F++Ha),?_,fun l hln=>⟨stH c (setAr s k l) v Ha,⟨fun q hq=>?_,hle,v,Ha,hacc,rfl⟩,?_⟩⟩
 ·have:=key (hdH c s v++scH c.sb s) _ Ha _ h1
  rw[←asc] at this
  exact this
 ·show ((if q.1=k then l else s.ar q.1)).length=q.2.2
  split
  ·rename_i he
   have:q=(k,b,n):=by
    have h3:=hC.akeys
    exact fst_inj c.ab h3 hq hb he
   rw[this]
   exact hln
  ·exact hl q hq
 ·have:=key (hdH c s v++scH c.sb s) _ Ha _ (h2 l)
  rw[←asc] at this
  exact this.symm
theorem pick_in {p:Nat×LObj} {X H G:Heap} (h:H.Perm (p::G)):Pick p (X++H) (X++G):=(h.append_left X).trans List.perm_middle
theorem back_in {p:Nat×LObj} {X H G:Heap} (h:List.Perm (p::G) H):List.Perm (p::(X++G)) (X++H):=List.perm_middle.symm.trans (h.append_left X)
theorem setL_one:∀ (cs:List LV) (i:Nat) (v:LV),i<cs.length→setL cs i [v]=cs.set i v:=fun cs i v h=>by
 rw[setL_eq cs i [v] (by simp;omega),List.set_eq_take_append_cons_drop]
 rw[if_pos h]
 simp
def Good (c:Cfg) (n:Nat) (s:IS):Prop:=Bnd s∧s.left≤n∧s.out.length+s.left≤c.lim
theorem ev_good {c:Cfg} (hC:CfgOk c) {n m:Nat} {f:FnD} {x:Ex} {s s':IS} {v:Nat} (hx:numE x) (hg:Good c m s) (h:evI c.p n f x s=.ok v s'):Good c m s'∧v<4294967296∧s'.left<s.left:=by
 have h1:=(bd_all hC.nums n).1 f x s hx hg.1
 have h2:=(few_all c.p n).1 f x s
 have h3:=ev_less c.p n f x s s' v h
 rw[h] at h1 h2
 unfold Few at h2
 simp only[IR.st] at h2
 exact ⟨⟨h1.2,Nat.le_trans (Nat.le_of_lt h3) hg.2.1,by have:=hg.2.2;omega⟩,h1.1,h3⟩
theorem st_good {c:Cfg} (hC:CfgOk c) {n m:Nat} {f:FnD} {x:Sm} {s s':IS} {r:Option Nat} (hx:numS x) (hg:Good c m s) (h:stI c.p n f x s=.ok r s'):Good c m s'∧OptLt r:=by
 have h1:=(bd_all hC.nums n).2 f x s hx hg.1
 have h2:=(few_all c.p n).2 f x s
 have h3:=((grow_all c.p n).2 f x s).2
 rw[h] at h1 h2 h3
 unfold Few at h2
 simp only[IR.st] at h2 h3
 exact ⟨⟨h1.2,Nat.le_trans h3 hg.2.1,by have:=hg.2.2;omega⟩,h1.1⟩
theorem blk_good {c:Cfg} (hC:CfgOk c) {n m:Nat} {f:FnD} {l:List Sm} {s s':IS} {r:Option Nat} (hx:numSs l) (hg:Good c m s) (h:blkR (stI c.p n f) l s=.ok r s'):Good c m s'∧OptLt r:=by
 have h1:=blkR_bd l s (fun a ha s hs=>(bd_all hC.nums n).2 f a s (numSs_mem hx ha) hs) hg.1
 have h2:=blkR_few ((few_all c.p n).2 f) l s
 have h3:=(blkR_grow ((grow_all c.p n).2 f) l s).2
 rw[h] at h1 h2 h3
 unfold Few at h2
 simp only[IR.st] at h2 h3
 exact ⟨⟨h1.2,Nat.le_trans h3 hg.2.1,by have:=hg.2.2;omega⟩,h1.1⟩
theorem mapR_step {A B:Type} (g:A→IS→IR Nat) (a:A) (l:List A) (s:IS) (F:List Nat→IS→IR B):(mapR g (a::l) s).bind F=(g a s).bind fun v s=>(mapR g l s).bind fun vs s=>F (v::vs) s:=by
 rw[mapR]
 cases g a s with
 |stop e s=>rfl
 |ok v s=>
  show ((mapR g l s).bind _).bind F=_
  cases hm:mapR g l s with
  |stop e s=>show _=(mapR g l _).bind _;rw[hm];rfl
  |ok vs s=>show _=(mapR g l _).bind _;rw[hm];rfl
end Go.Proofs.YtcbpcianefpniaaGreatDoor.Inp
namespace Go.Proofs.YtcbpcianefpniaaGreatDoor.Inp
open Go.GL Go.RowKit Go.Stele
set_option maxRecDepth 100000
set_option maxHeartbeats 4000000
abbrev cenv (c:Cfg) (kn:List FSum) (f:FnD):CEnv:=envF c.p.vars (c.p.arrays.map (·.name)) (c.p.funcs.map (·.name)) kn f
def EvalH (B0:Nat) (w0:World) (c:Cfg) (n:Nat):Prop:=∀ (f:FnD) (kn:List FSum) (x:Ex) (s:IS) (H:Heap),f∈c.p.funcs→Known c.p.funcs kn→errE (cenv c kn f) x=0→numE x→smE x→Good c n s→St c s H →
 LCalls (KC B0 w0) 158 [ptr c.rb 0,encFn f,encE x] H (PostI c u32 (evI c.p n f x s))
def ExecH (B0:Nat) (w0:World) (c:Cfg) (n:Nat):Prop:=∀ (f:FnD) (kn:List FSum) (x:Sm) (s:IS) (H:Heap),f∈c.p.funcs→Known c.p.funcs kn→errS (cenv c kn f) x=0→numS x→smS x→Good c n s→St c s H →
 LCalls (KC B0 w0) 109 [ptr c.rb 0,encFn f,encS x] H (PostI c retV (stI c.p n f x s))
def BlkH (B0:Nat) (w0:World) (c:Cfg) (n:Nat):Prop:=∀ (f:FnD) (kn:List FSum) (l:List Sm) (s:IS) (H:Heap),f∈c.p.funcs→Known c.p.funcs kn→errSs (cenv c kn f) l=0→numSs l→Few6 l.length→smSs l→Good c n s→St c s H →
 LCalls (KC B0 w0) 76 [ptr c.rb 0,encFn f,.list (l.map encS)] H (PostI c retV (blkR (stI c.p n f) l s))
theorem swap1 {x:Nat×LObj} {H:Heap}:(x::H).Perm (H++[x]):=List.perm_append_comm (l₁:=[x])
theorem swap2 {x y:Nat×LObj} {H:Heap}:(x::y::H).Perm (H++[x,y]):=List.perm_append_comm (l₁:=[x,y])
theorem hsub_left {H F:Heap}:HSub H (H++F):=⟨F,List.Perm.refl _⟩
theorem hsub_keep {H:Heap} {x y:Nat×LObj}:HSub (y::H) (H++[x,y]):=⟨[x],by
 refine (List.perm_append_comm (l₂:=[x,y])).trans ?_
 exact (List.Perm.swap y x H).trans (List.Perm.cons y swap1)⟩
theorem get_mid {A B:Type} (g:A→B) (pre:List A) (a:A) (l:List A):((pre++a::l).map g)[((pre.length:Nat):Int).toNat]? = some (g a):=by
 rw[Int.toNat_natCast,List.getElem?_map,List.getElem?_append_right (Nat.le_refl _),Nat.sub_self]
 rfl
attribute [local irreducible] LOps LCode LStep LCalls Go.GL.Pure QThen QBlock RetPost LQ LAny LLate LLateOp
section
variable {B0:Nat} {w0:World}
theorem block_spec {c:Cfg} (hC:CfgOk c) {n:Nat} (hX:ExecH B0 w0 c n):BlkH B0 w0 c n:=by
 intro f kn l s H hf hk hv hnum hlen6 hsm hg hs
 refine cI Tryz.func76 rfl (n:=28) rfl rfl rfl ?_
 refine gag ?_
 refine oS (S.box rfl fun b4=>?_) rfl
 refine gac ?_
 refine oL (fun k ls H'=>∃ (pre l1:List Sm) (s1:IS) (Hs:Heap),l=pre++l1∧k=l1.length∧ls=[(0,ptr c.rb 0),(4,ptr b4 0),(12,.list (l.map encS)),(13,int .i64 ((l.map encS).length:Int)),(14,int .i64 (pre.length:Int))]∧H'=(b4,.cells 63 [str f.name,.list (f.params.map str),.list (f.locals.map str),.list (f.body.map encS)])::Hs∧St c s1 Hs∧Good c n s1∧errSs (cenv c kn f) l1=0∧numSs l1∧smSs l1∧blkR (stI c.p n f) l s=blkR (stI c.p n f) l1 s1)
  ⟨l.length,_,_,⟨[],l,s,H,rfl,rfl,rfl,rfl,hs,hg,hv,hnum,hsm,rfl⟩,⟨rfl,rfl,rfl,rfl,rfl,trivial⟩,HSub.refl _⟩ ?_
 rintro k ls H' ⟨pre,l1,s1,Hs,hl,rfl,rfl,rfl,hs1,hg1,hv1,hn1,hm1,hI⟩ j hj
 have hl6:pre.length≤2000000:=by
  have h6:l.length≤2000000:=hlen6
  rw[hl,List.length_append] at h6
  omega
 refine gak ?_
 refine oC rfl (fun hc=>?_) (fun hc=>?_)
 ·have hlen:=zt hc
  rw[List.length_map,hl,List.length_append] at hlen
  obtain ⟨a,l2,rfl⟩:∃ a l2,l1=a::l2:=by
   cases l1 with
   |nil=>simp at hlen
   |cons a l2=>exact ⟨a,l2,rfl⟩
  rw[errSs] at hv1
  obtain ⟨hva,hvl⟩:=orE_zero.1 hv1
  rw[blkR] at hI
  refine gal ?_
  refine oP (xR (el':=encS a) (cs:=[_,_,_,_,_,_]) rfl rfl zo (by rw[hl];exact get_mid encS pre a l2) rfl rfl) rfl ?_
  refine gab ?_
  refine oS (S.alloc fun b9=>?_) rfl
  refine gaa ?_
  refine oS (S.callI [_,_,_] rfl swap2 (hX f kn a s1 Hs hf hk hva hn1.1 hm1.1 hg1 hs1) (fun r s2 H2 hr hs2=>?_) (fun er s2 H2 hr hs2 e' he'=>?_)) rfl
  ·obtain ⟨hg2,_⟩:=st_good hC hn1.1 hg1 hr
   rw[hr] at hI
   cases r with
   |none=>
    refine gaa ?_
    refine oC rfl (fun hd=>?_) (fun hd=>?_)
    ·cases hd
    ·refine gar ?_
     exact ⟨l2.length,_,_,Nat.lt_succ_self _,⟨pre++[a],l2,s2,H2,by rw[hl];simp,rfl,rfl,rfl,hs2,hg2,hvl,hn1.2,hm1.2,hI⟩,⟨rfl,rfl,rfl,rfl,int_eq (by simp),trivial⟩,hsub_keep,hj⟩
   |some v=>
    refine gaa ?_
    refine oC rfl (fun hd=>?_) (fun hd=>?_)
    ·refine gap ?_
     exact retI (v:=some v) hj (rC (zrt rfl) (zra rfl)) hI rfl hsub_left hs2
    ·cases hd
  ·refine gae ?_
   rw[hr] at hI
   exact panI_ (he'.trans hj) hI hsub_left hs2
 ·have hlen:=zf hc
  rw[List.length_map,hl,List.length_append] at hlen
  obtain rfl:l1=[]:=by
   cases l1 with
   |nil=>rfl
   |cons a l2=>simp at hlen;omega
  refine gac ?_
  exact retI (v:=none) hj (rC (zrt rfl) (zra rfl)) (hI.trans rfl) rfl (zhD zhr) hs1
end
end Go.Proofs.YtcbpcianefpniaaGreatDoor.Inp
namespace Go.GL
open Go.RowKit
section
variable {C:Ctx} {n:Nat} {Q:Post} {e:Env} {H:Heap} {k:Env→Heap→Prop}
theorem LCode.mid {A:Type} {c:Code} (l:A→List (Nat×LV)) (H1:A→Heap) (F:A→Prop) (hx:LCode C n c (QThen (fun e' H'=>∃ a,F a∧At (l a) (H1 a) e.ds e' H') Q) e H) (hy:∀ a,F a→∀ j:Env,j.ds=e.ds→k (Env.slots j (l a)) (H1 a)):LCode C n c (QThen k Q) e H:=by
 refine LCode.conseq hx ?_
 rintro ex e' H' hq
 cases ex with
 |normal=>
  obtain ⟨a,hF,h1,rfl,h3⟩:=hq
  have:=hy a hF e' h3
  rw[Env.slots_self h1.mem] at this
  exact this
 |exit id=>exact hq
 |goto id=>exact hq
 |ret=>exact hq
 |panic ch=>exact hq
 |outgrown=>exact hq
theorem LCode.midC {A:Type} {c c2:Code} {Q2:Post} (l:A→List (Nat×LV)) (H1:A→Heap) (F:A→Prop) (hx:LCode C n c (QThen (fun e' H'=>∃ a,F a∧AllSlots e' (l a)∧HSub (H1 a) H'∧e'.ds=e.ds) Q) e H) (hy:∀ a,F a→∀ j:Env,j.ds=e.ds→LCode C n c2 Q2 (Env.slots j (l a)) (H1 a)):LCode C n c (QThen (fun e H=>LCode C n c2 Q2 e H) Q) e H:=by
 refine LCode.conseq hx ?_
 rintro ex e' H' hq
 cases ex with
 |normal=>
  obtain ⟨a,hF,h1,h2,h3⟩:=hq
  have:=hy a hF e' h3
  rw[Env.slots_self h1.mem] at this
  exact LCode.weak h2 this
 |exit id=>exact hq
 |goto id=>exact hq
 |ret=>exact hq
 |panic ch=>exact hq
 |outgrown=>exact hq
theorem cells_sub {w:World} {L:Live} {b ty:Nat} {cs cs':List LV} {F:Heap} (hp:Pick (b,.cells ty cs) H F) (hs:SubL cs cs') (hH:RelH C w L H):RelH C w L ((b,.cells ty cs')::F):=by
 have h1:=hH.perm hp
 refine ⟨h1.base,h1.lbase,h1.b0,h1.wf,h1.nodup,fun p hp=>?_⟩
 rcases List.mem_cons.1 hp with rfl|hp
 ·obtain ⟨r1,r2,r3,xs,r4,r5⟩:=h1.objs _ List.mem_cons_self
  exact ⟨r1,r2,r3,xs,r4,hs.repL r5⟩
 ·exact h1.objs p (List.mem_cons_of_mem _ hp)
theorem pick_keys {b ty:Nat} {cs cs':List LV} {F:Heap} (hp:Pick (b,.cells ty cs) H F):∀ x,x∈keys ((b,LObj.cells ty cs')::F)→x∈keys H:=fun x hx=>by
 have:keys ((b,LObj.cells ty cs')::F)=keys ((b,LObj.cells ty cs)::F):=rfl
 rw[this] at hx
 exact ((hp.map (·.1)).mem_iff).2 hx
theorem LCode.cellSub {c:Code} {b ty:Nat} {cs cs':List LV} {F:Heap} (hp:Pick (b,.cells ty cs) H F) (hs:SubL cs cs') (h:LCode C n c Q e ((b,.cells ty cs')::F)):LCode C n c Q e H:=fun a w L hE hH=>
 Go.wp_mono (h a w L hE (cells_sub hp hs hH)) fun _ _ _=>lift_weak (pick_keys hp)
theorem LOps.perm {ops:Array Oper} {rest:List Oper} {H':Heap} (s:H.Perm H') (h:LOps C n ops Q rest e H'):LOps C n ops Q rest e H:=LOps.weak ⟨[],by simpa using s⟩ h
end
section
variable {C:Ctx} {e:Env} {H:Heap} {dst:Option Nat} {ty:TypeId} {pos:String} {aft:Array Edge} {g:Option (Nat×Bool)} {x:Operand}
theorem Pure.assertOk {t xT:TypeId} [ht:TConcrete C.P t] {vs:List Value} (hx:e.ev x=.atom (.iface t (.agg vs.toArray))):Pure C ⟨dst,.typeAssert x xT t true,ty,pos,aft,g⟩ e H (.tuple [.agg (vs.map .atom),bool true]):=
 .of_any fun ρ w L h=>⟨.tuple #[.agg vs.toArray,.bool true],by
  simp only[Rep]
  exact ⟨[.agg vs.toArray,.bool true],rfl,by simp only[RepL,Rep];exact ⟨_,_,rfl,⟨vs,rfl,repL_atoms vs⟩,_,_,rfl,rfl,rfl⟩⟩,fun w'=>by
  obtain ⟨d,hd,hm⟩:=ht.out
  have h3:execOp ρ ⟨dst,.typeAssert x xT t true,ty,pos,aft,g⟩=(do Pure.pure (.value (←Instr.typeAssert (ρ x) xT t true))):=rfl
  rw[h3,atom_of h hx]
  simp only[Instr.typeAssert,Sem.run_bind,run_underlying' hd,Result.andThen_ok]
  cases d <;> simp_all⟩
end
theorem LLate.three {C:Ctx} {n:Nat} {ops:Array Oper} {Q:Post} {HF:Heap} {fuel:Nat} {listed:Array Bool} {e:Env} {H:Heap} {i j k:Nat} (hr:Region.ready .any ops listed=[i,j,k]) (h1:LLateOp C n ops Q HF fuel listed e H i) (h2:LLateOp C n ops Q HF fuel listed e H j) (h3:LLateOp C n ops Q HF fuel listed e H k):LLate C n ops Q HF (fuel+1) listed e H:=
 LLate.all hr (by simp) fun q hq=>by
  simp only[List.mem_cons,List.not_mem_nil,or_false] at hq
  rcases hq with rfl|rfl|rfl
  ·exact h1
  ·exact h2
  ·exact h3
theorem LLate.four {C:Ctx} {n:Nat} {ops:Array Oper} {Q:Post} {HF:Heap} {fuel:Nat} {listed:Array Bool} {e:Env} {H:Heap} {i j k l:Nat} (hr:Region.ready .any ops listed=[i,j,k,l]) (h1:LLateOp C n ops Q HF fuel listed e H i) (h2:LLateOp C n ops Q HF fuel listed e H j) (h3:LLateOp C n ops Q HF fuel listed e H k) (h4:LLateOp C n ops Q HF fuel listed e H l):LLate C n ops Q HF (fuel+1) listed e H:=
 LLate.all hr (by simp) fun q hq=>by
  simp only[List.mem_cons,List.not_mem_nil,or_false] at hq
  rcases hq with rfl|rfl|rfl|rfl
  ·exact h1
  ·exact h2
  ·exact h3
  ·exact h4
theorem strs_len (l:List (List UInt8)):∀ v∈l.map str,v.cells.length=1:=fun v hv=>by
 obtain ⟨x,_,rfl⟩:=List.mem_map.1 hv
 rfl
theorem strs_ok:∀ l:List (List UInt8),((l.map str).flatMap LV.cells).all cellOk=true
 |[]=>rfl
 |x::l=>by
  rw[List.map_cons,List.flatMap_cons,List.all_append,strs_ok l]
  rfl
end Go.GL
/- A small logic over the walk's 'Code.wp': structs of a string and an int, compared. -/
namespace Go.GL
open Go.RowKit
section
variable {C:Ctx} {e:Env} {H:Heap} {dst:Option Nat} {ty:TypeId} {pos:String} {aft:Array Edge} {g:Option (Nat×Bool)} {xT yT:TypeId} {x y:Operand}
end
end Go.GL
namespace Go.GL
open Go.RowKit
section
variable {C:Ctx} {n:Nat} {ops:Array Oper} {Q:Post} {HF:Heap} {fuel:Nat} {listed:Array Bool} {e:Env} {H F:Heap} {i:Nat} {dst:Option Nat} {op:Op} {ty:TypeId} {pos:String} {aft:Array Edge}
theorem LLate.weakH {H':Heap} (s:HSub H' H) (h:LLate C n ops Q HF fuel listed e H'):LLate C n ops Q HF fuel listed e H:=fun w0 L0 a w L hL hA hsz hE hH=>
 wpAnyH_mono (fun _ _ _=>lift_weak s.keys) _ _ _ _ (h w0 L0 a w L hL hA hsz hE (hH.weak s))
end
end Go.GL
namespace Go.Proofs.YtcbpcianefpniaaGreatDoor.Inp
open Go.GL Go.RowKit Go.Stele
set_option maxRecDepth 100000
set_option maxHeartbeats 4000000
theorem bind_ok {A B:Type} {v:A} {s:IS} {f:A→IS→IR B}:(IR.ok v s).bind f=f v s:=rfl
theorem bind_stop {A B:Type} {e:Int} {s:IS} {f:A→IS→IR B}:(IR.stop e s).bind f=.stop e s:=rfl
theorem errS_parts {c:CEnv} {kind:Int} {name:List UInt8} {index value:List Ex} {thn els:List Sm} (h:errS c (.mk kind name index value thn els)=0) :
  formS (.mk kind name index value thn els)=true∧errEs c value=0∧errEs c index=0∧(if kind=1 then scalarE c name else if kind=2 then arrayE c name else 0)=0∧errSs c thn=0∧errSs c els=0:=by
 rw[errS] at h
 split at h
 ·cases h
 ·rename_i hf
  obtain ⟨h1,h⟩:=orE_zero.1 h
  obtain ⟨h2,h⟩:=orE_zero.1 h
  obtain ⟨h3,h⟩:=orE_zero.1 h
  obtain ⟨h4,h5⟩:=orE_zero.1 h
  exact ⟨by simpa using hf,h1,h2,h3,h4,h5⟩
theorem form_value {kind:Int} {name:List UInt8} {index value:List Ex} {thn els:List Sm} (h:formS (.mk kind name index value thn els)=true) (h7:¬ kind=7):∃ x,value=[x]:=by
 have h1:value.length=1:=by
  simp only[formS] at h
  repeat' (split at h)
  all_goals first
   |(simp only[decide_eq_true_eq] at h;omega)
   |cases h
   |contradiction
 cases value with
 |nil=>cases h1
 |cons x l=>
  cases l with
  |nil=>exact ⟨x,rfl⟩
  |cons y l=>simp at h1
theorem form_index {name:List UInt8} {index value:List Ex} {thn els:List Sm} (h:formS (.mk 2 name index value thn els)=true):∃ x,index=[x]:=by
 have h1:index.length=1:=by
  simp only[formS] at h
  simp only[show ¬ ((2:Int)=1) by decide,if_false,if_true,decide_eq_true_eq] at h
  exact h.2.1
 cases index with
 |nil=>cases h1
 |cons x l=>
  cases l with
  |nil=>exact ⟨x,rfl⟩
  |cons y l=>simp at h1
theorem whl_step {P:Pr} {n m v:Nat} {f:FnD} {x:Ex} {thn:List Sm} {s:IS} (hm:s.left≤m) (hv:¬ v=0):whlR (evI P n f x) (blkR (stI P n f) thn) m v s=(blkR (stI P n f) thn s).bind fun r s=>match r with
  |some y=>.ok (some y) s
  |none=>(evI P n f x s).bind fun v s=>whlR (evI P n f x) (blkR (stI P n f) thn) (m-1) v s:=by
 cases m with
 |succ m=>rw[whlR,if_neg hv];rfl
 |zero=>
  have h0:s.left=0:=by omega
  have ht:tick s=.stop 13 s:=by rw[tick,if_pos h0]
  have he:evI P n f x s=.stop 13 s:=by
   cases n with
   |zero=>rw[evI]
   |succ n=>
    obtain ⟨op,num,name,args⟩:=x
    rw[evI,ht,bind_stop]
  rw[whlR,if_neg hv]
  cases thn with
  |nil=>
   rw[blkR,bind_ok]
   show _=(evI P n f x s).bind _
   rw[he,bind_stop]
  |cons a l=>
   have hs:stI P n f a s=.stop 13 s:=by
    cases n with
    |zero=>rw[stI]
    |succ n=>
     obtain ⟨k,nm,i,va,t,e⟩:=a
     rw[stI,ht,bind_stop]
   rw[blkR,hs,bind_stop,bind_stop]
section steps
variable {C:Ctx} {n:Nat} {e:Env} {H:Heap} {dst:Option Nat} {ty:TypeId} {pos:String} {aft:Array Edge} {g:Option (Nat×Bool)} {K:LV→Heap→Prop} {X:List PanicEntry→Heap→Prop}
theorem LStep.callI {A:Type} {c:Cfg} {enc:A→LV} {r:IR A} {f:FuncId} [TEnter C.P f] (args:List Operand) {ats:Array TypeId} {av:List LV} (has:args.map e.ev=av)
  (hc:LCalls C f av H (PostI c enc r)) (hk:∀ v s H',r=.ok v s→St c s H'→K (enc v) H') (hx:∀ er s H',r=.stop er s→St c s H'→X (panI er) H') :
  LStep C ⟨dst,.call { callee:=.value (.func f),args:=args.toArray,argTypes:=ats },ty,pos,aft,g⟩ e H K X:=by
 refine LStep.conseq (S.callI (F:=[]) (K:=fun lv H'=>K lv H') (X:=X) args has (by rw[List.append_nil]) hc (fun v s H' h1 h2=>by rw[List.append_nil];exact hk v s H' h1 h2) (fun er s H' h1 h2=>by rw[List.append_nil];exact hx er s H' h1 h2)) (fun lv H' h=>⟨lv,H',LV.Sub.refl _,HSub.refl _,h⟩)
end steps
attribute [local irreducible] LOps LCode LStep LCalls Go.GL.Pure QThen QBlock RetPost LQ LAny LLate LLateOp LS
section
variable {B0:Nat} {w0:World}
theorem execute_spec {c:Cfg} (hC:CfgOk c) {n:Nat} (hE:EvalH B0 w0 c n) (hB:BlkH B0 w0 c n):ExecH B0 w0 c (n+1):=by
 intro f kn x s H hf hk hv hnum hsm hg hs
 obtain ⟨kind,name,index,value,thn,els⟩:=x
 obtain ⟨hform,hval,hidx,hname,hthn,hels⟩:=errS_parts hv
 obtain ⟨hn1,hn2,hn3,hn4⟩:=hnum
 obtain ⟨hm1,hm2,hm3,hm4,hm5,hm6,hm7,hm8⟩:=hsm
 generalize hI:stI c.p (n+1) f (Sm.mk kind name index value thn els) s=R
 rw[stI] at hI
 rw[encS_mk]
 refine cI Tryz.func109 rfl (n:=93) rfl rfl rfl ?_
 refine gag ?_
 refine oS (S.box rfl fun b4=>?_) rfl
 refine oS (S.box rfl fun b5=>?_) rfl
 refine gay ?_
 refine oS (S.callI [_] rfl swap2 (step_spec hC hs) (fun u s1 H1 hr hs1=>?_) (fun er s1 H1 hr hs1 e' he'=>?_)) rfl
 rotate_left
 ·refine gam ?_
  rw[hr,bind_stop] at hI
  exact panI_ (he'.trans rfl) hI.symm hsub_left hs1
 have hg1:Good c n s1:=by
  have h1:=tick_less hr
  have h2:=tick_bd hg.1
  rw[hr] at h2
  have h3:s1.out=s.out:=by
   unfold tick at hr
   split at hr
   ·cases hr
   ·cases hr;rfl
  exact ⟨h2.2,by have:=hg.2.1;omega,by rw[h3];have:=hg.2.2;omega⟩
 rw[hr,bind_ok] at hI
 refine LOps.perm (swap2 (H:=H1)).symm ?_
 refine gac ?_
 refine oC rfl (fun hc=>?_) (fun hc=>?_)
 ·have h7:kind=7:=zt hc
  rw[if_pos h7] at hI
  refine gaa ?_
  refine oS (LStep.panic rfl fun e' he'=>?_) rfl
  refine gam ?_
  exact panI_ (he'.trans rfl) hI.symm (zhD (zhD zhr)) hs1
 have h7:¬ kind=7:=zf hc
 rw[if_neg h7] at hI
 obtain ⟨x0,rfl⟩:=form_value hform h7
 rw[errEs] at hval
 obtain ⟨hv0,_⟩:=orE_zero.1 hval
 refine gad ?_
 refine LCode.tail 6 zk ?_
 refine gab ?_
 refine LS.pure (xR (el':=encE x0) (cs:=[_,_,_,_]) rfl rfl zo rfl rfl rfl) rfl ?_
 refine gab ?_
 refine oS (S.callI [_,_,_] rfl swap2 (hE f kn x0 s1 H1 hf hk hv0 hn2.1 hm6.1 hg1 hs1) (fun v s2 H2 hr2 hs2=>?_) (fun er s2 H2 hr2 hs2 e' he'=>?_)) rfl
 rotate_left
 ·refine gam ?_
  rw[show ([x0]:List Ex).headD default=x0 from rfl,hr2,bind_stop] at hI
  exact panI_ (he'.trans rfl) hI.symm hsub_left hs2
 obtain ⟨hg2,hv2,hlt2⟩:=ev_good hC hn2.1 hg1 hr2
 rw[show ([x0]:List Ex).headD default=x0 from rfl,hr2,bind_ok] at hI
 refine LOps.perm (swap2 (H:=H2)).symm ?_
 refine gac ?_
 by_cases hk1:kind=1
 ·subst hk1
  rw[if_pos rfl] at hI
  rw[if_pos rfl] at hname
  have hpl:=key_placed hf hname
  obtain ⟨b,hb1,hb2⟩:=hC.block hpl
  obtain ⟨G,hG1,hG2⟩:=st_sc hC hb1 hs2
  obtain ⟨H3,hs3,hp3⟩:=hG2 v
  refine oC rfl (fun hc=>?_) (fun hc=>by cases hc)
  refine gaa ?_
  refine oS (S.callS [_,_,_] rfl swap2 (scalar_spec hC hs2 hf hpl hb2) ?_) rfl
  refine LOps.perm (swap2 (H:=H2)).symm ?_
  refine gab ?_
  refine oS (S.store (cs':=[u32 v]) rfl (pick_in (X:=[_,_]) hG1) rfl rfl rfl rfl rfl ?_) rfl
  refine LOps.perm (back_in (X:=[_,_]) hp3) ?_
  refine gac ?_
  exact retI (v:=none) rfl (rC (zrt rfl) (zra rfl)) hI.symm rfl (zhD (zhD zhr)) hs3
 refine oC rfl (fun hc=>absurd (zt hc) hk1) (fun _=>?_)
 rw[if_neg hk1] at hI hname
 refine gas ?_
 by_cases hk2:kind=2
 ·subst hk2
  rw[if_pos rfl] at hI hname
  obtain ⟨i0,rfl⟩:=form_index hform
  rw[errEs] at hidx
  obtain ⟨hi0,_⟩:=orE_zero.1 hidx
  have hpl:name∈c.p.arrays.map (·.name):=by
   unfold arrayE at hname
   split at hname
   ·rename_i h
    exact h
   ·split at hname <;> cases hname
  obtain ⟨b,m,hb1,hb2⟩:=hC.arr hpl
  refine oC rfl (fun hc=>?_) (fun hc=>by cases hc)
  refine LCode.draw (m:=14) rfl [(b5,.cells 128 [int .i64 2,str name,.list ([i0].map encE),.list ([x0].map encE),.list (thn.map encS),.list (els.map encS)]),(b4,.cells 63 [str f.name,.list (f.params.map str),.list (f.locals.map str),.list (f.body.map encS)])] ?_
  refine aT 0 rfl rfl (Pure.mv (lv:=.atom _) rfl) ?_
  refine aT 1 rfl rfl (Pure.fieldH rfl) ?_
  refine aT 2 rfl rfl (Pure.loadH (c:=.atom _) rfl zm0 rfl) ?_
  refine aT 3 rfl rfl (Pure.mv (lv:=.atom _) rfl) ?_
  refine aT 4 rfl rfl (Pure.ldHAgg (cs':=[_,_,_,_]) rfl zm1 rfl rfl) ?_
  refine aT 5 rfl rfl (Pure.fieldH rfl) ?_
  refine aT 6 rfl rfl (Pure.loadH (c:=.list _) rfl zm0 rfl) ?_
  refine LAny.take (i:=7) (zhP pH zhp) rfl zk zk zk rfl (xR (el':=encE i0) (cs:=[_,_,_,_]) rfl rfl zo rfl rfl rfl) ?_
  refine aT 8 rfl rfl (Pure.ldRefAgg (cs':=[_,_,_,_]) rfl rfl rfl) ?_
  refine aT 11 rfl rfl (Pure.mv (lv:=.atom _) rfl) ?_
  refine LAny.late ?_ (zhP pH zhp)
  refine lO 9 (lS (H1:=H2) rfl (.inl rfl) rfl swap2 zhr (LStep.callI [_,_,_] rfl (hE f kn i0 s2 H2 hf hk hi0 hn1.1 hm5.1 hg2 hs2) (fun i s3 H3 hr3 hs3=>?_) (fun er s3 H3 hr3 hs3 e' he'=>?_)))
  rotate_left
  ·refine gae ?_
   rw[show ([i0]:List Ex).headD default=i0 from rfl,hr3,bind_stop] at hI
   exact panI_ (he'.trans rfl) hI.symm hsub_left hs3
  obtain ⟨hg3,hv3,_⟩:=ev_good hC hn1.1 hg2 hr3
  rw[show ([i0]:List Ex).headD default=i0 from rfl,hr3,bind_ok] at hI
  obtain ⟨hlen,G,hG1,hG2⟩:=st_ar hC hb1 hs3
  by_cases hin:i<m
  ·have hget:(s3.ar name)[i]? = some (s3.ar name)[i]:=List.getElem?_eq_getElem zo
   rw[hget] at hI
   refine lO 10 (lS (H1:=H3) rfl (.inl rfl) rfl zpr zhr (LStep.call (args:=[_,_,_]) (element_spec hC hs3 hb1 hb2 hv3) ?_ ?_))
   ·rintro lv H' ⟨rfl,h⟩
    rw[if_pos hin] at h
    cases h
    refine lO 12 (lH rfl rfl (Pure.nilCheckH rfl) ?_)
    obtain ⟨H4,hs4,hp4⟩:=hG2 ((s3.ar name).set i v) (by rw[List.length_set];exact hlen)
    refine lO 13 (lS (H1:=H') rfl (.inl rfl) rfl zpr zhr (S.store (cs':=((s3.ar name).set i v).map u32) rfl hG1 rfl rfl ?_ rfl ?_ ?_))
    ·rw[List.length_map,hlen]
     simp
     omega
    ·rw[setL_one _ _ _ (by rw[List.length_map];omega),List.map_set]
    ·refine LLate.weakH (H':=H4++_) ⟨[],by rw[List.append_nil];exact hp4.append_right _⟩ ?_
     refine lD zk ?_
     refine gac ?_
     exact retI (v:=none) rfl (rC (zrt rfl) (zra rfl)) hI.symm rfl hsub_left hs4
   ·rintro ch H' ⟨rfl,h⟩
    rw[if_pos hin] at h
    cases h
  ·have hget:(s3.ar name)[i]? = none:=List.getElem?_eq_none zo
   rw[hget] at hI
   refine lO 10 (lS (H1:=H3) rfl (.inl rfl) rfl zpr zhr (LStep.call (args:=[_,_,_]) (element_spec hC hs3 hb1 hb2 hv3) ?_ ?_))
   ·rintro lv H' ⟨rfl,h⟩
    rw[if_neg hin] at h
    cases h
   ·rintro ch H' ⟨rfl,h⟩ e' he'
    rw[if_neg hin] at h
    cases h
    refine gae ?_
    exact panI_ (he'.trans rfl) hI.symm hsub_left hs3
 refine oC rfl (fun hc=>absurd (zt hc) hk2) (fun _=>?_)
 rw[if_neg hk2] at hI
 refine gas ?_
 by_cases hk5:kind=5
 ·subst hk5
  rw[if_pos rfl] at hI
  refine oC rfl (fun hc=>?_) (fun hc=>by cases hc)
  refine gap ?_
  exact retI (v:=some v) rfl (rC (zrt rfl) (zra rfl)) hI.symm rfl (zhD (zhD zhr)) hs2
 refine oC rfl (fun hc=>absurd (zt hc) hk5) (fun _=>?_)
 rw[if_neg hk5] at hI
 refine gas ?_
 by_cases hk3:kind=3
 ·subst hk3
  rw[if_pos rfl] at hI
  refine oC rfl (fun hc=>?_) (fun hc=>by cases hc)
  refine gaa ?_
  refine oC rfl (fun hd=>?_) (fun hd=>?_)
  ·have hv0':v≠0:=by
    intro h
    subst h
    cases hd
   rw[if_pos hv0'] at hI
   refine gaa ?_
   refine oS (S.callI [_,_,_] rfl swap2 (hB f kn thn s2 H2 hf hk hthn hn3 hm3 hm7 hg2 hs2) (fun r s3 H3 hr3 hs3=>?_) (fun er s3 H3 hr3 hs3 e' he'=>?_)) rfl
   ·rw[hr3] at hI
    refine gab ?_
    exact retI (v:=r) rfl (rC (zrt rfl) (zra rfl)) hI.symm rfl hsub_left hs3
   ·refine gae ?_
    rw[hr3] at hI
    exact panI_ (he'.trans rfl) hI.symm hsub_left hs3
  ·have hv0':¬ v≠0:=by
    intro h
    have h2:(!decide ((v:Int)=0))=false:=hd
    simp at h2
    omega
   rw[if_neg hv0'] at hI
   refine gaa ?_
   refine oS (S.callI [_,_,_] rfl swap2 (hB f kn els s2 H2 hf hk hels hn4 hm4 hm8 hg2 hs2) (fun r s3 H3 hr3 hs3=>?_) (fun er s3 H3 hr3 hs3 e' he'=>?_)) rfl
   ·rw[hr3] at hI
    refine gab ?_
    exact retI (v:=r) rfl (rC (zrt rfl) (zra rfl)) hI.symm rfl hsub_left hs3
   ·refine gae ?_
    rw[hr3] at hI
    exact panI_ (he'.trans rfl) hI.symm hsub_left hs3
 refine oC rfl (fun hc=>absurd (zt hc) hk3) (fun _=>?_)
 rw[if_neg hk3] at hI
 refine gas ?_
 by_cases hk4:kind=4
 ·subst hk4
  rw[if_pos rfl] at hI
  refine oC rfl (fun hc=>?_) (fun hc=>by cases hc)
  refine gad ?_
  refine oL (fun k ls H'=>∃ (m:Nat) (v1:Nat) (s3:IS) (Hs:Heap),k=s3.left∧s3.left≤m∧v1<4294967296∧ls=[(0,ptr c.rb 0),(4,ptr b4 0),(5,ptr b5 0),(8,u32 v1)]∧H'=(b5,.cells 128 [int .i64 4,str name,.list (index.map encE),.list ([x0].map encE),.list (thn.map encS),.list (els.map encS)])::(b4,.cells 63 [str f.name,.list (f.params.map str),.list (f.locals.map str),.list (f.body.map encS)])::Hs∧St c s3 Hs∧Good c n s3∧whlR (evI c.p n f x0) (blkR (stI c.p n f) thn) m v1 s3=R)
   ⟨_,_,_,⟨n,v,s2,H2,rfl,hg2.2.1,hv2,rfl,rfl,hs2,hg2,hI⟩,⟨rfl,rfl,rfl,rfl,trivial⟩,HSub.refl _⟩ ?_
  rintro k ls H' ⟨m,v1,s3,Hs,rfl,hm,hv1,rfl,rfl,hs3,hg3,hI3⟩ j hj
  refine gaa ?_
  by_cases hv0':v1=0
  ·subst hv0'
   rw[whlR_zero] at hI3
   refine oC rfl (fun hc=>by cases hc) (fun _=>?_)
   refine gac ?_
   exact retI (v:=none) hj (rC (zrt rfl) (zra rfl)) hI3.symm rfl (zhD (zhD zhr)) hs3
  ·rw[whl_step hm hv0'] at hI3
   refine oC rfl (fun _=>?_) (fun hd=>?_)
   rotate_left
   ·have h2:(!decide ((v1:Int)=0))=false:=hd
    simp at h2
    omega
   refine gaa ?_
   refine oS (S.callI [_,_,_] rfl swap2 (hB f kn thn s3 Hs hf hk hthn hn3 hm3 hm7 hg3 hs3) (fun r s4 H4 hr4 hs4=>?_) (fun er s4 H4 hr4 hs4 e' he'=>?_)) rfl
   rotate_left
   ·refine gae ?_
    rw[hr4,bind_stop] at hI3
    exact panI_ (he'.trans hj) hI3.symm hsub_left hs4
   rw[hr4,bind_ok] at hI3
   obtain ⟨hg4,_⟩:=blk_good hC hn3 hg3 hr4
   have hlt4:=(blkR_grow ((grow_all c.p n).2 f) thn s3).2
   rw[hr4] at hlt4
   refine LOps.perm (swap2 (H:=H4)).symm ?_
   cases r with
   |some y=>
    refine gaa ?_
    refine oC rfl (fun _=>?_) (fun hd=>by cases hd)
    refine gap ?_
    exact retI (v:=some y) hj (rC (zrt rfl) (zra rfl)) hI3.symm rfl (zhD (zhD zhr)) hs4
   |none=>
    refine gaa ?_
    refine oC rfl (fun hd=>by cases hd) (fun _=>?_)
    refine gad ?_
    refine LCode.tail 6 zk ?_
    refine gab ?_
    refine LS.pure (xR (el':=encE x0) (cs:=[_,_,_,_]) rfl rfl zo rfl rfl rfl) rfl ?_
    refine gab ?_
    refine oS (S.callI [_,_,_] rfl swap2 (hE f kn x0 s4 H4 hf hk hv0 hn2.1 hm6.1 hg4 hs4) (fun v5 s5 H5 hr5 hs5=>?_) (fun er s5 H5 hr5 hs5 e' he'=>?_)) rfl
    ·obtain ⟨hg5,hv5,hlt5⟩:=ev_good hC hn2.1 hg4 hr5
     rw[hr5,bind_ok] at hI3
     refine gaf ?_
     have hlt4':s4.left≤s3.left:=hlt4
     exact ⟨s5.left,_,_,by omega,⟨m-1,v5,s5,H5,rfl,by omega,hv5,rfl,rfl,hs5,hg5,hI3⟩,⟨rfl,rfl,rfl,rfl,trivial⟩,⟨[],by rw[List.append_nil];exact swap2.symm⟩,hj⟩
    ·refine gae ?_
     rw[hr5,bind_stop] at hI3
     exact panI_ (he'.trans hj) hI3.symm hsub_left hs5
 refine oC rfl (fun hc=>absurd (zt hc) hk4) (fun _=>?_)
 rw[if_neg hk4] at hI
 refine gac ?_
 exact retI (v:=none) rfl (rC (zrt rfl) (zra rfl)) hI.symm rfl (zhD (zhD zhr)) hs2
end
end Go.Proofs.YtcbpcianefpniaaGreatDoor.Inp
namespace Go.Proofs.YtcbpcianefpniaaGreatDoor.Inp
open Go.GL Go.RowKit Go.Stele
set_option maxRecDepth 100000
set_option maxHeartbeats 4000000
section
variable {C:Ctx} {e:Env} {H:Heap} {dst:Option Nat} {ty:TypeId} {pos:String} {aft:Array Edge} {g:Option (Nat×Bool)} {x:Operand}
theorem Pure.ltail {t el s:Nat} [ht:TSlice C.P t el s] {lo:Operand} {k:IntKind} {a:LV} {es:List LV} (hx:elems (e.ev x)=some (a::es)) (hlo:e.ev lo=int k 1) (hs:∀ v∈a::es,v.cells.length=s):Pure C ⟨dst,.slice t x (some lo) none none,ty,pos,aft,g⟩ e H (.list es):=by
 have:=Pure.lslice (t:=t) (C:=C) (H:=H) (dst:=dst) (ty:=ty) (pos:=pos) (aft:=aft) (g:=g) (lo:=some lo) (hi:=none) (i:=1) (j:=(((a::es).length:Nat):Int)) hx ⟨k,hlo⟩ rfl (by decide) (by simp only[List.length_cons];omega) (Int.le_refl _) hs
 have h2:((a::es).take (((a::es).length:Nat):Int).toNat).drop (1:Int).toNat=es:=by
  rw[Int.toNat_natCast,List.take_length]
  rfl
 rwa [h2] at this
end
theorem wrap_u8 (n:Nat):IntKind.u8.wrap (n:Int)=((UInt8.ofNat n).toNat:Int):=by
 have h:IntKind.u8.wrap (n:Int)=(n:Int) % 256:=by
  simp only[IntKind.wrap,IntKind.bits,IntKind.signed,Bool.false_and]
  rfl
 rw[h]
 have h2:(UInt8.ofNat n).toNat=n % 256:=by simp
 rw[h2]
 omega
theorem acc_one {s:Nat} {v:LV} {es:List LV} {H F:Heap} (h:GL.Acc s v es H F):v.cells? = some [v]∧([v].all cellOk)=true:=by
 cases h <;> exact ⟨rfl,rfl⟩
theorem u32_cells (l:List Nat):∀ v∈l.map u32,v.cells.length=1:=fun v hv=>by
 obtain ⟨a,_,rfl⟩:=List.mem_map.1 hv
 rfl
theorem out_perm (c:Cfg) (s:IS) (v:LV) (Ha:Heap):(stH c s v Ha).Perm (Ha++(hdH c s v++(scH c.sb s++arH c.ab s))):=by
 rw[stH_eq]
 have:hdH c s v++(scH c.sb s++(arH c.ab s++Ha))=(hdH c s v++(scH c.sb s++arH c.ab s))++Ha:=by simp only[List.append_assoc]
 rw[this]
 exact List.perm_append_comm
theorem out_eq (c:Cfg) (s:IS) (v:LV) (Ha:Heap):(hdH c s v++(scH c.sb s++arH c.ab s))++Ha=stH c s v Ha:=by
 rw[stH_eq]
 simp only[List.append_assoc]
theorem own_placed {c:Cfg} (hC:CfgOk c) {f:FnD} (hf:f∈c.p.funcs) {p:List UInt8} (hp:p∈f.params):keyI f p∈scalarsP c.p.vars c.p.funcs:=by
 unfold keyI
 rw[if_pos (.inl hp)]
 exact (own_key hC.valid.names hf p).2 (List.mem_append.2 (.inl hp))
theorem CfgOk.fn {c:Cfg} (hC:CfgOk c) {f:FnD} (hf:f∈c.p.funcs):GL.kvGet (fnKV c.p.funcs) f.name=some (encFn f):=
 kv_hit (A:=FnD) (·.name) encFn (List.nodup_append.1 (fresh_zero _ _ hC.valid.names).1).2.1 hf
attribute [local irreducible] LOps LCode LStep LCalls Go.GL.Pure QThen QBlock RetPost LQ LAny LLate LLateOp LS
section
variable {B0:Nat} {w0:World}
theorem call_spec {c:Cfg} (hC:CfgOk c) {n:Nat} (hB:BlkH B0 w0 c n) {f0:FnD} {kn:List FSum} (hk0:Known c.p.funcs kn) {name:List UInt8} {vs:List Nat} {s:IS} {H:Heap} (hv:callE (cenv c kn f0) name vs.length=0) (hvs:∀ v∈vs,Lt v)
  (hbd:Bnd s) (hleft:s.left≤n) (hroom:s.out.length+s.left+1≤c.lim) (hs:St c s H):LCalls (KC B0 w0) 187 [ptr c.rb 0,str name,.list (vs.map u32)] H (PostI c u32 (callI c.p (stI c.p n) name vs s)):=by
 have hs0:=hs
 have hlim:=hC.lim
 generalize hI:callI c.p (stI c.p n) name vs s=R
 unfold callI at hI
 refine cI Tryz.func187 rfl (n:=85) rfl rfl rfl ?_
 refine gac ?_
 by_cases hin:name=[105,110]
 ·subst hin
  rw[if_pos rfl] at hI
  obtain ⟨hl,hle,v,Ha,hacc,rfl⟩:=hs
  refine oC rfl (fun hc=>?_) (fun hc=>by cases hc)
  refine gaa ?_
  cases hinp:s.inp with
  |nil=>
   rw[hinp] at hI
   refine oC rfl (fun hc=>?_) (fun hc=>?_)
   ·refine gap ?_
    exact retI (v:=4294967295) rfl (zra rfl) hI.symm rfl zhr hs0
   ·cases hc
  |cons a r=>
   rw[hinp] at hI
   refine oC rfl (fun hc=>?_) (fun hc=>?_)
   ·have:=zt hc
    simp at this
    omega
   ·refine gaa ?_
    refine oP (xR (el':=u32 a) (cs:=[u32 a]) rfl rfl zo (by rw[hinp];rfl) rfl rfl) rfl ?_
    refine gaa ?_
    refine oP (Pure.ltail (a:=u32 a) (es:=r.map u32) (by rw[show elems _=some (s.inp.map u32) from rfl,hinp];rfl) rfl (u32_cells (a::r))) rfl ?_
    refine gaa ?_
    exact retI (v:=a) rfl (zra rfl) hI.symm rfl zhr ⟨hl,hle,v,Ha,hacc,rfl⟩
 refine oC rfl (fun hc=>absurd (zt hc) hin) (fun _=>?_)
 rw[if_neg hin] at hI
 unfold callE at hv
 rw[if_neg hin] at hv
 refine gai ?_
 by_cases hout:name=[111,117,116]
 ·subst hout
  rw[if_pos rfl] at hI hv
  obtain ⟨a,rfl⟩:∃ a,vs=[a]:=by
   match vs,hv with
   |[],hv=>cases hv
   |[a],_=>exact ⟨a,rfl⟩
   |_::_::_,hv=>
    split at hv
    ·rename_i h
     simp at h
    ·cases hv
  obtain ⟨hl,hle,v,Ha,hacc,rfl⟩:=hs
  refine oC rfl (fun hc=>?_) (fun hc=>by cases hc)
  refine gad ?_
  refine LCode.draw (m:=14) rfl [] ?_
  refine aT 0 rfl rfl (Pure.mv (lv:=.atom _) rfl) ?_
  refine aT 1 rfl rfl (Pure.mv (lv:=.atom _) rfl) ?_
  refine aT 2 rfl rfl (Pure.nilCheckH rfl) ?_
  refine aT 3 rfl rfl (Pure.fieldH rfl) ?_
  refine aT 5 rfl rfl (Pure.mv (lv:=.list _) rfl) ?_
  refine LAny.take (i:=6) zhn rfl zk zk zk rfl (xR (el':=u32 a) (cs:=[u32 a]) rfl rfl zo rfl rfl rfl) ?_
  refine aT 7 rfl rfl (Pure.loadRef (c:=.atom _) rfl rfl) ?_
  refine aT 8 rfl rfl (Pure.cvt rfl) ?_
  refine LAny.late ?_ zhn
  have e1:byts s.out++[int .u8 (IntKind.u8.wrap (a:Int))]=byts (s.out++[UInt8.ofNat a]):=by
   rw[byts_app,wrap_u8]
   rfl
  have hroom2:((byts s.out).length+[int .u8 (IntKind.u8.wrap (a:Int))].length) * 1≤140737488355328:=by
   simp only[byts_len,List.length_cons,List.length_nil]
   omega
  refine LLate.two (i:=4) (j:=9) zk ?_ ?_
  ·refine lH rfl rfl (Pure.loadH (c:=v) rfl zm0 rfl) ?_
   refine zl1 (i:=9) zk ?_
   refine lW rfl (.inl rfl) rfl (S.lit (es:=[int .u8 (IntKind.u8.wrap (a:Int))]) [_] rfl (eC rfl rfl eN) rfl rfl rfl ?_)
   refine zl1 (i:=10) zk ?_
   refine lW rfl (.inl rfl) rfl (S.accF (out_perm c s v Ha) rfl hacc rfl (fun v hv=>by rw[List.mem_singleton.1 hv];rfl) rfl hroom2 fun v' H' hacc'=>?_)
   rw[out_eq]
   rw[e1] at hacc'
   refine zl1 (i:=11) zk ?_
   refine lH rfl rfl (Pure.nilCheckH rfl) ?_
   refine zl1 (i:=12) zk ?_
   refine lH rfl rfl (Pure.fieldH rfl) ?_
   refine zl1 (i:=13) zk ?_
   refine lW rfl (.inl rfl) rfl (S.store (n:=1) (vs:=[v']) (cs':=[_,_,_,_,_,v',_,_,_,_,_]) rfl pH (acc_one hacc').1 rfl rfl (acc_one hacc').2 rfl ?_)
   refine lD zk ?_
   refine gap ?_
   refine rR (H':=stH c { s with out:=s.out++[UInt8.ofNat a] } v' H') rfl (zra rfl) zhr ?_
   rw[←hI]
   exact ⟨rfl,hl,hle,v',H',hacc',rfl⟩
  ·refine lW rfl (.inl rfl) rfl (S.lit (es:=[int .u8 (IntKind.u8.wrap (a:Int))]) [_] rfl (eC rfl rfl eN) rfl rfl rfl ?_)
   refine zl1 (i:=4) zk ?_
   refine lH rfl rfl (Pure.loadH (c:=v) rfl zm0 rfl) ?_
   refine zl1 (i:=10) zk ?_
   refine lW rfl (.inl rfl) rfl (S.accF (out_perm c s v Ha) rfl hacc rfl (fun v hv=>by rw[List.mem_singleton.1 hv];rfl) rfl hroom2 fun v' H' hacc'=>?_)
   rw[out_eq]
   rw[e1] at hacc'
   refine zl1 (i:=11) zk ?_
   refine lH rfl rfl (Pure.nilCheckH rfl) ?_
   refine zl1 (i:=12) zk ?_
   refine lH rfl rfl (Pure.fieldH rfl) ?_
   refine zl1 (i:=13) zk ?_
   refine lW rfl (.inl rfl) rfl (S.store (n:=1) (vs:=[v']) (cs':=[_,_,_,_,_,v',_,_,_,_,_]) rfl pH (acc_one hacc').1 rfl rfl (acc_one hacc').2 rfl ?_)
   refine lD zk ?_
   refine gap ?_
   refine rR (H':=stH c { s with out:=s.out++[UInt8.ofNat a] } v' H') rfl (zra rfl) zhr ?_
   rw[←hI]
   exact ⟨rfl,hl,hle,v',H',hacc',rfl⟩
 refine oC rfl (fun hc=>absurd (zt hc) hout) (fun _=>?_)
 rw[if_neg hout] at hI
 have hcv:=call_valid (p:=c.p) (f:=f0) (kn:=kn) hC.valid hk0 (name:=name) (n:=vs.length) (by unfold callE;rw[if_neg hin];exact hv) hin hout
 generalize fnI c.p name=gf at hI hcv
 obtain ⟨hgm,hgn,hgl⟩:=hcv
 subst hgn
 obtain ⟨kn2,hvb,hk2⟩:=hC.valid.bodies gf hgm
 have hsm:=hC.small.each gf hgm
 have hpl:gf.params.length≤2000000:=hsm.params
 refine gaa ?_
 have hs1:=hs
 obtain ⟨hl,hle,v,Ha,hacc,rfl⟩:=hs
 refine gad ?_
 refine oP (Pure.kvHit rfl rfl zm3 (hC.fn hgm)) rfl ?_
 refine oS (S.alloc fun b8=>?_) rfl
 refine gaa ?_
 generalize stH c s v Ha=Hs0 at hs0 hs1 ⊢
 refine oL (fun k ls H'=>∃ (pre ps:List (List UInt8)) (vpre vs1:List Nat) (s1:IS) (Hs:Heap),gf.params=pre++ps∧vs=vpre++vs1∧vpre.length=pre.length∧k=ps.length∧ls=[(0,ptr c.rb 0),(2,.list (vs.map u32)),(8,ptr b8 0),(59,.list (gf.params.map str)),(60,int .i64 ((gf.params.map str).length:Int)),(61,int .i64 (pre.length:Int))]∧H'=(b8,.cells 63 [str gf.name,.list (gf.params.map str),.list (gf.locals.map str),.list (gf.body.map encS)])::Hs∧St c s1 Hs∧setPs gf gf.params vs s=setPs gf ps vs1 s1)
  ⟨_,_,_,⟨[],gf.params,[],vs,s,Hs0,rfl,rfl,rfl,rfl,rfl,rfl,hs1,rfl⟩,⟨rfl,rfl,rfl,rfl,rfl,rfl,trivial⟩,HSub.refl _⟩ ?_
 rintro k ls H' ⟨pre,ps,vpre,vs1,s1,Hs,hps,hvs1,hvl,rfl,rfl,rfl,hst1,hset⟩ j hj
 have hl6:pre.length≤2000000:=by
  rw[hps,List.length_append] at hpl
  omega
 have hpl2:ps.length=vs1.length:=by
  rw[hps,hvs1,List.length_append,List.length_append] at hgl
  omega
 refine gak ?_
 refine oC rfl (fun hc=>?_) (fun hc=>?_)
 ·have hlen:=zt hc
  rw[List.length_map,hps,List.length_append] at hlen
  obtain ⟨p,ps,rfl⟩:∃ a l,ps=a::l:=by
   cases ps with
   |nil=>simp at hlen
   |cons a l2=>exact ⟨a,l2,rfl⟩
  obtain ⟨x,vs1,rfl⟩:∃ a l,vs1=a::l:=by
   cases vs1 with
   |nil=>simp at hpl2
   |cons a l2=>exact ⟨a,l2,rfl⟩
  rw[setPs] at hset
  have hkp:=own_placed hC hgm (p:=p) (by rw[hps];exact List.mem_append_right _ (List.mem_cons_self ..))
  obtain ⟨b,hb1,hb2⟩:=hC.block hkp
  obtain ⟨G,hG1,hG2⟩:=st_sc hC hb1 hst1
  obtain ⟨H3,hs3,hp3⟩:=hG2 x
  refine gac ?_
  refine oP (xR (el':=str p) (cs:=[str p]) rfl rfl zo (by rw[hps];exact get_mid str pre p ps) rfl rfl) rfl ?_
  refine gab ?_
  refine LCode.draw (m:=10) rfl [(b8,.cells 63 [str gf.name,.list (gf.params.map str),.list (gf.locals.map str),.list (gf.body.map encS)])] ?_
  refine aT 0 rfl rfl (Pure.mv (lv:=.atom _) rfl) ?_
  refine aT 1 rfl rfl (Pure.ldHAgg (cs':=[_,_,_,_]) rfl zm0 rfl rfl) ?_
  refine aT 2 rfl rfl (Pure.mv (lv:=.atom _) rfl) ?_
  refine aT 4 rfl rfl (Pure.mv (lv:=.list _) rfl) ?_
  refine aT 5 rfl rfl (Pure.mv (lv:=.atom _) rfl) ?_
  refine LAny.take (i:=6) zhp rfl zk zk zk rfl (xR (el':=u32 x) (cs:=[u32 x]) rfl rfl zo (by rw[hvs1,←hvl];exact get_mid u32 vpre x vs1) rfl rfl) ?_
  refine aT 7 rfl rfl (Pure.loadRef (c:=.atom _) rfl rfl) ?_
  refine LAny.late ?_ zhp
  refine lO 3 (lS (H1:=Hs) rfl (.inl rfl) rfl swap1 zhr (LStep.call (args:=[_,_,_]) (scalar_spec hC hst1 hgm hkp hb2) ?_ ?_))
  ·rintro lv H' ⟨h,rfl⟩
   cases h
   refine lO 8 (lH rfl rfl (Pure.nilCheckH rfl) ?_)
   refine lO 9 (lS (H1:=H') rfl (.inl rfl) rfl zpr zhr (S.store (cs':=[u32 x]) rfl hG1 rfl rfl rfl rfl rfl ?_))
   refine LLate.weakH (H':=H3++_) ⟨[],by rw[List.append_nil];exact hp3.append_right _⟩ ?_
   refine lD zk ?_
   refine gaw ?_
   exact ⟨ps.length,_,_,Nat.lt_succ_self _,⟨pre++[p],ps,vpre++[x],vs1,_,H3,by rw[hps];simp,by rw[hvs1];simp,by simp[hvl],rfl,rfl,rfl,hs3,hset⟩,⟨rfl,rfl,rfl,rfl,rfl,int_eq (by simp),trivial⟩,⟨[],by rw[List.append_nil];exact swap1.symm⟩,hj⟩
  ·rintro ch H' ⟨h,rfl⟩
   cases h
 ·have hlen:=zf hc
  rw[List.length_map,hps,List.length_append] at hlen
  obtain rfl:ps=[]:=by
   cases ps with
   |nil=>rfl
   |cons a l2=>simp at hlen;omega
  obtain rfl:vs1=[]:=List.length_eq_zero_iff.1 hpl2.symm
  replace hset:setPs gf gf.params vs s=s1:=hset.trans rfl
  have hb1:=setPs_bd gf gf.params vs s hvs hbd
  obtain ⟨ho,hlf,_⟩:=setPs_same gf gf.params vs s
  rw[hset] at hI hb1 ho hlf
  have hg1:Good c n s1:=⟨hb1,by rw[hlf];exact hleft,by rw[ho,hlf];omega⟩
  refine gaa ?_
  refine oS (S.callI [_,_,_] rfl swap1 (hB gf kn2 gf.body s1 Hs hgm hk2 hvb (hC.nums gf hgm) hsm.body hsm.stmts hg1 hst1) (fun r s3 H3 hr3 hs3=>?_) (fun er s3 H3 hr3 hs3 e' he'=>?_)) rfl
  ·rw[hr3,bind_ok] at hI
   refine gaa ?_
   exact retI (v:=r.getD 0) hj (zra rfl) hI.symm rfl hsub_left hs3
  ·refine gam ?_
   rw[hr3,bind_stop] at hI
   exact panI_ (he'.trans hj) hI.symm hsub_left hs3
end
end Go.Proofs.YtcbpcianefpniaaGreatDoor.Inp
namespace Go.Proofs.YtcbpcianefpniaaGreatDoor.Inp
open Go.GL Go.RowKit Go.Stele
set_option maxRecDepth 100000
set_option maxHeartbeats 4000000
theorem errE_parts {c:CEnv} {op:List UInt8} {num:Nat} {name:List UInt8} {args:List Ex} (h:errE c (.mk op num name args)=0):(opnds op = -1∨opnds op=args.length)∧errEs c args=0∧useE c op name args.length=0:=by
 rw[errE] at h
 split at h
 ·rename_i h1
  obtain ⟨h2,h3⟩:=orE_zero.1 h
  exact ⟨h1,h2,h3⟩
 ·cases h
theorem one_of {l:List Nat} (h:l.length=1):∃ a,l=[a]:=by
 cases l with
 |nil=>cases h
 |cons a l=>
  cases l with
  |nil=>exact ⟨a,rfl⟩
  |cons b l=>simp at h
theorem two_of {l:List Nat} (h:l.length=2):∃ a b,l=[a,b]:=by
 cases l with
 |nil=>cases h
 |cons a l=>
  obtain ⟨b,rfl⟩:=one_of (l:=l) (by simpa using h)
  exact ⟨a,b,rfl⟩
theorem neg_u32 {a:Nat} (h:a<4294967296):IntKind.u32.wrap (0-(a:Int))=(((4294967296-a) % 4294967296:Nat):Int):=by
 rw[wrapU]
 omega
theorem set_mid {A:Type} (l r:List A) (x y:A):(l++x::r).set l.length y=l++y::r:=by
 induction l with
 |nil=>rfl
 |cons a l ih=>simp only[List.cons_append,List.length_cons,List.set_cons_succ,ih]
theorem hsub_perm {H1 H2 X:Heap} (hp:H1.Perm H2) (h:HSub X H2):HSub X H1:=
 let ⟨G,hG⟩:=h
 ⟨G,hp.trans hG⟩
attribute [local irreducible] LOps LCode LStep LCalls Go.GL.Pure QThen QBlock RetPost LQ LAny LLate LLateOp LS
section
variable {B0:Nat} {w0:World}
theorem eval_spec {c:Cfg} (hC:CfgOk c) {n:Nat} (hE:EvalH B0 w0 c n) (hB:BlkH B0 w0 c n):EvalH B0 w0 c (n+1):=by
 intro f kn x s H hf hk hv hnum hsm hg hs
 obtain ⟨op,num,name,args⟩:=x
 obtain ⟨hop,hargs,huse⟩:=errE_parts hv
 obtain ⟨hn1,hn2⟩:=hnum
 obtain ⟨hm1,hm2⟩:=hsm
 have hal:args.length≤2000000:=hm1
 generalize hI:evI c.p (n+1) f (Ex.mk op num name args) s=R
 rw[evI] at hI
 rw[encE_mk]
 refine cI Tryz.func158 rfl (n:=92) rfl rfl rfl ?_
 refine gag ?_
 refine oS (S.box rfl fun b4=>?_) rfl
 refine oS (S.box rfl fun b5=>?_) rfl
 refine gay ?_
 refine oS (S.callI [_] rfl swap2 (step_spec hC hs) (fun u s1 H1 hr hs1=>?_) (fun er s1 H1 hr hs1 e' he'=>?_)) rfl
 rotate_left
 ·refine gam ?_
  rw[hr,bind_stop] at hI
  exact panI_ (he'.trans rfl) hI.symm hsub_left hs1
 have hg1:Good c n s1∧s1.out.length+s1.left+1≤c.lim:=by
  have h1:=tick_less hr
  have h2:=tick_bd hg.1
  rw[hr] at h2
  have h3:s1.out=s.out:=by
   unfold tick at hr
   split at hr
   ·cases hr
   ·cases hr;rfl
  have h4:=hg.2.1
  have h5:=hg.2.2
  exact ⟨⟨h2.2,by omega,by rw[h3];omega⟩,by rw[h3];omega⟩
 rw[hr,bind_ok] at hI
 refine LOps.perm (swap2 (H:=H1)).symm ?_
 refine gac ?_
 refine oS (S.makeRow (n:=args.length) (k:=.i64) (k2:=.i64) (int_eq (by rw[List.length_map])) (int_eq (by rw[List.length_map])) zo zo fun b7=>?_) rfl
 refine gaa ?_
 refine oL (fun k ls H'=>∃ (pre l1:List Ex) (vs:List Nat) (s2:IS) (Hs:Heap),args=pre++l1∧vs.length=pre.length∧(∀ v∈vs,Lt v)∧k=l1.length∧ls=[(0,ptr c.rb 0),(4,ptr b4 0),(5,ptr b5 0),(7,rowV b7 args.length),(17,.list (args.map encE)),(18,int .i64 ((args.map encE).length:Int)),(19,int .i64 (pre.length:Int))] ∧
   H'=(b7,.cells 43 (vs.map u32++List.replicate l1.length (u32 0)))::(b5,.cells 170 [str op,u32 num,str name,.list (args.map encE)])::(b4,.cells 63 [str f.name,.list (f.params.map str),.list (f.locals.map str),.list (f.body.map encS)])::Hs ∧
   St c s2 Hs∧Good c n s2∧s2.out.length+s2.left+1≤c.lim∧errEs (cenv c kn f) l1=0∧numEs l1∧smEs l1∧(mapR (evI c.p n f) l1 s2).bind (fun vs' s=>opI c.p (stI c.p n) f op num name (vs++vs') s)=R)
  ⟨args.length,_,_,⟨[],args,[],s1,H1,rfl,rfl,fun v hv=>(List.not_mem_nil hv).elim,rfl,rfl,rfl,hs1,hg1.1,hg1.2,hargs,hn2,hm2,hI⟩,⟨rfl,rfl,rfl,rfl,rfl,rfl,rfl,trivial⟩,HSub.refl _⟩ ?_
 rintro k ls H' ⟨pre,l1,vs,s2,Hs,hpre,hvl,hvlt,rfl,rfl,rfl,hs2,hg2,hroom,he2,hnn2,hmm2,hI2⟩ j hj
 have hl6:pre.length≤2000000:=by
  have:=hal
  rw[hpre,List.length_append] at this
  omega
 refine gak ?_
 refine oC rfl (fun hc=>?_) (fun hc=>?_)
 ·have hlen:=zt hc
  rw[List.length_map,hpre,List.length_append] at hlen
  obtain ⟨a,l2,rfl⟩:∃ a l2,l1=a::l2:=by
   cases l1 with
   |nil=>simp at hlen
   |cons a l2=>exact ⟨a,l2,rfl⟩
  rw[errEs] at he2
  obtain ⟨hea,hel⟩:=orE_zero.1 he2
  rw[mapR_step] at hI2
  refine gac ?_
  refine oP (xR (el':=encE a) (cs:=[_,_,_,_]) rfl rfl zo (by rw[hpre];exact get_mid encE pre a l2) rfl rfl) rfl ?_
  refine gax ?_
  refine oS (S.alloc fun b9=>?_) rfl
  refine gaa ?_
  refine oS (S.callI [_,_,_] rfl (List.perm_append_comm (l₁:=[_,_,_,_])) (hE f kn a s2 Hs hf hk hea hnn2.1 hmm2.1 hg2 hs2) (fun v s3 H3 hr3 hs3=>?_) (fun er s3 H3 hr3 hs3 e' he'=>?_)) rfl
  rotate_left
  ·refine gae ?_
   rw[hr3,bind_stop] at hI2
   exact panI_ (he'.trans hj) hI2.symm hsub_left hs3
  obtain ⟨hg3,hv3,_⟩:=ev_good hC hnn2.1 hg2 hr3
  have hf3:=(few_all c.p n).1 f a s2
  rw[hr3] at hf3
  have hf3':s3.out.length+s3.left≤s2.out.length+s2.left+0:=hf3
  rw[hr3,bind_ok] at hI2
  refine LOps.perm (List.perm_append_comm (l₂:=[_,_,_,_])) ?_
  have hlt:pre.length<args.length:=by
   rw[hpre,List.length_append,List.length_cons]
   omega
  refine oP (Pure.indexRow rfl rfl zo zo) rfl ?_
  have ecs:vs.map u32++List.replicate (a::l2).length (u32 0)=vs.map u32++u32 0::List.replicate l2.length (u32 0):=rfl
  rw[ecs]
  refine oS (S.store (n:=1) (vs:=[u32 v]) (cs':=(vs++[v]).map u32++List.replicate l2.length (u32 0)) rfl zp1 rfl rfl (by simp[hvl]) rfl (by
   rw[show 0+((pre.length:Int)).toNat * 1=(vs.map u32).length by rw[List.length_map,hvl];simp,setL_one _ _ _ (by simp),set_mid]
   simp) ?_) rfl
  refine gaw ?_
  exact ⟨l2.length,_,_,Nat.lt_succ_self _,⟨pre++[a],l2,vs++[v],s3,H3,by rw[hpre];simp,by simp[hvl],fun y hy=>by
   rcases List.mem_append.1 hy with h1|h1
   ·exact hvlt y h1
   ·rw[List.mem_singleton.1 h1];exact hv3,rfl,rfl,rfl,hs3,hg3,by omega,hel,hnn2.2,hmm2.2,by
    rw[←hI2]
    simp only[List.append_assoc,List.singleton_append]⟩,⟨rfl,rfl,rfl,rfl,rfl,rfl,int_eq (by simp),trivial⟩,zhP pH (zhD zhr),hj⟩
 have hlen:=zf hc
 rw[List.length_map,hpre,List.length_append] at hlen
 obtain rfl:l1=[]:=by
  cases l1 with
  |nil=>rfl
  |cons a l2=>simp at hlen;omega
 rw[mapR,bind_ok,List.append_nil] at hI2
 have hvn:vs.length=args.length:=by rw[hvl,hpre,List.append_nil]
 have hcs:vs.map u32++List.replicate ([]:List Ex).length (u32 0)=(vs.map fun (v:Nat)=>Value.int .u32 (v:Int)).map .atom:=by
  rw[List.map_map]
  simp only[List.length_nil,List.replicate_zero,List.append_nil]
  rfl
 have hvn2:args.length=(vs.map fun (v:Nat)=>Value.int .u32 (v:Int)).length:=by rw[List.length_map,hvn]
 rw[hcs]
 have hI:=hI2
 clear hI2
 refine gad ?_
 refine LCode.rowShut 7 (vs:=vs.map fun (v:Nat)=>Value.int .u32 (v:Int)) pH (by rw[←hvn2];rfl) ?_
 rw[show (vs.map fun (v:Nat)=>Value.int .u32 (v:Int)).map LV.atom=vs.map u32 by rw[List.map_map];rfl]
 rw[←hvn] at hop huse
 unfold opI at hI
 obtain ⟨hb2,hl2,_⟩:=hg2
 refine gac ?_
 by_cases h1:op=[110,117,109]
 ·subst h1
  rw[if_pos rfl] at hI
  refine oC rfl (fun hc=>?_) (fun hc=>by cases hc)
  refine gac ?_
  exact retI (v:=num) hj (zra rfl) hI.symm rfl (zhD (zhD zhr)) hs2
 refine oC rfl (fun hc=>absurd (zt hc) h1) (fun _=>?_)
 rw[if_neg h1] at hI
 refine gai ?_
 by_cases h2:op=[118,97,114]
 ·subst h2
  rw[if_pos rfl] at hI
  unfold useE at huse
  rw[if_pos (show ([118,97,114]:List UInt8)=nVar from rfl)] at huse
  have hpl:=key_placed hf huse
  obtain ⟨b,hb1,hb3⟩:=hC.block hpl
  obtain ⟨G,hG1,_⟩:=st_sc hC hb1 hs2
  refine oC rfl (fun hc=>?_) (fun hc=>by cases hc)
  refine gaa ?_
  refine oS (S.callS [_,_,_] rfl swap2 (scalar_spec hC hs2 hf hpl hb3) ?_) rfl
  refine LOps.perm (swap2 (H:=Hs)).symm ?_
  refine oP (Pure.nilCheckH rfl) rfl ?_
  refine oP (Pure.loadH (c:=u32 (s2.sc (keyI f name))) rfl (List.mem_cons_of_mem _ (List.mem_cons_of_mem _ (hG1.mem_iff.2 (List.mem_cons_self ..)))) rfl) rfl ?_
  refine gan ?_
  exact retI (v:=s2.sc (keyI f name)) hj (zra rfl) hI.symm rfl (zhD (zhD zhr)) hs2
 refine oC rfl (fun hc=>absurd (zt hc) h2) (fun _=>?_)
 rw[if_neg h2] at hI
 refine gai ?_
 by_cases h3:op=[101,108,101,109]
 ·subst h3
  rw[if_pos rfl] at hI
  unfold useE at huse
  rw[if_neg (by decide),if_pos (show ([101,108,101,109]:List UInt8)=nElem from rfl)] at huse
  have hpl:name∈c.p.arrays.map (·.name):=by
   unfold arrayE at huse
   split at huse
   ·rename_i h
    exact h
   ·split at huse <;> cases huse
  obtain ⟨b,m,hb1,hb3⟩:=hC.arr hpl
  obtain ⟨hlen2,G,hG1,_⟩:=st_ar hC hb1 hs2
  obtain ⟨a,rfl⟩:∃ a,vs=[a]:=one_of (by
   rcases hop with h|h
   ·exact absurd h (by decide)
   ·have h9:(1:Int)=(vs.length:Int):=h
    omega)
  have ha:a<4294967296:=hvlt a (List.mem_cons_self ..)
  refine oC rfl (fun hc=>?_) (fun hc=>by cases hc)
  refine gad ?_
  refine LCode.tail 6 zk ?_
  refine gab ?_
  refine LS.pure (xR (el':=u32 a) (cs:=[u32 a]) rfl rfl zo rfl rfl rfl) rfl ?_
  refine gab ?_
  refine oS (S.callH (H1:=Hs) [_,_,_] rfl swap2 (element_spec hC hs2 hb1 hb3 ha) ?_ ?_) rfl
  ·rintro lv H' ⟨rfl,h⟩
   by_cases hin:a<m
   ·rw[if_pos hin] at h
    cases h
    have hget:(s2.ar name)[a]? = some (s2.ar name)[a]:=List.getElem?_eq_getElem zo
    have hI':(match (s2.ar name)[a]? with
     |some v=>IR.ok v s2
     |none=>.stop 2 s2)=R:=hI
    rw[hget] at hI'
    refine oP (Pure.nilCheckH rfl) rfl ?_
    refine oP (Pure.loadH (c:=u32 (s2.ar name)[a]) rfl (List.mem_append_left _ (hG1.mem_iff.2 (List.mem_cons_self ..))) (by rw[List.getElem?_map,hget];rfl)) rfl ?_
    refine gan ?_
    exact retI (v:=(s2.ar name)[a]) hj (zra rfl) hI'.symm rfl hsub_left hs2
   ·rw[if_neg hin] at h
    cases h
  ·rintro ch H' ⟨rfl,h⟩ e' he'
   by_cases hin:a<m
   ·rw[if_pos hin] at h
    cases h
   ·rw[if_neg hin] at h
    cases h
    have hget:(s2.ar name)[a]? = none:=List.getElem?_eq_none zo
    have hI':(match (s2.ar name)[a]? with
     |some v=>IR.ok v s2
     |none=>.stop 2 s2)=R:=hI
    rw[hget] at hI'
    refine gae ?_
    exact panI_ (he'.trans hj) hI'.symm hsub_left hs2
 refine oC rfl (fun hc=>absurd (zt hc) h3) (fun _=>?_)
 rw[if_neg h3] at hI
 refine gai ?_
 by_cases h4:op=[110,101,103]
 ·subst h4
  rw[if_pos rfl] at hI
  obtain ⟨a,rfl⟩:∃ a,vs=[a]:=one_of (by
   rcases hop with h|h
   ·exact absurd h (by decide)
   ·have h9:(1:Int)=(vs.length:Int):=h
    omega)
  have ha:a<4294967296:=hvlt a (List.mem_cons_self ..)
  refine oC rfl (fun hc=>?_) (fun hc=>by cases hc)
  refine gac ?_
  refine oP (xR (el':=u32 a) (cs:=[u32 a]) rfl rfl zo rfl rfl rfl) rfl ?_
  refine gab ?_
  refine oP (Pure.negW rfl) rfl ?_
  refine gan ?_
  exact retI (v:=(4294967296-a) % 4294967296) hj (zra rfl) hI.symm (int_eq (neg_u32 ha)) (zhD (zhD zhr)) hs2
 refine oC rfl (fun hc=>absurd (zt hc) h4) (fun _=>?_)
 rw[if_neg h4] at hI
 refine gai ?_
 by_cases h5:op=[110,111,116]
 ·subst h5
  rw[if_pos rfl] at hI
  obtain ⟨a,rfl⟩:∃ a,vs=[a]:=one_of (by
   rcases hop with h|h
   ·exact absurd h (by decide)
   ·have h9:(1:Int)=(vs.length:Int):=h
    omega)
  refine oC rfl (fun hc=>?_) (fun hc=>by cases hc)
  refine gac ?_
  refine oP (xR (el':=u32 a) (cs:=[u32 a]) rfl rfl zo rfl rfl rfl) rfl ?_
  refine gab ?_
  refine oS (S.callS (F:=[]) [_] rfl (by rw[List.append_nil]) (truth_spec _) ?_) rfl
  rw[List.append_nil]
  refine gan ?_
  exact retI (v:=b2n (decide (a=0))) hj (zra rfl) hI.symm (congrArg u32 (b2n_dec zo)) (zhD (zhD zhr)) hs2
 refine oC rfl (fun hc=>absurd (zt hc) h5) (fun _=>?_)
 rw[if_neg h5] at hI
 refine gai ?_
 by_cases h6:op=[99,97,108,108]
 ·subst h6
  rw[if_pos rfl] at hI
  unfold useE at huse
  rw[if_neg (by decide),if_neg (by decide),if_pos (show ([99,97,108,108]:List UInt8)=nCall from rfl)] at huse
  refine oC rfl (fun hc=>?_) (fun hc=>by cases hc)
  refine gac ?_
  refine oS (S.callI [_,_,_] rfl swap2 (call_spec hC hB hk huse hvlt hb2 hl2 hroom hs2) (fun v s3 H3 hr3 hs3=>?_) (fun er s3 H3 hr3 hs3 e' he'=>?_)) rfl
  ·rw[hr3] at hI
   refine gan ?_
   exact retI (v:=v) hj (zra rfl) hI.symm rfl hsub_left hs3
  ·refine gae ?_
   rw[hr3] at hI
   exact panI_ (he'.trans hj) hI.symm hsub_left hs3
 refine oC rfl (fun hc=>absurd (zt hc) h6) (fun _=>?_)
 rw[if_neg h6] at hI
 refine gad ?_
 have hbin:op∈binOps∧vs.length=2:=by
  unfold opnds at hop
  rw[if_neg (fun h=>h.elim h1 h2),if_neg (fun h=>h.elim h3 (fun h=>h.elim h4 h5)),if_neg (show ¬ op=nCall from h6)] at hop
  split at hop
  ·rename_i h
   refine ⟨h,?_⟩
   rcases hop with h|h <;> omega
  ·rcases hop with h|h <;> omega
 obtain ⟨hbo,hv2⟩:=hbin
 obtain ⟨a,b2,rfl⟩:=two_of hv2
 have ha:a<4294967296:=hvlt a (List.mem_cons_self ..)
 have hb:b2<4294967296:=hvlt b2 (List.mem_cons_of_mem _ (List.mem_cons_self ..))
 obtain ⟨fi,caps,hkv,hte,hcall⟩:=binop_spec (B0:=B0) (w0:=w0) (db:=c.db) hbo ha hb
 have hs3:=hs2
 obtain ⟨hl,hle,v,Ha,hacc,rfl⟩:=hs2
 refine LCode.tail 13 zk ?_
 refine gab ?_
 refine LS.pure (Pure.kvHit rfl rfl zm6 hkv) rfl ?_
 refine gab ?_
 refine LS.pure (xR (el':=u32 a) (cs:=[u32 a]) rfl rfl zo rfl rfl rfl) rfl ?_
 refine gab ?_
 refine LS.pure (xR (el':=u32 b2) (cs:=[u32 b2]) rfl rfl zo rfl rfl rfl) rfl ?_
 refine gab ?_
 have hpick:Pick (divH c.db) ((b5,.cells 170 [str op,u32 num,str name,.list (args.map encE)])::(b4,.cells 63 [str f.name,.list (f.params.map str),.list (f.locals.map str),.list (f.body.map encS)])::stH c s2 v Ha) _:=pT zp6
 refine oS (S.callV (f:=fi) (first:=#[]) (caps:=caps) (H1:=[divH c.db]) [_,_] rfl rfl hpick hcall ?_ ?_) rfl
 ·rintro lv H' ⟨rfl,h⟩
  have hI':(match binI op a b2 with
   |some v=>IR.ok v s2
   |none=>.stop 12 s2)=R:=hI
  cases hb9:binI op a b2 with
  |none=>rw[hb9] at h;cases h
  |some y=>
   rw[hb9] at h hI'
   cases h
   refine gaf ?_
   exact retI (v:=y) hj (zra rfl) hI'.symm rfl (hsub_perm (List.Perm.symm hpick) (zhD (zhD zhr))) hs3
 ·rintro ch H' ⟨rfl,h⟩ e' he'
  have hI':(match binI op a b2 with
   |some v=>IR.ok v s2
   |none=>.stop 12 s2)=R:=hI
  cases hb9:binI op a b2 with
  |some y=>rw[hb9] at h;cases h
  |none=>
   rw[hb9] at h hI'
   cases h
   refine gam ?_
   exact panI_ (he'.trans hj) hI'.symm (hsub_perm (List.Perm.symm hpick) (zhD (zhD zhr))) hs3
theorem eval_zero {c:Cfg} (hC:CfgOk c):EvalH B0 w0 c 0:=by
 intro f kn x s H hf hk hv hnum hsm hg hs
 have ht:tick s=.stop 13 s:=by rw[tick,if_pos (Nat.le_zero.1 hg.2.1)]
 obtain ⟨op,num,name,args⟩:=x
 rw[encE_mk]
 refine cI Tryz.func158 rfl (n:=92) rfl rfl rfl ?_
 refine gag ?_
 refine oS (S.box rfl fun b4=>?_) rfl
 refine oS (S.box rfl fun b5=>?_) rfl
 refine gay ?_
 refine oS (S.callI [_] rfl swap2 (step_spec hC hs) (fun u s1 H1 hr hs1=>?_) (fun er s1 H1 hr hs1 e' he'=>?_)) rfl
 ·rw[ht] at hr
  cases hr
 ·rw[ht] at hr
  cases hr
  refine gam ?_
  exact panI_ (he'.trans rfl) (by rw[evI]) hsub_left hs1
theorem exec_zero {c:Cfg} (hC:CfgOk c):ExecH B0 w0 c 0:=by
 intro f kn x s H hf hk hv hnum hsm hg hs
 have ht:tick s=.stop 13 s:=by rw[tick,if_pos (Nat.le_zero.1 hg.2.1)]
 obtain ⟨kind,name,index,value,thn,els⟩:=x
 rw[encS_mk]
 refine cI Tryz.func109 rfl (n:=93) rfl rfl rfl ?_
 refine gag ?_
 refine oS (S.box rfl fun b4=>?_) rfl
 refine oS (S.box rfl fun b5=>?_) rfl
 refine gay ?_
 refine oS (S.callI [_] rfl swap2 (step_spec hC hs) (fun u s1 H1 hr hs1=>?_) (fun er s1 H1 hr hs1 e' he'=>?_)) rfl
 ·rw[ht] at hr
  cases hr
 ·rw[ht] at hr
  cases hr
  refine gam ?_
  exact panI_ (he'.trans rfl) (by rw[stI]) hsub_left hs1
theorem run_all {c:Cfg} (hC:CfgOk c):∀ n:Nat,EvalH B0 w0 c n∧ExecH B0 w0 c n
 |0=>⟨eval_zero hC,exec_zero hC⟩
 |n+1=>by
  obtain ⟨h1,h2⟩:=run_all hC n
  have hB:=block_spec hC h2
  exact ⟨eval_spec hC h1 hB,execute_spec hC h1 hB⟩
end
end Go.Proofs.YtcbpcianefpniaaGreatDoor.Inp
namespace Go.Proofs
def Tryz.lays283_ren:Go.Shelf.Ren:=⟨fun|283=>114|n=>n,fun|3=>3|9=>9|4=>4|n=>n,fun|n=>n⟩
theorem Tryz.lays283:Go.Proofs.Lays.n283 Tryz.prog Tryz.lays283_ren:={
 mixed:=by kernel_rfl
 f283:=Tryz.func114.trans (congrArg some (by kernel_rfl))
 t3:=Tryz.underlying3
 a3:=Tryz.isAgg3
 z3:=Tryz.sizeOf3
 v3:=Tryz.zeroValue3
 t4:=Tryz.underlying4
 a4:=Tryz.isAgg4
 z4:=Tryz.sizeOf4
 v4:=Tryz.zeroValue4
 t9:=Tryz.underlying9
 a9:=Tryz.isAgg9
 z9:=Tryz.sizeOf9
 v9:=Tryz.zeroValue9 }
open Go.Lib in
theorem Tryz.internal_strconv_small (i:Nat) (h:i<100) (w:World) :
  Calls Tryz.prog 114 #[.int .i64 i] w fun e w'=>e=.returned (.string ⟨(Lib.decDigits i).toArray⟩)∧w'=w:=Any.internal_strconv_small Tryz.lays283 i h w
def Tryz.laysM284_ren:Go.Shelf.Ren:=⟨fun|284=>115|129=>165|317=>164|318=>166|n=>n,fun|53=>84|3=>3|212=>205|0=>0|4=>4|46=>46|5=>5|9=>9|n=>n,fun|17=>1|n=>n⟩
theorem Tryz.laysM284:Go.Proofs.LaysM.n284 Tryz.prog Tryz.laysM284_ren:={
 mixed:=by kernel_rfl
 f129:=Tryz.func165.trans (congrArg some (by kernel_rfl))
 f284:=Tryz.func115.trans (congrArg some (by kernel_rfl))
 f317:=Tryz.func164.trans (congrArg some (by kernel_rfl))
 f318:=Tryz.func166.trans (congrArg some (by kernel_rfl))
 t0:=Tryz.underlying0
 a0:=Tryz.isAgg0
 z0:=Tryz.sizeOf0
 v0:=Tryz.zeroValue0
 t3:=Tryz.underlying3
 a3:=Tryz.isAgg3
 z3:=Tryz.sizeOf3
 v3:=Tryz.zeroValue3
 t4:=Tryz.underlying4
 a4:=Tryz.isAgg4
 z4:=Tryz.sizeOf4
 v4:=Tryz.zeroValue4
 t5:=Tryz.underlying5
 a5:=Tryz.isAgg5
 z5:=Tryz.sizeOf5
 v5:=Tryz.zeroValue5
 t9:=Tryz.underlying9
 a9:=Tryz.isAgg9
 z9:=Tryz.sizeOf9
 v9:=Tryz.zeroValue9
 t46:=Tryz.underlying46
 a46:=Tryz.isAgg46
 z46:=Tryz.sizeOf46
 v46:=Tryz.zeroValue46
 t53:=Tryz.underlying84
 a53:=Tryz.isAgg84
 z53:=Tryz.sizeOf84
 v53:=Tryz.zeroValue84
 t212:=Tryz.underlying205
 a212:=Tryz.isAgg205
 z212:=Tryz.sizeOf205
 v212:=Tryz.zeroValue205
 g17:=by kernel_rfl
 i0:=by kernel_rfl
 i3:=by kernel_rfl
 i4:=by kernel_rfl
 i5:=by kernel_rfl
 i9:=by kernel_rfl
 i46:=by kernel_rfl
 i53:=by kernel_rfl
 i212:=by kernel_rfl
 m17:=by kernel_rfl }
open Go.Lib in
theorem Tryz.internal_strconv_numDigits (u : Nat) (h1 : 1 ≤ u) (h2 : u < 18446744073709551616) (w : World) (htab : Lib.TabIs Tryz.prog w "internal/strconv.uint64pow10" .u64 Lib.pow10Tab) :
  Calls Tryz.prog 115 #[.int .u64 u] w fun e w'=>e=.returned (.int .i64 (Lib.nDigits u))∧w'=w:=Any.internal_strconv_numDigits Tryz.laysM284 u h1 h2 w htab
def Tryz.lays285_ren:Go.Shelf.Ren:=⟨fun|285=>116|n=>n,fun|37=>42|53=>84|3=>3|4=>4|51=>43|9=>9|5=>5|0=>0|n=>n,fun|n=>n⟩
theorem Tryz.lays285:Go.Proofs.Lays.n285 Tryz.prog Tryz.lays285_ren:={
 mixed:=by kernel_rfl
 f285:=Tryz.func116.trans (congrArg some (by kernel_rfl))
 t0:=Tryz.underlying0
 a0:=Tryz.isAgg0
 z0:=Tryz.sizeOf0
 v0:=Tryz.zeroValue0
 t3:=Tryz.underlying3
 a3:=Tryz.isAgg3
 z3:=Tryz.sizeOf3
 v3:=Tryz.zeroValue3
 t4:=Tryz.underlying4
 a4:=Tryz.isAgg4
 z4:=Tryz.sizeOf4
 v4:=Tryz.zeroValue4
 t5:=Tryz.underlying5
 a5:=Tryz.isAgg5
 z5:=Tryz.sizeOf5
 v5:=Tryz.zeroValue5
 t9:=Tryz.underlying9
 a9:=Tryz.isAgg9
 z9:=Tryz.sizeOf9
 v9:=Tryz.zeroValue9
 t37:=Tryz.underlying42
 a37:=Tryz.isAgg42
 z37:=Tryz.sizeOf42
 v37:=Tryz.zeroValue42
 t51:=Tryz.underlying43
 a51:=Tryz.isAgg43
 z51:=Tryz.sizeOf43
 v51:=Tryz.zeroValue43
 t53:=Tryz.underlying84
 a53:=Tryz.isAgg84
 z53:=Tryz.sizeOf84
 v53:=Tryz.zeroValue84 }
open Go.RowKit Go.Sort Go.Lib in
theorem Tryz.internal_strconv_formatBase10 (blk off cap:Nat) (u:Nat) (d:Array UInt8) (w:World) (hH:Holds (fun (b:UInt8)=>Value.int .u8 (b.toNat:Int)) w blk off d) (hu:u<10 ^ d.size) (hu64:u<18446744073709551616) (hsz:d.size<4611686018427387904) :
  Calls Tryz.prog 116 #[.slice (some ⟨blk,off,none⟩) d.size cap,.int .u64 u] w fun e w'=>
   e=.returned (.tuple #[])∧∃ (n v':Nat) (dk:Array UInt8),w'=(putRow (fun (b:UInt8)=>Value.int .u8 (b.toNat:Int)) w blk off dk).drewN n∧FmtInv d.size u 0 v' dk:=Any.internal_strconv_formatBase10 Tryz.lays285 blk off cap u d w hH hu hu64 hsz
def Tryz.laysM171_ren:Go.Shelf.Ren:=⟨fun|171=>176|243=>193|246=>210|283=>114|284=>115|285=>116|286=>117|129=>165|317=>164|318=>166|319=>167|320=>168|337=>189|338=>190|n=>n,fun|3=>3|9=>9|2=>2|4=>4|171=>184|0=>0|53=>84|37=>42|5=>5|173=>187|212=>205|51=>43|20=>20|213=>206|46=>46|232=>231|233=>232|n=>n,fun|17=>1|18=>4|19=>5|n=>n⟩
theorem Tryz.laysM171:Go.Proofs.LaysM.n171 Tryz.prog Tryz.laysM171_ren:={
 mixed:=by kernel_rfl
 f129:=Tryz.func165.trans (congrArg some (by kernel_rfl))
 f171:=Tryz.func176.trans (congrArg some (by kernel_rfl))
 f243:=Tryz.func193.trans (congrArg some (by kernel_rfl))
 f246:=Tryz.func210.trans (congrArg some (by kernel_rfl))
 f283:=Tryz.func114.trans (congrArg some (by kernel_rfl))
 f284:=Tryz.func115.trans (congrArg some (by kernel_rfl))
 f285:=Tryz.func116.trans (congrArg some (by kernel_rfl))
 f286:=Tryz.func117.trans (congrArg some (by kernel_rfl))
 f317:=Tryz.func164.trans (congrArg some (by kernel_rfl))
 f318:=Tryz.func166.trans (congrArg some (by kernel_rfl))
 f319:=Tryz.func167.trans (congrArg some (by kernel_rfl))
 f320:=Tryz.func168.trans (congrArg some (by kernel_rfl))
 f337:=Tryz.func189.trans (congrArg some (by kernel_rfl))
 f338:=Tryz.func190.trans (congrArg some (by kernel_rfl))
 t0:=Tryz.underlying0
 a0:=Tryz.isAgg0
 z0:=Tryz.sizeOf0
 v0:=Tryz.zeroValue0
 t2:=Tryz.underlying2
 a2:=Tryz.isAgg2
 z2:=Tryz.sizeOf2
 v2:=Tryz.zeroValue2
 t3:=Tryz.underlying3
 a3:=Tryz.isAgg3
 z3:=Tryz.sizeOf3
 v3:=Tryz.zeroValue3
 t4:=Tryz.underlying4
 a4:=Tryz.isAgg4
 z4:=Tryz.sizeOf4
 v4:=Tryz.zeroValue4
 t5:=Tryz.underlying5
 a5:=Tryz.isAgg5
 z5:=Tryz.sizeOf5
 v5:=Tryz.zeroValue5
 t9:=Tryz.underlying9
 a9:=Tryz.isAgg9
 z9:=Tryz.sizeOf9
 v9:=Tryz.zeroValue9
 t20:=Tryz.underlying20
 a20:=Tryz.isAgg20
 z20:=Tryz.sizeOf20
 v20:=Tryz.zeroValue20
 t37:=Tryz.underlying42
 a37:=Tryz.isAgg42
 z37:=Tryz.sizeOf42
 v37:=Tryz.zeroValue42
 t46:=Tryz.underlying46
 a46:=Tryz.isAgg46
 z46:=Tryz.sizeOf46
 v46:=Tryz.zeroValue46
 t51:=Tryz.underlying43
 a51:=Tryz.isAgg43
 z51:=Tryz.sizeOf43
 v51:=Tryz.zeroValue43
 t53:=Tryz.underlying84
 a53:=Tryz.isAgg84
 z53:=Tryz.sizeOf84
 v53:=Tryz.zeroValue84
 t171:=Tryz.underlying184
 a171:=Tryz.isAgg184
 z171:=Tryz.sizeOf184
 v171:=Tryz.zeroValue184
 t173:=Tryz.underlying187
 a173:=Tryz.isAgg187
 z173:=Tryz.sizeOf187
 v173:=Tryz.zeroValue187
 t212:=Tryz.underlying205
 a212:=Tryz.isAgg205
 z212:=Tryz.sizeOf205
 v212:=Tryz.zeroValue205
 t213:=Tryz.underlying206
 a213:=Tryz.isAgg206
 z213:=Tryz.sizeOf206
 t232:=Tryz.underlying231
 a232:=Tryz.isAgg231
 z232:=Tryz.sizeOf231
 v232:=Tryz.zeroValue231
 t233:=Tryz.underlying232
 a233:=Tryz.isAgg232
 z233:=Tryz.sizeOf232
 v233:=Tryz.zeroValue232
 g17:=by kernel_rfl
 g18:=by kernel_rfl
 g19:=by kernel_rfl
 i0:=by kernel_rfl
 i2:=by kernel_rfl
 i3:=by kernel_rfl
 i4:=by kernel_rfl
 i5:=by kernel_rfl
 i9:=by kernel_rfl
 i20:=by kernel_rfl
 i37:=by kernel_rfl
 i46:=by kernel_rfl
 i51:=by kernel_rfl
 i53:=by kernel_rfl
 i171:=by kernel_rfl
 i173:=by kernel_rfl
 i212:=by kernel_rfl
 i232:=by kernel_rfl
 i233:=by kernel_rfl
 m17:=by kernel_rfl
 m18:=by kernel_rfl
 m19:=by kernel_rfl }
open Go.RowKit Go.Sort Go.Lib in
theorem Tryz.strconv_Itoa (n : Int) (h0 : -9223372036854775808 ≤ n) (h1 : n ≤ 9223372036854775807) (w : World) (htab : Lib.TabIs Tryz.prog w "internal/strconv.uint64pow10" .u64 Lib.pow10Tab) :
  Calls Tryz.prog 176 #[.int .i64 n] w fun e w'=>e=.returned (.string ⟨(Lib.itoa n).toArray⟩)∧∃ k os,w'=grow (w.drewN k) os:=Any.strconv_Itoa Tryz.laysM171 n h0 h1 w htab
def Tryz.laysPu14_ren:Go.Shelf.Ren:=⟨fun|14=>173|16=>191|17=>192|19=>204|20=>205|21=>206|22=>207|23=>208|24=>209|25=>221|27=>176|26=>222|28=>193|29=>210|30=>114|31=>115|32=>116|33=>117|35=>165|34=>164|36=>166|37=>167|38=>168|39=>189|40=>190|n=>n,fun|9=>9|3=>3|22=>84|24=>146|25=>217|4=>4|34=>233|5=>5|36=>46|37=>42|0=>0|39=>235|21=>21|44=>247|47=>191|50=>256|48=>254|2=>2|52=>184|55=>187|59=>205|60=>43|20=>20|61=>206|65=>231|66=>232|67=>112|n=>n,fun|0=>6|1=>7|2=>1|3=>4|4=>5|n=>n⟩
theorem Tryz.laysPu14:Go.Proofs.LaysPu.n14 Tryz.prog Tryz.laysPu14_ren:={
 mixed:=by kernel_rfl
 f14:=Tryz.func173.trans (congrArg some (by kernel_rfl))
 f16:=Tryz.func191.trans (congrArg some (by kernel_rfl))
 f17:=Tryz.func192.trans (congrArg some (by kernel_rfl))
 f19:=Tryz.func204.trans (congrArg some (by kernel_rfl))
 f20:=Tryz.func205.trans (congrArg some (by kernel_rfl))
 f21:=Tryz.func206.trans (congrArg some (by kernel_rfl))
 f22:=Tryz.func207.trans (congrArg some (by kernel_rfl))
 f23:=Tryz.func208.trans (congrArg some (by kernel_rfl))
 f24:=Tryz.func209.trans (congrArg some (by kernel_rfl))
 f25:=Tryz.func221.trans (congrArg some (by kernel_rfl))
 f26:=Tryz.func222.trans (congrArg some (by kernel_rfl))
 f27:=Tryz.func176.trans (congrArg some (by kernel_rfl))
 f28:=Tryz.func193.trans (congrArg some (by kernel_rfl))
 f29:=Tryz.func210.trans (congrArg some (by kernel_rfl))
 f30:=Tryz.func114.trans (congrArg some (by kernel_rfl))
 f31:=Tryz.func115.trans (congrArg some (by kernel_rfl))
 f32:=Tryz.func116.trans (congrArg some (by kernel_rfl))
 f33:=Tryz.func117.trans (congrArg some (by kernel_rfl))
 f34:=Tryz.func164.trans (congrArg some (by kernel_rfl))
 f35:=Tryz.func165.trans (congrArg some (by kernel_rfl))
 f36:=Tryz.func166.trans (congrArg some (by kernel_rfl))
 f37:=Tryz.func167.trans (congrArg some (by kernel_rfl))
 f38:=Tryz.func168.trans (congrArg some (by kernel_rfl))
 f39:=Tryz.func189.trans (congrArg some (by kernel_rfl))
 f40:=Tryz.func190.trans (congrArg some (by kernel_rfl))
 t0:=Tryz.underlying0
 a0:=Tryz.isAgg0
 z0:=Tryz.sizeOf0
 v0:=Tryz.zeroValue0
 i0:=by kernel_rfl
 t2:=Tryz.underlying2
 a2:=Tryz.isAgg2
 z2:=Tryz.sizeOf2
 v2:=Tryz.zeroValue2
 i2:=by kernel_rfl
 t3:=Tryz.underlying3
 a3:=Tryz.isAgg3
 z3:=Tryz.sizeOf3
 v3:=Tryz.zeroValue3
 i3:=by kernel_rfl
 t4:=Tryz.underlying4
 a4:=Tryz.isAgg4
 z4:=Tryz.sizeOf4
 v4:=Tryz.zeroValue4
 i4:=by kernel_rfl
 t5:=Tryz.underlying5
 a5:=Tryz.isAgg5
 z5:=Tryz.sizeOf5
 v5:=Tryz.zeroValue5
 i5:=by kernel_rfl
 t9:=Tryz.underlying9
 a9:=Tryz.isAgg9
 z9:=Tryz.sizeOf9
 v9:=Tryz.zeroValue9
 i9:=by kernel_rfl
 t20:=Tryz.underlying20
 a20:=Tryz.isAgg20
 z20:=Tryz.sizeOf20
 v20:=Tryz.zeroValue20
 i20:=by kernel_rfl
 t21:=Tryz.underlying21
 a21:=Tryz.isAgg21
 z21:=Tryz.sizeOf21
 v21:=Tryz.zeroValue21
 i21:=by kernel_rfl
 t22:=Tryz.underlying84
 a22:=Tryz.isAgg84
 z22:=Tryz.sizeOf84
 v22:=Tryz.zeroValue84
 i22:=by kernel_rfl
 t24:=Tryz.underlying146
 a24:=Tryz.isAgg146
 z24:=Tryz.sizeOf146
 v24:=Tryz.zeroValue146
 i24:=by kernel_rfl
 t25:=Tryz.underlying217
 a25:=Tryz.isAgg217
 z25:=Tryz.sizeOf217
 v25:=Tryz.zeroValue217
 i25:=by kernel_rfl
 t34:=Tryz.underlying233
 a34:=Tryz.isAgg233
 z34:=Tryz.sizeOf233
 v34:=Tryz.zeroValue233
 i34:=by kernel_rfl
 c34:=by kernel_rfl
 t36:=Tryz.underlying46
 a36:=Tryz.isAgg46
 z36:=Tryz.sizeOf46
 v36:=Tryz.zeroValue46
 i36:=by kernel_rfl
 t37:=Tryz.underlying42
 a37:=Tryz.isAgg42
 z37:=Tryz.sizeOf42
 v37:=Tryz.zeroValue42
 i37:=by kernel_rfl
 t39:=Tryz.underlying235
 a39:=Tryz.isAgg235
 z39:=Tryz.sizeOf235
 v39:=Tryz.zeroValue235
 i39:=by kernel_rfl
 t44:=Tryz.underlying247
 a44:=Tryz.isAgg247
 z44:=Tryz.sizeOf247
 v44:=Tryz.zeroValue247
 i44:=by kernel_rfl
 t47:=Tryz.underlying191
 a47:=Tryz.isAgg191
 z47:=Tryz.sizeOf191
 v47:=Tryz.zeroValue191
 i47:=by kernel_rfl
 t48:=Tryz.underlying254
 a48:=Tryz.isAgg254
 z48:=Tryz.sizeOf254
 v48:=Tryz.zeroValue254
 i48:=by kernel_rfl
 t50:=Tryz.underlying256
 a50:=Tryz.isAgg256
 z50:=Tryz.sizeOf256
 v50:=Tryz.zeroValue256
 i50:=by kernel_rfl
 t52:=Tryz.underlying184
 a52:=Tryz.isAgg184
 z52:=Tryz.sizeOf184
 v52:=Tryz.zeroValue184
 i52:=by kernel_rfl
 t55:=Tryz.underlying187
 a55:=Tryz.isAgg187
 z55:=Tryz.sizeOf187
 v55:=Tryz.zeroValue187
 i55:=by kernel_rfl
 t59:=Tryz.underlying205
 a59:=Tryz.isAgg205
 z59:=Tryz.sizeOf205
 v59:=Tryz.zeroValue205
 i59:=by kernel_rfl
 t60:=Tryz.underlying43
 a60:=Tryz.isAgg43
 z60:=Tryz.sizeOf43
 v60:=Tryz.zeroValue43
 i60:=by kernel_rfl
 t61:=Tryz.underlying206
 a61:=Tryz.isAgg206
 z61:=Tryz.sizeOf206
 t65:=Tryz.underlying231
 a65:=Tryz.isAgg231
 z65:=Tryz.sizeOf231
 v65:=Tryz.zeroValue231
 i65:=by kernel_rfl
 t66:=Tryz.underlying232
 a66:=Tryz.isAgg232
 z66:=Tryz.sizeOf232
 v66:=Tryz.zeroValue232
 i66:=by kernel_rfl
 t67:=Tryz.underlying112
 a67:=Tryz.isAgg112
 z67:=Tryz.sizeOf112
 v67:=Tryz.zeroValue112
 i67:=by kernel_rfl
 g0:=by kernel_rfl
 m0:=by kernel_rfl
 g1:=by kernel_rfl
 m1:=by kernel_rfl
 g2:=by kernel_rfl
 m2:=by kernel_rfl
 g3:=by kernel_rfl
 m3:=by kernel_rfl
 g4:=by kernel_rfl
 m4:=by kernel_rfl }
open Go.RowKit in
theorem Tryz.strconv_ParseUint_10_at32_ok (s:ByteArray) (hmax:s.size≤9223372036854775806) (u:Nat) (h:Lib.parseUintB 32 s.data.toList=.ok u) (w:World) :
  Calls Tryz.prog 173 #[.string s,.int .i64 10,.int .i64 32] w fun e w'=>e=.returned (.tuple #[.int .u64 u,.nilIface])∧(w'=w∨w'=Lib.bytesWorld w 5 s):=Any.strconv_ParseUint_10_at32_ok Tryz.laysPu14 s hmax u h w
open Go.RowKit in
theorem Tryz.strconv_ParseUint_10_at32_range_var (s : ByteArray) (hlim : s.size ≤ 281474976710656) (h : Lib.parseUintB 32 s.data.toList = .range) (tp : TypeId) (p : Value) (w : World) (hvar : w.var? Tryz.prog "strconv.ErrRange" = some #[.iface tp p]) :
  Calls Tryz.prog 173 #[.string s,.int .i64 10,.int .i64 32] w fun e w'=>∃ N,e=.returned (.tuple #[.int .u64 4294967295,.iface 235 (.pointer (some ⟨N,0,none⟩))])∧w.heap.size≤N∧w'.heap[N]? = some (.cells #[.string ⟨#[80,97,114,115,101,85,105,110,116]⟩,.string s,.iface tp p] 247 (0,0))∧Below w.heap.size w w':=Any.strconv_ParseUint_10_at32_range_var Tryz.laysPu14 s hlim h tp p w hvar
def Tryz.lays144_ren:Go.Shelf.Ren:=⟨fun|144=>22|143=>35|219=>79|217=>118|225=>119|224=>120|267=>121|266=>169|314=>170|n=>n,fun|9=>9|4=>4|3=>3|5=>5|46=>46|146=>208|51=>43|n=>n,fun|1=>0|n=>n⟩
def Tryz.lays138_ren:Go.Shelf.Ren:=⟨fun|138=>80|195=>122|218=>123|143=>35|219=>79|217=>118|225=>119|224=>120|267=>121|266=>169|314=>170|n=>n,fun|9=>9|3=>3|4=>4|5=>5|0=>0|46=>46|146=>208|51=>43|n=>n,fun|1=>0|n=>n⟩
theorem Tryz.lays138:Go.Proofs.Lays.n138 Tryz.prog Tryz.lays138_ren:={
 mixed:=by kernel_rfl
 f138:=Tryz.func80.trans (congrArg some (by kernel_rfl))
 f143:=Tryz.func35.trans (congrArg some (by kernel_rfl))
 f195:=Tryz.func122.trans (congrArg some (by kernel_rfl))
 f217:=Tryz.func118.trans (congrArg some (by kernel_rfl))
 f218:=Tryz.func123.trans (congrArg some (by kernel_rfl))
 f219:=Tryz.func79.trans (congrArg some (by kernel_rfl))
 f224:=Tryz.func120.trans (congrArg some (by kernel_rfl))
 f225:=Tryz.func119.trans (congrArg some (by kernel_rfl))
 f266:=Tryz.func169.trans (congrArg some (by kernel_rfl))
 f267:=Tryz.func121.trans (congrArg some (by kernel_rfl))
 f314:=Tryz.func170.trans (congrArg some (by kernel_rfl))
 t0:=Tryz.underlying0
 a0:=Tryz.isAgg0
 z0:=Tryz.sizeOf0
 v0:=Tryz.zeroValue0
 t3:=Tryz.underlying3
 a3:=Tryz.isAgg3
 z3:=Tryz.sizeOf3
 v3:=Tryz.zeroValue3
 t4:=Tryz.underlying4
 a4:=Tryz.isAgg4
 z4:=Tryz.sizeOf4
 v4:=Tryz.zeroValue4
 t5:=Tryz.underlying5
 a5:=Tryz.isAgg5
 z5:=Tryz.sizeOf5
 v5:=Tryz.zeroValue5
 t9:=Tryz.underlying9
 a9:=Tryz.isAgg9
 z9:=Tryz.sizeOf9
 v9:=Tryz.zeroValue9
 t46:=Tryz.underlying46
 a46:=Tryz.isAgg46
 z46:=Tryz.sizeOf46
 v46:=Tryz.zeroValue46
 t51:=Tryz.underlying43
 a51:=Tryz.isAgg43
 z51:=Tryz.sizeOf43
 v51:=Tryz.zeroValue43
 t146:=Tryz.underlying208
 a146:=Tryz.isAgg208
 z146:=Tryz.sizeOf208
 v146:=Tryz.zeroValue208
 g1:=by kernel_rfl }
open Go.RowKit Go.Lib in
theorem Tryz.strings_Count_one (s:ByteArray) (c:UInt8) (w:World) :
  Calls Tryz.prog 80 #[.string s,.string ⟨#[c]⟩] w fun e w'=>e=.returned (.int .i64 (Lib.countByte s.data.toList c))∧w'=w:=Any.strings_Count_one Tryz.lays138 s c w
def Tryz.lays99_ren:Go.Shelf.Ren:=⟨fun|99=>18|206=>33|n=>n,fun|9=>9|4=>4|3=>3|n=>n,fun|n=>n⟩
theorem Tryz.lays99:Go.Proofs.Lays.n99 Tryz.prog Tryz.lays99_ren:={
 mixed:=by kernel_rfl
 f99:=Tryz.func18.trans (congrArg some (by kernel_rfl))
 f206:=Tryz.func33.trans (congrArg some (by kernel_rfl))
 t3:=Tryz.underlying3
 a3:=Tryz.isAgg3
 z3:=Tryz.sizeOf3
 v3:=Tryz.zeroValue3
 t4:=Tryz.underlying4
 a4:=Tryz.isAgg4
 z4:=Tryz.sizeOf4
 v4:=Tryz.zeroValue4
 t9:=Tryz.underlying9
 a9:=Tryz.isAgg9
 z9:=Tryz.sizeOf9
 v9:=Tryz.zeroValue9 }
open Go.RowKit Go.Lib in
theorem Tryz.strings_HasPrefix (s p:ByteArray) (w:World) :
  Calls Tryz.prog 18 #[.string s,.string p] w fun e w'=>e=.returned (.bool (Lib.hasPrefix s.data.toList p.data.toList))∧w'=w:=Any.strings_HasPrefix Tryz.lays99 s p w
end Go.Proofs
namespace Go.Proofs.YtcbpcianefpniaaGreatDoor
open Go.GL Go.RowKit Go.Stele
set_option maxRecDepth 100000
set_option maxHeartbeats 4000000
attribute [local irreducible] LOps LCode LStep LCalls Go.GL.Pure QThen QBlock RetPost
section
variable {B0:Nat} {w0:World}
theorem run_spec {f:FuncId} [TEnter Tryz.prog f] (p:UInt8→Bool) (hp:∀ c:UInt8,LCalls (KC B0 w0) f [int .u8 c.toNat] [] (Ret (bool (p c)))) (s:List UInt8) (hs:s.length≤1000000000) :
  LCalls (KC B0 w0) 127 [str s,.atom (.func (.func f) #[] #[])] [] (Ret (str (s.takeWhile p))):=by
 refine cI Tryz.func127 rfl (n:=22) rfl rfl rfl ?_
 refine gac ?_
 refine oL (fun k l H=>∃ m:Nat,k=s.length-m∧l=[(0,str s),(1,.atom (.func (.func f) #[] #[])),(5,int .i64 m)]∧H=[]∧m≤s.length∧s.takeWhile p=s.take m++(s.drop m).takeWhile p)
  ⟨_,_,_,⟨0,rfl,rfl,rfl,by omega,by simp⟩,⟨rfl,rfl,rfl,trivial⟩,HSub.refl _⟩ ?_
 rintro k l H ⟨m,rfl,rfl,rfl,hm,hI⟩ j hj
 refine gaa ?_
 refine oB 10 rfl (fun ht=>?_) (fun ht=>?_)
 ·have hlt:m<s.length:=by simpa using ht
  refine gao ?_
  refine oP (Pure.sindex (c:=s[m]) rfl rfl zo (by simp)) rfl ?_
  refine LOps.want rfl rfl ?_
  refine oS (S.fnV [_] rfl rfl (hp s[m]) ?_) rfl
  refine gad ?_
  refine oC rfl (fun hc=>?_) (fun hc=>?_)
  ·refine gac ?_
   exact ⟨_,_,_,by omega,⟨m+1,rfl,rfl,rfl,by omega,(takeWhile_step hlt hI).1 (by simpa using hc)⟩,⟨rfl,rfl,int_eq zo,trivial⟩,HSub.refl _,hj⟩
  ·refine gac ?_
   refine oP (Pure.sslice (i:=0) (j:=m) rfl rfl ⟨_,rfl⟩ zo zo zo) rfl ?_
   refine gaf ?_
   exact retRet hj (zra rfl) (by
    rw[(takeWhile_step hlt hI).2 (by simpa using hc)]
    simp[resLV])
 ·have hge:s.length≤m:=by simpa using ht
  refine gah ?_
  refine oC rfl (fun hc=>?_) (fun hc=>?_)
  ·cases hc
  ·refine gac ?_
   refine oP (Pure.sslice (i:=0) (j:=m) rfl rfl ⟨_,rfl⟩ zo zo zo) rfl ?_
   refine gaf ?_
   exact retRet hj (zra rfl) (by
    rw[takeWhile_end hge hI]
    simp[resLV])
theorem hasPrefix_spec (s p:List UInt8):LCalls (KC B0 w0) 18 [str s,str p] [] (Ret (bool (p.isPrefixOf s))):=
 LCalls.ret_of (vs:=[.string ⟨s.toArray⟩,.string ⟨p.toArray⟩]) fun w _=>(Go.Proofs.Tryz.strings_HasPrefix _ _ w).mono fun e w' he=>by
  obtain ⟨h1,h2⟩:=he
  subst h2
  exact ⟨by simpa [Go.Lib.hasPrefix] using h1,Below.refl _ _⟩
theorem skip_spec (s:List UInt8) (hs:s.length≤1000000000):LCalls (KC B0 w0) 85 [str s] [] (Ret (int .i64 (skipLen s))):=by
 refine cI Tryz.func85 rfl (n:=11) rfl rfl rfl ?_
 refine gay ?_
 refine oS (S.fn [_,_] rfl (hasPrefix_spec s [47,47]) ?_) rfl
 refine gaf ?_
 refine oC rfl (fun hc=>?_) (fun hc=>?_)
 ·refine gaj ?_
  refine oS (S.fn [_,_] rfl (run_spec notNl notNl_spec s hs) ?_) rfl
  refine gab ?_
  exact retRet rfl (zra rfl) (by simp only[resLV,skipLen,hc,if_true])
 ·refine gac ?_
  refine oS (S.fn [_,_] rfl (run_spec isWhite white_spec s hs) ?_) rfl
  refine gab ?_
  exact retRet rfl (zra rfl) (by simp only[resLV,skipLen,hc,Bool.false_eq_true,if_false])
end
end Go.Proofs.YtcbpcianefpniaaGreatDoor
namespace Go.Proofs.YtcbpcianefpniaaGreatDoor
open Go Go.Shelf Go.RowKit Go.Sort Go.Lib
set_option maxHeartbeats 6400000
set_option maxRecDepth 100000
theorem formatUint_main (u : Nat) (hu64 : u < 18446744073709551616) (w : World) (htab : Lib.TabIs Tryz.prog w "internal/strconv.uint64pow10" .u64 Lib.pow10Tab) :
  Calls Tryz.prog 78 #[.int .u64 u,.int .i64 10] w fun e w'=>e=.returned (.string ⟨(Lib.decDigits u).toArray⟩)∧Below w.heap.size w w':=by
 have mixed:Tryz.prog.follows .mixedOrders=true:=by kernel_rfl
 have t3:=Tryz.underlying3;have a3:=Tryz.isAgg3;have z3:=Tryz.sizeOf3;have v3:=Tryz.zeroValue3
 have t9:=Tryz.underlying9;have a9:=Tryz.isAgg9;have z9:=Tryz.sizeOf9;have v9:=Tryz.zeroValue9
 have t4:=Tryz.underlying4;have a4:=Tryz.isAgg4;have z4:=Tryz.sizeOf4;have v4:=Tryz.zeroValue4
 have t142:=Tryz.underlying184;have a142:=Tryz.isAgg184;have z142:=Tryz.sizeOf184;have v142:=Tryz.zeroValue184
 have t0:=Tryz.underlying0;have a0:=Tryz.isAgg0;have z0:=Tryz.sizeOf0;have v0:=Tryz.zeroValue0
 have t119:=Tryz.underlying84;have a119:=Tryz.isAgg84;have z119:=Tryz.sizeOf84;have v119:=Tryz.zeroValue84
 have t85:=Tryz.underlying42;have a85:=Tryz.isAgg42;have z85:=Tryz.sizeOf42;have v85:=Tryz.zeroValue42
 have t5:=Tryz.underlying5;have a5:=Tryz.isAgg5;have z5:=Tryz.sizeOf5;have v5:=Tryz.zeroValue5
 have e137:∀ args w,(callFunc 114 args).run Tryz.prog w=.ok (.enter 114 args) w:=enters_of Tryz.func114 (by kernel_rfl) rfl
 have e138:∀ args w,(callFunc 115 args).run Tryz.prog w=.ok (.enter 115 args) w:=enters_of Tryz.func115 (by kernel_rfl) rfl
 have e139:∀ args w,(callFunc 116 args).run Tryz.prog w=.ok (.enter 116 args) w:=enters_of Tryz.func116 (by kernel_rfl) rfl
 by_cases hs:u<100
 ·go_enter Tryz.func78,Tryz.ntmps78
  go_wp2_with (go_at_fn (114);refine (Tryz.internal_strconv_small u hs _).mono ?_;rintro e w' ⟨rfl,rfl⟩)
  go_ret
  exact ⟨rfl,Below.refl _ _⟩
 ·have hu1:1≤u:=by omega
  have hnd20:Lib.nDigits u≤20:=by have:=Lib.numDigits_eq u hu1 hu64;split at this <;> omega
  have hal:Tryz.prog.arrayLen 184=24:=by simp[Program.arrayLen,Tryz.underlying184]
  have hsl:∀ W,(Instr.sliceAt 184 (.pointer (some ⟨w.heap.size,0,none⟩)) none (some (.int .i64 (Lib.nDigits u:Int))) none).run Tryz.prog W=.ok (.slice (some ⟨w.heap.size,0,none⟩) (Lib.nDigits u) 24) W:=fun W=>by
   rw[run_sliceAt_array_h W 184 ⟨w.heap.size,0,none⟩ (by simp[Program.arrayLen,Program.elem,Tryz.underlying184]) .i64 (Lib.nDigits u:Int) (by omega) (by rw[hal];omega)]
   go_simp
  have hH0:=Lib.holds_zero0 w 184 (Lib.nDigits u) (by omega)
  have hfmt:=Tryz.internal_strconv_formatBase10 w.heap.size 0 24 u (Array.replicate (Lib.nDigits u) 0) (w.alloc (.cells Lib.zeros24 184)) hH0 (by rw[Array.size_replicate];exact Lib.lt_pow_nDigits u) hu64 (by rw[Array.size_replicate];omega)
  rw[Array.size_replicate] at hfmt
  have HH0:=Lib.hid hH0
  clear hH0 hal
  go_enter Tryz.func78,Tryz.ntmps78
  go_wp2_with (first
   |(go_at_fn (115);refine (Tryz.internal_strconv_numDigits u hu1 hu64 _ (Lib.tabIs_alloc htab _)).mono ?_;rintro e w' ⟨rfl,rfl⟩))
  go_at_fn (116)
  refine hfmt.mono ?_
  rintro e w' ⟨rfl,k,v',dk,rfl,hF⟩
  have hcv:(convert 42 9 (.slice (some ⟨w.heap.size,0,none⟩) (Lib.nDigits u) 24)).run Tryz.prog ((putRow (fun (b:UInt8)=>Value.int .u8 (b.toNat:Int)) (w.alloc (.cells Lib.zeros24 184)) w.heap.size 0 dk).drewN k)=.ok (.string ⟨(Lib.decDigits u).toArray⟩) ((putRow (fun (b:UInt8)=>Value.int .u8 (b.toNat:Int)) (w.alloc (.cells Lib.zeros24 184)) w.heap.size 0 dk).drewN k):=by
   have h:=run_convert_bytes_back (P:=Tryz.prog) ((putRow (fun (b:UInt8)=>Value.int .u8 (b.toNat:Int)) (w.alloc (.cells Lib.zeros24 184)) w.heap.size 0 dk).drewN k) 42 9 5 ⟨w.heap.size,0,none⟩ 24 (Lib.decDigits u) Tryz.underlying42 Tryz.underlying5 Tryz.underlying9 (fun j hj=>by
    rw[Lib.row_is_numeral hF j hj,Lib.add_plain,World.cell?_drewN]
    exact cell?_putRow (fun (b:UInt8)=>Value.int .u8 (b.toNat:Int)) _ w.heap.size 0 _ dk HH0.out (by rw[hF.size,Array.size_replicate]) j (by rw[hF.size];rw[Lib.decDigits_length] at hj;exact hj))
   rw[Lib.decDigits_length] at h
   exact h
  go_wp2
  go_ret
  refine ⟨rfl,?_⟩
  obtain ⟨os,eo⟩:=Lib.fin_at w (.cells Lib.zeros24 184) dk k 0
  rw[eo]
  exact Lib.below_grow _ w (Nat.le_refl _) k os
end Go.Proofs.YtcbpcianefpniaaGreatDoor
namespace Go.Proofs.YtcbpcianefpniaaGreatDoor
open Go.GL Go.RowKit Go.Stele
set_option maxRecDepth 100000
set_option maxHeartbeats 4000000
attribute [local irreducible] LOps LCode LStep LCalls Go.GL.Pure QThen QBlock RetPost
structure GW (B0:Nat) (w0:World):Prop where
 pow10 : Go.Lib.TabIs Tryz.prog w0 "internal/strconv.uint64pow10" .u64 Go.Lib.pow10Tab
 errRange : ∃ tp p, w0.var? Tryz.prog "strconv.ErrRange" = some #[.iface tp p]
 big:8≤B0
section
variable {B0:Nat} {w0:World}
theorem GW.tab (h : GW B0 w0) {w : World} (hb : Below B0 w0 w) : Go.Lib.TabIs Tryz.prog w "internal/strconv.uint64pow10" .u64 Go.Lib.pow10Tab := by
 have hg : Tryz.prog.globalNamed "internal/strconv.uint64pow10" = some 1 := by kernel_rfl
 exact var?_below hb hg (Nat.lt_of_lt_of_le (by decide) h.big) h.pow10
theorem GW.err (h : GW B0 w0) {w : World} (hb : Below B0 w0 w) : ∃ tp p, w.var? Tryz.prog "strconv.ErrRange" = some #[.iface tp p] := by
 have hg : Tryz.prog.globalNamed "strconv.ErrRange" = some 7 := by kernel_rfl
 obtain ⟨tp,p,hv⟩:=h.errRange
 exact ⟨tp,p,var?_below hb hg (Nat.lt_of_lt_of_le (by decide) h.big) hv⟩
theorem itoa_spec (hG:GW B0 w0) (u:Nat) (hu:u≤9223372036854775807):LCalls (KC B0 w0) 176 [int .i64 u] [] (Ret (str (Go.Lib.decDigits u))):=
 LCalls.ret_of (vs:=[.int .i64 u]) fun w hw=>(Go.Proofs.Tryz.strconv_Itoa u zo zo w (hG.tab hw)).mono fun e w' he=>by
  obtain ⟨h1,k,os,h2⟩:=he
  rw[Go.Lib.itoa_nonneg] at h1
  exact ⟨h1,by rw[h2];exact Go.Lib.below_grow _ w (Nat.le_refl _) k os⟩
theorem fmtUint_spec (hG:GW B0 w0) (u:Nat) (hu:u<18446744073709551616):LCalls (KC B0 w0) 34 [int .u64 u,int .i64 10] [] (Ret (str (Go.Lib.decDigits u))):=by
 refine cI Tryz.func34 rfl (n:=8) rfl rfl rfl ?_
 refine gay ?_
 refine oS (S.fn [_,_] rfl (LCalls.ret_of (vs:=[.int .u64 u,.int .i64 10]) fun w hw=>formatUint_main u hu w (hG.tab hw)) ?_) rfl
 refine gaf ?_
 exact retRet rfl (zra rfl) rfl
theorem parseUint_ok (s:List UInt8) (hs:s.length≤1000000000) (u:Nat) (h:Go.Lib.parseUintB 32 s=.ok u) :
  LCalls (KC B0 w0) 173 [str s,int .i64 10,int .i64 32] [] (Ret (.tuple [int .u64 u,.atom .nilIface])):=by
 refine LCalls.mono (LCalls.of_belowT (vs:=[.string ⟨s.toArray⟩,.int .i64 10,.int .i64 32]) (p:=fun us=>us=[.int .u64 u,.nilIface]) fun w hw=>?_) ?_
 ·refine (Go.Proofs.Tryz.strconv_ParseUint_10_at32_ok ⟨s.toArray⟩ ?_ u (by simpa using h) w).mono fun e w' he=>⟨_,he.1,rfl,?_⟩
  ·show s.toArray.size≤_
   simp
   omega
  ·rcases he.2 with h2|h2
   ·rw[h2];exact Below.refl _ _
   ·rw[h2]
    exact ⟨rfl,rfl,rfl,by rw[Go.Lib.bytesWorld_size];omega,fun k hk=>Go.Lib.bytesWorld_at_old w 5 _ k hk⟩
 ·rintro r H ⟨v,rfl,⟨us,rfl,rfl⟩,rfl⟩
  exact ⟨rfl,rfl⟩
theorem parseUint_range (hG:GW B0 w0) (s:List UInt8) (hs:s.length≤1000000000) (h:Go.Lib.parseUintB 32 s=.range) :
  LCalls (KC B0 w0) 173 [str s,int .i64 10,int .i64 32] [] (RetIf fun lv=>∃ v t p,lv=.tuple [int .u64 v,.atom (.iface t p)]):=by
 refine LCalls.mono (LCalls.of_belowT (vs:=[.string ⟨s.toArray⟩,.int .i64 10,.int .i64 32]) (p:=fun us=>∃ v t p,us=[.int .u64 v,.iface t p]) fun w hw=>?_) ?_
 ·obtain ⟨tp,p,hv⟩:=hG.err hw
  refine (Go.Proofs.Tryz.strconv_ParseUint_10_at32_range_var ⟨s.toArray⟩ ?_ (by simpa using h) tp p w hv).mono fun e w' he=>?_
  ·show s.toArray.size≤_
   simp
   omega
  ·obtain ⟨N,h1,_,_,h4⟩:=he
   exact ⟨_,h1,⟨_,_,_,rfl⟩,h4⟩
 ·rintro r H ⟨v,rfl,⟨us,⟨a,t,p,rfl⟩,rfl⟩,rfl⟩
  exact ⟨_,rfl,⟨a,t,p,rfl⟩,rfl⟩
theorem countNl_spec (s:List UInt8):LCalls (KC B0 w0) 80 [str s,str [10]] [] (Ret (int .i64 (s.count 10))):=
 LCalls.ret_of (vs:=[.string ⟨s.toArray⟩,.string ⟨#[10]⟩]) fun w _=>(Go.Proofs.Tryz.strings_Count_one _ _ w).mono fun e w' he=>by
  obtain ⟨h1,h2⟩:=he
  subst h2
  exact ⟨by simpa [Go.Lib.countByte] using h1,Below.refl _ _⟩
end
end Go.Proofs.YtcbpcianefpniaaGreatDoor
namespace Go.Proofs.YtcbpcianefpniaaGreatDoor
open Go.GL Go.RowKit Go.Stele
set_option maxRecDepth 100000
set_option maxHeartbeats 4000000
attribute [local irreducible] LOps LCode LStep LCalls Go.GL.Pure QThen QBlock RetPost
def encTok (t:Tok):LV:=.agg [int .i64 t.kind,str t.text,int .i64 t.line]
def encTokR (r:TokR):LV:=.tuple [encTok r.1,int .i64 r.2.1,int .i64 r.2.2]
theorem elemsOk_strs (l:List (List UInt8)):elemsOk 1 (l.map str):=fun v hv=>by
 obtain ⟨x,_,rfl⟩:=List.mem_map.1 hv
 exact ⟨rfl,rfl⟩
section
variable {B0:Nat} {w0:World}
theorem Keywords_spec:LCalls (KC B0 w0) 175 [] [] (Ret (.list (keywords.map str))):=by
 refine cI Tryz.func175 rfl (n:=2) rfl rfl rfl ?_
 refine gai ?_
 refine oS (S.lit [_,_,_,_,_,_,_,_] rfl (elemsOk_strs keywords) rfl rfl rfl ?_) rfl
 refine gab ?_
 exact retRet rfl (rC (rT (v:=.list _) rfl zsr) rN) rfl
theorem signs_spec:LCalls (KC B0 w0) 135 [] [] (Ret (.list (signs.map str))):=by
 refine cI Tryz.func135 rfl (n:=2) rfl rfl rfl ?_
 refine gai ?_
 refine oS (S.lit [_,_,_,_,_,_,_,_,_,_,_,_,_,_,_,_,_,_,_,_,_,_,_,_] rfl (elemsOk_strs signs) rfl rfl rfl ?_) rfl
 refine gab ?_
 exact retRet rfl (rC (rT (v:=.list _) rfl zsr) rN) rfl
theorem Index_spec (l:List (List UInt8)) (x:List UInt8) (hl:l.length≤1000000000):LCalls (KC B0 w0) 177 [.list (l.map str),str x] [] (RetIf fun lv=>∃ n:Int,lv=int .i64 n∧decide (0≤n)=l.contains x):=by
 refine cI Tryz.func177 rfl (n:=19) rfl rfl rfl ?_
 refine gac ?_
 refine oL (fun k ls H=>∃ m:Nat,k=l.length-m∧ls=[(0,.list (l.map str)),(1,str x),(7,int .i64 (l.map str).length),(8,int .i64 m)]∧H=[]∧m≤l.length∧l.contains x=(l.drop m).contains x)
  ⟨_,_,_,⟨0,rfl,rfl,rfl,by omega,by simp⟩,⟨rfl,rfl,rfl,rfl,trivial⟩,HSub.refl _⟩ ?_
 rintro k ls H ⟨m,rfl,rfl,rfl,hm,hI⟩ j hj
 refine gak ?_
 refine oC rfl (fun hc=>?_) (fun hc=>?_)
 ·have hlt:m<l.length:=by simpa using hc
  refine gac ?_
  refine oP (xR (el':=str l[m]) rfl rfl zo (by simp) rfl rfl) rfl ?_
  refine gab ?_
  refine oC rfl (fun he=>?_) (fun he=>?_)
  ·refine gap ?_
   have hx:x=l[m]:=by simpa using he
   exact retRetIf hj (zra rfl) ⟨m,rfl,by
    rw[hx,decide_eq_true zo]
    simp⟩
  ·refine gar ?_
   have hx:¬ x=l[m]:=by simpa using he
   exact ⟨_,_,_,by omega,⟨m+1,rfl,rfl,rfl,by omega,by
    rw[hI,List.drop_eq_getElem_cons hlt,List.contains_cons]
    simp[hx]⟩,⟨rfl,rfl,rfl,int_eq zo,trivial⟩,HSub.refl _,hj⟩
 ·have hge:l.length≤m:=by simpa using hc
  refine gac ?_
  exact retRetIf hj (zra rfl) ⟨-1,rfl,by
   rw[hI,List.drop_eq_nil_of_le hge]
   rfl⟩
theorem Contains_spec (l:List (List UInt8)) (x:List UInt8) (hl:l.length≤1000000000):LCalls (KC B0 w0) 136 [.list (l.map str),str x] [] (Ret (bool (l.contains x))):=by
 refine cI Tryz.func136 rfl (n:=9) rfl rfl rfl ?_
 refine gac ?_
 refine oS (S.fnIf [_,_] rfl (Index_spec l x hl) ?_) rfl
 rintro lv ⟨n,rfl,hn⟩
 refine gab ?_
 exact retRet rfl (zra rfl) (by rw[←hn];rfl)
theorem name_spec (s:List UInt8) (hs:s.length≤1000000000):LCalls (KC B0 w0) 133 [str s] [] (Ret (encTokR (lexName s))):=by
 refine cI Tryz.func133 rfl (n:=21) rfl rfl rfl ?_
 refine gag ?_
 refine oS (S.alloc fun b=>?_) rfl
 refine gay ?_
 refine oS (S.fn [_,_] rfl (run_spec isInner inner_spec s hs) ?_) rfl
 refine gaa ?_
 refine oC rfl (fun hc=>?_) (fun hc=>?_)
 ·refine gaa ?_
  exact retRet rfl (rC (rA rfl zm0 rfl zsr) (rC (zrt rfl) (zra rfl))) (by
   rw[lexName,if_pos (by have:=zt hc;omega)]
   rfl)
 ·refine gac ?_
  refine oS (S.fn [] rfl Keywords_spec ?_) rfl
  refine gao ?_
  refine oS (S.fn [_,_] rfl (Contains_spec keywords (s.takeWhile isInner) (by decide)) ?_) rfl
  refine gaf ?_
  refine oC rfl (fun hk=>?_) (fun hk=>?_)
  ·refine gaa ?_
   exact retRet rfl (rC (rA rfl zm0 rfl zsr) (rC (zrt rfl) (zra rfl))) (by
    rw[lexName,if_neg (by have:=zf hc;omega),if_pos hk]
    rfl)
  ·refine gaa ?_
   exact retRet rfl (rC (rA rfl zm0 rfl zsr) (rC (zrt rfl) (zra rfl))) (by
    rw[lexName,if_neg (by have:=zf hc;omega),if_neg (by rw[hk];decide)]
    rfl)
end
end Go.Proofs.YtcbpcianefpniaaGreatDoor
namespace Go.Proofs.YtcbpcianefpniaaGreatDoor
open Go.GL Go.RowKit Go.Stele
set_option maxRecDepth 100000
set_option maxHeartbeats 4000000
attribute [local irreducible] LOps LCode LStep LCalls Go.GL.Pure QThen QBlock RetPost
theorem parseUintM_digits (M:Nat) (acc:Nat) (l:List UInt8) (h:∀ c∈l,isDigit c=true):Go.Lib.parseUintM M acc l=.range∨∃ u,Go.Lib.parseUintM M acc l=.ok u:=by
 induction l generalizing acc with
 |nil=>exact .inr ⟨acc,rfl⟩
 |cons c r ih=>
  have hc:=h c List.mem_cons_self
  simp only[isDigit,Bool.and_eq_true,decide_eq_true_eq,cv] at hc
  rw[Go.Lib.parseUintM,if_pos zo]
  split
  ·exact .inl rfl
  ·split
   ·exact .inl rfl
   ·exact ih _ (fun c hc=>h c (List.mem_cons_of_mem _ hc))
theorem parseUintM_bound (M:Nat) (acc:Nat) (l:List UInt8) (ha:acc≤M) {u:Nat} (h:Go.Lib.parseUintM M acc l=.ok u):u≤M:=by
 induction l generalizing acc with
 |nil=>simp only[Go.Lib.parseUintM,Go.Lib.NumEnd.ok.injEq] at h;omega
 |cons c r ih=>
  rw[Go.Lib.parseUintM] at h
  split at h
  ·split at h
   ·cases h
   ·split at h
    ·cases h
    ·exact ih _ zo h
  ·cases h
theorem parseUint_digits (s:List UInt8) (hne:s.takeWhile isDigit≠[]):Go.Lib.parseUintB 32 (s.takeWhile isDigit)=.range∨∃ u,u<18446744073709551616∧Go.Lib.parseUintB 32 (s.takeWhile isDigit)=.ok u:=by
 unfold Go.Lib.parseUintB
 rw[if_neg hne]
 have hall:∀ (s:List UInt8),∀ c∈s.takeWhile isDigit,isDigit c=true:=fun s c hc=>by
  induction s with
  |nil=>cases hc
  |cons a r ih=>
   by_cases ha:isDigit a=true
   ·rw[List.takeWhile_cons_of_pos ha] at hc
    rcases List.mem_cons.1 hc with rfl|hc
    ·exact ha
    ·exact ih hc
   ·rw[List.takeWhile_cons_of_neg ha] at hc
    cases hc
 rcases parseUintM_digits (2 ^ 32-1) 0 (s.takeWhile isDigit) (hall s) with h|⟨u,h⟩
 ·exact .inl h
 ·have:=parseUintM_bound _ _ _ zo h
  exact .inr ⟨u,by omega,h⟩
instance:TIface Tryz.prog 146:=.of zk
section
variable {B0:Nat} {w0:World}
theorem number_spec (hG:GW B0 w0) (s:List UInt8) (hs:s.length≤1000000000) (hne:s.takeWhile isDigit≠[]):LCalls (KC B0 w0) 131 [str s] [] (Ret (encTokR (lexNumber s))):=by
 refine cI Tryz.func131 rfl (n:=43) rfl rfl rfl ?_
 refine gag ?_
 refine oS (S.alloc fun b=>?_) rfl
 refine gay ?_
 refine oS (S.fn [_,_] rfl (run_spec isDigit digit_spec s hs) ?_) rfl
 refine gaa ?_
 refine LOps.cut [(0,str s),(2,ptr b 0),(5,str (s.takeWhile isDigit)),(28,bool (wordNext s (s.takeWhile isDigit).length))] ?_ (fun j hj=>?_)
 ·refine oB 17 rfl (fun ht=>?_) (fun ht=>?_)
  ·have hlt:(s.takeWhile isDigit).length<s.length:=by simpa using ht
   have hw:wordNext s (s.takeWhile isDigit).length=(isLetter s[(s.takeWhile isDigit).length] || decide (cv s[(s.takeWhile isDigit).length]=95)):=by
    rw[wordNext,List.getElem?_eq_getElem hlt]
   refine gao ?_
   refine oP (Pure.sindex (c:=s[(s.takeWhile isDigit).length]) rfl rfl zo (by simp)) rfl ?_
   refine LOps.want rfl rfl ?_
   refine oS (S.fn [_] rfl (letter_spec _) ?_) rfl
   refine gao ?_
   refine oB 22 rfl (fun hl=>?_) (fun hl=>?_)
   ·refine gad ?_
    exact ⟨⟨rfl,rfl,rfl,bool_eq (by rw[hw,hl];rfl),trivial⟩,rfl,rfl⟩
   ·refine gao ?_
    refine oP (Pure.sindex (c:=s[(s.takeWhile isDigit).length]) rfl rfl zo (by simp)) rfl ?_
    refine gad ?_
    exact ⟨⟨rfl,rfl,rfl,bool_eq (by rw[hw,hl];rfl),trivial⟩,rfl,rfl⟩
  ·have hge:s.length≤(s.takeWhile isDigit).length:=by simpa using ht
   refine gab ?_
   exact ⟨⟨rfl,rfl,rfl,bool_eq (by rw[wordNext,List.getElem?_eq_none hge]),trivial⟩,rfl,rfl⟩
 ·skip
  refine oC rfl (fun hc=>?_) (fun hc=>?_)
  ·refine gaa ?_
   exact retRet hj (rC (rA rfl zm0 rfl zsr) (rC (zrt rfl) (zra rfl))) (by
    rw[lexNumber,if_pos hc]
    rfl)
  ·refine gac ?_
   rcases parseUint_digits s hne with hp|⟨u,hu,hp⟩
   ·refine oS (S.fnIf [_,_,_] rfl (parseUint_range hG (s.takeWhile isDigit) (Nat.le_trans (List.takeWhile_prefix isDigit).length_le hs) hp) ?_) rfl
    rintro lv ⟨v,t,p,rfl⟩
    refine gaa ?_
    refine oC rfl (fun hc=>?_) (fun hc=>?_)
    ·refine gaa ?_
     exact retRet hj (rC (rA rfl zm0 rfl zsr) (rC (zrt rfl) (zra rfl))) (by
      rw[lexNumber,if_neg (by rw[‹wordNext s _=false›];decide),hp]
      rfl)
    ·cases hc
   ·refine oS (S.fn [_,_,_] rfl (parseUint_ok (s.takeWhile isDigit) (Nat.le_trans (List.takeWhile_prefix isDigit).length_le hs) u hp) ?_) rfl
    refine gaa ?_
    refine oC rfl (fun hc=>?_) (fun hc=>?_)
    ·cases hc
    ·refine gac ?_
     refine oS (S.fn [_,_] rfl (fmtUint_spec hG u hu) ?_) rfl
     refine gab ?_
     exact retRet hj (rC (rA rfl zm0 rfl zsr) (rC (zrt rfl) (zra rfl))) (by
      rw[lexNumber,if_neg (by rw[‹wordNext s _=false›];decide),hp]
      rfl)
theorem literal_spec (hG:GW B0 w0) (s:List UInt8) (hs:s.length≤1000000000):LCalls (KC B0 w0) 134 [str s] [] (Ret (encTokR (lexLiteral s))):=by
 by_cases h3:s.length<3
 ·have hl:lexLiteral s=tokErr 3:=by
   match s,h3 with
   |[],_=>rfl
   |[_],_=>rfl
   |[_,_],_=>rfl
  refine cI Tryz.func134 rfl (n:=39) rfl rfl rfl ?_
  refine gag ?_
  refine oS (S.alloc fun b=>?_) rfl
  refine gaa ?_
  refine oB 8 rfl (fun ht=>?_) (fun ht=>?_)
  ·refine gad ?_
   refine oC rfl (fun hc=>?_) (fun hc=>?_)
   ·refine gaa ?_
    exact retRet rfl (rC (rA rfl zm0 rfl zsr) (rC (zrt rfl) (zra rfl))) (by rw[hl];rfl)
   ·cases hc
  ·exact absurd (zf ht) zo
 ·match s,h3 with
  |[],h=>exact absurd (by simp) h
  |[_],h=>exact absurd (by simp) h
  |[_,_],h=>exact absurd (by simp) h
  |x::c1::c2::r,h=>
   refine cI Tryz.func134 rfl (n:=39) rfl rfl rfl ?_
   refine gag ?_
   refine oS (S.alloc fun b=>?_) rfl
   refine gaa ?_
   refine LOps.cut [(0,str (x::c1::c2::r)),(2,ptr b 0),(32,bool ((!decide (cv c2=39)) || decide (cv c1<32) || decide (126<cv c1) || decide (cv c1=39) || decide (cv c1=92)))] ?_ (fun j hj=>?_)
   ·refine oB 8 rfl (fun ht=>?_) (fun ht0=>?_)
    ·exact absurd (zt ht) (by simp only[List.length_cons];omega)
    ·skip
     refine oP (Pure.sindex (c:=c2) rfl rfl (by decide) rfl) rfl ?_
     refine gab ?_
     refine oB 13 rfl (fun ht=>?_) (fun ht1=>?_)
     ·refine gad ?_
      exact ⟨⟨rfl,rfl,bool_eq (by rw[ht];rfl),trivial⟩,rfl,rfl⟩
     ·refine gao ?_
      refine oP (Pure.sindex (c:=c1) rfl rfl (by decide) rfl) rfl ?_
      refine gad ?_
      refine oB 18 rfl (fun ht=>?_) (fun ht2=>?_)
      ·refine gad ?_
       exact ⟨⟨rfl,rfl,bool_eq (by rw[ht1,ht];rfl),trivial⟩,rfl,rfl⟩
      ·refine gao ?_
       refine oP (Pure.sindex (c:=c1) rfl rfl (by decide) rfl) rfl ?_
       refine gab ?_
       refine oB 23 rfl (fun ht=>?_) (fun ht3=>?_)
       ·refine gad ?_
        exact ⟨⟨rfl,rfl,bool_eq (by rw[ht1,ht2,ht];rfl),trivial⟩,rfl,rfl⟩
       ·refine gao ?_
        refine oP (Pure.sindex (c:=c1) rfl rfl (by decide) rfl) rfl ?_
        refine gad ?_
        refine oB 28 rfl (fun ht=>?_) (fun ht4=>?_)
        ·refine gad ?_
         exact ⟨⟨rfl,rfl,bool_eq (by rw[ht1,ht2,ht3,ht];rfl),trivial⟩,rfl,rfl⟩
        ·refine gao ?_
         refine oP (Pure.sindex (c:=c1) rfl rfl (by decide) rfl) rfl ?_
         refine gad ?_
         exact ⟨⟨rfl,rfl,bool_eq (by rw[ht1,ht2,ht3,ht4];rfl),trivial⟩,rfl,rfl⟩
   ·skip
    refine oC rfl (fun hc=>?_) (fun hc=>?_)
    ·refine gaa ?_
     exact retRet hj (rC (rA rfl zm0 rfl zsr) (rC (zrt rfl) (zra rfl))) (by rw[lexLiteral,if_pos hc];rfl)
    ·refine gac ?_
     refine oP (Pure.sindex (c:=c1) rfl rfl (by decide) rfl) rfl ?_
     refine oP (Pure.cvt rfl) rfl ?_
     have hw:IntKind.i64.wrap (c1.toNat:Int)=((c1.toNat:Nat):Int):=wrap_i64 (by have:=c1.toNat_lt;omega)
     rw[hw]
     refine oS (S.fn [_] rfl (itoa_spec hG c1.toNat (by have:=c1.toNat_lt;omega)) ?_) rfl
     refine gab ?_
     exact retRet hj (rC (rA rfl zm0 rfl zsr) (rC (zrt rfl) (zra rfl))) (by rw[lexLiteral,if_neg (by rw[hc];decide)];rfl)
theorem token_spec (hG:GW B0 w0) (s:List UInt8) (hs:s.length≤1000000000) (hne:s≠[]):LCalls (KC B0 w0) 86 [str s] [] (Ret (encTokR (lexToken s))):=by
 match s,hne with
 |c::r,_=>
  refine cI Tryz.func86 rfl (n:=49) rfl rfl rfl ?_
  refine gag ?_
  refine oS (S.alloc fun b=>?_) rfl
  refine gac ?_
  refine oP (Pure.sindex (c:=c) rfl rfl (by decide) rfl) rfl ?_
  refine oS (S.fn [_] rfl (digit_spec c) ?_) rfl
  refine gaf ?_
  refine oC rfl (fun hc=>?_) (fun hc=>?_)
  ·refine gaj ?_
   refine oS (S.fn [_] rfl (number_spec hG (c::r) hs (by rw[List.takeWhile_cons_of_pos hc];simp)) ?_) rfl
   refine gab ?_
   exact retRet rfl (rC (rA rfl zm0 rfl zsr) (rC (zrt rfl) (zra rfl))) (by simp only[lexToken,hc,if_true];rfl)
  ·refine gaj ?_
   refine oP (Pure.sindex (c:=c) rfl rfl (by decide) rfl) rfl ?_
   refine oS (S.fn [_] rfl (letter_spec c) ?_) rfl
   refine gaf ?_
   refine oC rfl (fun hl=>?_) (fun hl=>?_)
   ·refine gaj ?_
    refine oS (S.fn [_] rfl (name_spec (c::r) hs) ?_) rfl
    refine gab ?_
    exact retRet rfl (rC (rA rfl zm0 rfl zsr) (rC (zrt rfl) (zra rfl))) (by simp only[lexToken,hc,hl,if_true,Bool.false_eq_true,if_false];rfl)
   ·refine gaj ?_
    refine oP (Pure.sindex (c:=c) rfl rfl (by decide) rfl) rfl ?_
    refine gad ?_
    refine oC rfl (fun hq=>?_) (fun hq=>?_)
    ·refine gaj ?_
     refine oS (S.fn [_] rfl (literal_spec hG (c::r) hs) ?_) rfl
     refine gab ?_
     exact retRet rfl (rC (rA rfl zm0 rfl zsr) (rC (zrt rfl) (zra rfl))) (by simp only[lexToken,hc,hl,Bool.false_eq_true,if_false];rw[if_pos hq];rfl)
    ·have htok:lexToken (c::r)=lexSign (c::r):=by simp only[lexToken,hc,hl,Bool.false_eq_true,if_false];rw[if_neg (by rw[hq];decide)]
     refine gac ?_
     refine oS (S.fn [] rfl signs_spec ?_) rfl
     refine gad ?_
     refine oL (fun k ls H=>∃ m:Nat,k=signs.length-m∧ls=[(0,str (c::r)),(2,ptr b 0),(34,.list (signs.map str)),(35,int .i64 24),(36,int .i64 m)]∧H=[(b,.cells 153 [int .i64 0,str [],int .i64 0])]∧m≤24∧signs.find? (fun x=>x.isPrefixOf (c::r))=(signs.drop m).find? (fun x=>x.isPrefixOf (c::r)))
      ⟨_,_,_,⟨0,rfl,rfl,rfl,by omega,by simp⟩,⟨rfl,rfl,rfl,rfl,rfl,trivial⟩,HSub.refl _⟩ ?_
     rintro k ls H ⟨m,rfl,rfl,rfl,hm,hI⟩ j hj
     have h24:signs.length=24:=rfl
     refine gak ?_
     refine oC rfl (fun ht=>?_) (fun ht=>?_)
     ·have hlt:m<signs.length:=by have:=zt ht;omega
      refine gal ?_
      refine oP (xR (el':=str signs[m]) rfl rfl zo (by simp) rfl rfl) rfl ?_
      refine gaa ?_
      refine oS (S.fn [_,_] rfl (hasPrefix_spec (c::r) signs[m]) ?_) rfl
      refine gaf ?_
      refine oC rfl (fun hp=>?_) (fun hp=>?_)
      ·refine gaa ?_
       exact retRet hj (rC (rA rfl zm0 rfl zsr) (rC (zrt rfl) (zra rfl))) (by
        rw[htok,lexSign,hI,List.drop_eq_getElem_cons hlt,List.find?_cons_of_pos (by simpa using hp)]
        rfl)
      ·refine gar ?_
       exact ⟨_,_,_,by omega,⟨m+1,rfl,rfl,rfl,by omega,by
        rw[hI,List.drop_eq_getElem_cons hlt,List.find?_cons_of_neg (by rw[hp];decide)]⟩,⟨rfl,rfl,rfl,rfl,int_eq zo,trivial⟩,HSub.refl _,hj⟩
     ·have hge:signs.length≤m:=by have:=zf ht;omega
      refine gaa ?_
      exact retRet hj (rC (rA rfl zm0 rfl zsr) (rC (zrt rfl) (zra rfl))) (by
       rw[htok,lexSign,hI,List.drop_eq_nil_of_le hge]
       rfl)
end
end Go.Proofs.YtcbpcianefpniaaGreatDoor
namespace Go.Proofs.YtcbpcianefpniaaGreatDoor
open Go.GL Go.RowKit Go.Stele
set_option maxRecDepth 100000
set_option maxHeartbeats 4000000
attribute [local irreducible] LOps LCode LStep LCalls Go.GL.Pure QThen QBlock RetPost
def lexAllP (s:List UInt8):Except (Int×Int) (List Tok):=if 60000<s.length then .error (0,6) else lexP s.length s 1
def encLex:Except (Int×Int) (List Tok)→LV
 |.ok T=>.tuple [.list (T.map encTok),int .i64 0,int .i64 0]
 |.error (l,e)=>.tuple [.list [],int .i64 l,int .i64 e]
theorem map_map_ex {A B D:Type} (f:A→B) (h:B→D) (r:Except (Int×Int) A):(r.map f).map h=r.map (fun x=>h (f x)):=by cases r <;> rfl
section
variable {B0:Nat} {w0:World}
theorem Tokens_spec (hG:GW B0 w0) (s:List UInt8) (hs:s.length≤1000000000):LCalls (KC B0 w0) 37 [str s] [] (Ret (encLex (lexAllP s))):=by
 refine cI Tryz.func37 rfl (n:=49) rfl rfl rfl ?_
 refine gaa ?_
 refine oC rfl (fun hc=>?_) (fun hc=>?_)
 ·refine gau ?_
  exact retRet rfl (rC (rT (v:=nilSlice) rfl LV.Sub.nil) (rC (zrt rfl) (zra rfl))) (by
   rw[lexAllP,if_pos (by have:=zt hc;omega)]
   rfl)
 ·have hlen:s.length≤60000:=by have:=zf hc;omega
  refine gac ?_
  refine oL (fun k ls H=>∃ (v:LV) (out:List Tok) (rest:List UInt8) (line:Int) (fuel:Nat),k=rest.length∧ls=[(5,v),(6,int .i64 line),(7,str rest)]∧Acc 3 v (out.map encTok) H [] ∧
    rest.length≤fuel∧0≤line∧line+rest.length≤60001∧out.length+rest.length≤60000∧lexP s.length s 1=(lexP fuel rest line).map (out++·))
   ⟨_,_,_,⟨nilSlice,[],s,1,s.length,rfl,rfl,Acc.nil,by omega,by omega,by omega,by simp;omega,by cases lexP s.length s 1 <;> rfl⟩,⟨rfl,rfl,rfl,trivial⟩,HSub.refl _⟩ ?_
  rintro k ls H ⟨v,out,rest,line,fuel,rfl,rfl,hacc,hf,hl0,hl1,ho,hI⟩ j hj
  refine gaa ?_
  refine oC rfl (fun hne=>?_) (fun hne=>?_)
  ·have hrest:rest≠[]:=by simpa using hne
   obtain ⟨f,rfl⟩:∃ f,fuel=f+1:=⟨fuel-1,by
    have:0<rest.length:=List.length_pos_iff.2 hrest
    omega⟩
   rw[lexP,if_neg hrest] at hI
   have hsk:=skipLen_le rest
   refine gac ?_
   refine oS (S.fn [_] rfl (skip_spec rest zo) ?_) rfl
   refine gac ?_
   refine oC rfl (fun hz=>?_) (fun hz=>?_)
   ·have hz':skipLen rest=0:=by have:=zt hz;omega
    rw[if_pos hz'] at hI
    refine gaj ?_
    refine oS (S.fn [_] rfl (token_spec hG rest zo hrest) ?_) rfl
    refine gab ?_
    refine oS (S.alloc fun b=>?_) rfl
    refine gaa ?_
    refine oC rfl (fun he=>?_) (fun he=>?_)
    ·have he':(lexToken rest).2.2≠0:=by simpa using he
     rw[if_pos he'] at hI
     refine gap ?_
     exact retRet hj (rC (rT (v:=nilSlice) rfl LV.Sub.nil) (rC (zrt rfl) (zra rfl))) (by
      rw[lexAllP,if_neg zo,hI]
      rfl)
    ·have he':(lexToken rest).2.2=0:=by simpa using he
     rw[if_neg (by simpa using he')] at hI
     obtain ⟨hs0,hs1⟩:=lexToken_size rest he'
     refine gaa ?_
     refine oP (Pure.mv (lv:=v) rfl) rfl ?_
     refine gab ?_
     refine oS (S.lit [_] rfl (eC rfl rfl eN) rfl rfl rfl ?_) rfl
     refine LOps.weak (zhD zhr) ?_
     refine oS (S.acc rfl hacc rfl (by simp;rfl) rfl (by simp;omega) fun v' H' hacc'=>?_) rfl
     refine oP (Pure.as (lv:=v') rfl) rfl ?_
     refine gay ?_
     refine oP (Pure.sslice (i:=0) (j:=(lexToken rest).2.1) rfl rfl ⟨_,rfl⟩ zo zo zo) rfl ?_
     refine oS (S.fn [_,_] rfl (countNl_spec _) ?_) rfl
     have hcnt:(List.drop (Int.toNat 0) (List.take ((lexToken rest).2.1:Int).toNat rest)).count 10≤(lexToken rest).2.1:=Nat.le_trans List.count_le_length (by simp;omega)
     refine gac ?_
     refine oP (Pure.sslice (i:=(lexToken rest).2.1) (j:=rest.length) rfl ⟨_,rfl⟩ rfl zo zo zo) rfl ?_
     refine gad ?_
     have hacc2:Acc 3 v' ((out++[{ (lexToken rest).1 with line:=line }]).map encTok) H' []:=by
      rw[List.map_append]
      exact hacc'
     exact ⟨_,_,_,by simp only[List.length_drop];omega,⟨v',out++[{ (lexToken rest).1 with line:=line }],rest.drop (lexToken rest).2.1,line+((rest.take (lexToken rest).2.1).count 10:Nat),f,rfl,rfl,hacc2,
      by simp only[List.length_drop];omega,by omega,by simp only[List.length_drop];simp at hcnt;omega,by simp only[List.length_drop,List.length_append,List.length_singleton];omega,by
       rw[hI,map_map_ex]
       congr 1
       funext x
       simp⟩,⟨rfl,int_eq (by simp),str_eq (by simp),trivial⟩,HSub.refl _,hj⟩
   ·have hz':¬ skipLen rest=0:=by have:=zf hz;omega
    rw[if_neg hz'] at hI
    refine gac ?_
    refine oP (Pure.sslice (i:=0) (j:=skipLen rest) rfl rfl ⟨_,rfl⟩ zo zo zo) rfl ?_
    refine oS (S.fn [_,_] rfl (countNl_spec _) ?_) rfl
    have hcnt:(List.drop (Int.toNat 0) (List.take (skipLen rest:Int).toNat rest)).count 10≤skipLen rest:=Nat.le_trans List.count_le_length (by simp;omega)
    refine gac ?_
    refine oP (Pure.sslice (i:=skipLen rest) (j:=rest.length) rfl ⟨_,rfl⟩ rfl zo zo zo) rfl ?_
    refine gad ?_
    exact ⟨_,_,_,by simp only[List.length_drop];omega,⟨v,out,rest.drop (skipLen rest),line+((rest.take (skipLen rest)).count 10:Nat),f,rfl,rfl,hacc,
      by simp only[List.length_drop];omega,by omega,by simp only[List.length_drop];simp at hcnt;omega,by simp only[List.length_drop];omega,hI⟩,⟨rfl,int_eq (by simp),str_eq (by simp),trivial⟩,HSub.refl _,hj⟩
  ·have hrest:rest=[]:=by simpa using hne
   refine gac ?_
   refine oP (Pure.mv (lv:=v) rfl) rfl ?_
   refine oP (Pure.as (lv:=v) rfl) rfl ?_
   refine gaf ?_
   exact retRet hj (rC (rT (v:=v) rfl hacc.sub) (rC (zrt rfl) (zra rfl))) (by
    rw[lexAllP,if_neg zo,hI,hrest]
    cases fuel <;> simp[lexP,Except.map,encLex,resLV])
end
end Go.Proofs.YtcbpcianefpniaaGreatDoor
namespace Go.Proofs.YtcbpcianefpniaaGreatDoor
open Go.GL Go.RowKit Go.Stele
set_option maxRecDepth 100000
set_option maxHeartbeats 4000000
attribute [local irreducible] LOps LCode LStep LCalls Go.GL.Pure QThen QBlock RetPost LQ LAny LLate LLateOp
@[reducible] def srcH (sb:Nat) (T:List Tok) (i op:Nat):Nat×LObj:=(sb,.cells 95 [.list (T.map encTok),int .i64 i,int .i64 op])
def pan (l e:Int):List PanicEntry:=[{ v:=.iface 91 (.agg #[.int .i64 l,.int .i64 e]),recovered:=false }]
def PostP {A:Type} (sb:Nat) (T:List Tok) (enc:A→LV) (res:Res A) (r:LRes) (H:Heap):Prop:=match res with
 |.ok v i op=>r=.ret (enc v)∧H=[srcH sb T i op]
 |.err l e=>r=.panic (pan l e)∧∃ i op:Nat,H=[srcH sb T i op]
def encU:Unit→LV:=fun _=>.tuple []
theorem map_get {A:Type} (f:A→LV) (l:List A) (i:Nat) (h:i<l.length):(l.map f)[((i:Nat):Int).toNat]? = some (f l[i]):=by
 rw[Int.toNat_natCast,List.getElem?_map,List.getElem?_eq_getElem h]
 rfl
section
variable {B0:Nat} {w0:World}
theorem is_spec (sb:Nat) (T:List Tok) (i op:Nat) (xs:List (List UInt8)) (hT:T.length≤100000) (hi:i≤1000000) (hx:xs.length≤1000) :
  LCalls (KC B0 w0) 87 [ptr sb 0,.list (xs.map str)] [srcH sb T i op] (fun r H=>r=.ret (bool (isTok T i xs))∧H=[srcH sb T i op]):=by
 refine cI Tryz.func87 rfl (n:=40) rfl rfl rfl ?_
 refine gai ?_
 refine LCode.cut [(0,ptr sb 0),(1,.list (xs.map str)),(15,bool (decide (T.length≤i)))] ?_ (fun j hj=>?_)
 ·refine LCode.quiet zk ?_
  refine gaz ?_
  exact ⟨⟨rfl,rfl,bool_eq (by rw[decide_eq_decide];simp),trivial⟩,rfl,rfl⟩
 ·skip
  refine oC rfl (fun hc=>?_) (fun hc=>?_)
  ·refine gau ?_
   exact rR hj (zra rfl) zhr ⟨by rw[isTok,List.getElem?_eq_none (zt hc)];rfl,rfl⟩
  ·have hlt:i<T.length:=by have:=zf hc;omega
   refine gad ?_
   refine LCode.draw (m:=12) rfl [srcH sb T i op] ?_
   refine aT 0 rfl rfl (Pure.mv (lv:=.atom _) rfl) ?_
   refine aT 1 rfl rfl (Pure.nilCheckH rfl) ?_
   refine aT 2 rfl rfl (Pure.fieldH rfl) ?_
   refine aT 3 rfl rfl (Pure.loadH (c:=.list _) rfl zm0 rfl) ?_
   refine aT 4 rfl rfl (Pure.mv (lv:=.atom _) rfl) ?_
   refine aT 5 rfl rfl (Pure.nilCheckH rfl) ?_
   refine aT 6 rfl rfl (Pure.fieldH rfl) ?_
   refine aT 7 rfl rfl (Pure.loadH (c:=.atom _) rfl zm0 rfl) ?_
   refine LAny.take (i:=8) zhr rfl zk zk zk rfl (xR (el':=encTok T[i]) (cs:=[_,_,_]) rfl rfl zo (map_get _ _ _ hlt) rfl rfl) ?_
   refine aT 9 rfl rfl (Pure.ldRefAgg (cs':=[_,_,_]) rfl rfl rfl) ?_
   refine LAny.late ?_ zhr
   refine lO 10 (lS (H1:=[]) (F:=[srcH sb T i op]) rfl (.inl rfl) rfl zpr zhr (S.alloc fun b=>?_))
   refine lO 11 (lS (H1:=[(b,_)]) (F:=[srcH sb T i op]) rfl (.inl rfl) rfl zpr zhr (S.store (cs':=[_,_,_]) rfl pH rfl rfl rfl rfl rfl ?_))
   refine lD zk ?_
   refine gac ?_
   have hsp:isTok T i xs=((decide (T[i].kind=3) || decide (T[i].kind=4)) && xs.contains T[i].text):=by rw[isTok,List.getElem?_eq_getElem hlt]
   rw[hsp]
   refine oB 29 rfl (fun h3=>?_) (fun h3=>?_)
   ·refine gad ?_
    refine oS (S.fn [_,_] rfl (Contains_spec xs T[i].text zo) ?_) rfl
    refine gad ?_
    exact rR hj (zra rfl) (zhD zhr) ⟨by rw[h3];rfl,rfl⟩
   ·refine gad ?_
    refine oB 34 rfl (fun h4=>?_) (fun h4=>?_)
    ·refine gad ?_
     refine oS (S.fn [_,_] rfl (Contains_spec xs T[i].text zo) ?_) rfl
     refine gad ?_
     exact rR hj (zra rfl) (zhD zhr) ⟨by rw[h3,h4];rfl,rfl⟩
    ·refine gah ?_
     exact rR hj (zra rfl) (zhD zhr) ⟨by rw[h3,h4];rfl,rfl⟩
end
end Go.Proofs.YtcbpcianefpniaaGreatDoor
