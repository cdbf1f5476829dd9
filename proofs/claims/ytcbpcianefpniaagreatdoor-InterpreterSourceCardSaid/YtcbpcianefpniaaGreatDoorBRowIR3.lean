/- Texts joined: InpOut, InpShort, InpSmall, InpW1, InpW2, InpW3, InpW4, InpW5, GlPair, GlPart, InpW6, InpW7, InpW8, GlGrow, GlMax, ChkSize, RC1, GlEqS. -/
import Derived.Deep.WholeRow
import Derived.DeepKeys
import Derived.Laws.StructEq
import Derived.ChangeKeysEq
import Derived.Test.YtcbpcianefpniaaGreatDoorBRowIR1
import Derived.Test.YtcbpcianefpniaaGreatDoorBRowIR2
set_option linter.unusedVariables false
set_option linter.unusedSimpArgs false
namespace Go.Stele
def Few {A:Type} (k:Nat) (s:IS) (r:IR A):Prop:=r.st.out.length+r.st.left≤s.out.length+s.left+k
theorem Few.bind {A B:Type} {k:Nat} {s:IS} {r:IR A} {f:A→IS→IR B} (h:Few 0 s r) (hf:∀ v s',Few k s' (f v s')):Few k s (r.bind f):=by
 cases r with
 |ok v s'=>exact Nat.le_trans (hf v s') (Nat.add_le_add_right h k)
 |stop e s'=>exact Nat.le_trans h (Nat.le_add_right _ _)
theorem Few.bind' {A B:Type} {k:Nat} {s:IS} {r:IR A} {f:A→IS→IR B} (h:Few k s r) (hf:∀ v s',Few 0 s' (f v s')):Few k s (r.bind f):=by
 cases r with
 |ok v s'=>exact Nat.le_trans (hf v s') h
 |stop e s'=>exact h
theorem Few.refl {A:Type} {k:Nat} {v:A} {s:IS}:Few k s (.ok v s):=Nat.le_add_right _ _
theorem Few.reflS {A:Type} {k:Nat} {e:Int} {s:IS}:Few (A:=A) k s (.stop e s):=Nat.le_add_right _ _
theorem Few.tick {B:Type} {s:IS} {f:Unit→IS→IR B} (hf:∀ s',Few 1 s' (f () s')):Few 0 s ((tick s).bind f):=by
 unfold Go.Stele.tick
 split
 ·exact Few.reflS
 ·rename_i h
  have:=hf { s with left:=s.left-1 }
  unfold Few at this ⊢
  simp only at this
  show (f () { s with left:=s.left-1 }).st.out.length+(f () { s with left:=s.left-1 }).st.left≤_
  omega
theorem Few.up {A:Type} {s:IS} {r:IR A} (h:Few 0 s r):Few 1 s r:=Nat.le_trans h (Nat.le_add_right _ _)
theorem mapR_few {A:Type} {g:A→IS→IR Nat} (h:∀ a s,Few 0 s (g a s)):∀ (l:List A) (s:IS),Few 0 s (mapR g l s)
 |[],s=>Few.refl
 |a::l,s=>(h a s).bind fun v s=>(mapR_few h l s).bind fun vs s=>Few.refl
theorem blkR_few {g:Sm→IS→IR (Option Nat)} (h:∀ a s,Few 0 s (g a s)):∀ (l:List Sm) (s:IS),Few 0 s (blkR g l s)
 |[],s=>Few.refl
 |a::l,s=>(h a s).bind fun r s=>by
  cases r with
  |none=>exact blkR_few h l s
  |some v=>exact Few.refl
theorem whlR_few {c:IS→IR Nat} {b:IS→IR (Option Nat)} (hc:∀ s,Few 0 s (c s)) (hb:∀ s,Few 0 s (b s)):∀ (m v:Nat) (s:IS),Few 0 s (whlR c b m v s)
 |0,v,s=>by
  unfold whlR
  split
  ·exact Few.refl
  ·exact Few.reflS
 |m+1,v,s=>by
  unfold whlR
  split
  ·exact Few.refl
  ·refine (hb s).bind fun r s=>?_
   cases r with
   |some x=>exact Few.refl
   |none=>exact (hc s).bind fun v s=>whlR_few hc hb m v s
theorem opI_few {P:Pr} {g:FnD→Sm→IS→IR (Option Nat)} (h:∀ f a s,Few 0 s (g f a s)) (f:FnD) (op:List UInt8) (num:Nat) (name:List UInt8) (vs:List Nat) (s:IS):Few 1 s (opI P g f op num name vs s):=by
 unfold opI
 split
 ·exact Few.refl
 split
 ·exact Few.refl
 split
 ·split
  ·exact Few.refl
  ·exact Few.reflS
 split
 ·exact Few.refl
 split
 ·exact Few.refl
 split
 ·unfold callI
  split
  ·split
   ·exact Few.refl
   ·exact Nat.le_add_right _ _
  split
  ·unfold Few
   simp only[IR.st,List.length_append,List.length_cons,List.length_nil]
   omega
  ·refine Few.bind' (Few.up ?_) fun r s=>Few.refl
   have:=blkR_few (h (fnI P name)) (fnI P name).body (setPs (fnI P name) (fnI P name).params vs s)
   unfold Few at this ⊢
   rwa [(setPs_same _ _ _ _).1,(setPs_same _ _ _ _).2.1] at this
 ·split
  ·exact Few.refl
  ·exact Few.reflS
theorem few_all (P:Pr):∀ n:Nat,(∀ f x s,Few 0 s (evI P n f x s))∧∀ f x s,Few 0 s (stI P n f x s)
 |0=>⟨fun f x s=>by unfold evI;exact Few.reflS,fun f x s=>by unfold stI;exact Few.reflS⟩
 |n+1=>by
  obtain ⟨h1,h2⟩:=few_all P n
  refine ⟨fun f x s=>?_,fun f x s=>?_⟩
  ·obtain ⟨op,num,name,args⟩:=x
   unfold evI
   exact Few.tick fun s=>(mapR_few (h1 f) args s).bind fun vs s=>opI_few h2 f op num name vs s
  ·obtain ⟨kind,name,index,value,thn,els⟩:=x
   unfold stI
   refine Few.tick fun s=>Few.up ?_
   split
   ·exact Few.reflS
   refine (h1 f _ s).bind fun v s=>?_
   split
   ·exact Few.refl
   split
   ·refine (h1 f _ s).bind fun i s=>?_
    split
    ·exact Few.refl
    ·exact Few.reflS
   split
   ·exact Few.refl
   split
   ·split
    ·exact blkR_few (h2 f) _ _
    ·exact blkR_few (h2 f) _ _
   split
   ·exact whlR_few (h1 f _) (blkR_few (h2 f) _) _ _ _
   ·exact Few.refl
end Go.Stele
namespace Go.Stele
theorem nm_short {s:Nm} (h:isNm s=true):s.length≤24:=by
 unfold isNm at h
 simp only[Bool.and_eq_true,decide_eq_true_eq] at h
 exact h.1.1
theorem errFs_nm {vars arrays later:List Nm}:∀ (fs:List FnD) (known:List FSum),errFs vars arrays later known fs=0→∀ f∈fs,∀ x∈f.params++f.locals,isNm x=true
 |[],known,_,f,hf=>(List.not_mem_nil hf).elim
 |g::l,known,h,f,hf=>by
  rw[errFs] at h
  obtain ⟨h1,h2⟩:=orE_zero.1 h
  rcases List.mem_cons.1 hf with rfl|hf
  ·obtain ⟨g1,g2⟩:=fresh_zero _ _ (orE_zero.1 h1).1
   exact fun x hx=>(g2 x hx).2
  ·exact errFs_nm l _ h2 f hf
theorem short_of {p:Pr} (h:checkPr p=0):(∀ f∈p.funcs,f.name.length≤24)∧∀ k∈scalarsP p.vars p.funcs,k.length≤49:=by
 unfold checkPr checkP at h
 have e1:(p.arrays.map fun a=>(a.name,(a.size:Int))).map (·.1)=p.arrays.map (·.name):=by rw[List.map_map];rfl
 rw[e1] at h
 obtain ⟨h1,h⟩:=orE_zero.1 h
 obtain ⟨h2,h⟩:=orE_zero.1 h
 obtain ⟨h3,h4⟩:=orE_zero.1 h
 have hn:=(fresh_zero _ _ h1).2
 have hf:∀ f∈p.funcs,f.name.length≤24:=fun f hf=>nm_short (hn _ (List.mem_append.2 (.inr (List.mem_map.2 ⟨f,hf,rfl⟩)))).2
 refine ⟨hf,fun k hk=>?_⟩
 unfold scalarsP at hk
 rcases List.mem_append.1 hk with g|g
 ·have:=nm_short (hn k (List.mem_append.2 (.inl (List.mem_append.2 (.inl g))))).2
  omega
 ·obtain ⟨l,g1,g2⟩:=List.mem_flatten.1 g
  obtain ⟨f,g3,rfl⟩:=List.mem_map.1 g1
  obtain ⟨x,g4,rfl⟩:=List.mem_map.1 g2
  have a1:=hf f g3
  have a2:=nm_short (errFs_nm _ _ h3 f g3 x g4)
  simp only[List.length_append,List.length_cons,List.length_nil]
  omega
theorem own_short {p:Pr} (h:checkPr p=0):∀ f∈p.funcs,f.name.length≤1000∧∀ x∈f.params++f.locals,x.length≤1000:=by
 have h0:=(short_of h).1
 unfold checkPr checkP at h
 have e1:(p.arrays.map fun a=>(a.name,(a.size:Int))).map (·.1)=p.arrays.map (·.name):=by rw[List.map_map];rfl
 rw[e1] at h
 have h3:=(orE_zero.1 (orE_zero.1 (orE_zero.1 h).2).2).1
 exact fun f hf=>⟨Nat.le_trans (h0 f hf) (by decide),fun x hx=>Nat.le_trans (nm_short (errFs_nm _ _ h3 f hf x hx)) (by decide)⟩
theorem key_short {p:Pr} {f:FnD} {name:Nm} (h:∀ k∈scalarsP p.vars p.funcs,k.length≤49) (hk:keyI f name∈scalarsP p.vars p.funcs):name.length≤49:=by
 have:=h _ hk
 unfold keyI at this
 split at this
 ·simp only[List.length_append,List.length_cons,List.length_nil] at this
  omega
 ·exact this
end Go.Stele
namespace Go.Stele
def Few6 (n:Nat):Prop:=n≤1000000
mutual
def smE:Ex→Prop
 |.mk op num name args=>Few6 args.length∧smEs args
def smEs:List Ex→Prop
 |[]=>True
 |x::l=>smE x∧smEs l
end
mutual
def smS:Sm→Prop
 |.mk kind name index value thn els=>Few6 index.length∧Few6 value.length∧Few6 thn.length∧Few6 els.length∧smEs index∧smEs value∧smSs thn∧smSs els
def smSs:List Sm→Prop
 |[]=>True
 |x::l=>smS x∧smSs l
end
structure SmF (f:FnD):Prop where
 params:Few6 f.params.length
 locals:Few6 f.locals.length
 body:Few6 f.body.length
 stmts:smSs f.body
structure SmP (p:Pr):Prop where
 vars:Few6 p.vars.length
 arrays:Few6 p.arrays.length
 funcs:Few6 p.funcs.length
 each:∀ f∈p.funcs,SmF f
end Go.Stele
namespace Go.Proofs.YtcbpcianefpniaaGreatDoor.Inp
open Go.GL Go.RowKit Go.Stele
set_option maxRecDepth 100000
set_option maxHeartbeats 4000000
@[reducible] def u32 (n:Nat):LV:=int .u32 (n:Int)
def unitV:Unit→LV:=fun _=>.tuple []
def retV:Option Nat→LV:=fun r=>.tuple [u32 (r.getD 0),bool r.isSome]
@[reducible] def fnV (f:FuncId):LV:=.atom (.func (.func f) #[] #[])
def opsKV (db:Nat):KV:=[([43],fnV 58),([45],fnV 59),([42],fnV 60),([47],.atom (.func (.func 61) #[] #[.pointer (some ⟨db,0,none⟩)])),([37],.atom (.func (.func 62) #[] #[.pointer (some ⟨db,0,none⟩)])),
 ([94],fnV 63),([61,61],fnV 64),([33,61],fnV 66),([60],fnV 67),([62],fnV 68),([60,61],fnV 69),([62,61],fnV 70),([38,38],fnV 71),([124,124],fnV 72)]
structure Cfg where
 p:Pr
 rb:Nat
 db:Nat
 om:Nat
 sm:Nat
 am:Nat
 fm:Nat
 oc:Nat
 sc:Nat
 ac:Nat
 fc:Nat
 sb:List (List UInt8×Nat)
 ab:List (List UInt8×Nat×Nat)
 lim:Nat
def scKV (sb:List (List UInt8×Nat)):KV:=sb.map fun q=>(q.1,ptr q.2 0)
def arKV (ab:List (List UInt8×Nat×Nat)):KV:=ab.map fun q=>(q.1,rowV q.2.1 q.2.2)
def fnKV (fs:List FnD):KV:=fs.map fun f=>(f.name,encFn f)
def runC (c:Cfg) (s:IS) (v:LV):List LV:=[.list (c.p.vars.map str),.list (c.p.arrays.map encAr),.list (c.p.funcs.map encFn),.atom (.map (some c.om)),.list (s.inp.map u32),v,int .i64 ((c.lim-s.left:Nat):Int),int .i64 (s.left:Int),.atom (.map (some c.sm)),.atom (.map (some c.am)),.atom (.map (some c.fm))]
def scH (sb:List (List UInt8×Nat)) (s:IS):Heap:=sb.map fun q=>(q.2,LObj.cells 43 [u32 (s.sc q.1)])
def arH (ab:List (List UInt8×Nat×Nat)) (s:IS):Heap:=ab.map fun q=>(q.2.1,LObj.cells 43 ((s.ar q.1).map u32))
@[reducible] def divH (db:Nat):Nat×LObj:=(db,.cells 132 [fnV 57])
def stH (c:Cfg) (s:IS) (v:LV) (Ha:Heap):Heap:=(c.rb,.cells 72 (runC c s v))::(c.sm,.map (kvs (scKV c.sb)) c.sc)::(c.am,.map (kvs (arKV c.ab)) c.ac)::(c.fm,.map (kvs (fnKV c.p.funcs)) c.fc)::(c.om,.map (kvs (opsKV c.db)) c.oc)::divH c.db::(scH c.sb s++(arH c.ab s++Ha))
def St (c:Cfg) (s:IS) (H:Heap):Prop:=(∀ q∈c.ab,(s.ar q.1).length=q.2.2)∧s.left≤c.lim∧∃ v Ha,Acc 1 v (byts s.out) Ha []∧H=stH c s v Ha
structure CfgOk (c:Cfg):Prop where
 valid:Valid c.p
 nums:∀ f∈c.p.funcs,numSs f.body
 sbk:c.sb.map (·.1)=scalarsP c.p.vars c.p.funcs
 abk:c.ab.map (·.1)=c.p.arrays.map (·.name)
 small:SmP c.p
 asz:∀ q∈c.ab,q.2.2≤150000
 lim:c.lim≤100000000
 fshort:∀ f∈c.p.funcs,f.name.length≤24
 short:∀ k∈scalarsP c.p.vars c.p.funcs,k.length≤49
def panI (e:Int):List PanicEntry:=[{ v:=.iface 131 (.agg #[.int .i64 e]),recovered:=false }]
def PostI {A:Type} (c:Cfg) (enc:A→LV) (r:IR A) (res:LRes) (H:Heap):Prop:=match r with
 |.ok v s=>res=.ret (enc v)∧St c s H
 |.stop e s=>res=.panic (panI e)∧St c s H
@[reducible] def Same (v:LV) (H:Heap):LRes→Heap→Prop:=fun r H'=>r=.ret v∧H'=H
section steps
variable {C:Ctx} {n:Nat} {e:Env} {H:Heap} {dst:Option Nat} {ty:TypeId} {pos:String} {aft:Array Edge} {g:Option (Nat×Bool)} {K:LV→Heap→Prop} {X:List PanicEntry→Heap→Prop}
theorem S.callS {f:FuncId} [TEnter C.P f] (args:List Operand) {ats:Array TypeId} {av:List LV} {lv:LV} {H1 F:Heap} (has:args.map e.ev=av) (hp:H.Perm (H1++F)) (hc:LCalls C f av H1 (Same lv H1)) (hk:K lv (H1++F)) :
  LStep C ⟨dst,.call { callee:=.value (.func f),args:=args.toArray,argTypes:=ats },ty,pos,aft,g⟩ e H K X:=
 S.callH args has hp hc (by rintro v H' ⟨h,rfl⟩;cases h;exact hk) (by rintro ch H' ⟨h,_⟩;cases h)
theorem S.callI {A:Type} {c:Cfg} {enc:A→LV} {r:IR A} {f:FuncId} [TEnter C.P f] (args:List Operand) {ats:Array TypeId} {av:List LV} {H1 F:Heap} (has:args.map e.ev=av) (hp:H.Perm (H1++F))
  (hc:LCalls C f av H1 (PostI c enc r)) (hk:∀ v s H',r=.ok v s→St c s H'→K (enc v) (H'++F)) (hx:∀ er s H',r=.stop er s→St c s H'→X (panI er) (H'++F)) :
  LStep C ⟨dst,.call { callee:=.value (.func f),args:=args.toArray,argTypes:=ats },ty,pos,aft,g⟩ e H K X:=by
 refine S.callH args has hp hc ?_ ?_
 ·intro v H' h
  cases hr:r with
  |ok u s=>
   rw[hr] at h
   obtain ⟨h1,h2⟩:=h
   cases h1
   exact hk _ _ _ hr h2
  |stop er s=>
   rw[hr] at h
   obtain ⟨h1,_⟩:=h
   cases h1
 ·intro ch H' h
  cases hr:r with
  |ok u s=>
   rw[hr] at h
   obtain ⟨h1,_⟩:=h
   cases h1
  |stop er s=>
   rw[hr] at h
   obtain ⟨h1,h2⟩:=h
   cases h1
   exact hx _ _ _ hr h2
theorem retI {A:Type} {c:Cfg} {enc:A→LV} {r:IR A} {rs:List ResultVar} {vs:List LV} {v:A} {s:IS} {H':Heap} (hd:e.ds=[]) (h:AllRes C n e H rs vs) (hr:r=.ok v s) (hv:resLV vs=enc v) (hH:HSub H' H) (hs:St c s H') :
  RetPost C n rs (PostI c enc r) .ret e H:=rR hd h hH (by rw[hr];exact ⟨by rw[hv],hs⟩)
theorem retIn {A:Type} {c:Cfg} {enc:A→LV} {r:IR A} {rs:List ResultVar} {vs:List LV} {v:A} {s:IS} {H':Heap} (hd:e.ds=[]) (h:AllRes C n e H rs vs) (hr:r=.ok v s) (hv:resLV vs=enc v) (hH:HSub H' H) (hs:St c s H') :
  RetPost C n rs (PostI c enc r) .normal e H:=RetPost.normal hd h hH (by rw[hr];exact ⟨by rw[hv],hs⟩)
theorem panI_ {A:Type} {c:Cfg} {enc:A→LV} {r:IR A} {rs:List ResultVar} {er:Int} {s:IS} {H':Heap} (hd:e.ds=[]) (hr:r=.stop er s) (hH:HSub H' H) (hs:St c s H') :
  RetPost C n rs (PostI c enc r) (.panic (panI er)) e H:=RetPost.panic hd hH (by rw[hr];exact ⟨rfl,hs⟩)
theorem retS {rs:List ResultVar} {vs:List LV} {lv:LV} {H0:Heap} (hd:e.ds=[]) (h:AllRes C n e H rs vs) (hv:resLV vs=lv) (hH:HSub H0 H):RetPost C n rs (Same lv H0) .ret e H:=
 rR hd h hH ⟨by rw[hv],rfl⟩
end steps
instance:TMap Tryz.prog 68 74 (.pointer none) (.atom (.pointer none)):=⟨⟨9,by kernel_rfl,by kernel_rfl⟩,fun w=>(Go.zero_of_info (P:=Tryz.prog) (n:=1) zk).1 w,fun _ _=>rep_atom⟩
instance:TMap Tryz.prog 69 22 (.slice none 0 0) nilSlice:=⟨⟨9,by kernel_rfl,by kernel_rfl⟩,fun w=>(Go.zero_of_info (P:=Tryz.prog) (n:=1) zk).1 w,fun _ _=>rep_atom⟩
instance:TMap Tryz.prog 70 63 (.agg [.string ⟨#[]⟩,.slice none 0 0,.slice none 0 0,.slice none 0 0].toArray) (.agg ([.string ⟨#[]⟩,.slice none 0 0,.slice none 0 0,.slice none 0 0].map .atom)):=⟨⟨9,by kernel_rfl,by kernel_rfl⟩,fun w=>(Go.zero_of_info (P:=Tryz.prog) (n:=4) zk).1 w,fun w L=>rep_aggs w L _⟩
instance:TMap Tryz.prog 66 133 .nilFunc (.atom .nilFunc):=⟨⟨9,by kernel_rfl,by kernel_rfl⟩,fun w=>(Go.zero_of_info (P:=Tryz.prog) (n:=1) zk).1 w,fun _ _=>rep_atom⟩
attribute [local irreducible] LOps LCode LStep LCalls Go.GL.Pure QThen QBlock RetPost LQ LAny LLate LLateOp
section
variable {B0:Nat} {w0:World} {H:Heap}
theorem step_spec {c:Cfg} (hC:CfgOk c) {s:IS} (hs:St c s H):LCalls (KC B0 w0) 157 [ptr c.rb 0] H (PostI c unitV (tick s)):=by
 have hs0:=hs
 have hlim:=hC.lim
 obtain ⟨hl,hle,v,Ha,hacc,rfl⟩:=hs
 refine cI Tryz.func157 rfl (n:=23) rfl rfl rfl ?_
 refine gab ?_
 refine oC rfl (fun hc=>?_) (fun hc=>?_)
 ·refine gaa ?_
  refine oS (LStep.panic rfl fun e' he'=>?_) rfl
  refine gao ?_
  have h0:s.left=0:=by have:=zt hc;omega
  exact panI_ (he'.trans rfl) (by rw[tick,if_pos h0]) zhr hs0
 ·have h0:¬ s.left=0:=by have:=zf hc;omega
  refine gaa ?_
  have e1:(s.left:Int)-1=((s.left-1:Nat):Int):=by omega
  have e2:((c.lim-s.left:Nat):Int)+1=((c.lim-(s.left-1):Nat):Int):=by omega
  rw[e1,e2]
  exact retIn rfl rN (v:=()) (s:={ s with left:=s.left-1 }) (by rw[tick,if_neg h0]) rfl zhr ⟨hl,by show s.left-1≤c.lim;omega,v,Ha,hacc,rfl⟩
theorem truth_spec (b:Bool):LCalls (KC B0 w0) 65 [bool b] H (Same (u32 (b2n b)) H):=by
 refine cI Tryz.func65 rfl (n:=4) rfl rfl rfl ?_
 refine gav ?_
 refine oC rfl (fun hc=>?_) (fun hc=>?_)
 ·refine gau ?_
  exact retS rfl (zra rfl) (by rw[hc];rfl) zhr
 ·refine gab ?_
  exact retS rfl (zra rfl) (by rw[hc];rfl) zhr
end
end Go.Proofs.YtcbpcianefpniaaGreatDoor.Inp
namespace Go.Proofs.YtcbpcianefpniaaGreatDoor.Inp
open Go.GL Go.RowKit Go.Stele
set_option maxRecDepth 100000
set_option maxHeartbeats 4000000
theorem wrapU (n:Int):IntKind.u32.wrap n=n % 4294967296:=by
 simp only[IntKind.wrap,IntKind.bits,IntKind.signed,Bool.false_and]
 rfl
theorem u32_eq {a:Int} {b:Nat} (h:a=b):int .u32 a=u32 b:=by rw[h]
theorem b2n_dec {p q:Prop} [Decidable p] [Decidable q] (h:p ↔ q):b2n (decide p)=b2n (decide q):=by rw[decide_eq_decide.2 h]
attribute [local irreducible] LOps LCode LStep LCalls Go.GL.Pure QThen QBlock RetPost LQ LAny LLate LLateOp
section
variable {B0:Nat} {w0:World} {H:Heap} {a b:Nat}
theorem xor_u32 (ha:a<4294967296) (hb:b<4294967296):IntKind.u32.wrap ((BitVec.ofInt IntKind.u32.bits a ^^^ BitVec.ofInt IntKind.u32.bits b).toNat:Nat)=((a ^^^ b:Nat):Int):=by
 rw[wrapU,BitVec.toNat_xor]
 have h1:∀ n:Nat,n<4294967296→(BitVec.ofInt IntKind.u32.bits (n:Int)).toNat=n:=fun n hn=>by
  rw[BitVec.ofInt_natCast,BitVec.toNat_ofNat]
  exact Nat.mod_eq_of_lt hn
 rw[h1 a ha,h1 b hb]
 have:a ^^^ b<4294967296:=Nat.xor_lt_two_pow (n:=32) ha hb
 omega
theorem op2_spec (ha:a<4294967296) (hb:b<4294967296):LCalls (KC B0 w0) 58 [u32 a,u32 b] H (Same (u32 ((a+b) % 4294967296)) H):=by
 refine cI Tryz.func58 rfl (n:=8) rfl rfl rfl ?_
 refine gav ?_
 refine oP (Pure.addW rfl rfl) rfl ?_
 refine gam ?_
 exact retS rfl (zra rfl) (u32_eq (by rw[wrapU];omega)) zhr
theorem op3_spec (ha:a<4294967296) (hb:b<4294967296):LCalls (KC B0 w0) 59 [u32 a,u32 b] H (Same (u32 ((a+4294967296-b) % 4294967296)) H):=by
 refine cI Tryz.func59 rfl (n:=8) rfl rfl rfl ?_
 refine gav ?_
 refine oP (Pure.subW rfl rfl) rfl ?_
 refine gam ?_
 exact retS rfl (zra rfl) (u32_eq (by rw[wrapU];omega)) zhr
theorem op4_spec (ha:a<4294967296) (hb:b<4294967296):LCalls (KC B0 w0) 60 [u32 a,u32 b] H (Same (u32 (a * b % 4294967296)) H):=by
 refine cI Tryz.func60 rfl (n:=8) rfl rfl rfl ?_
 refine gav ?_
 refine oP (Pure.mulW rfl rfl) rfl ?_
 refine gam ?_
 exact retS rfl (zra rfl) (u32_eq (by rw[wrapU,←Int.natCast_mul];generalize a * b=q;omega)) zhr
theorem op7_spec (ha:a<4294967296) (hb:b<4294967296):LCalls (KC B0 w0) 63 [u32 a,u32 b] H (Same (u32 (a ^^^ b)) H):=by
 refine cI Tryz.func63 rfl (n:=8) rfl rfl rfl ?_
 refine gav ?_
 refine oP (Pure.xorW rfl rfl) rfl ?_
 refine gam ?_
 exact retS rfl (zra rfl) (u32_eq (xor_u32 ha hb)) zhr
theorem op8_spec:LCalls (KC B0 w0) 64 [u32 a,u32 b] H (Same (u32 (b2n (decide (a=b)))) H):=by
 refine cI Tryz.func64 rfl (n:=9) rfl rfl rfl ?_
 refine gab ?_
 refine oS (S.callS (H1:=H) (F:=[]) [_] rfl (by rw[List.append_nil]) (truth_spec _) ?_) rfl
 rw[List.append_nil]
 refine gam ?_
 exact retS rfl (zra rfl) (congrArg u32 (b2n_dec zo)) zhr
theorem b2n_not:b2n (!decide ((a:Int)=b))=b2n (decide (a≠b)):=by
 by_cases h:a=b
 ·simp[h,b2n]
 ·have:¬ (a:Int)=b:=by omega
  simp[h,this,b2n]
theorem op9_spec:LCalls (KC B0 w0) 66 [u32 a,u32 b] H (Same (u32 (b2n (decide (a≠b)))) H):=by
 refine cI Tryz.func66 rfl (n:=9) rfl rfl rfl ?_
 refine gab ?_
 refine oS (S.callS (H1:=H) (F:=[]) [_] rfl (by rw[List.append_nil]) (truth_spec _) ?_) rfl
 rw[List.append_nil]
 refine gam ?_
 exact retS rfl (zra rfl) (congrArg u32 (b2n_not)) zhr
theorem op10_spec:LCalls (KC B0 w0) 67 [u32 a,u32 b] H (Same (u32 (b2n (decide (a<b)))) H):=by
 refine cI Tryz.func67 rfl (n:=9) rfl rfl rfl ?_
 refine gab ?_
 refine oS (S.callS (H1:=H) (F:=[]) [_] rfl (by rw[List.append_nil]) (truth_spec _) ?_) rfl
 rw[List.append_nil]
 refine gam ?_
 exact retS rfl (zra rfl) (congrArg u32 (b2n_dec zo)) zhr
theorem op11_spec:LCalls (KC B0 w0) 68 [u32 a,u32 b] H (Same (u32 (b2n (decide (b<a)))) H):=by
 refine cI Tryz.func68 rfl (n:=9) rfl rfl rfl ?_
 refine gaa ?_
 refine oS (S.callS (H1:=H) (F:=[]) [_] rfl (by rw[List.append_nil]) (truth_spec _) ?_) rfl
 rw[List.append_nil]
 refine gam ?_
 exact retS rfl (zra rfl) (congrArg u32 (b2n_dec zo)) zhr
theorem op12_spec:LCalls (KC B0 w0) 69 [u32 a,u32 b] H (Same (u32 (b2n (decide (a≤b)))) H):=by
 refine cI Tryz.func69 rfl (n:=9) rfl rfl rfl ?_
 refine gaa ?_
 refine oS (S.callS (H1:=H) (F:=[]) [_] rfl (by rw[List.append_nil]) (truth_spec _) ?_) rfl
 rw[List.append_nil]
 refine gam ?_
 exact retS rfl (zra rfl) (congrArg u32 (b2n_dec zo)) zhr
theorem op13_spec:LCalls (KC B0 w0) 70 [u32 a,u32 b] H (Same (u32 (b2n (decide (b≤a)))) H):=by
 refine cI Tryz.func70 rfl (n:=9) rfl rfl rfl ?_
 refine gaa ?_
 refine oS (S.callS (H1:=H) (F:=[]) [_] rfl (by rw[List.append_nil]) (truth_spec _) ?_) rfl
 rw[List.append_nil]
 refine gam ?_
 exact retS rfl (zra rfl) (congrArg u32 (b2n_dec zo)) zhr
theorem op14_spec:LCalls (KC B0 w0) 71 [u32 a,u32 b] H (Same (u32 (b2n (decide (a≠0∧b≠0)))) H):=by
 refine cI Tryz.func71 rfl (n:=12) rfl rfl rfl ?_
 refine gab ?_
 refine oB 7 rfl (fun ht=>?_) (fun ht=>?_)
 ·have h1:a≠0:=by
   intro h
   rw[h] at ht
   exact absurd ht (by decide)
  refine gad ?_
  refine oS (S.callS (H1:=H) (F:=[]) [_] rfl (by rw[List.append_nil]) (truth_spec _) ?_) rfl
  rw[List.append_nil]
  refine gam ?_
  exact retS rfl (zra rfl) (congrArg u32 (by simp[b2n,h1])) zhr
 ·have h1:a=0:=by
   have:(a:Int)=0:=by simpa using ht
   omega
  refine gag ?_
  refine oS (S.callS (H1:=H) (F:=[]) [_] rfl (by rw[List.append_nil]) (truth_spec _) ?_) rfl
  rw[List.append_nil]
  refine gam ?_
  exact retS rfl (zra rfl) (congrArg u32 (by simp[b2n,h1])) zhr
theorem op15_spec:LCalls (KC B0 w0) 72 [u32 a,u32 b] H (Same (u32 (b2n (decide (a≠0∨b≠0)))) H):=by
 refine cI Tryz.func72 rfl (n:=12) rfl rfl rfl ?_
 refine gab ?_
 refine oB 7 rfl (fun ht=>?_) (fun ht=>?_)
 ·have h1:a≠0:=by
   intro h
   rw[h] at ht
   exact absurd ht (by decide)
  refine gad ?_
  refine oS (S.callS (H1:=H) (F:=[]) [_] rfl (by rw[List.append_nil]) (truth_spec _) ?_) rfl
  rw[List.append_nil]
  refine gam ?_
  exact retS rfl (zra rfl) (congrArg u32 (by simp[b2n,h1])) zhr
 ·have h1:a=0:=by
   have:(a:Int)=0:=by simpa using ht
   omega
  refine gad ?_
  refine oS (S.callS (H1:=H) (F:=[]) [_] rfl (by rw[List.append_nil]) (truth_spec _) ?_) rfl
  rw[List.append_nil]
  refine gam ?_
  exact retS rfl (zra rfl) (congrArg u32 (by simp[b2n,h1])) zhr
theorem divisor_spec:LCalls (KC B0 w0) 57 [u32 b] H (fun r H'=>H'=H∧r=if b=0 then .panic (panI 12) else .ret (u32 b)):=by
 refine cI Tryz.func57 rfl (n:=8) rfl rfl rfl ?_
 refine gab ?_
 refine oC rfl (fun hc=>?_) (fun hc=>?_)
 ·have h0:b=0:=by have:=zt hc;omega
  refine gaa ?_
  refine oS (LStep.panic rfl fun e' he'=>?_) rfl
  refine gao ?_
  exact RetPost.panic (he'.trans rfl) zhr ⟨rfl,by rw[if_pos h0];rfl⟩
 ·have h0:¬ b=0:=by have:=zf hc;omega
  refine gab ?_
  exact rR rfl (zra rfl) zhr ⟨rfl,by rw[if_neg h0];rfl⟩
theorem op5_spec {db:Nat} (ha:a<4294967296):LCalls (KC B0 w0) 61 [u32 a,u32 b,ptr db 0] [divH db] (fun r H'=>H'=[divH db]∧r=if b=0 then .panic (panI 12) else .ret (u32 (a / b))):=by
 refine cI Tryz.func61 rfl (n:=11) rfl rfl rfl ?_
 refine gab ?_
 by_cases h0:b=0
 ·refine oS (S.callV (f:=57) (first:=#[]) (caps:=#[]) (H1:=[divH db]) (F:=[]) [_] rfl rfl (by simp) divisor_spec ?_ ?_) rfl
  ·rintro v H' ⟨rfl,h⟩
   rw[if_pos h0] at h
   cases h
  ·rintro ch H' ⟨rfl,h⟩ e' he'
   rw[if_pos h0] at h
   cases h
   refine gao ?_
   exact RetPost.panic (he'.trans rfl) zhr ⟨rfl,by rw[if_pos h0]⟩
 ·refine oS (S.callV (f:=57) (first:=#[]) (caps:=#[]) (H1:=[divH db]) (F:=[]) [_] rfl rfl (by simp) divisor_spec ?_ ?_) rfl
  ·rintro v H' ⟨rfl,h⟩
   rw[if_neg h0] at h
   cases h
   refine oP (Pure.quoW rfl rfl zo) rfl ?_
   refine gam ?_
   refine rR rfl (zra rfl) zhr ⟨rfl,?_⟩
   rw[if_neg h0]
   exact congrArg LRes.ret (u32_eq (by rw[wrapU,Int.tdiv_eq_ediv_of_nonneg zo,←Int.natCast_ediv];have hq:a / b<4294967296:=Nat.lt_of_le_of_lt (Nat.div_le_self a b) ha;generalize a / b=q at hq ⊢;omega))
  ·rintro ch H' ⟨rfl,h⟩
   rw[if_neg h0] at h
   cases h
theorem op6_spec {db:Nat} (ha:a<4294967296):LCalls (KC B0 w0) 62 [u32 a,u32 b,ptr db 0] [divH db] (fun r H'=>H'=[divH db]∧r=if b=0 then .panic (panI 12) else .ret (u32 (a % b))):=by
 refine cI Tryz.func62 rfl (n:=11) rfl rfl rfl ?_
 refine gab ?_
 by_cases h0:b=0
 ·refine oS (S.callV (f:=57) (first:=#[]) (caps:=#[]) (H1:=[divH db]) (F:=[]) [_] rfl rfl (by simp) divisor_spec ?_ ?_) rfl
  ·rintro v H' ⟨rfl,h⟩
   rw[if_pos h0] at h
   cases h
  ·rintro ch H' ⟨rfl,h⟩ e' he'
   rw[if_pos h0] at h
   cases h
   refine gao ?_
   exact RetPost.panic (he'.trans rfl) zhr ⟨rfl,by rw[if_pos h0]⟩
 ·refine oS (S.callV (f:=57) (first:=#[]) (caps:=#[]) (H1:=[divH db]) (F:=[]) [_] rfl rfl (by simp) divisor_spec ?_ ?_) rfl
  ·rintro v H' ⟨rfl,h⟩
   rw[if_neg h0] at h
   cases h
   refine oP (Pure.remW rfl rfl zo) rfl ?_
   refine gam ?_
   refine rR rfl (zra rfl) zhr ⟨rfl,?_⟩
   rw[if_neg h0]
   exact congrArg LRes.ret (u32_eq (by rw[Int.tmod_eq_emod_of_nonneg zo,←Int.natCast_emod]))
  ·rintro ch H' ⟨rfl,h⟩
   rw[if_neg h0] at h
   cases h
def resB (o:Option Nat):LRes:=match o with
 |some v=>.ret (u32 v)
 |none=>.panic (panI 12)
theorem binop_spec {db:Nat} {op:List UInt8} (hop:op∈binOps) (ha:a<4294967296) (hb:b<4294967296):∃ (f:FuncId) (caps:Array Value),GL.kvGet (opsKV db) op=some (.atom (.func (.func f) #[] caps))∧TEnter Tryz.prog f ∧
  LCalls (KC B0 w0) f ([u32 a,u32 b]++caps.toList.map .atom) [divH db] (fun r H'=>H'=[divH db]∧r=resB (binI op a b)):=by
 simp only[binOps,List.mem_cons,List.not_mem_nil,or_false] at hop
 rcases hop with rfl|rfl|rfl|rfl|rfl|rfl|rfl|rfl|rfl|rfl|rfl|rfl|rfl|rfl
 ·exact ⟨72,#[],rfl,inferInstance,LCalls.mono (op15_spec) fun r H' ⟨h1,h2⟩=>⟨h2,h1⟩⟩
 ·exact ⟨71,#[],rfl,inferInstance,LCalls.mono (op14_spec) fun r H' ⟨h1,h2⟩=>⟨h2,h1⟩⟩
 ·exact ⟨64,#[],rfl,inferInstance,LCalls.mono (op8_spec) fun r H' ⟨h1,h2⟩=>⟨h2,h1⟩⟩
 ·exact ⟨66,#[],rfl,inferInstance,LCalls.mono (op9_spec) fun r H' ⟨h1,h2⟩=>⟨h2,h1⟩⟩
 ·exact ⟨67,#[],rfl,inferInstance,LCalls.mono (op10_spec) fun r H' ⟨h1,h2⟩=>⟨h2,h1⟩⟩
 ·exact ⟨68,#[],rfl,inferInstance,LCalls.mono (op11_spec) fun r H' ⟨h1,h2⟩=>⟨h2,h1⟩⟩
 ·exact ⟨69,#[],rfl,inferInstance,LCalls.mono (op12_spec) fun r H' ⟨h1,h2⟩=>⟨h2,h1⟩⟩
 ·exact ⟨70,#[],rfl,inferInstance,LCalls.mono (op13_spec) fun r H' ⟨h1,h2⟩=>⟨h2,h1⟩⟩
 ·exact ⟨63,#[],rfl,inferInstance,LCalls.mono (op7_spec ha hb) fun r H' ⟨h1,h2⟩=>⟨h2,h1⟩⟩
 ·exact ⟨58,#[],rfl,inferInstance,LCalls.mono (op2_spec ha hb) fun r H' ⟨h1,h2⟩=>⟨h2,h1⟩⟩
 ·exact ⟨59,#[],rfl,inferInstance,LCalls.mono (op3_spec ha hb) fun r H' ⟨h1,h2⟩=>⟨h2,h1⟩⟩
 ·exact ⟨60,#[],rfl,inferInstance,LCalls.mono (op4_spec ha hb) fun r H' ⟨h1,h2⟩=>⟨h2,h1⟩⟩
 ·refine ⟨61,#[.pointer (some ⟨db,0,none⟩)],rfl,inferInstance,LCalls.mono (op5_spec ha) fun r H' ⟨h1,h2⟩=>⟨h1,h2.trans ?_⟩⟩
  by_cases h0:b=0
  ·rw[if_pos h0,h0]
   rfl
  ·rw[if_neg h0]
   show _=resB (if b=0 then none else _)
   rw[if_neg h0]
   rfl
 ·refine ⟨62,#[.pointer (some ⟨db,0,none⟩)],rfl,inferInstance,LCalls.mono (op6_spec ha) fun r H' ⟨h1,h2⟩=>⟨h1,h2.trans ?_⟩⟩
  by_cases h0:b=0
  ·rw[if_pos h0,h0]
   rfl
  ·rw[if_neg h0]
   show _=resB (if b=0 then none else _)
   rw[if_neg h0]
   rfl
end
end Go.Proofs.YtcbpcianefpniaaGreatDoor.Inp
namespace Go.Proofs.YtcbpcianefpniaaGreatDoor.Inp
open Go.GL Go.RowKit Go.Stele
set_option maxRecDepth 100000
set_option maxHeartbeats 4000000
theorem CfgOk.keys {c:Cfg} (hC:CfgOk c):(c.sb.map (·.1)).Nodup:=by rw[hC.sbk];exact hC.valid.keys
theorem CfgOk.block {c:Cfg} (hC:CfgOk c) {k:List UInt8} (hk:k∈scalarsP c.p.vars c.p.funcs):∃ b,(k,b)∈c.sb∧GL.kvGet (scKV c.sb) k=some (ptr b 0):=by
 rw[←hC.sbk] at hk
 obtain ⟨⟨k',b⟩,h1,rfl⟩:=List.mem_map.1 hk
 exact ⟨b,h1,kv_hit (A:=List UInt8×Nat) (·.1) (fun q=>ptr q.2 0) hC.keys h1⟩
theorem CfgOk.miss {c:Cfg} (hC:CfgOk c) {k:List UInt8} (hk:k ∉ scalarsP c.p.vars c.p.funcs):GL.kvGet (scKV c.sb) k=none:=by
 rw[←hC.sbk] at hk
 exact kv_miss (A:=List UInt8×Nat) (·.1) (fun q=>ptr q.2 0) hk
theorem CfgOk.akeys {c:Cfg} (hC:CfgOk c):(c.ab.map (·.1)).Nodup:=by
 rw[hC.abk]
 exact (List.nodup_append.1 (List.nodup_append.1 (fresh_zero _ _ hC.valid.names).1).1).2.1
theorem CfgOk.arr {c:Cfg} (hC:CfgOk c) {k:List UInt8} (hk:k∈c.p.arrays.map (·.name)):∃ b n,(k,b,n)∈c.ab∧GL.kvGet (arKV c.ab) k=some (rowV b n):=by
 rw[←hC.abk] at hk
 obtain ⟨⟨k',b,n⟩,h1,rfl⟩:=List.mem_map.1 hk
 exact ⟨b,n,h1,kv_hit (A:=List UInt8×Nat×Nat) (·.1) (fun q=>rowV q.2.1 q.2.2) hC.akeys h1⟩
attribute [local irreducible] LOps LCode LStep LCalls Go.GL.Pure QThen QBlock RetPost LQ LAny LLate LLateOp
section
variable {B0:Nat} {w0:World} {H:Heap}
theorem scalar_spec {c:Cfg} (hC:CfgOk c) {s:IS} (hs:St c s H) {f:FnD} (hf:f∈c.p.funcs) {name:List UInt8} (hk:keyI f name∈scalarsP c.p.vars c.p.funcs) {b:Nat} (hb:GL.kvGet (scKV c.sb) (keyI f name)=some (ptr b 0)) :
  LCalls (KC B0 w0) 159 [ptr c.rb 0,encFn f,str name] H (Same (ptr b 0) H):=by
 have hke:=key_eq hC.valid.names hf name
 have hfl:=hC.fshort f hf
 have hnl:=key_short hC.short hk
 obtain ⟨hl,hle,v,Ha,hacc,rfl⟩:=hs
 refine cI Tryz.func159 rfl (n:=30) rfl rfl rfl ?_
 refine gai ?_
 refine oS (S.box rfl fun b4=>?_) rfl
 refine gad ?_
 refine LCode.quiet zk ?_
 refine gac ?_
 by_cases hin:f.name++[46]++name∈scalarsP c.p.vars c.p.funcs
 ·rw[if_pos hin] at hke
  rw[←hke] at hb
  refine LQ.pure (Pure.kvHit2 rfl rfl zm2 hb) rfl ?_
  refine gaa ?_
  refine oC rfl (fun hc=>?_) (fun hc=>?_)
  ·refine gab ?_
   exact retS rfl (zra rfl) rfl (zhD zhr)
  ·cases hc
 ·rw[if_neg hin] at hke
  rw[←hke] at hb
  refine LQ.pure (Pure.kvMiss2 rfl rfl zm2 (hC.miss hin)) rfl ?_
  refine gaa ?_
  refine oC rfl (fun hc=>?_) (fun hc=>?_)
  ·cases hc
  ·refine gaa ?_
   refine oP (Pure.kvHit rfl rfl zm2 hb) rfl ?_
   refine gam ?_
   exact retS rfl (zra rfl) rfl (zhD zhr)
theorem wrapU64 {n:Nat} (h:n<18446744073709551616):IntKind.u64.wrap (n:Int)=n:=by
 have:IntKind.u64.wrap (n:Int)=(n:Int) % 18446744073709551616:=by
  simp only[IntKind.wrap,IntKind.bits,IntKind.signed,Bool.false_and]
  rfl
 rw[this]
 omega
theorem element_spec {c:Cfg} (hC:CfgOk c) {s:IS} (hs:St c s H) {name:List UInt8} {b n i:Nat} (hb:(name,b,n)∈c.ab) (hg:GL.kvGet (arKV c.ab) name=some (rowV b n)) (hi:i<4294967296) :
  LCalls (KC B0 w0) 160 [ptr c.rb 0,str name,u32 i] H (fun r H'=>H'=H∧r=if i<n then .ret (ptr b i) else .panic (panI 2)):=by
 have hn:=hC.asz _ hb
 simp only at hn
 obtain ⟨hl,hle,v,Ha,hacc,rfl⟩:=hs
 refine cI Tryz.func160 rfl (n:=25) rfl rfl rfl ?_
 refine gab ?_
 refine oP (Pure.kvHit rfl rfl zm2 hg) rfl ?_
 refine gaa ?_
 refine oP (Pure.rowLen rfl) rfl ?_
 refine gac ?_
 have e1:=wrapU64 (n:=i) zo
 have e2:=wrapU64 (n:=n) zo
 refine oC rfl (fun hc=>?_) (fun hc=>?_)
 ·have h0:¬ i<n:=by
   have:=zt hc
   rw[e1,e2] at this
   omega
  refine gaa ?_
  refine oS (LStep.panic rfl fun e' he'=>?_) rfl
  refine gao ?_
  exact RetPost.panic (he'.trans rfl) zhr ⟨rfl,by rw[if_neg h0];rfl⟩
 ·have h0:i<n:=by
   have:=zf hc
   rw[e1,e2] at this
   omega
  refine gax ?_
  refine oP (Pure.indexRow rfl rfl zo zo) rfl ?_
  refine gam ?_
  refine rR rfl (zra rfl) zhr ⟨rfl,?_⟩
  rw[if_pos h0]
  show LRes.ret (ptr b (0+(i:Int).toNat * 1))=_
  rw[Int.toNat_natCast,Nat.mul_one,Nat.zero_add]
end
end Go.Proofs.YtcbpcianefpniaaGreatDoor.Inp
namespace Go.Proofs.YtcbpcianefpniaaGreatDoor.Inp
open Go.GL Go.RowKit Go.Stele
set_option maxRecDepth 100000
theorem sc_pick {sb:List (List UInt8×Nat)} {k:List UInt8} {b:Nat} (s:IS):(sb.map (·.1)).Nodup→(k,b)∈sb→∃ F,(scH sb s).Perm ((b,.cells 43 [u32 (s.sc k)])::F)∧∀ x,(scH sb (setSc s k x)).Perm ((b,.cells 43 [u32 x])::F):=by
 induction sb with
 |nil=>intro _ h;cases h
 |cons q l ih=>
  intro hn h
  rw[List.map_cons,List.nodup_cons] at hn
  have same:∀ (l:List (List UInt8×Nat)) x,k ∉ l.map (·.1)→scH l (setSc s k x)=scH l s:=fun l x hk=>by
   unfold scH
   refine List.map_congr_left fun p hp=>?_
   show (p.2,LObj.cells 43 [u32 (if p.1=k then x else s.sc p.1)])=_
   rw[if_neg (fun he=>hk (by rw[←he];exact List.mem_map_of_mem hp))]
  rcases List.mem_cons.1 h with rfl|h
  ·refine ⟨scH l s,List.Perm.refl _,fun x=>?_⟩
   show List.Perm ((b,LObj.cells 43 [u32 (if k=k then x else s.sc k)])::scH l (setSc s k x)) _
   rw[if_pos rfl,same l x hn.1]
  ·obtain ⟨F,h1,h2⟩:=ih hn.2 h
   have hne:¬ q.1=k:=fun he=>hn.1 (by rw[he];exact List.mem_map_of_mem h)
   refine ⟨(q.2,.cells 43 [u32 (s.sc q.1)])::F,(List.Perm.cons _ h1).trans (List.Perm.swap _ _ _),fun x=>?_⟩
   show List.Perm ((q.2,LObj.cells 43 [u32 (if q.1=k then x else s.sc q.1)])::scH l (setSc s k x)) _
   rw[if_neg hne]
   exact (List.Perm.cons _ (h2 x)).trans (List.Perm.swap _ _ _)
def hdH (c:Cfg) (s:IS) (v:LV):Heap:=[(c.rb,.cells 72 (runC c s v)),(c.sm,.map (kvs (scKV c.sb)) c.sc),(c.am,.map (kvs (arKV c.ab)) c.ac),(c.fm,.map (kvs (fnKV c.p.funcs)) c.fc),(c.om,.map (kvs (opsKV c.db)) c.oc),divH c.db]
theorem stH_eq (c:Cfg) (s:IS) (v:LV) (Ha:Heap):stH c s v Ha=hdH c s v++(scH c.sb s++(arH c.ab s++Ha)):=rfl
theorem fst_inj {A B:Type}:∀ (L:List (A×B)),(L.map (·.1)).Nodup→∀ {x y:A×B},x∈L→y∈L→x.1=y.1→x=y
 |[],_,x,y,hx,_,_=>by cases hx
 |z::L,hn,x,y,hx,hy,he=>by
  rw[List.map_cons,List.nodup_cons] at hn
  rcases List.mem_cons.1 hx with hx1|hx1
  ·rcases List.mem_cons.1 hy with hy1|hy1
   ·rw[hx1,hy1]
   ·exact absurd (by rw[←hx1,he];exact List.mem_map_of_mem (f:=Prod.fst) hy1) hn.1
  ·rcases List.mem_cons.1 hy with hy1|hy1
   ·exact absurd (by rw[←hy1,←he];exact List.mem_map_of_mem (f:=Prod.fst) hx1) hn.1
   ·exact fst_inj L hn.2 hx1 hy1 he
def setAr (s:IS) (name:List UInt8) (l:List Nat):IS:={ s with ar:=fun x=>if x=name then l else s.ar x }
theorem ar_pick {ab:List (List UInt8×Nat×Nat)} {k:List UInt8} {b n:Nat} (s:IS):(ab.map (·.1)).Nodup→(k,b,n)∈ab→∃ F,(arH ab s).Perm ((b,.cells 43 ((s.ar k).map u32))::F)∧∀ l,(arH ab (setAr s k l)).Perm ((b,.cells 43 (l.map u32))::F):=by
 induction ab with
 |nil=>intro _ h;cases h
 |cons q r ih=>
  intro hn h
  rw[List.map_cons,List.nodup_cons] at hn
  have same:∀ (r:List (List UInt8×Nat×Nat)) l,k ∉ r.map (·.1)→arH r (setAr s k l)=arH r s:=fun r l hk=>by
   unfold arH
   refine List.map_congr_left fun p hp=>?_
   show (p.2.1,LObj.cells 43 ((if p.1=k then l else s.ar p.1).map u32))=_
   rw[if_neg (fun he=>hk (by rw[←he];exact List.mem_map_of_mem hp))]
  rcases List.mem_cons.1 h with rfl|h
  ·refine ⟨arH r s,List.Perm.refl _,fun l=>?_⟩
   show List.Perm ((b,LObj.cells 43 ((if k=k then l else s.ar k).map u32))::arH r (setAr s k l)) _
   rw[if_pos rfl,same r l hn.1]
  ·obtain ⟨F,h1,h2⟩:=ih hn.2 h
   have hne:¬ q.1=k:=fun he=>hn.1 (by rw[he];exact List.mem_map_of_mem (f:=Prod.fst) h)
   refine ⟨(q.2.1,.cells 43 ((s.ar q.1).map u32))::F,(List.Perm.cons _ h1).trans (List.Perm.swap _ _ _),fun l=>?_⟩
   show List.Perm ((q.2.1,LObj.cells 43 ((if q.1=k then l else s.ar q.1).map u32))::arH r (setAr s k l)) _
   rw[if_neg hne]
   exact (List.Perm.cons _ (h2 l)).trans (List.Perm.swap _ _ _)
theorem st_sc {c:Cfg} (hC:CfgOk c) {s:IS} {H:Heap} {k:List UInt8} {b:Nat} (hb:(k,b)∈c.sb) (hs:St c s H) :
  ∃ G,H.Perm ((b,.cells 43 [u32 (s.sc k)])::G)∧∀ x,∃ H',St c (setSc s k x) H'∧List.Perm ((b,.cells 43 [u32 x])::G) H':=by
 obtain ⟨hl,hle,v,Ha,hacc,rfl⟩:=hs
 obtain ⟨F,h1,h2⟩:=sc_pick s hC.keys hb
 have key:∀ (X S R:Heap) (p:Nat×LObj),S.Perm (p::F)→List.Perm (X++(S++R)) (p::(X++(F++R))):=fun X S R p h=>((h.append_right R).append_left X).trans List.perm_middle
 refine ⟨_,key (hdH c s v) _ _ _ h1,fun x=>⟨stH c (setSc s k x) v Ha,⟨hl,hle,v,Ha,hacc,rfl⟩,(key (hdH c s v) _ _ _ (h2 x)).symm⟩⟩
theorem st_ar {c:Cfg} (hC:CfgOk c) {s:IS} {H:Heap} {k:List UInt8} {b n:Nat} (hb:(k,b,n)∈c.ab) (hs:St c s H) :
  (s.ar k).length=n∧∃ G,H.Perm ((b,.cells 43 ((s.ar k).map u32))::G)∧∀ l,l.length=n→∃ H',St c (setAr s k l) H'∧List.Perm ((b,.cells 43 (l.map u32))::G) H':=by
 obtain ⟨hl,hle,v,Ha,hacc,rfl⟩:=hs
 have hn:=hl _ hb
 simp only at hn
 refine ⟨hn,?_⟩
 obtain ⟨F,h1,h2⟩:=ar_pick s hC.akeys hb
 have key:∀ (X S R:Heap) (p:Nat×LObj),S.Perm (p::F)→List.Perm (X++(S++R)) (p::(X++(F++R))):=fun X S R p h=>((h.append_right R).append_left X).trans List.perm_middle
 have asc:∀ (X S A R:Heap),X++(S++(A++R))=(X++S)++(A++R):=fun X S A R=>(List.append_assoc X S _).symm
 refine ⟨(hdH c s v++scH c.sb s)++(F++Ha),?_,fun l hln=>⟨stH c (setAr s k l) v Ha,⟨fun q hq=>?_,hle,v,Ha,hacc,rfl⟩,?_⟩⟩
 ·have:=key (hdH c s v++scH c.sb s) _ Ha _ h1
  rw[←asc] at this
  exact this
 ·show ((if q.1=k then l else s.ar q.1)).length=q.2.2
  split
  ·rename_i he
   have:q=(k,b,n):=by
    have h3:=hC.akeys
    exact fst_inj c.ab h3 hq hb he
   rw[this]
   exact hln
  ·exact hl q hq
 ·have:=key (hdH c s v++scH c.sb s) _ Ha _ (h2 l)
  rw[←asc] at this
  exact this.symm
theorem pick_in {p:Nat×LObj} {X H G:Heap} (h:H.Perm (p::G)):Pick p (X++H) (X++G):=(h.append_left X).trans List.perm_middle
theorem back_in {p:Nat×LObj} {X H G:Heap} (h:List.Perm (p::G) H):List.Perm (p::(X++G)) (X++H):=List.perm_middle.symm.trans (h.append_left X)
theorem setL_one:∀ (cs:List LV) (i:Nat) (v:LV),i<cs.length→setL cs i [v]=cs.set i v:=fun cs i v h=>by
 rw[setL_eq cs i [v] (by simp;omega),List.set_eq_take_append_cons_drop]
 rw[if_pos h]
 simp
def Good (c:Cfg) (n:Nat) (s:IS):Prop:=Bnd s∧s.left≤n∧s.out.length+s.left≤c.lim
theorem ev_good {c:Cfg} (hC:CfgOk c) {n m:Nat} {f:FnD} {x:Ex} {s s':IS} {v:Nat} (hx:numE x) (hg:Good c m s) (h:evI c.p n f x s=.ok v s'):Good c m s'∧v<4294967296∧s'.left<s.left:=by
 have h1:=(bd_all hC.nums n).1 f x s hx hg.1
 have h2:=(few_all c.p n).1 f x s
 have h3:=ev_less c.p n f x s s' v h
 rw[h] at h1 h2
 unfold Few at h2
 simp only[IR.st] at h2
 exact ⟨⟨h1.2,Nat.le_trans (Nat.le_of_lt h3) hg.2.1,by have:=hg.2.2;omega⟩,h1.1,h3⟩
theorem st_good {c:Cfg} (hC:CfgOk c) {n m:Nat} {f:FnD} {x:Sm} {s s':IS} {r:Option Nat} (hx:numS x) (hg:Good c m s) (h:stI c.p n f x s=.ok r s'):Good c m s'∧OptLt r:=by
 have h1:=(bd_all hC.nums n).2 f x s hx hg.1
 have h2:=(few_all c.p n).2 f x s
 have h3:=((grow_all c.p n).2 f x s).2
 rw[h] at h1 h2 h3
 unfold Few at h2
 simp only[IR.st] at h2 h3
 exact ⟨⟨h1.2,Nat.le_trans h3 hg.2.1,by have:=hg.2.2;omega⟩,h1.1⟩
theorem blk_good {c:Cfg} (hC:CfgOk c) {n m:Nat} {f:FnD} {l:List Sm} {s s':IS} {r:Option Nat} (hx:numSs l) (hg:Good c m s) (h:blkR (stI c.p n f) l s=.ok r s'):Good c m s'∧OptLt r:=by
 have h1:=blkR_bd l s (fun a ha s hs=>(bd_all hC.nums n).2 f a s (numSs_mem hx ha) hs) hg.1
 have h2:=blkR_few ((few_all c.p n).2 f) l s
 have h3:=(blkR_grow ((grow_all c.p n).2 f) l s).2
 rw[h] at h1 h2 h3
 unfold Few at h2
 simp only[IR.st] at h2 h3
 exact ⟨⟨h1.2,Nat.le_trans h3 hg.2.1,by have:=hg.2.2;omega⟩,h1.1⟩
theorem mapR_step {A B:Type} (g:A→IS→IR Nat) (a:A) (l:List A) (s:IS) (F:List Nat→IS→IR B):(mapR g (a::l) s).bind F=(g a s).bind fun v s=>(mapR g l s).bind fun vs s=>F (v::vs) s:=by
 rw[mapR]
 cases g a s with
 |stop e s=>rfl
 |ok v s=>
  show ((mapR g l s).bind _).bind F=_
  cases hm:mapR g l s with
  |stop e s=>show _=(mapR g l _).bind _;rw[hm];rfl
  |ok vs s=>show _=(mapR g l _).bind _;rw[hm];rfl
end Go.Proofs.YtcbpcianefpniaaGreatDoor.Inp
namespace Go.Proofs.YtcbpcianefpniaaGreatDoor.Inp
open Go.GL Go.RowKit Go.Stele
set_option maxRecDepth 100000
set_option maxHeartbeats 4000000
abbrev cenv (c:Cfg) (kn:List FSum) (f:FnD):CEnv:=envF c.p.vars (c.p.arrays.map (·.name)) (c.p.funcs.map (·.name)) kn f
def EvalH (B0:Nat) (w0:World) (c:Cfg) (n:Nat):Prop:=∀ (f:FnD) (kn:List FSum) (x:Ex) (s:IS) (H:Heap),f∈c.p.funcs→Known c.p.funcs kn→errE (cenv c kn f) x=0→numE x→smE x→Good c n s→St c s H →
 LCalls (KC B0 w0) 158 [ptr c.rb 0,encFn f,encE x] H (PostI c u32 (evI c.p n f x s))
def ExecH (B0:Nat) (w0:World) (c:Cfg) (n:Nat):Prop:=∀ (f:FnD) (kn:List FSum) (x:Sm) (s:IS) (H:Heap),f∈c.p.funcs→Known c.p.funcs kn→errS (cenv c kn f) x=0→numS x→smS x→Good c n s→St c s H →
 LCalls (KC B0 w0) 109 [ptr c.rb 0,encFn f,encS x] H (PostI c retV (stI c.p n f x s))
def BlkH (B0:Nat) (w0:World) (c:Cfg) (n:Nat):Prop:=∀ (f:FnD) (kn:List FSum) (l:List Sm) (s:IS) (H:Heap),f∈c.p.funcs→Known c.p.funcs kn→errSs (cenv c kn f) l=0→numSs l→Few6 l.length→smSs l→Good c n s→St c s H →
 LCalls (KC B0 w0) 76 [ptr c.rb 0,encFn f,.list (l.map encS)] H (PostI c retV (blkR (stI c.p n f) l s))
theorem swap1 {x:Nat×LObj} {H:Heap}:(x::H).Perm (H++[x]):=List.perm_append_comm (l₁:=[x])
theorem swap2 {x y:Nat×LObj} {H:Heap}:(x::y::H).Perm (H++[x,y]):=List.perm_append_comm (l₁:=[x,y])
theorem hsub_left {H F:Heap}:HSub H (H++F):=⟨F,List.Perm.refl _⟩
theorem hsub_keep {H:Heap} {x y:Nat×LObj}:HSub (y::H) (H++[x,y]):=⟨[x],by
 refine (List.perm_append_comm (l₂:=[x,y])).trans ?_
 exact (List.Perm.swap y x H).trans (List.Perm.cons y swap1)⟩
theorem get_mid {A B:Type} (g:A→B) (pre:List A) (a:A) (l:List A):((pre++a::l).map g)[((pre.length:Nat):Int).toNat]? = some (g a):=by
 rw[Int.toNat_natCast,List.getElem?_map,List.getElem?_append_right (Nat.le_refl _),Nat.sub_self]
 rfl
attribute [local irreducible] LOps LCode LStep LCalls Go.GL.Pure QThen QBlock RetPost LQ LAny LLate LLateOp
section
variable {B0:Nat} {w0:World}
theorem block_spec {c:Cfg} (hC:CfgOk c) {n:Nat} (hX:ExecH B0 w0 c n):BlkH B0 w0 c n:=by
 intro f kn l s H hf hk hv hnum hlen6 hsm hg hs
 refine cI Tryz.func76 rfl (n:=28) rfl rfl rfl ?_
 refine gai ?_
 refine oS (S.box rfl fun b4=>?_) rfl
 refine gab ?_
 refine oL (fun k ls H'=>∃ (pre l1:List Sm) (s1:IS) (Hs:Heap),l=pre++l1∧k=l1.length∧ls=[(0,ptr c.rb 0),(4,ptr b4 0),(12,.list (l.map encS)),(13,int .i64 ((l.map encS).length:Int)),(14,int .i64 (pre.length:Int))]∧H'=(b4,.cells 63 [str f.name,.list (f.params.map str),.list (f.locals.map str),.list (f.body.map encS)])::Hs∧St c s1 Hs∧Good c n s1∧errSs (cenv c kn f) l1=0∧numSs l1∧smSs l1∧blkR (stI c.p n f) l s=blkR (stI c.p n f) l1 s1)
  ⟨l.length,_,_,⟨[],l,s,H,rfl,rfl,rfl,rfl,hs,hg,hv,hnum,hsm,rfl⟩,⟨rfl,rfl,rfl,rfl,rfl,trivial⟩,HSub.refl _⟩ ?_
 rintro k ls H' ⟨pre,l1,s1,Hs,hl,rfl,rfl,rfl,hs1,hg1,hv1,hn1,hm1,hI⟩ j hj
 have hl6:pre.length≤1000000:=by
  have h6:l.length≤1000000:=hlen6
  rw[hl,List.length_append] at h6
  omega
 refine gak ?_
 refine oC rfl (fun hc=>?_) (fun hc=>?_)
 ·have hlen:=zt hc
  rw[List.length_map,hl,List.length_append] at hlen
  obtain ⟨a,l2,rfl⟩:∃ a l2,l1=a::l2:=by
   cases l1 with
   |nil=>simp at hlen
   |cons a l2=>exact ⟨a,l2,rfl⟩
  rw[errSs] at hv1
  obtain ⟨hva,hvl⟩:=orE_zero.1 hv1
  rw[blkR] at hI
  refine gan ?_
  refine oP (xR (el':=encS a) (cs:=[_,_,_,_,_,_]) rfl rfl zo (by rw[hl];exact get_mid encS pre a l2) rfl rfl) rfl ?_
  refine gac ?_
  refine oS (S.alloc fun b9=>?_) rfl
  refine gaa ?_
  refine oS (S.callI [_,_,_] rfl swap2 (hX f kn a s1 Hs hf hk hva hn1.1 hm1.1 hg1 hs1) (fun r s2 H2 hr hs2=>?_) (fun er s2 H2 hr hs2 e' he'=>?_)) rfl
  ·obtain ⟨hg2,_⟩:=st_good hC hn1.1 hg1 hr
   rw[hr] at hI
   cases r with
   |none=>
    refine gaa ?_
    refine oC rfl (fun hd=>?_) (fun hd=>?_)
    ·cases hd
    ·refine gab ?_
     exact ⟨l2.length,_,_,Nat.lt_succ_self _,⟨pre++[a],l2,s2,H2,by rw[hl];simp,rfl,rfl,rfl,hs2,hg2,hvl,hn1.2,hm1.2,hI⟩,⟨rfl,rfl,rfl,rfl,int_eq (by simp),trivial⟩,hsub_keep,hj⟩
   |some v=>
    refine gaa ?_
    refine oC rfl (fun hd=>?_) (fun hd=>?_)
    ·refine gab ?_
     exact retI (v:=some v) hj (rC (zrt rfl) (zra rfl)) hI rfl hsub_left hs2
    ·cases hd
  ·refine gah ?_
   rw[hr] at hI
   exact panI_ (he'.trans hj) hI hsub_left hs2
 ·have hlen:=zf hc
  rw[List.length_map,hl,List.length_append] at hlen
  obtain rfl:l1=[]:=by
   cases l1 with
   |nil=>rfl
   |cons a l2=>simp at hlen;omega
  refine gab ?_
  exact retI (v:=none) hj (rC (zrt rfl) (zra rfl)) (hI.trans rfl) rfl (zhD zhr) hs1
end
end Go.Proofs.YtcbpcianefpniaaGreatDoor.Inp
namespace Go.GL
open Go.RowKit
section
variable {C:Ctx} {n:Nat} {Q:Post} {e:Env} {H:Heap} {k:Env→Heap→Prop}
theorem LCode.mid {A:Type} {c:Code} (l:A→List (Nat×LV)) (H1:A→Heap) (F:A→Prop) (hx:LCode C n c (QThen (fun e' H'=>∃ a,F a∧At (l a) (H1 a) e.ds e' H') Q) e H) (hy:∀ a,F a→∀ j:Env,j.ds=e.ds→k (Env.slots j (l a)) (H1 a)):LCode C n c (QThen k Q) e H:=by
 refine LCode.conseq hx ?_
 rintro ex e' H' hq
 cases ex with
 |normal=>
  obtain ⟨a,hF,h1,rfl,h3⟩:=hq
  have:=hy a hF e' h3
  rw[Env.slots_self h1.mem] at this
  exact this
 |exit id=>exact hq
 |goto id=>exact hq
 |ret=>exact hq
 |panic ch=>exact hq
 |outgrown=>exact hq
theorem LCode.midC {A:Type} {c c2:Code} {Q2:Post} (l:A→List (Nat×LV)) (H1:A→Heap) (F:A→Prop) (hx:LCode C n c (QThen (fun e' H'=>∃ a,F a∧AllSlots e' (l a)∧HSub (H1 a) H'∧e'.ds=e.ds) Q) e H) (hy:∀ a,F a→∀ j:Env,j.ds=e.ds→LCode C n c2 Q2 (Env.slots j (l a)) (H1 a)):LCode C n c (QThen (fun e H=>LCode C n c2 Q2 e H) Q) e H:=by
 refine LCode.conseq hx ?_
 rintro ex e' H' hq
 cases ex with
 |normal=>
  obtain ⟨a,hF,h1,h2,h3⟩:=hq
  have:=hy a hF e' h3
  rw[Env.slots_self h1.mem] at this
  exact LCode.weak h2 this
 |exit id=>exact hq
 |goto id=>exact hq
 |ret=>exact hq
 |panic ch=>exact hq
 |outgrown=>exact hq
theorem cells_sub {w:World} {L:Live} {b ty:Nat} {cs cs':List LV} {F:Heap} (hp:Pick (b,.cells ty cs) H F) (hs:SubL cs cs') (hH:RelH C w L H):RelH C w L ((b,.cells ty cs')::F):=by
 have h1:=hH.perm hp
 refine ⟨h1.base,h1.lbase,h1.b0,h1.wf,h1.nodup,fun p hp=>?_⟩
 rcases List.mem_cons.1 hp with rfl|hp
 ·obtain ⟨r1,r2,r3,xs,r4,r5⟩:=h1.objs _ List.mem_cons_self
  exact ⟨r1,r2,r3,xs,r4,hs.repL r5⟩
 ·exact h1.objs p (List.mem_cons_of_mem _ hp)
theorem pick_keys {b ty:Nat} {cs cs':List LV} {F:Heap} (hp:Pick (b,.cells ty cs) H F):∀ x,x∈keys ((b,LObj.cells ty cs')::F)→x∈keys H:=fun x hx=>by
 have:keys ((b,LObj.cells ty cs')::F)=keys ((b,LObj.cells ty cs)::F):=rfl
 rw[this] at hx
 exact ((hp.map (·.1)).mem_iff).2 hx
theorem LCode.cellSub {c:Code} {b ty:Nat} {cs cs':List LV} {F:Heap} (hp:Pick (b,.cells ty cs) H F) (hs:SubL cs cs') (h:LCode C n c Q e ((b,.cells ty cs')::F)):LCode C n c Q e H:=fun a w L hE hH=>
 Go.wp_mono (h a w L hE (cells_sub hp hs hH)) fun _ _ _=>lift_weak (pick_keys hp)
theorem LOps.cellSub {ops:Array Oper} {rest:List Oper} {b ty:Nat} {cs cs':List LV} {F:Heap} (hp:Pick (b,.cells ty cs) H F) (hs:SubL cs cs') (h:LOps C n ops Q rest e ((b,.cells ty cs')::F)):LOps C n ops Q rest e H:=fun a w L hE hH=>
 wpList_mono (fun _ _ _=>lift_weak (pick_keys hp)) _ _ _ (h a w L hE (cells_sub hp hs hH))
theorem LOps.perm {ops:Array Oper} {rest:List Oper} {H':Heap} (s:H.Perm H') (h:LOps C n ops Q rest e H'):LOps C n ops Q rest e H:=LOps.weak ⟨[],by simpa using s⟩ h
end
section
variable {C:Ctx} {e:Env} {H:Heap} {dst:Option Nat} {ty:TypeId} {pos:String} {aft:Array Edge} {g:Option (Nat×Bool)} {x:Operand}
theorem Pure.assertOk {t xT:TypeId} [ht:TConcrete C.P t] {vs:List Value} (hx:e.ev x=.atom (.iface t (.agg vs.toArray))):Pure C ⟨dst,.typeAssert x xT t true,ty,pos,aft,g⟩ e H (.tuple [.agg (vs.map .atom),bool true]):=
 .of_any fun ρ w L h=>⟨.tuple #[.agg vs.toArray,.bool true],by
  simp only[Rep]
  exact ⟨[.agg vs.toArray,.bool true],rfl,by simp only[RepL,Rep];exact ⟨_,_,rfl,⟨vs,rfl,repL_atoms vs⟩,_,_,rfl,rfl,rfl⟩⟩,fun w'=>by
  obtain ⟨d,hd,hm⟩:=ht.out
  have h3:execOp ρ ⟨dst,.typeAssert x xT t true,ty,pos,aft,g⟩=(do Pure.pure (.value (←Instr.typeAssert (ρ x) xT t true))):=rfl
  rw[h3,atom_of h hx]
  simp only[Instr.typeAssert,Sem.run_bind,run_underlying' hd,Result.andThen_ok]
  cases d <;> simp_all⟩
end
theorem LLate.three {C:Ctx} {n:Nat} {ops:Array Oper} {Q:Post} {HF:Heap} {fuel:Nat} {listed:Array Bool} {e:Env} {H:Heap} {i j k:Nat} (hr:Region.ready .any ops listed=[i,j,k]) (h1:LLateOp C n ops Q HF fuel listed e H i) (h2:LLateOp C n ops Q HF fuel listed e H j) (h3:LLateOp C n ops Q HF fuel listed e H k):LLate C n ops Q HF (fuel+1) listed e H:=
 LLate.all hr (by simp) fun q hq=>by
  simp only[List.mem_cons,List.not_mem_nil,or_false] at hq
  rcases hq with rfl|rfl|rfl
  ·exact h1
  ·exact h2
  ·exact h3
theorem LLate.four {C:Ctx} {n:Nat} {ops:Array Oper} {Q:Post} {HF:Heap} {fuel:Nat} {listed:Array Bool} {e:Env} {H:Heap} {i j k l:Nat} (hr:Region.ready .any ops listed=[i,j,k,l]) (h1:LLateOp C n ops Q HF fuel listed e H i) (h2:LLateOp C n ops Q HF fuel listed e H j) (h3:LLateOp C n ops Q HF fuel listed e H k) (h4:LLateOp C n ops Q HF fuel listed e H l):LLate C n ops Q HF (fuel+1) listed e H:=
 LLate.all hr (by simp) fun q hq=>by
  simp only[List.mem_cons,List.not_mem_nil,or_false] at hq
  rcases hq with rfl|rfl|rfl|rfl
  ·exact h1
  ·exact h2
  ·exact h3
  ·exact h4
theorem strs_len (l:List (List UInt8)):∀ v∈l.map str,v.cells.length=1:=fun v hv=>by
 obtain ⟨x,_,rfl⟩:=List.mem_map.1 hv
 rfl
theorem strs_ok:∀ l:List (List UInt8),((l.map str).flatMap LV.cells).all cellOk=true
 |[]=>rfl
 |x::l=>by
  rw[List.map_cons,List.flatMap_cons,List.all_append,strs_ok l]
  rfl
end Go.GL
/- A small logic over the walk's 'Code.wp': structs of a string and an int, compared. -/
namespace Go.GL
open Go.RowKit
section
variable {C:Ctx} {e:Env} {H:Heap} {dst:Option Nat} {ty:TypeId} {pos:String} {aft:Array Edge} {g:Option (Nat×Bool)} {xT yT:TypeId} {x y:Operand}
end
end Go.GL
namespace Go.GL
open Go.RowKit
section
variable {C:Ctx} {n:Nat} {ops:Array Oper} {Q:Post} {HF:Heap} {fuel:Nat} {listed:Array Bool} {e:Env} {H F:Heap} {i:Nat} {dst:Option Nat} {op:Op} {ty:TypeId} {pos:String} {aft:Array Edge}
theorem LLate.weakH {H':Heap} (s:HSub H' H) (h:LLate C n ops Q HF fuel listed e H'):LLate C n ops Q HF fuel listed e H:=fun w0 L0 a w L hL hA hsz hE hH=>
 wpAnyH_mono (fun _ _ _=>lift_weak s.keys) _ _ _ _ (h w0 L0 a w L hL hA hsz hE (hH.weak s))
end
end Go.GL
namespace Go.Proofs.YtcbpcianefpniaaGreatDoor.Inp
open Go.GL Go.RowKit Go.Stele
set_option maxRecDepth 100000
set_option maxHeartbeats 4000000
theorem bind_ok {A B:Type} {v:A} {s:IS} {f:A→IS→IR B}:(IR.ok v s).bind f=f v s:=rfl
theorem bind_stop {A B:Type} {e:Int} {s:IS} {f:A→IS→IR B}:(IR.stop e s).bind f=.stop e s:=rfl
theorem errS_parts {c:CEnv} {kind:Int} {name:List UInt8} {index value:List Ex} {thn els:List Sm} (h:errS c (.mk kind name index value thn els)=0) :
  formS (.mk kind name index value thn els)=true∧errEs c value=0∧errEs c index=0∧(if kind=1 then scalarE c name else if kind=2 then arrayE c name else 0)=0∧errSs c thn=0∧errSs c els=0:=by
 rw[errS] at h
 split at h
 ·cases h
 ·rename_i hf
  obtain ⟨h1,h⟩:=orE_zero.1 h
  obtain ⟨h2,h⟩:=orE_zero.1 h
  obtain ⟨h3,h⟩:=orE_zero.1 h
  obtain ⟨h4,h5⟩:=orE_zero.1 h
  exact ⟨by simpa using hf,h1,h2,h3,h4,h5⟩
theorem form_value {kind:Int} {name:List UInt8} {index value:List Ex} {thn els:List Sm} (h:formS (.mk kind name index value thn els)=true) (h7:¬ kind=7):∃ x,value=[x]:=by
 have h1:value.length=1:=by
  simp only[formS] at h
  repeat' (split at h)
  all_goals first
   |(simp only[decide_eq_true_eq] at h;omega)
   |cases h
   |contradiction
 cases value with
 |nil=>cases h1
 |cons x l=>
  cases l with
  |nil=>exact ⟨x,rfl⟩
  |cons y l=>simp at h1
theorem form_index {name:List UInt8} {index value:List Ex} {thn els:List Sm} (h:formS (.mk 2 name index value thn els)=true):∃ x,index=[x]:=by
 have h1:index.length=1:=by
  simp only[formS] at h
  simp only[show ¬ ((2:Int)=1) by decide,if_false,if_true,decide_eq_true_eq] at h
  exact h.2.1
 cases index with
 |nil=>cases h1
 |cons x l=>
  cases l with
  |nil=>exact ⟨x,rfl⟩
  |cons y l=>simp at h1
theorem whl_step {P:Pr} {n m v:Nat} {f:FnD} {x:Ex} {thn:List Sm} {s:IS} (hm:s.left≤m) (hv:¬ v=0):whlR (evI P n f x) (blkR (stI P n f) thn) m v s=(blkR (stI P n f) thn s).bind fun r s=>match r with
  |some y=>.ok (some y) s
  |none=>(evI P n f x s).bind fun v s=>whlR (evI P n f x) (blkR (stI P n f) thn) (m-1) v s:=by
 cases m with
 |succ m=>rw[whlR,if_neg hv];rfl
 |zero=>
  have h0:s.left=0:=by omega
  have ht:tick s=.stop 13 s:=by rw[tick,if_pos h0]
  have he:evI P n f x s=.stop 13 s:=by
   cases n with
   |zero=>rw[evI]
   |succ n=>
    obtain ⟨op,num,name,args⟩:=x
    rw[evI,ht,bind_stop]
  rw[whlR,if_neg hv]
  cases thn with
  |nil=>
   rw[blkR,bind_ok]
   show _=(evI P n f x s).bind _
   rw[he,bind_stop]
  |cons a l=>
   have hs:stI P n f a s=.stop 13 s:=by
    cases n with
    |zero=>rw[stI]
    |succ n=>
     obtain ⟨k,nm,i,va,t,e⟩:=a
     rw[stI,ht,bind_stop]
   rw[blkR,hs,bind_stop,bind_stop]
section steps
variable {C:Ctx} {n:Nat} {e:Env} {H:Heap} {dst:Option Nat} {ty:TypeId} {pos:String} {aft:Array Edge} {g:Option (Nat×Bool)} {K:LV→Heap→Prop} {X:List PanicEntry→Heap→Prop}
theorem LStep.callI {A:Type} {c:Cfg} {enc:A→LV} {r:IR A} {f:FuncId} [TEnter C.P f] (args:List Operand) {ats:Array TypeId} {av:List LV} (has:args.map e.ev=av)
  (hc:LCalls C f av H (PostI c enc r)) (hk:∀ v s H',r=.ok v s→St c s H'→K (enc v) H') (hx:∀ er s H',r=.stop er s→St c s H'→X (panI er) H') :
  LStep C ⟨dst,.call { callee:=.value (.func f),args:=args.toArray,argTypes:=ats },ty,pos,aft,g⟩ e H K X:=by
 refine LStep.conseq (S.callI (F:=[]) (K:=fun lv H'=>K lv H') (X:=X) args has (by rw[List.append_nil]) hc (fun v s H' h1 h2=>by rw[List.append_nil];exact hk v s H' h1 h2) (fun er s H' h1 h2=>by rw[List.append_nil];exact hx er s H' h1 h2)) (fun lv H' h=>⟨lv,H',LV.Sub.refl _,HSub.refl _,h⟩)
end steps
attribute [local irreducible] LOps LCode LStep LCalls Go.GL.Pure QThen QBlock RetPost LQ LAny LLate LLateOp LS
section
variable {B0:Nat} {w0:World}
theorem execute_spec {c:Cfg} (hC:CfgOk c) {n:Nat} (hE:EvalH B0 w0 c n) (hB:BlkH B0 w0 c n):ExecH B0 w0 c (n+1):=by
 intro f kn x s H hf hk hv hnum hsm hg hs
 obtain ⟨kind,name,index,value,thn,els⟩:=x
 obtain ⟨hform,hval,hidx,hname,hthn,hels⟩:=errS_parts hv
 obtain ⟨hn1,hn2,hn3,hn4⟩:=hnum
 obtain ⟨hm1,hm2,hm3,hm4,hm5,hm6,hm7,hm8⟩:=hsm
 generalize hI:stI c.p (n+1) f (Sm.mk kind name index value thn els) s=R
 rw[stI] at hI
 rw[encS_mk]
 refine cI Tryz.func109 rfl (n:=93) rfl rfl rfl ?_
 refine gai ?_
 refine oS (S.box rfl fun b4=>?_) rfl
 refine oS (S.box rfl fun b5=>?_) rfl
 refine gav ?_
 refine oS (S.callI [_] rfl swap2 (step_spec hC hs) (fun u s1 H1 hr hs1=>?_) (fun er s1 H1 hr hs1 e' he'=>?_)) rfl
 rotate_left
 ·refine gao ?_
  rw[hr,bind_stop] at hI
  exact panI_ (he'.trans rfl) hI.symm hsub_left hs1
 have hg1:Good c n s1:=by
  have h1:=tick_less hr
  have h2:=tick_bd hg.1
  rw[hr] at h2
  have h3:s1.out=s.out:=by
   unfold tick at hr
   split at hr
   ·cases hr
   ·cases hr;rfl
  exact ⟨h2.2,by have:=hg.2.1;omega,by rw[h3];have:=hg.2.2;omega⟩
 rw[hr,bind_ok] at hI
 refine LOps.perm (swap2 (H:=H1)).symm ?_
 refine gab ?_
 refine oC rfl (fun hc=>?_) (fun hc=>?_)
 ·have h7:kind=7:=zt hc
  rw[if_pos h7] at hI
  refine gaa ?_
  refine oS (LStep.panic rfl fun e' he'=>?_) rfl
  refine gao ?_
  exact panI_ (he'.trans rfl) hI.symm (zhD (zhD zhr)) hs1
 have h7:¬ kind=7:=zf hc
 rw[if_neg h7] at hI
 obtain ⟨x0,rfl⟩:=form_value hform h7
 rw[errEs] at hval
 obtain ⟨hv0,_⟩:=orE_zero.1 hval
 refine gad ?_
 refine LCode.tail 6 zk ?_
 refine gac ?_
 refine LS.pure (xR (el':=encE x0) (cs:=[_,_,_,_]) rfl rfl zo rfl rfl rfl) rfl ?_
 refine gac ?_
 refine oS (S.callI [_,_,_] rfl swap2 (hE f kn x0 s1 H1 hf hk hv0 hn2.1 hm6.1 hg1 hs1) (fun v s2 H2 hr2 hs2=>?_) (fun er s2 H2 hr2 hs2 e' he'=>?_)) rfl
 rotate_left
 ·refine gao ?_
  rw[show ([x0]:List Ex).headD default=x0 from rfl,hr2,bind_stop] at hI
  exact panI_ (he'.trans rfl) hI.symm hsub_left hs2
 obtain ⟨hg2,hv2,hlt2⟩:=ev_good hC hn2.1 hg1 hr2
 rw[show ([x0]:List Ex).headD default=x0 from rfl,hr2,bind_ok] at hI
 refine LOps.perm (swap2 (H:=H2)).symm ?_
 refine gab ?_
 by_cases hk1:kind=1
 ·subst hk1
  rw[if_pos rfl] at hI
  rw[if_pos rfl] at hname
  have hpl:=key_placed hf hname
  obtain ⟨b,hb1,hb2⟩:=hC.block hpl
  obtain ⟨G,hG1,hG2⟩:=st_sc hC hb1 hs2
  obtain ⟨H3,hs3,hp3⟩:=hG2 v
  refine oC rfl (fun hc=>?_) (fun hc=>by cases hc)
  refine gaa ?_
  refine oS (S.callS [_,_,_] rfl swap2 (scalar_spec hC hs2 hf hpl hb2) ?_) rfl
  refine LOps.perm (swap2 (H:=H2)).symm ?_
  refine gad ?_
  refine oS (S.store (cs':=[u32 v]) rfl (pick_in (X:=[_,_]) hG1) rfl rfl rfl rfl rfl ?_) rfl
  refine LOps.perm (back_in (X:=[_,_]) hp3) ?_
  refine gab ?_
  exact retI (v:=none) rfl (rC (zrt rfl) (zra rfl)) hI.symm rfl (zhD (zhD zhr)) hs3
 refine oC rfl (fun hc=>absurd (zt hc) hk1) (fun _=>?_)
 rw[if_neg hk1] at hI hname
 refine gaw ?_
 by_cases hk2:kind=2
 ·subst hk2
  rw[if_pos rfl] at hI hname
  obtain ⟨i0,rfl⟩:=form_index hform
  rw[errEs] at hidx
  obtain ⟨hi0,_⟩:=orE_zero.1 hidx
  have hpl:name∈c.p.arrays.map (·.name):=by
   unfold arrayE at hname
   split at hname
   ·rename_i h
    exact h
   ·split at hname <;> cases hname
  obtain ⟨b,m,hb1,hb2⟩:=hC.arr hpl
  refine oC rfl (fun hc=>?_) (fun hc=>by cases hc)
  refine LCode.draw (m:=14) rfl [(b5,.cells 128 [int .i64 2,str name,.list ([i0].map encE),.list ([x0].map encE),.list (thn.map encS),.list (els.map encS)]),(b4,.cells 63 [str f.name,.list (f.params.map str),.list (f.locals.map str),.list (f.body.map encS)])] ?_
  refine aT 0 rfl rfl (Pure.mv (lv:=.atom _) rfl) ?_
  refine aT 1 rfl rfl (Pure.fieldH rfl) ?_
  refine aT 2 rfl rfl (Pure.loadH (c:=.atom _) rfl zm0 rfl) ?_
  refine aT 3 rfl rfl (Pure.mv (lv:=.atom _) rfl) ?_
  refine aT 4 rfl rfl (Pure.ldHAgg (cs':=[_,_,_,_]) rfl zm1 rfl rfl) ?_
  refine aT 5 rfl rfl (Pure.fieldH rfl) ?_
  refine aT 6 rfl rfl (Pure.loadH (c:=.list _) rfl zm0 rfl) ?_
  refine LAny.take (i:=7) (zhP pH zhp) rfl zk zk zk rfl (xR (el':=encE i0) (cs:=[_,_,_,_]) rfl rfl zo rfl rfl rfl) ?_
  refine aT 8 rfl rfl (Pure.ldRefAgg (cs':=[_,_,_,_]) rfl rfl rfl) ?_
  refine aT 11 rfl rfl (Pure.mv (lv:=.atom _) rfl) ?_
  refine LAny.late ?_ (zhP pH zhp)
  refine lO 9 (lS (H1:=H2) rfl (.inl rfl) rfl swap2 zhr (LStep.callI [_,_,_] rfl (hE f kn i0 s2 H2 hf hk hi0 hn1.1 hm5.1 hg2 hs2) (fun i s3 H3 hr3 hs3=>?_) (fun er s3 H3 hr3 hs3 e' he'=>?_)))
  rotate_left
  ·refine gah ?_
   rw[show ([i0]:List Ex).headD default=i0 from rfl,hr3,bind_stop] at hI
   exact panI_ (he'.trans rfl) hI.symm hsub_left hs3
  obtain ⟨hg3,hv3,_⟩:=ev_good hC hn1.1 hg2 hr3
  rw[show ([i0]:List Ex).headD default=i0 from rfl,hr3,bind_ok] at hI
  obtain ⟨hlen,G,hG1,hG2⟩:=st_ar hC hb1 hs3
  by_cases hin:i<m
  ·have hget:(s3.ar name)[i]? = some (s3.ar name)[i]:=List.getElem?_eq_getElem zo
   rw[hget] at hI
   refine lO 10 (lS (H1:=H3) rfl (.inl rfl) rfl zpr zhr (LStep.call (args:=[_,_,_]) (element_spec hC hs3 hb1 hb2 hv3) ?_ ?_))
   ·rintro lv H' ⟨rfl,h⟩
    rw[if_pos hin] at h
    cases h
    refine lO 12 (lH rfl rfl (Pure.nilCheckH rfl) ?_)
    obtain ⟨H4,hs4,hp4⟩:=hG2 ((s3.ar name).set i v) (by rw[List.length_set];exact hlen)
    refine lO 13 (lS (H1:=H') rfl (.inl rfl) rfl zpr zhr (S.store (cs':=((s3.ar name).set i v).map u32) rfl hG1 rfl rfl ?_ rfl ?_ ?_))
    ·rw[List.length_map,hlen]
     simp
     omega
    ·rw[setL_one _ _ _ (by rw[List.length_map];omega),List.map_set]
    ·refine LLate.weakH (H':=H4++_) ⟨[],by rw[List.append_nil];exact hp4.append_right _⟩ ?_
     refine lD zk ?_
     refine gab ?_
     exact retI (v:=none) rfl (rC (zrt rfl) (zra rfl)) hI.symm rfl hsub_left hs4
   ·rintro ch H' ⟨rfl,h⟩
    rw[if_pos hin] at h
    cases h
  ·have hget:(s3.ar name)[i]? = none:=List.getElem?_eq_none zo
   rw[hget] at hI
   refine lO 10 (lS (H1:=H3) rfl (.inl rfl) rfl zpr zhr (LStep.call (args:=[_,_,_]) (element_spec hC hs3 hb1 hb2 hv3) ?_ ?_))
   ·rintro lv H' ⟨rfl,h⟩
    rw[if_neg hin] at h
    cases h
   ·rintro ch H' ⟨rfl,h⟩ e' he'
    rw[if_neg hin] at h
    cases h
    refine gah ?_
    exact panI_ (he'.trans rfl) hI.symm hsub_left hs3
 refine oC rfl (fun hc=>absurd (zt hc) hk2) (fun _=>?_)
 rw[if_neg hk2] at hI
 refine gaw ?_
 by_cases hk5:kind=5
 ·subst hk5
  rw[if_pos rfl] at hI
  refine oC rfl (fun hc=>?_) (fun hc=>by cases hc)
  refine gab ?_
  exact retI (v:=some v) rfl (rC (zrt rfl) (zra rfl)) hI.symm rfl (zhD (zhD zhr)) hs2
 refine oC rfl (fun hc=>absurd (zt hc) hk5) (fun _=>?_)
 rw[if_neg hk5] at hI
 refine gaw ?_
 by_cases hk3:kind=3
 ·subst hk3
  rw[if_pos rfl] at hI
  refine oC rfl (fun hc=>?_) (fun hc=>by cases hc)
  refine gab ?_
  refine oC rfl (fun hd=>?_) (fun hd=>?_)
  ·have hv0':v≠0:=by
    intro h
    subst h
    cases hd
   rw[if_pos hv0'] at hI
   refine gaa ?_
   refine oS (S.callI [_,_,_] rfl swap2 (hB f kn thn s2 H2 hf hk hthn hn3 hm3 hm7 hg2 hs2) (fun r s3 H3 hr3 hs3=>?_) (fun er s3 H3 hr3 hs3 e' he'=>?_)) rfl
   ·rw[hr3] at hI
    refine gaf ?_
    exact retI (v:=r) rfl (rC (zrt rfl) (zra rfl)) hI.symm rfl hsub_left hs3
   ·refine gah ?_
    rw[hr3] at hI
    exact panI_ (he'.trans rfl) hI.symm hsub_left hs3
  ·have hv0':¬ v≠0:=by
    intro h
    have h2:(!decide ((v:Int)=0))=false:=hd
    simp at h2
    omega
   rw[if_neg hv0'] at hI
   refine gaa ?_
   refine oS (S.callI [_,_,_] rfl swap2 (hB f kn els s2 H2 hf hk hels hn4 hm4 hm8 hg2 hs2) (fun r s3 H3 hr3 hs3=>?_) (fun er s3 H3 hr3 hs3 e' he'=>?_)) rfl
   ·rw[hr3] at hI
    refine gaf ?_
    exact retI (v:=r) rfl (rC (zrt rfl) (zra rfl)) hI.symm rfl hsub_left hs3
   ·refine gah ?_
    rw[hr3] at hI
    exact panI_ (he'.trans rfl) hI.symm hsub_left hs3
 refine oC rfl (fun hc=>absurd (zt hc) hk3) (fun _=>?_)
 rw[if_neg hk3] at hI
 refine gaw ?_
 by_cases hk4:kind=4
 ·subst hk4
  rw[if_pos rfl] at hI
  refine oC rfl (fun hc=>?_) (fun hc=>by cases hc)
  refine gad ?_
  refine oL (fun k ls H'=>∃ (m:Nat) (v1:Nat) (s3:IS) (Hs:Heap),k=s3.left∧s3.left≤m∧v1<4294967296∧ls=[(0,ptr c.rb 0),(4,ptr b4 0),(5,ptr b5 0),(8,u32 v1)]∧H'=(b5,.cells 128 [int .i64 4,str name,.list (index.map encE),.list ([x0].map encE),.list (thn.map encS),.list (els.map encS)])::(b4,.cells 63 [str f.name,.list (f.params.map str),.list (f.locals.map str),.list (f.body.map encS)])::Hs∧St c s3 Hs∧Good c n s3∧whlR (evI c.p n f x0) (blkR (stI c.p n f) thn) m v1 s3=R)
   ⟨_,_,_,⟨n,v,s2,H2,rfl,hg2.2.1,hv2,rfl,rfl,hs2,hg2,hI⟩,⟨rfl,rfl,rfl,rfl,trivial⟩,HSub.refl _⟩ ?_
  rintro k ls H' ⟨m,v1,s3,Hs,rfl,hm,hv1,rfl,rfl,hs3,hg3,hI3⟩ j hj
  refine gab ?_
  by_cases hv0':v1=0
  ·subst hv0'
   rw[whlR_zero] at hI3
   refine oC rfl (fun hc=>by cases hc) (fun _=>?_)
   refine gab ?_
   exact retI (v:=none) hj (rC (zrt rfl) (zra rfl)) hI3.symm rfl (zhD (zhD zhr)) hs3
  ·rw[whl_step hm hv0'] at hI3
   refine oC rfl (fun _=>?_) (fun hd=>?_)
   rotate_left
   ·have h2:(!decide ((v1:Int)=0))=false:=hd
    simp at h2
    omega
   refine gaa ?_
   refine oS (S.callI [_,_,_] rfl swap2 (hB f kn thn s3 Hs hf hk hthn hn3 hm3 hm7 hg3 hs3) (fun r s4 H4 hr4 hs4=>?_) (fun er s4 H4 hr4 hs4 e' he'=>?_)) rfl
   rotate_left
   ·refine gah ?_
    rw[hr4,bind_stop] at hI3
    exact panI_ (he'.trans hj) hI3.symm hsub_left hs4
   rw[hr4,bind_ok] at hI3
   obtain ⟨hg4,_⟩:=blk_good hC hn3 hg3 hr4
   have hlt4:=(blkR_grow ((grow_all c.p n).2 f) thn s3).2
   rw[hr4] at hlt4
   refine LOps.perm (swap2 (H:=H4)).symm ?_
   cases r with
   |some y=>
    refine gaa ?_
    refine oC rfl (fun _=>?_) (fun hd=>by cases hd)
    refine gab ?_
    exact retI (v:=some y) hj (rC (zrt rfl) (zra rfl)) hI3.symm rfl (zhD (zhD zhr)) hs4
   |none=>
    refine gaa ?_
    refine oC rfl (fun hd=>by cases hd) (fun _=>?_)
    refine gad ?_
    refine LCode.tail 6 zk ?_
    refine gac ?_
    refine LS.pure (xR (el':=encE x0) (cs:=[_,_,_,_]) rfl rfl zo rfl rfl rfl) rfl ?_
    refine gac ?_
    refine oS (S.callI [_,_,_] rfl swap2 (hE f kn x0 s4 H4 hf hk hv0 hn2.1 hm6.1 hg4 hs4) (fun v5 s5 H5 hr5 hs5=>?_) (fun er s5 H5 hr5 hs5 e' he'=>?_)) rfl
    ·obtain ⟨hg5,hv5,hlt5⟩:=ev_good hC hn2.1 hg4 hr5
     rw[hr5,bind_ok] at hI3
     refine gay ?_
     have hlt4':s4.left≤s3.left:=hlt4
     exact ⟨s5.left,_,_,by omega,⟨m-1,v5,s5,H5,rfl,by omega,hv5,rfl,rfl,hs5,hg5,hI3⟩,⟨rfl,rfl,rfl,rfl,trivial⟩,⟨[],by rw[List.append_nil];exact swap2.symm⟩,hj⟩
    ·refine gah ?_
     rw[hr5,bind_stop] at hI3
     exact panI_ (he'.trans hj) hI3.symm hsub_left hs5
 refine oC rfl (fun hc=>absurd (zt hc) hk4) (fun _=>?_)
 rw[if_neg hk4] at hI
 refine gab ?_
 exact retI (v:=none) rfl (rC (zrt rfl) (zra rfl)) hI.symm rfl (zhD (zhD zhr)) hs2
end
end Go.Proofs.YtcbpcianefpniaaGreatDoor.Inp
namespace Go.Proofs.YtcbpcianefpniaaGreatDoor.Inp
open Go.GL Go.RowKit Go.Stele
set_option maxRecDepth 100000
set_option maxHeartbeats 4000000
section
variable {C:Ctx} {e:Env} {H:Heap} {dst:Option Nat} {ty:TypeId} {pos:String} {aft:Array Edge} {g:Option (Nat×Bool)} {x:Operand}
theorem Pure.ltail {t el s:Nat} [ht:TSlice C.P t el s] {lo:Operand} {k:IntKind} {a:LV} {es:List LV} (hx:elems (e.ev x)=some (a::es)) (hlo:e.ev lo=int k 1) (hs:∀ v∈a::es,v.cells.length=s):Pure C ⟨dst,.slice t x (some lo) none none,ty,pos,aft,g⟩ e H (.list es):=by
 have:=Pure.lslice (t:=t) (C:=C) (H:=H) (dst:=dst) (ty:=ty) (pos:=pos) (aft:=aft) (g:=g) (lo:=some lo) (hi:=none) (i:=1) (j:=(((a::es).length:Nat):Int)) hx ⟨k,hlo⟩ rfl (by decide) (by simp only[List.length_cons];omega) (Int.le_refl _) hs
 have h2:((a::es).take (((a::es).length:Nat):Int).toNat).drop (1:Int).toNat=es:=by
  rw[Int.toNat_natCast,List.take_length]
  rfl
 rwa [h2] at this
end
theorem wrap_u8 (n:Nat):IntKind.u8.wrap (n:Int)=((UInt8.ofNat n).toNat:Int):=by
 have h:IntKind.u8.wrap (n:Int)=(n:Int) % 256:=by
  simp only[IntKind.wrap,IntKind.bits,IntKind.signed,Bool.false_and]
  rfl
 rw[h]
 have h2:(UInt8.ofNat n).toNat=n % 256:=by simp
 rw[h2]
 omega
theorem acc_one {s:Nat} {v:LV} {es:List LV} {H F:Heap} (h:GL.Acc s v es H F):v.cells? = some [v]∧([v].all cellOk)=true:=by
 cases h <;> exact ⟨rfl,rfl⟩
theorem u32_cells (l:List Nat):∀ v∈l.map u32,v.cells.length=1:=fun v hv=>by
 obtain ⟨a,_,rfl⟩:=List.mem_map.1 hv
 rfl
theorem out_perm (c:Cfg) (s:IS) (v:LV) (Ha:Heap):(stH c s v Ha).Perm (Ha++(hdH c s v++(scH c.sb s++arH c.ab s))):=by
 rw[stH_eq]
 have:hdH c s v++(scH c.sb s++(arH c.ab s++Ha))=(hdH c s v++(scH c.sb s++arH c.ab s))++Ha:=by simp only[List.append_assoc]
 rw[this]
 exact List.perm_append_comm
theorem out_eq (c:Cfg) (s:IS) (v:LV) (Ha:Heap):(hdH c s v++(scH c.sb s++arH c.ab s))++Ha=stH c s v Ha:=by
 rw[stH_eq]
 simp only[List.append_assoc]
theorem own_placed {c:Cfg} (hC:CfgOk c) {f:FnD} (hf:f∈c.p.funcs) {p:List UInt8} (hp:p∈f.params):keyI f p∈scalarsP c.p.vars c.p.funcs:=by
 unfold keyI
 rw[if_pos (.inl hp)]
 exact (own_key hC.valid.names hf p).2 (List.mem_append.2 (.inl hp))
theorem CfgOk.fn {c:Cfg} (hC:CfgOk c) {f:FnD} (hf:f∈c.p.funcs):GL.kvGet (fnKV c.p.funcs) f.name=some (encFn f):=
 kv_hit (A:=FnD) (·.name) encFn (List.nodup_append.1 (fresh_zero _ _ hC.valid.names).1).2.1 hf
attribute [local irreducible] LOps LCode LStep LCalls Go.GL.Pure QThen QBlock RetPost LQ LAny LLate LLateOp LS
section
variable {B0:Nat} {w0:World}
theorem call_spec {c:Cfg} (hC:CfgOk c) {n:Nat} (hB:BlkH B0 w0 c n) {f0:FnD} {kn:List FSum} (hk0:Known c.p.funcs kn) {name:List UInt8} {vs:List Nat} {s:IS} {H:Heap} (hv:callE (cenv c kn f0) name vs.length=0) (hvs:∀ v∈vs,Lt v)
  (hbd:Bnd s) (hleft:s.left≤n) (hroom:s.out.length+s.left+1≤c.lim) (hs:St c s H):LCalls (KC B0 w0) 187 [ptr c.rb 0,str name,.list (vs.map u32)] H (PostI c u32 (callI c.p (stI c.p n) name vs s)):=by
 have hs0:=hs
 have hlim:=hC.lim
 generalize hI:callI c.p (stI c.p n) name vs s=R
 unfold callI at hI
 refine cI Tryz.func187 rfl (n:=85) rfl rfl rfl ?_
 refine gab ?_
 by_cases hin:name=[105,110]
 ·subst hin
  rw[if_pos rfl] at hI
  obtain ⟨hl,hle,v,Ha,hacc,rfl⟩:=hs
  refine oC rfl (fun hc=>?_) (fun hc=>by cases hc)
  refine gaa ?_
  cases hinp:s.inp with
  |nil=>
   rw[hinp] at hI
   refine oC rfl (fun hc=>?_) (fun hc=>?_)
   ·refine ga1 ?_
    exact retI (v:=4294967295) rfl (zra rfl) hI.symm rfl zhr hs0
   ·cases hc
  |cons a r=>
   rw[hinp] at hI
   refine oC rfl (fun hc=>?_) (fun hc=>?_)
   ·have:=zt hc
    simp at this
    omega
   ·refine gaa ?_
    refine oP (xR (el':=u32 a) (cs:=[u32 a]) rfl rfl zo (by rw[hinp];rfl) rfl rfl) rfl ?_
    refine gaa ?_
    refine oP (Pure.ltail (a:=u32 a) (es:=r.map u32) (by rw[show elems _=some (s.inp.map u32) from rfl,hinp];rfl) rfl (u32_cells (a::r))) rfl ?_
    refine gaa ?_
    exact retI (v:=a) rfl (zra rfl) hI.symm rfl zhr ⟨hl,hle,v,Ha,hacc,rfl⟩
 refine oC rfl (fun hc=>absurd (zt hc) hin) (fun _=>?_)
 rw[if_neg hin] at hI
 unfold callE at hv
 rw[if_neg hin] at hv
 refine gaj ?_
 by_cases hout:name=[111,117,116]
 ·subst hout
  rw[if_pos rfl] at hI hv
  obtain ⟨a,rfl⟩:∃ a,vs=[a]:=by
   match vs,hv with
   |[],hv=>cases hv
   |[a],_=>exact ⟨a,rfl⟩
   |_::_::_,hv=>
    split at hv
    ·rename_i h
     simp at h
    ·cases hv
  obtain ⟨hl,hle,v,Ha,hacc,rfl⟩:=hs
  refine oC rfl (fun hc=>?_) (fun hc=>by cases hc)
  refine gad ?_
  refine LCode.draw (m:=14) rfl [] ?_
  refine aT 0 rfl rfl (Pure.mv (lv:=.atom _) rfl) ?_
  refine aT 1 rfl rfl (Pure.mv (lv:=.atom _) rfl) ?_
  refine aT 2 rfl rfl (Pure.nilCheckH rfl) ?_
  refine aT 3 rfl rfl (Pure.fieldH rfl) ?_
  refine aT 5 rfl rfl (Pure.mv (lv:=.list _) rfl) ?_
  refine LAny.take (i:=6) zhn rfl zk zk zk rfl (xR (el':=u32 a) (cs:=[u32 a]) rfl rfl zo rfl rfl rfl) ?_
  refine aT 7 rfl rfl (Pure.loadRef (c:=.atom _) rfl rfl) ?_
  refine aT 8 rfl rfl (Pure.cvt rfl) ?_
  refine LAny.late ?_ zhn
  have e1:byts s.out++[int .u8 (IntKind.u8.wrap (a:Int))]=byts (s.out++[UInt8.ofNat a]):=by
   rw[byts_app,wrap_u8]
   rfl
  have hroom2:((byts s.out).length+[int .u8 (IntKind.u8.wrap (a:Int))].length) * 1≤140737488355328:=by
   simp only[byts_len,List.length_cons,List.length_nil]
   omega
  refine LLate.two (i:=4) (j:=9) zk ?_ ?_
  ·refine lH rfl rfl (Pure.loadH (c:=v) rfl zm0 rfl) ?_
   refine zl1 (i:=9) zk ?_
   refine lW rfl (.inl rfl) rfl (S.lit (es:=[int .u8 (IntKind.u8.wrap (a:Int))]) [_] rfl (eC rfl rfl eN) rfl rfl rfl ?_)
   refine zl1 (i:=10) zk ?_
   refine lW rfl (.inl rfl) rfl (S.accF (out_perm c s v Ha) rfl hacc rfl (fun v hv=>by rw[List.mem_singleton.1 hv];rfl) rfl hroom2 fun v' H' hacc'=>?_)
   rw[out_eq]
   rw[e1] at hacc'
   refine zl1 (i:=11) zk ?_
   refine lH rfl rfl (Pure.nilCheckH rfl) ?_
   refine zl1 (i:=12) zk ?_
   refine lH rfl rfl (Pure.fieldH rfl) ?_
   refine zl1 (i:=13) zk ?_
   refine lW rfl (.inl rfl) rfl (S.store (n:=1) (vs:=[v']) (cs':=[_,_,_,_,_,v',_,_,_,_,_]) rfl pH (acc_one hacc').1 rfl rfl (acc_one hacc').2 rfl ?_)
   refine lD zk ?_
   refine ga1 ?_
   refine rR (H':=stH c { s with out:=s.out++[UInt8.ofNat a] } v' H') rfl (zra rfl) zhr ?_
   rw[←hI]
   exact ⟨rfl,hl,hle,v',H',hacc',rfl⟩
  ·refine lW rfl (.inl rfl) rfl (S.lit (es:=[int .u8 (IntKind.u8.wrap (a:Int))]) [_] rfl (eC rfl rfl eN) rfl rfl rfl ?_)
   refine zl1 (i:=4) zk ?_
   refine lH rfl rfl (Pure.loadH (c:=v) rfl zm0 rfl) ?_
   refine zl1 (i:=10) zk ?_
   refine lW rfl (.inl rfl) rfl (S.accF (out_perm c s v Ha) rfl hacc rfl (fun v hv=>by rw[List.mem_singleton.1 hv];rfl) rfl hroom2 fun v' H' hacc'=>?_)
   rw[out_eq]
   rw[e1] at hacc'
   refine zl1 (i:=11) zk ?_
   refine lH rfl rfl (Pure.nilCheckH rfl) ?_
   refine zl1 (i:=12) zk ?_
   refine lH rfl rfl (Pure.fieldH rfl) ?_
   refine zl1 (i:=13) zk ?_
   refine lW rfl (.inl rfl) rfl (S.store (n:=1) (vs:=[v']) (cs':=[_,_,_,_,_,v',_,_,_,_,_]) rfl pH (acc_one hacc').1 rfl rfl (acc_one hacc').2 rfl ?_)
   refine lD zk ?_
   refine ga1 ?_
   refine rR (H':=stH c { s with out:=s.out++[UInt8.ofNat a] } v' H') rfl (zra rfl) zhr ?_
   rw[←hI]
   exact ⟨rfl,hl,hle,v',H',hacc',rfl⟩
 refine oC rfl (fun hc=>absurd (zt hc) hout) (fun _=>?_)
 rw[if_neg hout] at hI
 have hcv:=call_valid (p:=c.p) (f:=f0) (kn:=kn) hC.valid hk0 (name:=name) (n:=vs.length) (by unfold callE;rw[if_neg hin];exact hv) hin hout
 generalize fnI c.p name=gf at hI hcv
 obtain ⟨hgm,hgn,hgl⟩:=hcv
 subst hgn
 obtain ⟨kn2,hvb,hk2⟩:=hC.valid.bodies gf hgm
 have hsm:=hC.small.each gf hgm
 have hpl:gf.params.length≤1000000:=hsm.params
 refine gab ?_
 have hs1:=hs
 obtain ⟨hl,hle,v,Ha,hacc,rfl⟩:=hs
 refine gad ?_
 refine oP (Pure.kvHit rfl rfl zm3 (hC.fn hgm)) rfl ?_
 refine oS (S.alloc fun b8=>?_) rfl
 refine gaa ?_
 generalize stH c s v Ha=Hs0 at hs0 hs1 ⊢
 refine oL (fun k ls H'=>∃ (pre ps:List (List UInt8)) (vpre vs1:List Nat) (s1:IS) (Hs:Heap),gf.params=pre++ps∧vs=vpre++vs1∧vpre.length=pre.length∧k=ps.length∧ls=[(0,ptr c.rb 0),(2,.list (vs.map u32)),(8,ptr b8 0),(59,.list (gf.params.map str)),(60,int .i64 ((gf.params.map str).length:Int)),(61,int .i64 (pre.length:Int))]∧H'=(b8,.cells 63 [str gf.name,.list (gf.params.map str),.list (gf.locals.map str),.list (gf.body.map encS)])::Hs∧St c s1 Hs∧setPs gf gf.params vs s=setPs gf ps vs1 s1)
  ⟨_,_,_,⟨[],gf.params,[],vs,s,Hs0,rfl,rfl,rfl,rfl,rfl,rfl,hs1,rfl⟩,⟨rfl,rfl,rfl,rfl,rfl,rfl,trivial⟩,HSub.refl _⟩ ?_
 rintro k ls H' ⟨pre,ps,vpre,vs1,s1,Hs,hps,hvs1,hvl,rfl,rfl,rfl,hst1,hset⟩ j hj
 have hl6:pre.length≤1000000:=by
  rw[hps,List.length_append] at hpl
  omega
 have hpl2:ps.length=vs1.length:=by
  rw[hps,hvs1,List.length_append,List.length_append] at hgl
  omega
 refine gak ?_
 refine oC rfl (fun hc=>?_) (fun hc=>?_)
 ·have hlen:=zt hc
  rw[List.length_map,hps,List.length_append] at hlen
  obtain ⟨p,ps,rfl⟩:∃ a l,ps=a::l:=by
   cases ps with
   |nil=>simp at hlen
   |cons a l2=>exact ⟨a,l2,rfl⟩
  obtain ⟨x,vs1,rfl⟩:∃ a l,vs1=a::l:=by
   cases vs1 with
   |nil=>simp at hpl2
   |cons a l2=>exact ⟨a,l2,rfl⟩
  rw[setPs] at hset
  have hkp:=own_placed hC hgm (p:=p) (by rw[hps];exact List.mem_append_right _ (List.mem_cons_self ..))
  obtain ⟨b,hb1,hb2⟩:=hC.block hkp
  obtain ⟨G,hG1,hG2⟩:=st_sc hC hb1 hst1
  obtain ⟨H3,hs3,hp3⟩:=hG2 x
  refine gab ?_
  refine oP (xR (el':=str p) (cs:=[str p]) rfl rfl zo (by rw[hps];exact get_mid str pre p ps) rfl rfl) rfl ?_
  refine gac ?_
  refine LCode.draw (m:=10) rfl [(b8,.cells 63 [str gf.name,.list (gf.params.map str),.list (gf.locals.map str),.list (gf.body.map encS)])] ?_
  refine aT 0 rfl rfl (Pure.mv (lv:=.atom _) rfl) ?_
  refine aT 1 rfl rfl (Pure.ldHAgg (cs':=[_,_,_,_]) rfl zm0 rfl rfl) ?_
  refine aT 2 rfl rfl (Pure.mv (lv:=.atom _) rfl) ?_
  refine aT 4 rfl rfl (Pure.mv (lv:=.list _) rfl) ?_
  refine aT 5 rfl rfl (Pure.mv (lv:=.atom _) rfl) ?_
  refine LAny.take (i:=6) zhp rfl zk zk zk rfl (xR (el':=u32 x) (cs:=[u32 x]) rfl rfl zo (by rw[hvs1,←hvl];exact get_mid u32 vpre x vs1) rfl rfl) ?_
  refine aT 7 rfl rfl (Pure.loadRef (c:=.atom _) rfl rfl) ?_
  refine LAny.late ?_ zhp
  refine lO 3 (lS (H1:=Hs) rfl (.inl rfl) rfl swap1 zhr (LStep.call (args:=[_,_,_]) (scalar_spec hC hst1 hgm hkp hb2) ?_ ?_))
  ·rintro lv H' ⟨h,rfl⟩
   cases h
   refine lO 8 (lH rfl rfl (Pure.nilCheckH rfl) ?_)
   refine lO 9 (lS (H1:=H') rfl (.inl rfl) rfl zpr zhr (S.store (cs':=[u32 x]) rfl hG1 rfl rfl rfl rfl rfl ?_))
   refine LLate.weakH (H':=H3++_) ⟨[],by rw[List.append_nil];exact hp3.append_right _⟩ ?_
   refine lD zk ?_
   refine ga0 ?_
   exact ⟨ps.length,_,_,Nat.lt_succ_self _,⟨pre++[p],ps,vpre++[x],vs1,_,H3,by rw[hps];simp,by rw[hvs1];simp,by simp[hvl],rfl,rfl,rfl,hs3,hset⟩,⟨rfl,rfl,rfl,rfl,rfl,int_eq (by simp),trivial⟩,⟨[],by rw[List.append_nil];exact swap1.symm⟩,hj⟩
  ·rintro ch H' ⟨h,rfl⟩
   cases h
 ·have hlen:=zf hc
  rw[List.length_map,hps,List.length_append] at hlen
  obtain rfl:ps=[]:=by
   cases ps with
   |nil=>rfl
   |cons a l2=>simp at hlen;omega
  obtain rfl:vs1=[]:=List.length_eq_zero_iff.1 hpl2.symm
  replace hset:setPs gf gf.params vs s=s1:=hset.trans rfl
  have hb1:=setPs_bd gf gf.params vs s hvs hbd
  obtain ⟨ho,hlf,_⟩:=setPs_same gf gf.params vs s
  rw[hset] at hI hb1 ho hlf
  have hg1:Good c n s1:=⟨hb1,by rw[hlf];exact hleft,by rw[ho,hlf];omega⟩
  refine gaa ?_
  refine oS (S.callI [_,_,_] rfl swap1 (hB gf kn2 gf.body s1 Hs hgm hk2 hvb (hC.nums gf hgm) hsm.body hsm.stmts hg1 hst1) (fun r s3 H3 hr3 hs3=>?_) (fun er s3 H3 hr3 hs3 e' he'=>?_)) rfl
  ·rw[hr3,bind_ok] at hI
   refine gaa ?_
   exact retI (v:=r.getD 0) hj (zra rfl) hI.symm rfl hsub_left hs3
  ·refine gao ?_
   rw[hr3,bind_stop] at hI
   exact panI_ (he'.trans hj) hI.symm hsub_left hs3
end
end Go.Proofs.YtcbpcianefpniaaGreatDoor.Inp
namespace Go.Proofs.YtcbpcianefpniaaGreatDoor.Inp
open Go.GL Go.RowKit Go.Stele
set_option maxRecDepth 100000
set_option maxHeartbeats 4000000
theorem errE_parts {c:CEnv} {op:List UInt8} {num:Nat} {name:List UInt8} {args:List Ex} (h:errE c (.mk op num name args)=0):(opnds op = -1∨opnds op=args.length)∧errEs c args=0∧useE c op name args.length=0:=by
 rw[errE] at h
 split at h
 ·rename_i h1
  obtain ⟨h2,h3⟩:=orE_zero.1 h
  exact ⟨h1,h2,h3⟩
 ·cases h
theorem one_of {l:List Nat} (h:l.length=1):∃ a,l=[a]:=by
 cases l with
 |nil=>cases h
 |cons a l=>
  cases l with
  |nil=>exact ⟨a,rfl⟩
  |cons b l=>simp at h
theorem two_of {l:List Nat} (h:l.length=2):∃ a b,l=[a,b]:=by
 cases l with
 |nil=>cases h
 |cons a l=>
  obtain ⟨b,rfl⟩:=one_of (l:=l) (by simpa using h)
  exact ⟨a,b,rfl⟩
theorem neg_u32 {a:Nat} (h:a<4294967296):IntKind.u32.wrap (0-(a:Int))=(((4294967296-a) % 4294967296:Nat):Int):=by
 rw[wrapU]
 omega
theorem set_mid {A:Type} (l r:List A) (x y:A):(l++x::r).set l.length y=l++y::r:=by
 induction l with
 |nil=>rfl
 |cons a l ih=>simp only[List.cons_append,List.length_cons,List.set_cons_succ,ih]
theorem hsub_perm {H1 H2 X:Heap} (hp:H1.Perm H2) (h:HSub X H2):HSub X H1:=
 let ⟨G,hG⟩:=h
 ⟨G,hp.trans hG⟩
attribute [local irreducible] LOps LCode LStep LCalls Go.GL.Pure QThen QBlock RetPost LQ LAny LLate LLateOp LS
section
variable {B0:Nat} {w0:World}
theorem eval_spec {c:Cfg} (hC:CfgOk c) {n:Nat} (hE:EvalH B0 w0 c n) (hB:BlkH B0 w0 c n):EvalH B0 w0 c (n+1):=by
 intro f kn x s H hf hk hv hnum hsm hg hs
 obtain ⟨op,num,name,args⟩:=x
 obtain ⟨hop,hargs,huse⟩:=errE_parts hv
 obtain ⟨hn1,hn2⟩:=hnum
 obtain ⟨hm1,hm2⟩:=hsm
 have hal:args.length≤1000000:=hm1
 generalize hI:evI c.p (n+1) f (Ex.mk op num name args) s=R
 rw[evI] at hI
 rw[encE_mk]
 refine cI Tryz.func158 rfl (n:=92) rfl rfl rfl ?_
 refine gai ?_
 refine oS (S.box rfl fun b4=>?_) rfl
 refine oS (S.box rfl fun b5=>?_) rfl
 refine gav ?_
 refine oS (S.callI [_] rfl swap2 (step_spec hC hs) (fun u s1 H1 hr hs1=>?_) (fun er s1 H1 hr hs1 e' he'=>?_)) rfl
 rotate_left
 ·refine gao ?_
  rw[hr,bind_stop] at hI
  exact panI_ (he'.trans rfl) hI.symm hsub_left hs1
 have hg1:Good c n s1∧s1.out.length+s1.left+1≤c.lim:=by
  have h1:=tick_less hr
  have h2:=tick_bd hg.1
  rw[hr] at h2
  have h3:s1.out=s.out:=by
   unfold tick at hr
   split at hr
   ·cases hr
   ·cases hr;rfl
  have h4:=hg.2.1
  have h5:=hg.2.2
  exact ⟨⟨h2.2,by omega,by rw[h3];omega⟩,by rw[h3];omega⟩
 rw[hr,bind_ok] at hI
 refine LOps.perm (swap2 (H:=H1)).symm ?_
 refine gaa ?_
 refine oS (S.makeRow (n:=args.length) (k:=.i64) (k2:=.i64) (int_eq (by rw[List.length_map])) (int_eq (by rw[List.length_map])) zo zo fun b7=>?_) rfl
 refine gaa ?_
 refine oL (fun k ls H'=>∃ (pre l1:List Ex) (vs:List Nat) (s2:IS) (Hs:Heap),args=pre++l1∧vs.length=pre.length∧(∀ v∈vs,Lt v)∧k=l1.length∧ls=[(0,ptr c.rb 0),(4,ptr b4 0),(5,ptr b5 0),(7,rowV b7 args.length),(17,.list (args.map encE)),(18,int .i64 ((args.map encE).length:Int)),(19,int .i64 (pre.length:Int))] ∧
   H'=(b7,.cells 43 (vs.map u32++List.replicate l1.length (u32 0)))::(b5,.cells 170 [str op,u32 num,str name,.list (args.map encE)])::(b4,.cells 63 [str f.name,.list (f.params.map str),.list (f.locals.map str),.list (f.body.map encS)])::Hs ∧
   St c s2 Hs∧Good c n s2∧s2.out.length+s2.left+1≤c.lim∧errEs (cenv c kn f) l1=0∧numEs l1∧smEs l1∧(mapR (evI c.p n f) l1 s2).bind (fun vs' s=>opI c.p (stI c.p n) f op num name (vs++vs') s)=R)
  ⟨args.length,_,_,⟨[],args,[],s1,H1,rfl,rfl,fun v hv=>(List.not_mem_nil hv).elim,rfl,rfl,rfl,hs1,hg1.1,hg1.2,hargs,hn2,hm2,hI⟩,⟨rfl,rfl,rfl,rfl,rfl,rfl,rfl,trivial⟩,HSub.refl _⟩ ?_
 rintro k ls H' ⟨pre,l1,vs,s2,Hs,hpre,hvl,hvlt,rfl,rfl,rfl,hs2,hg2,hroom,he2,hnn2,hmm2,hI2⟩ j hj
 have hl6:pre.length≤1000000:=by
  have:=hal
  rw[hpre,List.length_append] at this
  omega
 refine gak ?_
 refine oC rfl (fun hc=>?_) (fun hc=>?_)
 ·have hlen:=zt hc
  rw[List.length_map,hpre,List.length_append] at hlen
  obtain ⟨a,l2,rfl⟩:∃ a l2,l1=a::l2:=by
   cases l1 with
   |nil=>simp at hlen
   |cons a l2=>exact ⟨a,l2,rfl⟩
  rw[errEs] at he2
  obtain ⟨hea,hel⟩:=orE_zero.1 he2
  rw[mapR_step] at hI2
  refine gab ?_
  refine oP (xR (el':=encE a) (cs:=[_,_,_,_]) rfl rfl zo (by rw[hpre];exact get_mid encE pre a l2) rfl rfl) rfl ?_
  refine ga3 ?_
  refine oS (S.alloc fun b9=>?_) rfl
  refine gaa ?_
  refine oS (S.callI [_,_,_] rfl (List.perm_append_comm (l₁:=[_,_,_,_])) (hE f kn a s2 Hs hf hk hea hnn2.1 hmm2.1 hg2 hs2) (fun v s3 H3 hr3 hs3=>?_) (fun er s3 H3 hr3 hs3 e' he'=>?_)) rfl
  rotate_left
  ·refine gah ?_
   rw[hr3,bind_stop] at hI2
   exact panI_ (he'.trans hj) hI2.symm hsub_left hs3
  obtain ⟨hg3,hv3,_⟩:=ev_good hC hnn2.1 hg2 hr3
  have hf3:=(few_all c.p n).1 f a s2
  rw[hr3] at hf3
  have hf3':s3.out.length+s3.left≤s2.out.length+s2.left+0:=hf3
  rw[hr3,bind_ok] at hI2
  refine LOps.perm (List.perm_append_comm (l₂:=[_,_,_,_])) ?_
  have hlt:pre.length<args.length:=by
   rw[hpre,List.length_append,List.length_cons]
   omega
  refine oP (Pure.indexRow rfl rfl zo zo) rfl ?_
  have ecs:vs.map u32++List.replicate (a::l2).length (u32 0)=vs.map u32++u32 0::List.replicate l2.length (u32 0):=rfl
  rw[ecs]
  refine oS (S.store (n:=1) (vs:=[u32 v]) (cs':=(vs++[v]).map u32++List.replicate l2.length (u32 0)) rfl zp1 rfl rfl (by simp[hvl]) rfl (by
   rw[show 0+((pre.length:Int)).toNat * 1=(vs.map u32).length by rw[List.length_map,hvl];simp,setL_one _ _ _ (by simp),set_mid]
   simp) ?_) rfl
  refine ga0 ?_
  exact ⟨l2.length,_,_,Nat.lt_succ_self _,⟨pre++[a],l2,vs++[v],s3,H3,by rw[hpre];simp,by simp[hvl],fun y hy=>by
   rcases List.mem_append.1 hy with h1|h1
   ·exact hvlt y h1
   ·rw[List.mem_singleton.1 h1];exact hv3,rfl,rfl,rfl,hs3,hg3,by omega,hel,hnn2.2,hmm2.2,by
    rw[←hI2]
    simp only[List.append_assoc,List.singleton_append]⟩,⟨rfl,rfl,rfl,rfl,rfl,rfl,int_eq (by simp),trivial⟩,zhP pH (zhD zhr),hj⟩
 have hlen:=zf hc
 rw[List.length_map,hpre,List.length_append] at hlen
 obtain rfl:l1=[]:=by
  cases l1 with
  |nil=>rfl
  |cons a l2=>simp at hlen;omega
 rw[mapR,bind_ok,List.append_nil] at hI2
 have hvn:vs.length=args.length:=by rw[hvl,hpre,List.append_nil]
 have hcs:vs.map u32++List.replicate ([]:List Ex).length (u32 0)=(vs.map fun (v:Nat)=>Value.int .u32 (v:Int)).map .atom:=by
  rw[List.map_map]
  simp only[List.length_nil,List.replicate_zero,List.append_nil]
  rfl
 have hvn2:args.length=(vs.map fun (v:Nat)=>Value.int .u32 (v:Int)).length:=by rw[List.length_map,hvn]
 rw[hcs]
 have hI:=hI2
 clear hI2
 refine gad ?_
 refine LCode.rowShut 7 (vs:=vs.map fun (v:Nat)=>Value.int .u32 (v:Int)) pH (by rw[←hvn2];rfl) ?_
 rw[show (vs.map fun (v:Nat)=>Value.int .u32 (v:Int)).map LV.atom=vs.map u32 by rw[List.map_map];rfl]
 rw[←hvn] at hop huse
 unfold opI at hI
 obtain ⟨hb2,hl2,_⟩:=hg2
 refine gab ?_
 by_cases h1:op=[110,117,109]
 ·subst h1
  rw[if_pos rfl] at hI
  refine oC rfl (fun hc=>?_) (fun hc=>by cases hc)
  refine gab ?_
  exact retI (v:=num) hj (zra rfl) hI.symm rfl (zhD (zhD zhr)) hs2
 refine oC rfl (fun hc=>absurd (zt hc) h1) (fun _=>?_)
 rw[if_neg h1] at hI
 refine gaj ?_
 by_cases h2:op=[118,97,114]
 ·subst h2
  rw[if_pos rfl] at hI
  unfold useE at huse
  rw[if_pos (show ([118,97,114]:List UInt8)=nVar from rfl)] at huse
  have hpl:=key_placed hf huse
  obtain ⟨b,hb1,hb3⟩:=hC.block hpl
  obtain ⟨G,hG1,_⟩:=st_sc hC hb1 hs2
  refine oC rfl (fun hc=>?_) (fun hc=>by cases hc)
  refine gaa ?_
  refine oS (S.callS [_,_,_] rfl swap2 (scalar_spec hC hs2 hf hpl hb3) ?_) rfl
  refine LOps.perm (swap2 (H:=Hs)).symm ?_
  refine oP (Pure.nilCheckH rfl) rfl ?_
  refine oP (Pure.loadH (c:=u32 (s2.sc (keyI f name))) rfl (List.mem_cons_of_mem _ (List.mem_cons_of_mem _ (hG1.mem_iff.2 (List.mem_cons_self ..)))) rfl) rfl ?_
  refine gal ?_
  exact retI (v:=s2.sc (keyI f name)) hj (zra rfl) hI.symm rfl (zhD (zhD zhr)) hs2
 refine oC rfl (fun hc=>absurd (zt hc) h2) (fun _=>?_)
 rw[if_neg h2] at hI
 refine gaj ?_
 by_cases h3:op=[101,108,101,109]
 ·subst h3
  rw[if_pos rfl] at hI
  unfold useE at huse
  rw[if_neg (by decide),if_pos (show ([101,108,101,109]:List UInt8)=nElem from rfl)] at huse
  have hpl:name∈c.p.arrays.map (·.name):=by
   unfold arrayE at huse
   split at huse
   ·rename_i h
    exact h
   ·split at huse <;> cases huse
  obtain ⟨b,m,hb1,hb3⟩:=hC.arr hpl
  obtain ⟨hlen2,G,hG1,_⟩:=st_ar hC hb1 hs2
  obtain ⟨a,rfl⟩:∃ a,vs=[a]:=one_of (by
   rcases hop with h|h
   ·exact absurd h (by decide)
   ·have h9:(1:Int)=(vs.length:Int):=h
    omega)
  have ha:a<4294967296:=hvlt a (List.mem_cons_self ..)
  refine oC rfl (fun hc=>?_) (fun hc=>by cases hc)
  refine gad ?_
  refine LCode.tail 6 zk ?_
  refine gac ?_
  refine LS.pure (xR (el':=u32 a) (cs:=[u32 a]) rfl rfl zo rfl rfl rfl) rfl ?_
  refine gaf ?_
  refine oS (S.callH (H1:=Hs) [_,_,_] rfl swap2 (element_spec hC hs2 hb1 hb3 ha) ?_ ?_) rfl
  ·rintro lv H' ⟨rfl,h⟩
   by_cases hin:a<m
   ·rw[if_pos hin] at h
    cases h
    have hget:(s2.ar name)[a]? = some (s2.ar name)[a]:=List.getElem?_eq_getElem zo
    have hI':(match (s2.ar name)[a]? with
     |some v=>IR.ok v s2
     |none=>.stop 2 s2)=R:=hI
    rw[hget] at hI'
    refine oP (Pure.nilCheckH rfl) rfl ?_
    refine oP (Pure.loadH (c:=u32 (s2.ar name)[a]) rfl (List.mem_append_left _ (hG1.mem_iff.2 (List.mem_cons_self ..))) (by rw[List.getElem?_map,hget];rfl)) rfl ?_
    refine gal ?_
    exact retI (v:=(s2.ar name)[a]) hj (zra rfl) hI'.symm rfl hsub_left hs2
   ·rw[if_neg hin] at h
    cases h
  ·rintro ch H' ⟨rfl,h⟩ e' he'
   by_cases hin:a<m
   ·rw[if_pos hin] at h
    cases h
   ·rw[if_neg hin] at h
    cases h
    have hget:(s2.ar name)[a]? = none:=List.getElem?_eq_none zo
    have hI':(match (s2.ar name)[a]? with
     |some v=>IR.ok v s2
     |none=>.stop 2 s2)=R:=hI
    rw[hget] at hI'
    refine gah ?_
    exact panI_ (he'.trans hj) hI'.symm hsub_left hs2
 refine oC rfl (fun hc=>absurd (zt hc) h3) (fun _=>?_)
 rw[if_neg h3] at hI
 refine gaj ?_
 by_cases h4:op=[110,101,103]
 ·subst h4
  rw[if_pos rfl] at hI
  obtain ⟨a,rfl⟩:∃ a,vs=[a]:=one_of (by
   rcases hop with h|h
   ·exact absurd h (by decide)
   ·have h9:(1:Int)=(vs.length:Int):=h
    omega)
  have ha:a<4294967296:=hvlt a (List.mem_cons_self ..)
  refine oC rfl (fun hc=>?_) (fun hc=>by cases hc)
  refine gab ?_
  refine oP (xR (el':=u32 a) (cs:=[u32 a]) rfl rfl zo rfl rfl rfl) rfl ?_
  refine gac ?_
  refine oP (Pure.negW rfl) rfl ?_
  refine gal ?_
  exact retI (v:=(4294967296-a) % 4294967296) hj (zra rfl) hI.symm (int_eq (neg_u32 ha)) (zhD (zhD zhr)) hs2
 refine oC rfl (fun hc=>absurd (zt hc) h4) (fun _=>?_)
 rw[if_neg h4] at hI
 refine gaj ?_
 by_cases h5:op=[110,111,116]
 ·subst h5
  rw[if_pos rfl] at hI
  obtain ⟨a,rfl⟩:∃ a,vs=[a]:=one_of (by
   rcases hop with h|h
   ·exact absurd h (by decide)
   ·have h9:(1:Int)=(vs.length:Int):=h
    omega)
  refine oC rfl (fun hc=>?_) (fun hc=>by cases hc)
  refine gab ?_
  refine oP (xR (el':=u32 a) (cs:=[u32 a]) rfl rfl zo rfl rfl rfl) rfl ?_
  refine gac ?_
  refine oS (S.callS (F:=[]) [_] rfl (by rw[List.append_nil]) (truth_spec _) ?_) rfl
  rw[List.append_nil]
  refine gal ?_
  exact retI (v:=b2n (decide (a=0))) hj (zra rfl) hI.symm (congrArg u32 (b2n_dec zo)) (zhD (zhD zhr)) hs2
 refine oC rfl (fun hc=>absurd (zt hc) h5) (fun _=>?_)
 rw[if_neg h5] at hI
 refine gaj ?_
 by_cases h6:op=[99,97,108,108]
 ·subst h6
  rw[if_pos rfl] at hI
  unfold useE at huse
  rw[if_neg (by decide),if_neg (by decide),if_pos (show ([99,97,108,108]:List UInt8)=nCall from rfl)] at huse
  refine oC rfl (fun hc=>?_) (fun hc=>by cases hc)
  refine gab ?_
  refine oS (S.callI [_,_,_] rfl swap2 (call_spec hC hB hk huse hvlt hb2 hl2 hroom hs2) (fun v s3 H3 hr3 hs3=>?_) (fun er s3 H3 hr3 hs3 e' he'=>?_)) rfl
  ·rw[hr3] at hI
   refine gal ?_
   exact retI (v:=v) hj (zra rfl) hI.symm rfl hsub_left hs3
  ·refine gah ?_
   rw[hr3] at hI
   exact panI_ (he'.trans hj) hI.symm hsub_left hs3
 refine oC rfl (fun hc=>absurd (zt hc) h6) (fun _=>?_)
 rw[if_neg h6] at hI
 refine gad ?_
 have hbin:op∈binOps∧vs.length=2:=by
  unfold opnds at hop
  rw[if_neg (fun h=>h.elim h1 h2),if_neg (fun h=>h.elim h3 (fun h=>h.elim h4 h5)),if_neg (show ¬ op=nCall from h6)] at hop
  split at hop
  ·rename_i h
   refine ⟨h,?_⟩
   rcases hop with h|h <;> omega
  ·rcases hop with h|h <;> omega
 obtain ⟨hbo,hv2⟩:=hbin
 obtain ⟨a,b2,rfl⟩:=two_of hv2
 have ha:a<4294967296:=hvlt a (List.mem_cons_self ..)
 have hb:b2<4294967296:=hvlt b2 (List.mem_cons_of_mem _ (List.mem_cons_self ..))
 obtain ⟨fi,caps,hkv,hte,hcall⟩:=binop_spec (B0:=B0) (w0:=w0) (db:=c.db) hbo ha hb
 have hs3:=hs2
 obtain ⟨hl,hle,v,Ha,hacc,rfl⟩:=hs2
 refine LCode.tail 13 zk ?_
 refine gac ?_
 refine LS.pure (Pure.kvHit rfl rfl zm6 hkv) rfl ?_
 refine gac ?_
 refine LS.pure (xR (el':=u32 a) (cs:=[u32 a]) rfl rfl zo rfl rfl rfl) rfl ?_
 refine gac ?_
 refine LS.pure (xR (el':=u32 b2) (cs:=[u32 b2]) rfl rfl zo rfl rfl rfl) rfl ?_
 refine gaf ?_
 have hpick:Pick (divH c.db) ((b5,.cells 170 [str op,u32 num,str name,.list (args.map encE)])::(b4,.cells 63 [str f.name,.list (f.params.map str),.list (f.locals.map str),.list (f.body.map encS)])::stH c s2 v Ha) _:=pT zp6
 refine oS (S.callV (f:=fi) (first:=#[]) (caps:=caps) (H1:=[divH c.db]) [_,_] rfl rfl hpick hcall ?_ ?_) rfl
 ·rintro lv H' ⟨rfl,h⟩
  have hI':(match binI op a b2 with
   |some v=>IR.ok v s2
   |none=>.stop 12 s2)=R:=hI
  cases hb9:binI op a b2 with
  |none=>rw[hb9] at h;cases h
  |some y=>
   rw[hb9] at h hI'
   cases h
   refine gam ?_
   exact retI (v:=y) hj (zra rfl) hI'.symm rfl (hsub_perm (List.Perm.symm hpick) (zhD (zhD zhr))) hs3
 ·rintro ch H' ⟨rfl,h⟩ e' he'
  have hI':(match binI op a b2 with
   |some v=>IR.ok v s2
   |none=>.stop 12 s2)=R:=hI
  cases hb9:binI op a b2 with
  |some y=>rw[hb9] at h;cases h
  |none=>
   rw[hb9] at h hI'
   cases h
   refine gao ?_
   exact panI_ (he'.trans hj) hI'.symm (hsub_perm (List.Perm.symm hpick) (zhD (zhD zhr))) hs3
theorem eval_zero {c:Cfg} (hC:CfgOk c):EvalH B0 w0 c 0:=by
 intro f kn x s H hf hk hv hnum hsm hg hs
 have ht:tick s=.stop 13 s:=by rw[tick,if_pos (Nat.le_zero.1 hg.2.1)]
 obtain ⟨op,num,name,args⟩:=x
 rw[encE_mk]
 refine cI Tryz.func158 rfl (n:=92) rfl rfl rfl ?_
 refine gai ?_
 refine oS (S.box rfl fun b4=>?_) rfl
 refine oS (S.box rfl fun b5=>?_) rfl
 refine gav ?_
 refine oS (S.callI [_] rfl swap2 (step_spec hC hs) (fun u s1 H1 hr hs1=>?_) (fun er s1 H1 hr hs1 e' he'=>?_)) rfl
 ·rw[ht] at hr
  cases hr
 ·rw[ht] at hr
  cases hr
  refine gao ?_
  exact panI_ (he'.trans rfl) (by rw[evI]) hsub_left hs1
theorem exec_zero {c:Cfg} (hC:CfgOk c):ExecH B0 w0 c 0:=by
 intro f kn x s H hf hk hv hnum hsm hg hs
 have ht:tick s=.stop 13 s:=by rw[tick,if_pos (Nat.le_zero.1 hg.2.1)]
 obtain ⟨kind,name,index,value,thn,els⟩:=x
 rw[encS_mk]
 refine cI Tryz.func109 rfl (n:=93) rfl rfl rfl ?_
 refine gai ?_
 refine oS (S.box rfl fun b4=>?_) rfl
 refine oS (S.box rfl fun b5=>?_) rfl
 refine gav ?_
 refine oS (S.callI [_] rfl swap2 (step_spec hC hs) (fun u s1 H1 hr hs1=>?_) (fun er s1 H1 hr hs1 e' he'=>?_)) rfl
 ·rw[ht] at hr
  cases hr
 ·rw[ht] at hr
  cases hr
  refine gao ?_
  exact panI_ (he'.trans rfl) (by rw[stI]) hsub_left hs1
theorem run_all {c:Cfg} (hC:CfgOk c):∀ n:Nat,EvalH B0 w0 c n∧ExecH B0 w0 c n
 |0=>⟨eval_zero hC,exec_zero hC⟩
 |n+1=>by
  obtain ⟨h1,h2⟩:=run_all hC n
  have hB:=block_spec hC h2
  exact ⟨eval_spec hC h1 hB,execute_spec hC h1 hB⟩
end
end Go.Proofs.YtcbpcianefpniaaGreatDoor.Inp
namespace Go.GL
open Go.RowKit
section
variable {C:Ctx} {e:Env} {H:Heap} {dst:Option Nat} {ty:TypeId} {pos:String} {aft:Array Edge} {g:Option (Nat×Bool)} {K:LV→Heap→Prop} {X:List PanicEntry→Heap→Prop} {x y:Operand}
theorem run_equal_slice {P:Program} {t el s:Nat} [h:TSlice P t el s] (a:Option Addr) (n m:Nat) (w:World):(Op.equal t (.slice a n m) (.slice none 0 0)).run P w=.ok a.isNone w:=by
 rw[equal_step,Op.equalIn]
 cases a <;> simp only[Sem.run_bind,run_underlying' h.und,Result.andThen_ok,Sem.run_pure] <;> rfl
theorem S.sliceNil {t el s yT:Nat} [ht:TSlice C.P t el s] {es:List LV} (hx:elems (e.ev x)=some es) (hk:∀ b,(b=true→es=[])→K (bool b) H):LStep C ⟨dst,.binOp .eql t x (.const (.slice none 0 0)) yT,ty,pos,aft,g⟩ e H K X:=fun ρ w L h hH=>by
 obtain ⟨a,cap,hv,hc,hr⟩:=(h x).elems hx
 have h2:=atom_of h (x:=.const (.slice none 0 0)) rfl
 have he:eqGuard .eql t x (.const (.slice none 0 0)) (.slice a es.length cap) (.slice none 0 0)=Pure.pure ():=by simp[eqGuard]
 have hb:binOp .eql t (.slice a es.length cap) (.slice none 0 0)=(do Pure.pure (.bool (←Op.equal t (.slice a es.length cap) (.slice none 0 0)))):=rfl
 have hrun:(execOp ρ ⟨dst,.binOp .eql t x (.const (.slice none 0 0)) yT,ty,pos,aft,g⟩).run C.P w=.ok (.value (.bool a.isNone)) w:=by
  simp only[execOp,hv,h2,he,hb,Sem.run_bind,Sem.run_pure,Result.andThen_ok,run_equal_slice]
 rw[hrun]
 refine ⟨bool a.isNone,H,L,Fr.refl _ _ _,hH,rep_atom,hk _ fun hn=>?_⟩
 cases a with
 |some a=>cases hn
 |none=>
  cases es with
  |nil=>rfl
  |cons v es=>
   obtain ⟨b,off,k,h3,_⟩:=hr (by simp)
   cases h3
theorem Pure.rowCap {t el s:Nat} [TSlice C.P t el s] {a:Option Addr} {m cap:Nat} (hx:e.ev x=.atom (.slice a m cap)):Pure C ⟨dst,.call { callee:=.builtin .cap,args:=#[x],argTypes:=#[t] },ty,pos,aft,g⟩ e H (int .i64 cap):=
 .of_any fun ρ _ _ h=>⟨_,rep_atom,fun w'=>by
  have hu:=run_underlying' (P:=C.P) (TSlice.und (t:=t)) w'
  have h0:∀ (cs:Array Bool) (args:Array Value),builtin .cap #[t] ty cs args=(do Pure.pure (.value (←Builtin.cap_ #[t] ty args))):=fun _ _=>rfl
  rw[execOp_builtin',h0]
  simp[Builtin.cap_,hu,goInt,atom_of h hx]⟩
theorem Pure.rowSlice {t el s:Nat} [ht:TSlice C.P t el s] {a:Option Addr} {m cap n:Nat} {hi:Operand} {k:IntKind} (hx:e.ev x=.atom (.slice a m cap)) (hh:e.ev hi=int k n) (hn:n≤cap) :
  Pure C ⟨dst,.slice t x none (some hi) none,ty,pos,aft,g⟩ e H (.atom (.slice a n cap)):=.of_any fun ρ w L h=>by
 obtain ⟨ti,hti,hsz⟩:=ht.size
 refine ⟨_,rep_atom,fun w'=>?_⟩
 have hb:=run_sliceBounds (P:=C.P) (w':=w') (len:=m) (cap:=cap) (lo:=none) (hi:=some hi) (i:=0) (j:=n) h true rfl ⟨k,hh⟩ zo zo zo
 have h3:execOp ρ ⟨dst,.slice t x none (some hi) none,ty,pos,aft,g⟩=(do Pure.pure (.value (←Instr.sliceAt t (ρ x) none (some (ρ hi)) none))):=rfl
 rw[h3,atom_of h hx]
 simp only[Option.map_none,Option.map_some] at hb
 simp only[Instr.sliceAt,Instr.slice,Sem.run_bind,run_underlying' (P:=C.P) ht.und w',Result.andThen_ok,Sem.run_pure,hb,run_sizeOf' hti,hsz]
 have ha:∀ a:Addr,a.add 0=a:=fun a=>by
  obtain ⟨b,o,sp⟩:=a
  unfold Addr.add
  cases sp <;> simp
 simp[ha]
theorem S.appZeros {sT xT el bytes:Nat} {zv:Value} [ht:TSlice C.P sT el 1] [hr:TRow C.P el 1 bytes] [hz:TZero C.P el [zv]] [hk0:TKind C.P xT .i64] {n:Nat} (hx:e.ev x=nilSlice) (hy:e.ev y=int .i64 n) (hn:0<n) (hroom:n * bytes≤140737488355328)
  (hk:∀ b cap,n≤cap→K (.atom (.slice (some ⟨b,0,none⟩) n cap)) ((b,.cells el (List.replicate cap (.atom zv)))::H)) :
  LStep C ⟨dst,.call { callee:=.builtin .append,args:=#[x,y],argTypes:=#[sT,xT] },ty,pos,aft,g⟩ e H K X:=by
 refine LStep.at0 fun ρ w L h hH=>?_
 have h0:∀ (cs:Array Bool) (args:Array Value),builtin .append #[sT,xT] ty cs args=(do Pure.pure (.value (←Builtin.append_ #[sT,xT] ty args))):=fun _ _=>rfl
 obtain ⟨i,z,hi,hs,hb,hb0,hzz,hzs⟩:=hr.out
 obtain ⟨i',z',hi',hz',hc',hs'⟩:=hz.out
 rw[hi] at hi'
 obtain rfl:=Option.some.inj hi'
 rw[hzz] at hz'
 obtain rfl:=Option.some.inj hz'
 have hmul:n≤n * bytes:=Nat.le_mul_of_pos_right _ hb0
 have wn:IntKind.i64.wrap (n:Int)=n:=wrap_i64 zo
 have n1:¬ ((n:Int)<0):=by omega
 have n2:¬ ((281474976710656:Int)<(n:Int) * (i.bytes:Int)):=by
  rw[hb]
  have:((n * bytes:Nat):Int)≤140737488355328:=by omega
  rw[Int.natCast_mul] at this
  omega
 have h63':¬ (9223372036854775807<(n:Int)):=by omega
 have hfit:=growslice_fits (bytes:=bytes) (need:=n) (old:=0) hn hroom
 have h48':¬ (281474976710656<Builtin.nextslicecap n 0 * i.bytes):=by
  rw[hb]
  omega
 have hn0:¬ n=0:=by omega
 have hz1:∀ m,(Builtin.zeroCells #[zv] m)=(List.replicate m zv).toArray:=fun m=>by
  unfold Builtin.zeroCells
  apply Array.ext
  ·simp
  ·intro j h1 h2
   simp[Nat.mod_one]
 have hcap:n≤grownCap w n 0 el:=by simp[grownCap,Question.cut]
 have hrun:(Builtin.append_ #[sT,xT] ty #[.slice none 0 0,.int .i64 n]).run C.P w=.ok (.slice (some ⟨w.heap.size,0,none⟩) n (grownCap w n 0 el)) (World.push w.drew (.cells (List.replicate (grownCap w n 0 el) zv).toArray el)):=by
  simp[Builtin.append_,run_underlying' ht.und,run_underlying' hk0.und,sizeOf,typeInfo,zeroValue,hi,hs,hzz,hc',asInt,asIntOf,wn,n1,n2,hn0,h63',h48',Question.forced,newRow,grownCap,Builtin.firstCells,hz1]
  show World.push w.drew _=World.push w.drew _
  congr 2
  apply Array.ext'
  have:=hcap
  unfold grownCap at this
  congr 2
  omega
 rw[execOp_builtin',h0]
 simp only[List.map_toArray,List.map_cons,List.map_nil,Sem.run_bind,atom_of h hx,atom_of h hy,hrun,Result.andThen_ok,Sem.run_pure]
 have hHd:=hH.drew
 have hrep:RepL w.drew L (List.replicate (grownCap w n 0 el) (.atom zv)) (List.replicate (grownCap w n 0 el) zv):=by
  have:=repL_atoms (w:=w.drew) (L:=L) (List.replicate (grownCap w n 0 el) zv)
  rwa [List.map_replicate] at this
 have hx':=ext_push hHd.wf (.cells (List.replicate (grownCap w n 0 el) zv).toArray el) 0
 have:=fr_push hHd (.cells (List.replicate (grownCap w n 0 el) zv).toArray el) 0 [(w.heap.size,.cells el (List.replicate (grownCap w n 0 el) (.atom zv)))] (fun p hp=>by
  simp only[List.mem_singleton] at hp
  subst hp
  exact ⟨rfl,by simp[Live.upd],List.replicate (grownCap w n 0 el) zv,heap_push_self,hrep.mono hx' _ _⟩) (by simp)
 exact ⟨_,_,_,this.1.of_drew,this.2,rep_atom,hk _ _ hcap⟩
end
section opened
variable {C:Ctx} {n:Nat} {Q:Post} {e:Env} {H F:Heap}
theorem row_open {w:World} {L:Live} {b el:Nat} {cs:List LV} (hp:Pick (b,.cells el cs) H F) (hH:RelH C w L H) (hl:∀ k cap,cap * k≤cs.length→∃ e s,w.shape? b=some (e,s)∧cap * k≤s):RelH C w L ((b,.row 0)::F):=by
 have hH1:=hH.perm hp
 obtain ⟨hb0,hbs,hlb,xs,hx1,hx2⟩:=hH1.objs _ List.mem_cons_self
 simp only at hb0 hbs hlb hx1 hx2
 refine ⟨hH1.base,hH1.lbase,hH1.b0,hH1.wf,hH1.nodup,fun p hp'=>?_⟩
 rcases List.mem_cons.1 hp' with rfl|hp'
 ·exact ⟨hb0,hbs,hlb,_,_,_,hx1,Nat.zero_le _,Nat.zero_le _⟩
 ·exact hH1.objs p (List.mem_cons_of_mem _ hp')
theorem shape_cells {w:World} {L:Live} {b el:Nat} {cs:List LV} (hp:Pick (b,.cells el cs) H F) (hH:RelH C w L H):w.shape? b=some (el,cs.length):=by
 have hH1:=hH.perm hp
 obtain ⟨hb0,hbs,hlb,xs,hx1,hx2⟩:=hH1.objs _ List.mem_cons_self
 simp only at hx1
 simp only[World.shape?,hx1]
 rw[List.size_toArray,hx2.length]
theorem LOps.rowOpen {ops:Array Oper} {rest:List Oper} (d k:Nat) {b el cap:Nat} {cs:List LV} (hp:Pick (b,.cells el cs) H F) (hd:e.s d=.atom (.slice (some ⟨b,0,none⟩) 0 cap)) (hc:cap * k≤cs.length) (h:LOps C n ops Q rest (e.upd d (.app b cap k [])) ((b,.row 0)::F)):LOps C n ops Q rest e H:=fun a w L hE hH=>by
 have hs:=shape_cells hp hH
 have hk:∀ x,x∈keys ((b,LObj.row 0)::F)→x∈keys H:=fun x hx=>by
  have:=((hp.map (·.1)).mem_iff (a:=x)).2 (by simpa using hx)
  exact this
 refine wpList_mono (fun _ _ _=>lift_weak hk) _ _ _ (h a w L ⟨hE.size,hE.ds,fun i=>?_⟩ (row_open hp hH fun k2 cap2 h2=>⟨_,_,hs,h2⟩))
 have hv:=hE.vals i
 simp only[Env.upd]
 cases hb:Nat.beq i d with
 |false=>exact hv
 |true=>
  have hi:=Nat.eq_of_beq_eq_true hb
  subst hi
  rw[hd] at hv
  simp only[Rep] at hv
  rw[hv]
  show Rep w L (.app b cap k []) _
  simp only[Rep]
  refine ⟨rfl,Nat.zero_le _,?_,_,_,hs,hc⟩
  simp only[RepRows]
end opened
end Go.GL
namespace Go.GL
open Go.RowKit
section
variable {C:Ctx} {e:Env} {H:Heap} {dst:Option Nat} {ty:TypeId} {pos:String} {aft:Array Edge} {g:Option (Nat×Bool)} {K:LV→Heap→Prop} {X:List PanicEntry→Heap→Prop} {x y z:Operand} {k:IntKind}
theorem max_cast (a b:Nat):(if (a:Int)<(b:Int) then (b:Int) else (a:Int))=((max a b:Nat):Int):=by
 split <;> omega
theorem Pure.max2 {a b:Nat} (hx:e.ev x=int k (a:Int)) (hy:e.ev y=int k (b:Int)) {t u:TypeId}:Pure C ⟨dst,.call { callee:=.builtin .max,args:=#[x,y],argTypes:=#[t,u] },ty,pos,aft,g⟩ e H (int k ((max a b:Nat):Int)):=
 .of_any fun ρ _ _ h=>⟨_,rep_atom,fun w'=>by
  have h0:∀ (cs:Array Bool) (args:Array Value),builtin .max #[t,u] ty cs args=(do Pure.pure (.value (←Builtin.max_ #[t,u] ty args))):=fun _ _=>rfl
  rw[execOp_builtin',h0]
  have:=max_cast a b
  simp[Builtin.max_,Builtin.max2,atom_of h hx,atom_of h hy]
  split <;> omega⟩
theorem Pure.max3 {a b c:Nat} (hx:e.ev x=int k (a:Int)) (hy:e.ev y=int k (b:Int)) (hz:e.ev z=int k (c:Int)) {t u v:TypeId}:Pure C ⟨dst,.call { callee:=.builtin .max,args:=#[x,y,z],argTypes:=#[t,u,v] },ty,pos,aft,g⟩ e H (int k ((max (max a b) c:Nat):Int)):=
 .of_any fun ρ _ _ h=>⟨_,rep_atom,fun w'=>by
  have h0:∀ (cs:Array Bool) (args:Array Value),builtin .max #[t,u,v] ty cs args=(do Pure.pure (.value (←Builtin.max_ #[t,u,v] ty args))):=fun _ _=>rfl
  rw[execOp_builtin',h0]
  simp[Builtin.max_,Builtin.max2,atom_of h hx,atom_of h hy,atom_of h hz]
  repeat' split
  all_goals omega⟩
theorem Pure.max2e {A B:Int} (a b:Nat) (hx:e.ev x=int k A) (hy:e.ev y=int k B) (ha:A=(a:Int)) (hb:B=(b:Int)) {t u:TypeId}:Pure C ⟨dst,.call { callee:=.builtin .max,args:=#[x,y],argTypes:=#[t,u] },ty,pos,aft,g⟩ e H (int k ((max a b:Nat):Int)):=by
 subst ha hb
 exact Pure.max2 hx hy
theorem Pure.max3e {A B D:Int} (a b d:Nat) (hx:e.ev x=int k A) (hy:e.ev y=int k B) (hz:e.ev z=int k D) (ha:A=(a:Int)) (hb:B=(b:Int)) (hd:D=(d:Int)) {t u v:TypeId}:Pure C ⟨dst,.call { callee:=.builtin .max,args:=#[x,y,z],argTypes:=#[t,u,v] },ty,pos,aft,g⟩ e H (int k ((max (max a b) d:Nat):Int)):=by
 subst ha hb hd
 exact Pure.max3 hx hy hz
theorem Pure.eqlT {a b:Int} {xT yT:TypeId} (h:a=b) (hx:e.ev x=int k a) (hy:e.ev y=int k b):Pure C ⟨dst,.binOp .eql xT x y yT,ty,pos,aft,g⟩ e H (bool true):=by
 have:=Pure.eql (C:=C) (H:=H) (dst:=dst) (ty:=ty) (pos:=pos) (aft:=aft) (g:=g) (xT:=xT) (yT:=yT) hx hy
 rwa [decide_eq_true h] at this
theorem Pure.eqlF {a b:Int} {xT yT:TypeId} (h:¬ a=b) (hx:e.ev x=int k a) (hy:e.ev y=int k b):Pure C ⟨dst,.binOp .eql xT x y yT,ty,pos,aft,g⟩ e H (bool false):=by
 have:=Pure.eql (C:=C) (H:=H) (dst:=dst) (ty:=ty) (pos:=pos) (aft:=aft) (g:=g) (xT:=xT) (yT:=yT) hx hy
 rwa [decide_eq_false h] at this
def IsSet (m:KV) (l:List (List UInt8)):Prop:=∀ k,kvGet m k=if k∈l then some (bool true) else none
theorem IsSet.nil:IsSet [] []:=fun k=>by simp[kvGet]
theorem IsSet.add {m:KV} {l:List (List UInt8)} (h:IsSet m l) (s:List UInt8):IsSet (kvPut m s (bool true)) (l++[s]):=fun k=>by
 rw[kvGet_put,h k]
 by_cases h1:s=k
 ·rw[if_pos h1,if_pos (by rw[h1];simp)]
 ·rw[if_neg h1]
  by_cases h2:k∈l
  ·rw[if_pos h2,if_pos (List.mem_append_left _ h2)]
  ·rw[if_neg h2,if_neg (by
    intro h3
    rcases List.mem_append.1 h3 with h3|h3
    ·exact h2 h3
    ·exact h1 (List.mem_singleton.1 h3).symm)]
theorem Pure.setHas {t el:TypeId} {zv:Value} [h:TMap C.P t el zv (bool false)] {b clock:Nat} {m:KV} {l:List (List UInt8)} {s:List UInt8} (hm:e.ev x=.atom (.map (some b))) (hx:e.ev y=str s) (hb:(b,.map (kvs m) clock)∈H) (hs:IsSet m l) :
  Pure C ⟨dst,.lookup t x y false,ty,pos,aft,g⟩ e H (bool (decide (s∈l))):=by
 by_cases h1:s∈l
 ·rw[decide_eq_true h1]
  exact Pure.kvHit hm hx hb (by rw[hs s,if_pos h1])
 ·rw[decide_eq_false h1]
  exact Pure.kvMiss hm hx hb (by rw[hs s,if_neg h1])
end
end Go.GL
namespace Go.Stele
mutual
def ndE:Ex→Nat
 |.mk op num name args=>1+ndEs args
def ndEs:List Ex→Nat
 |[]=>0
 |x::l=>ndE x+ndEs l
end
mutual
def ndS:Sm→Nat
 |.mk kind name index value thn els=>1+(ndEs index+ndEs value+ndSs thn+ndSs els)
def ndSs:List Sm→Nat
 |[]=>0
 |x::l=>ndS x+ndSs l
end
def ndF (f:FnD):Nat:=1+f.params.length+f.locals.length+ndSs f.body
def ndFs:List FnD→Nat
 |[]=>0
 |f::l=>ndF f+ndFs l
theorem ndE_pos (x:Ex):1≤ndE x:=by
 obtain ⟨op,num,name,args⟩:=x
 rw[ndE]
 omega
theorem ndS_pos (x:Sm):1≤ndS x:=by
 obtain ⟨k,n,i,v,t,e⟩:=x
 rw[ndS]
 omega
theorem ndEs_len:∀ l:List Ex,l.length≤ndEs l
 |[]=>Nat.le_refl _
 |x::l=>by
  have h1:=ndE_pos x
  have h2:=ndEs_len l
  rw[ndEs,List.length_cons]
  omega
theorem ndSs_len:∀ l:List Sm,l.length≤ndSs l
 |[]=>Nat.le_refl _
 |x::l=>by
  have h1:=ndS_pos x
  have h2:=ndSs_len l
  rw[ndSs,List.length_cons]
  omega
theorem ndFs_len:∀ l:List FnD,l.length≤ndFs l
 |[]=>Nat.le_refl _
 |x::l=>by
  have h2:=ndFs_len l
  rw[ndFs,List.length_cons]
  unfold ndF
  omega
theorem ndFs_mem:∀ {l:List FnD} {f:FnD},f∈l→ndF f≤ndFs l
 |g::l,f,h=>by
  rw[ndFs]
  rcases List.mem_cons.1 h with rfl|h
  ·omega
  ·have:=ndFs_mem h
   omega
theorem ndEs_mem:∀ {l:List Ex} {f:Ex},f∈l→ndE f≤ndEs l
 |g::l,f,h=>by
  rw[ndEs]
  rcases List.mem_cons.1 h with rfl|h
  ·omega
  ·have:=ndEs_mem h
   omega
mutual
theorem smE_of:∀ x:Ex,ndE x≤1000000→smE x
 |.mk op num name args,h=>by
  rw[ndE] at h
  have:=ndEs_len args
  exact ⟨show args.length≤1000000 by omega,smEs_of args (by omega)⟩
theorem smEs_of:∀ l:List Ex,ndEs l≤1000000→smEs l
 |[],_=>trivial
 |x::l,h=>by
  rw[ndEs] at h
  exact ⟨smE_of x (by omega),smEs_of l (by omega)⟩
end
mutual
theorem smS_of:∀ x:Sm,ndS x≤1000000→smS x
 |.mk k n i v t e,h=>by
  rw[ndS] at h
  have h1:=ndEs_len i
  have h2:=ndEs_len v
  have h3:=ndSs_len t
  have h4:=ndSs_len e
  exact ⟨show i.length≤1000000 by omega,show v.length≤1000000 by omega,show t.length≤1000000 by omega,show e.length≤1000000 by omega,smEs_of i (by omega),smEs_of v (by omega),smSs_of t (by omega),smSs_of e (by omega)⟩
theorem smSs_of:∀ l:List Sm,ndSs l≤1000000→smSs l
 |[],_=>trivial
 |x::l,h=>by
  rw[ndSs] at h
  exact ⟨smS_of x (by omega),smSs_of l (by omega)⟩
end
theorem smF_of {f:FnD} (h:ndF f≤1000000):SmF f:=by
 unfold ndF at h
 have:=ndSs_len f.body
 exact ⟨show f.params.length≤1000000 by omega,show f.locals.length≤1000000 by omega,show f.body.length≤1000000 by omega,smSs_of _ (by omega)⟩
/-! ### Needs and depths -/
def KnB (B D:Nat) (known:List FSum):Prop:=∀ k∈known,k.need≤B∧k.params+1≤B∧k.depth≤D
theorem stair_le (B:Nat) (c:CEnv):∀ (l:List Ex) (i m:Nat),(∀ x∈l,needE c x≤4 * ndE x+B)→stair i (needEs c l) m≤max m (4 * ndEs l+i+B)
 |[],i,m,_=>by rw[needEs,stair];exact Nat.le_max_left _ _
 |x::l,i,m,h=>by
  rw[needEs,stair,ndEs]
  have h1:=h x (List.mem_cons_self ..)
  have h2:=stair_le B c l (i+1) (max m (i+needE c x)) (fun y hy=>h y (List.mem_cons_of_mem _ hy))
  have h3:=ndE_pos x
  omega
mutual
theorem needE_le (B D:Nat) (c:CEnv) (hB:KnB B D c.funcs):∀ x:Ex,needE c x≤4 * ndE x+B
 |.mk op num name args=>by
  rw[needE,ndE]
  have ha:=needEs_le B D c hB args
  have h0:(needEs c args).headD 0≤4 * ndEs args+B:=by
   cases args with
   |nil=>rw[needEs];exact Nat.zero_le _
   |cons x l=>
    have:=ha x (List.mem_cons_self ..)
    rw[needEs,ndEs]
    show needE c x≤_
    omega
  have h1:(needEs c args).tail.headD 0≤4 * ndEs args+B:=by
   cases args with
   |nil=>rw[needEs];exact Nat.zero_le _
   |cons x l=>
    cases l with
    |nil=>rw[needEs,needEs];exact Nat.zero_le _
    |cons y l=>
     have:=ha y (List.mem_cons_of_mem _ (List.mem_cons_self ..))
     rw[needEs,needEs,ndEs,ndEs]
     show needE c y≤_
     omega
  have hc:callN c name (needEs c args)≤4 * (1+ndEs args)+B:=by
   unfold callN
   split
   ·omega
   split
   ·omega
   ·unfold CEnv.fn
    split
    ·rename_i k hk
     have hkb:=hB k (List.mem_of_find?_eq_some hk)
     have:=stair_le B c args 0 (max (k.params+1) k.need) ha
     omega
    ·omega
  unfold opN
  split
  ·omega
  split
  ·omega
  split
  ·exact hc
  split
  ·omega
  split
  ·omega
  split
  ·omega
  split
  ·omega
  split
  ·omega
  ·omega
theorem needEs_le (B D:Nat) (c:CEnv) (hB:KnB B D c.funcs):∀ (l:List Ex),∀ x∈l,needE c x≤4 * ndE x+B
 |[],x,h=>(List.not_mem_nil h).elim
 |a::l,x,h=>by
  rcases List.mem_cons.1 h with h1|h1
  ·rw[h1]
   exact needE_le B D c hB a
  ·exact needEs_le B D c hB l x h1
end
theorem callD_le {B D:Nat} {c:CEnv} (hB:KnB B D c.funcs) (op name:Nm):callD c op name≤D+1:=by
 unfold callD
 split
 ·unfold CEnv.fn
  split
  ·rename_i k hk
   have:=hB k (List.mem_of_find?_eq_some hk)
   omega
  ·omega
 ·omega
mutual
theorem depE_le (B D:Nat) (c:CEnv) (hB:KnB B D c.funcs):∀ x:Ex,depE c x≤D+1
 |.mk op num name args=>by
  rw[depE]
  have h1:=depEs_le B D c hB args
  have h2:=callD_le hB op name
  omega
theorem depEs_le (B D:Nat) (c:CEnv) (hB:KnB B D c.funcs):∀ l:List Ex,depEs c l≤D+1
 |[]=>Nat.zero_le _
 |x::l=>by
  rw[depEs]
  have h1:=depE_le B D c hB x
  have h2:=depEs_le B D c hB l
  omega
end
theorem headNeed_le {B D:Nat} {c:CEnv} (hB:KnB B D c.funcs) (l:List Ex):needE c (l.headD default)≤4 * (ndEs l+1)+B:=by
 cases l with
 |nil=>
  have:=needE_le B D c hB (default:Ex)
  have h1:ndE (default:Ex)=1:=by
   show ndE (.mk [] 0 [] [])=1
   rw[ndE,ndEs]
  show needE c default≤_
  rw[ndEs]
  omega
 |cons x l=>
  have:=needE_le B D c hB x
  show needE c x≤_
  rw[ndEs]
  omega
mutual
theorem needS_le (B D:Nat) (c:CEnv) (hB:KnB B D c.funcs):∀ x:Sm,needS c x≤8 * ndS x+B
 |.mk k n i v t e=>by
  rw[needS,ndS]
  have h1:=headNeed_le hB v
  have h2:=headNeed_le hB i
  have h3:=needSs_le B D c hB t
  have h4:=needSs_le B D c hB e
  split
  ·omega
  split
  ·omega
  split
  ·omega
  ·omega
theorem needSs_le (B D:Nat) (c:CEnv) (hB:KnB B D c.funcs):∀ l:List Sm,needSs c l≤8 * ndSs l+B
 |[]=>by rw[needSs];exact Nat.zero_le _
 |x::l=>by
  rw[needSs,ndSs]
  have h1:=needS_le B D c hB x
  have h2:=needSs_le B D c hB l
  omega
end
mutual
theorem depS_le (B D:Nat) (c:CEnv) (hB:KnB B D c.funcs):∀ x:Sm,depS c x≤D+1
 |.mk k n i v t e=>by
  rw[depS]
  have h1:=depEs_le B D c hB v
  have h2:=depEs_le B D c hB i
  have h3:=depSs_le B D c hB t
  have h4:=depSs_le B D c hB e
  omega
theorem depSs_le (B D:Nat) (c:CEnv) (hB:KnB B D c.funcs):∀ l:List Sm,depSs c l≤D+1
 |[]=>by rw[depSs];exact Nat.zero_le _
 |x::l=>by
  rw[depSs]
  have h1:=depS_le B D c hB x
  have h2:=depSs_le B D c hB l
  omega
end
theorem sumF_le {B D:Nat} {vars arrays later:List Nm} {known:List FSum} {f:FnD} (hB:KnB B D known):(sumF vars arrays later known f).need≤8 * ndF f+B∧(sumF vars arrays later known f).params+1≤8 * ndF f+B∧(sumF vars arrays later known f).depth≤D+1:=by
 have h1:=needSs_le B D (envF vars arrays later known f) hB f.body
 have h2:=depSs_le B D (envF vars arrays later known f) hB f.body
 unfold sumF ndF
 simp only
 omega
end Go.Stele
namespace Go.Proofs.YtcbpcianefpniaaGreatDoor.RC
open Go.GL Go.RowKit Go.Stele
set_option maxRecDepth 100000
set_option maxHeartbeats 4000000
theorem get_mid {A B:Type} (g:A→B) (pre:List A) (a:A) (l:List A):((pre++a::l).map g)[((pre.length:Nat):Int).toNat]? = some (g a):=by
 rw[Int.toNat_natCast,List.getElem?_map,List.getElem?_append_right (Nat.le_refl _),Nat.sub_self]
 rfl
theorem more {A B:Type} {g:A→B} {L pre l1:List A} (hL:L=pre++l1) (h:decide ((pre.length:Int)<((L.map g).length:Int))=true):∃ a l2,l1=a::l2:=by
 have:=zt h
 rw[List.length_map,hL,List.length_append] at this
 cases l1 with
 |nil=>simp at this
 |cons a l2=>exact ⟨a,l2,rfl⟩
theorem none_left {A B:Type} {g:A→B} {L pre l1:List A} (hL:L=pre++l1) (h:decide ((pre.length:Int)<((L.map g).length:Int))=false):l1=[]:=by
 have:=zf h
 rw[List.length_map,hL,List.length_append] at this
 cases l1 with
 |nil=>rfl
 |cons a l2=>simp at this;omega
theorem pre_le {A:Type} {L pre l1:List A} {n:Nat} (hL:L=pre++l1) (h:L.length≤n):pre.length≤n:=by
 rw[hL,List.length_append] at h
 omega
theorem snoc {A:Type} {L pre l2:List A} {a:A} (hL:L=pre++a::l2):L=(pre++[a])++l2:=by rw[hL];simp
def kwL:List Nm:=[[97,114,114,97,121],[101,108,115,101],[102,117,110,99],[104,97,108,116],[105,102],[105,110],[111,117,116],[114,101,116,117,114,110],[118,97,114],[119,104,105,108,101]]
theorem kwL_eq (s:Nm):s∈kwL ↔ s∈noName:=by
 have h1:∀ x∈kwL,x∈noName:=by decide +kernel
 have h2:∀ x∈noName,x∈kwL:=by decide +kernel
 exact ⟨h1 s,h2 s⟩
def b01 (b:Bool):Int:=if b=true then 1 else 0
theorem nm_kw {s:Nm} (h:s∈kwL):isNm s=false:=by
 have h1:noName.contains s=true:=List.elem_eq_true_of_mem ((kwL_eq s).1 h)
 unfold isNm
 rw[h1]
 simp
theorem nm_bad {s:Nm} (h:s=[]∨24<s.length):isNm s=false:=by
 unfold isNm
 rcases h with rfl|h
 ·simp
 ·rw[decide_eq_false zo];rfl
theorem nm_eq {c:UInt8} {r:List UInt8} (h0:(c::r) ∉ kwL) (h1:(c::r).length≤24):isNm (c::r)=(isLetter c && r.all isInner):=by
 have h2:noName.contains (c::r)=false:=by
  rw[Bool.eq_false_iff]
  intro h
  exact h0 ((kwL_eq _).2 (List.contains_iff_mem.1 h))
 unfold isNm
 rw[decide_eq_true h1,h2]
 rfl
theorem mem_snoc {A:Type} {s x:A} {pre:List A} (h:s ∉ pre) (hx:¬ s=x):s ∉ pre++[x]:=fun hm=>by
 rcases List.mem_append.1 hm with h1|h1
 ·exact h h1
 ·exact hx (List.mem_singleton.1 h1)
theorem freshE_congr:∀ (l k k':List Nm),(∀ x,x∈k ↔ x∈k')→freshE k l=freshE k' l
 |[],k,k',_=>rfl
 |s::l,k,k',h=>by
  rw[freshE,freshE]
  split
  ·rfl
  ·by_cases h1:s∈k
   ·rw[if_pos h1,if_pos ((h s).1 h1)]
   ·rw[if_neg h1,if_neg fun h2=>h1 ((h s).2 h2)]
    exact freshE_congr l _ _ fun x=>by simp only[List.mem_cons,h x]
theorem mem_shift {A:Type} {x a:A} {k p:List A}:x∈a::(k++p) ↔ x∈k++(p++[a]):=by
 rw[←List.append_assoc,List.mem_cons,List.mem_append (t:=[a]),List.mem_singleton,or_comm]
def PostF (known l:List Nm) (r:LRes) (H:Heap):Prop:=H=[]∧∃ nm,(freshE known l=0→r=.ret (.tuple [.list ((known++l).map str),.agg [str nm,int .i64 0]]))∧(freshE known l≠0→r=.ret (.tuple [.list [],.agg [str nm,int .i64 (freshE known l)]]))
attribute [local irreducible] LOps LCode LStep LCalls Go.GL.Pure QThen QBlock RetPost LQ LAny LLate LLateOp LS
section
variable {B0:Nat} {w0:World}
theorem has_spec (l:List Nm) (s:Nm) (hl:l.length≤1000000000):LCalls (KC B0 w0) 100 [.list (l.map str),str s] [] (Ret (bool (decide (s∈l)))):=by
 refine cI Tryz.func100 rfl (n:=17) rfl rfl rfl ?_
 refine gab ?_
 refine oL (fun k ls H'=>∃ pre l1,l=pre++l1∧k=l1.length∧ls=[(1,str s),(7,.list (l.map str)),(8,int .i64 ((l.map str).length:Int)),(9,int .i64 (pre.length:Int))]∧H'=[]∧s ∉ pre)
  ⟨_,_,_,⟨[],l,rfl,rfl,rfl,rfl,List.not_mem_nil⟩,⟨rfl,rfl,rfl,rfl,trivial⟩,HSub.refl _⟩ ?_
 rintro k ls H' ⟨pre,l1,hL,rfl,rfl,rfl,hn⟩ j hj
 have hb:=pre_le hL hl
 refine gak ?_
 refine oC rfl (fun hc=>?_) (fun hc=>?_)
 ·obtain ⟨a,l2,rfl⟩:=more hL hc
  refine gan ?_
  refine oP (xR (el':=str a) (cs:=[_]) rfl rfl zo (by rw[hL];exact get_mid str pre a l2) rfl rfl) rfl ?_
  refine gaa ?_
  refine oC rfl (fun hd=>?_) (fun hd=>?_)
  ·have he:a=s:=zt hd
   refine ga1 ?_
   exact retRet hj (zra rfl) (bool_eq (decide_eq_true (by rw[hL,he];simp)).symm)
  ·have he:¬ a=s:=zf hd
   refine gab ?_
   exact ⟨l2.length,_,_,Nat.lt_succ_self _,⟨pre++[a],l2,snoc hL,rfl,rfl,rfl,mem_snoc hn fun h=>he h.symm⟩,⟨rfl,rfl,rfl,int_eq (by simp),trivial⟩,HSub.refl _,hj⟩
 ·obtain rfl:=none_left hL hc
  refine gab ?_
  exact retRet hj (zra rfl) (bool_eq (decide_eq_false (by rw[hL,List.append_nil];exact hn)).symm)
theorem Name_spec (s:Nm):LCalls (KC B0 w0) 99 [str s] [] (Ret (int .i64 (b01 (isNm s)))):=by
 refine cI Tryz.func99 rfl (n:=68) rfl rfl rfl ?_
 refine ga2 ?_
 refine oS (S.lit (es:=kwL.map str) [_,_,_,_,_,_,_,_,_,_] rfl (by
  intro v hv
  obtain ⟨x,_,rfl⟩:=List.mem_map.1 hv
  exact ⟨rfl,rfl⟩) rfl rfl rfl ?_) rfl
 refine gad ?_
 refine oL (fun k ls H'=>∃ pre l1,kwL=pre++l1∧k=l1.length∧ls=[(0,str s),(6,.list (kwL.map str)),(7,int .i64 ((kwL.map str).length:Int)),(8,int .i64 (pre.length:Int))]∧H'=[]∧s ∉ pre)
  ⟨_,_,_,⟨[],kwL,rfl,rfl,rfl,rfl,List.not_mem_nil⟩,⟨rfl,rfl,rfl,rfl,trivial⟩,HSub.refl _⟩ ?_
 rintro k ls H' ⟨pre,l1,hL,rfl,rfl,rfl,hn⟩ j hj
 have hb:=pre_le hL (show kwL.length≤10 by decide)
 have retF:∀ (h:isNm s=false) {e:Env} {C:Ctx} {n:Nat},e.ds=[]→e.s 2=int .i64 0→RetPost C n [ResultVar.tmp 2] (Ret (int .i64 (b01 (isNm s)))) .ret e []:=fun h {e C n} hd he=>by
  rw[h]
  exact retRet hd (rC (rT he zsr) rN) rfl
 refine gak ?_
 refine oC rfl (fun hc=>?_) (fun hc=>?_)
 ·obtain ⟨a,l2,rfl⟩:=more hL hc
  refine gan ?_
  refine oP (xR (el':=str a) (cs:=[_]) rfl rfl zo (by rw[hL];exact get_mid str pre a l2) rfl rfl) rfl ?_
  refine gaa ?_
  refine oC rfl (fun hd=>?_) (fun hd=>?_)
  ·have he:s=a:=zt hd
   refine ga1 ?_
   exact retF (nm_kw (by rw[hL,he];simp)) hj rfl
  ·have he:¬ s=a:=zf hd
   refine gab ?_
   exact ⟨l2.length,_,_,Nat.lt_succ_self _,⟨pre++[a],l2,snoc hL,rfl,rfl,rfl,mem_snoc hn he⟩,⟨rfl,rfl,rfl,int_eq (by simp),trivial⟩,HSub.refl _,hj⟩
 obtain rfl:=none_left hL hc
 rw[List.append_nil] at hL
 rw[←hL] at hn
 clear hL hb hc
 refine gaa ?_
 refine oB 19 rfl (fun h1=>?_) (fun h1=>?_)
 ·have h0:s=[]:=by
   have:=zt h1
   exact List.length_eq_zero_iff.1 zo
  refine gad ?_
  refine oC rfl (fun _=>?_) (fun hc=>by cases hc)
  refine gau ?_
  exact retF (nm_bad (.inl h0)) hj rfl
 obtain ⟨c,r,rfl⟩:∃ c r,s=c::r:=by
  cases s with
  |nil=>exact absurd rfl (zf h1)
  |cons c r=>exact ⟨c,r,rfl⟩
 refine gac ?_
 refine oB 24 rfl (fun h2=>?_) (fun h2=>?_)
 ·have:=zt h2
  refine gad ?_
  refine oC rfl (fun _=>?_) (fun hc=>by cases hc)
  refine gau ?_
  exact retF (nm_bad (.inr zo)) hj rfl
 have hl:(c::r).length≤24:=by
  have:=zf h2
  omega
 have heq:=nm_eq hn hl
 have hcvc:cv c=(c.toNat:Int):=rfl
 refine gat ?_
 refine oP (Pure.sindex (c:=c) rfl rfl zo rfl) rfl ?_
 refine gad ?_
 refine oB 29 rfl (fun h3=>?_) (fun h3=>?_)
 ·have h4:isLetter c=false:=by
   have:=zt h3
   unfold isLetter
   rw[decide_eq_false zo,Bool.false_and]
  refine gad ?_
  refine oC rfl (fun _=>?_) (fun hc=>by cases hc)
  refine gau ?_
  exact retF (by rw[heq,h4,Bool.false_and]) hj rfl
 refine gat ?_
 refine oP (Pure.sindex (c:=c) rfl rfl zo rfl) rfl ?_
 refine gac ?_
 refine oC rfl (fun h5=>?_) (fun h5=>?_)
 ·have h4:isLetter c=false:=by
   have:=zt h5
   unfold isLetter
   rw[Bool.and_eq_false_iff]
   exact .inr (decide_eq_false zo)
  refine gau ?_
  exact retF (by rw[heq,h4,Bool.false_and]) hj rfl
 have h4:isLetter c=true:=by
  have g1:=zf h3
  have g2:=zf h5
  unfold isLetter
  rw[decide_eq_true zo,decide_eq_true zo]
  rfl
 rw[h4,Bool.true_and] at heq
 refine gab ?_
 refine oL (fun k ls H'=>∃ pre l1,c::r=pre++l1∧1≤pre.length∧k=l1.length∧ls=[(0,str (c::r)),(5,int .i64 (pre.length:Int))]∧H'=[]∧isNm (c::r)=l1.all isInner)
  ⟨_,_,_,⟨[c],r,rfl,Nat.le_refl _,rfl,rfl,rfl,heq⟩,⟨rfl,rfl,trivial⟩,HSub.refl _⟩ ?_
 rintro k ls H' ⟨pre,l1,hL,hp1,rfl,rfl,rfl,hI⟩ j2 hj2
 have hb:=pre_le hL hl
 refine gaa ?_
 refine oC rfl (fun hc=>?_) (fun hc=>?_)
 rotate_left
 ·have hlen:=zf hc
  rw[hL,List.length_append] at hlen
  obtain rfl:l1=[]:=by
   cases l1 with
   |nil=>rfl
   |cons a l2=>simp at hlen;omega
  refine gab ?_
  exact retRet (hj2.trans hj) (zra rfl) (by rw[hI];rfl)
 have hlen:=zt hc
 rw[hL,List.length_append] at hlen
 obtain ⟨a,l2,rfl⟩:∃ a l2,l1=a::l2:=by
  cases l1 with
  |nil=>simp at hlen
  |cons a l2=>exact ⟨a,l2,rfl⟩
 have hget:(c::r)[((pre.length:Nat):Int).toNat]? = some a:=by
  rw[Int.toNat_natCast,hL,List.getElem?_append_right (Nat.le_refl _),Nat.sub_self]
  rfl
 have hcva:cv a=(a.toNat:Int):=rfl
 have nl:∀ {b1 b2 b3:Bool},isLetter a=false→b1=decide (48≤cv a)→b2=decide (cv a≤57)→b3=decide (cv a=95)→isInner a=((b1 && b2) || b3):=fun h h1 h2 h3=>by
  unfold isInner
  rw[h,h1,h2,h3]
  first|rfl|simp[isDigit]
 refine gab ?_
 refine LOps.cut [(0,str (c::r)),(5,int .i64 (pre.length:Int)),(67,bool (!isInner a))] ?_ (fun j3 hj3=>?_)
 ·refine oP (Pure.sindex (c:=a) rfl rfl zo hget) rfl ?_
  refine gad ?_
  refine oB 44 rfl (fun h6=>?_) (fun h6=>?_)
  ·have hlet:isLetter a=false:=by have:=zt h6;unfold isLetter;rw[decide_eq_false zo];rfl
   refine gad ?_
   refine oP (Pure.sindex (c:=a) rfl rfl zo hget) rfl ?_
   refine gad ?_
   refine oB 55 rfl (fun h8=>?_) (fun h8=>?_)
   ·refine gad ?_
    refine oP (Pure.sindex (c:=a) rfl rfl zo hget) rfl ?_
    refine gad ?_
    exact ⟨⟨rfl,rfl,bool_eq (by
     have:=zt h8
     rw[nl hlet (decide_eq_false (show ¬ 48≤cv a by omega)).symm rfl rfl]
     simp),trivial⟩,rfl,rfl⟩
   have g8:=zf h8
   refine gat ?_
   refine oP (Pure.sindex (c:=a) rfl rfl zo hget) rfl ?_
   refine gac ?_
   refine oB 62 rfl (fun h9=>?_) (fun h9=>?_)
   ·refine gat ?_
    refine oP (Pure.sindex (c:=a) rfl rfl zo hget) rfl ?_
    refine gad ?_
    exact ⟨⟨rfl,rfl,bool_eq (by
     have:=zt h9
     rw[nl hlet rfl (decide_eq_false (show ¬ cv a≤57 by omega)).symm rfl]
     simp),trivial⟩,rfl,rfl⟩
   ·refine gag ?_
    exact ⟨⟨rfl,rfl,bool_eq (by
     have:=zf h9
     rw[nl hlet (decide_eq_true (show 48≤cv a by omega)).symm (decide_eq_true (show cv a≤57 by omega)).symm rfl]
     rfl),trivial⟩,rfl,rfl⟩
  have g6:=zf h6
  refine gat ?_
  refine oP (Pure.sindex (c:=a) rfl rfl zo hget) rfl ?_
  refine gac ?_
  refine oB 50 rfl (fun h7=>?_) (fun h7=>?_)
  ·have hlet:isLetter a=false:=by have:=zt h7;unfold isLetter;rw[decide_eq_false (show ¬ cv a≤122 by omega),Bool.and_false]
   refine gat ?_
   refine oP (Pure.sindex (c:=a) rfl rfl zo hget) rfl ?_
   refine gad ?_
   refine oB 55 rfl (fun h8=>?_) (fun h8=>?_)
   ·refine gad ?_
    refine oP (Pure.sindex (c:=a) rfl rfl zo hget) rfl ?_
    refine gad ?_
    exact ⟨⟨rfl,rfl,bool_eq (by
     have:=zt h8
     rw[nl hlet (decide_eq_false (show ¬ 48≤cv a by omega)).symm rfl rfl]
     simp),trivial⟩,rfl,rfl⟩
   have g8:=zf h8
   refine gat ?_
   refine oP (Pure.sindex (c:=a) rfl rfl zo hget) rfl ?_
   refine gac ?_
   refine oB 62 rfl (fun h9=>?_) (fun h9=>?_)
   ·refine gat ?_
    refine oP (Pure.sindex (c:=a) rfl rfl zo hget) rfl ?_
    refine gad ?_
    exact ⟨⟨rfl,rfl,bool_eq (by
     have:=zt h9
     rw[nl hlet rfl (decide_eq_false (show ¬ cv a≤57 by omega)).symm rfl]
     simp),trivial⟩,rfl,rfl⟩
   ·refine gag ?_
    exact ⟨⟨rfl,rfl,bool_eq (by
     have:=zf h9
     rw[nl hlet (decide_eq_true (show 48≤cv a by omega)).symm (decide_eq_true (show cv a≤57 by omega)).symm rfl]
     rfl),trivial⟩,rfl,rfl⟩
  have g7:=zf h7
  have hlet:isLetter a=true:=by unfold isLetter;rw[decide_eq_true (show 97≤cv a by omega),decide_eq_true (show cv a≤122 by omega)];rfl
  refine gac ?_
  exact ⟨⟨rfl,rfl,bool_eq (by unfold isInner;rw[hlet];rfl),trivial⟩,rfl,rfl⟩
 refine oC rfl (fun h10=>?_) (fun h10=>?_)
 ·have hin:isInner a=false:=by simpa using h10
  refine ga1 ?_
  exact retF (by rw[hI,List.all_cons,hin,Bool.false_and]) (hj3.trans (hj2.trans hj)) rfl
 ·have hin:isInner a=true:=by simpa using h10
  refine gab ?_
  exact ⟨l2.length,_,_,Nat.lt_succ_self _,⟨pre++[a],l2,snoc hL,by simp,rfl,rfl,rfl,by rw[hI,List.all_cons,hin,Bool.true_and]⟩,⟨rfl,int_eq (by simp),trivial⟩,HSub.refl _,hj3.trans hj2⟩
theorem fresh_spec (known l:List Nm) (hk:known.length≤100000000) (hl:l.length≤100000000):LCalls (KC B0 w0) 52 [.list (known.map str),.list (l.map str)] [] (PostF known l):=by
 refine cI Tryz.func52 rfl (n:=33) rfl rfl rfl ?_
 refine ga2 ?_
 refine oS (S.alloc fun b5=>?_) rfl
 refine gab ?_
 refine oL (fun k ls H'=>∃ pre l1,l=pre++l1∧k=l1.length∧ls=[(0,.list ((known++pre).map str)),(5,ptr b5 0),(8,.list (l.map str)),(9,int .i64 ((l.map str).length:Int)),(10,int .i64 (pre.length:Int))]∧H'=[(b5,.cells 117 [str [],int .i64 0])]∧freshE known l=freshE (known++pre) l1)
  ⟨_,_,_,⟨[],l,rfl,rfl,rfl,rfl,by rw[List.append_nil]⟩,⟨by rw[List.append_nil];rfl,rfl,rfl,rfl,rfl,trivial⟩,HSub.refl _⟩ ?_
 rintro k ls H' ⟨pre,l1,hL,rfl,rfl,rfl,hI⟩ j hj
 have hb:=pre_le hL hl
 refine gak ?_
 refine oC rfl (fun hc=>?_) (fun hc=>?_)
 rotate_left
 ·obtain rfl:=none_left hL hc
  rw[List.append_nil] at hL
  subst hL
  refine gaa ?_
  refine rR hj (rC (rT (v:=.list ((known++l).map str)) rfl zsr) (rC (rA (k:=2) rfl zm0 rfl zsr) rN)) zhn ⟨rfl,[],fun _=>rfl,fun h=>absurd (hI.trans rfl) h⟩
 obtain ⟨a,l2,rfl⟩:=more hL hc
 rw[freshE] at hI
 refine gan ?_
 refine oP (xR (el':=str a) (cs:=[_]) rfl rfl zo (by rw[hL];exact get_mid str pre a l2) rfl rfl) rfl ?_
 refine gaa ?_
 refine oS (S.fn [_] rfl (Name_spec a) ?_) rfl
 refine gad ?_
 refine oC rfl (fun h1=>?_) (fun h1=>?_)
 ·have hn:isNm a=false:=by
   cases h:isNm a with
   |false=>rfl
   |true=>rw[h] at h1;cases h1
  rw[if_pos hn] at hI
  refine gaa ?_
  refine rR hj (rC (rT (v:=nilSlice) rfl LV.Sub.nil) (rC (rA (k:=2) rfl zm0 rfl zsr) rN)) zhn ⟨rfl,a,fun h=>(by rw[hI] at h;cases h),fun _=>by rw[hI];rfl⟩
 have hn:isNm a=true:=by
  cases h:isNm a with
  |true=>rfl
  |false=>rw[h] at h1;cases h1
 rw[if_neg (by rw[hn];decide)] at hI
 refine gab ?_
 refine oS (S.fn [_,_] rfl (has_spec (known++pre) a (by rw[List.length_append];omega)) ?_) rfl
 refine gap ?_
 refine oC rfl (fun h2=>?_) (fun h2=>?_)
 ·have hm:a∈known++pre:=zt h2
  rw[if_pos hm] at hI
  refine gaa ?_
  refine rR hj (rC (rT (v:=nilSlice) rfl LV.Sub.nil) (rC (rA (k:=2) rfl zm0 rfl zsr) rN)) zhn ⟨rfl,a,fun h=>(by rw[hI] at h;cases h),fun _=>by rw[hI];rfl⟩
 have hm:a ∉ known++pre:=zf h2
 rw[if_neg hm] at hI
 refine gan ?_
 refine oS (S.litA (es:=[]) [] rfl eN rfl rfl rfl fun b6=>?_) rfl
 refine gad ?_
 refine oS (S.accF (A:=[_]) (H1:=[(b6,.row 0)]) zpr rfl Acc.row rfl (strs_len _) (strs_ok _) (by simp;omega) fun v2 H2 h2=>?_) rfl
 refine gaz ?_
 refine oS (S.lit (es:=[a].map str) [_] rfl (eC rfl rfl eN) rfl rfl rfl ?_) rfl
 refine oS (S.accF (A:=[_]) (H1:=H2) (List.perm_append_comm (l₁:=[_])) rfl h2 rfl (strs_len _) (strs_ok _) (by simp;omega) fun v3 H3 h3=>?_) rfl
 refine LOps.sub 29 rfl h3.sub ?_
 refine LOps.weak (H':=[(b5,.cells 117 [str [],int .i64 0])]) zhp ?_
 refine gaa ?_
 exact ⟨l2.length,_,_,Nat.lt_succ_self _,⟨pre++[a],l2,snoc hL,rfl,rfl,rfl,by
  rw[hI]
  exact freshE_congr _ _ _ fun x=>mem_shift⟩,⟨(by show LV.list ([]++(known++pre).map str++[a].map str)=_;simp),rfl,rfl,rfl,int_eq (by simp),trivial⟩,HSub.refl _,hj⟩
end
end Go.Proofs.YtcbpcianefpniaaGreatDoor.RC
namespace Go.GL
open Go.RowKit
class TOut (P:Program) (t:TypeId):Prop where
 und:P.underlying t=some (.struct (P.fieldsOf t))
 apart:P.stoodInHeld t=false
 guard:P.eqGuardType P.depth t=false
 fields : ∃ f0 f1 f2 : Field, (P.fieldsOf t).toList = [f0, f1, f2] ∧ (f0.name ≠ "_" ∧ f0.offset = 0 ∧ P.underlying f0.type = some .string) ∧ (f1.name ≠ "_" ∧ f1.offset = 1 ∧ P.underlying f1.type = some (.int .i64)) ∧ (f2.name ≠ "_" ∧ f2.offset = 2 ∧ P.underlying f2.type = some (.int .i64))
def chkStrF (P : Program) (f : Field) (o : Nat) : Bool := f.name != "_" && f.offset == o && (match P.underlying f.type with | some .string => true | _ => false)
def chkI64 (P : Program) (f : Field) (o : Nat) : Bool := f.name != "_" && f.offset == o && (match P.underlying f.type with | some (.int .i64) => true | _ => false)
def chkOut (P:Program) (t:TypeId):Bool:=(match P.underlying t with|some (.struct _)=>true|_=>false) && !P.stoodInHeld t && !P.eqGuardType P.depth t && (match (P.fieldsOf t).toList with|[f0,f1,f2]=>chkStrF P f0 0 && chkI64 P f1 1 && chkI64 P f2 2|_=>false)
theorem chkStrF_of {P : Program} {f : Field} {o : Nat} (h : chkStrF P f o = true) : f.name ≠ "_" ∧ f.offset = o ∧ P.underlying f.type = some .string := by
 unfold chkStrF at h
 simp only[Bool.and_eq_true,bne_iff_ne,beq_iff_eq] at h
 obtain ⟨⟨h1,h2⟩,h3⟩:=h
 refine ⟨h1,h2,?_⟩
 split at h3
 ·assumption
 ·cases h3
theorem chkI64_of {P : Program} {f : Field} {o : Nat} (h : chkI64 P f o = true) : f.name ≠ "_" ∧ f.offset = o ∧ P.underlying f.type = some (.int .i64) := by
 unfold chkI64 at h
 simp only[Bool.and_eq_true,bne_iff_ne,beq_iff_eq] at h
 obtain ⟨⟨h1,h2⟩,h3⟩:=h
 refine ⟨h1,h2,?_⟩
 split at h3
 ·assumption
 ·cases h3
theorem TOut.of {P:Program} {t:TypeId} (h:chkOut P t=true):TOut P t:=by
 unfold chkOut at h
 simp only[Bool.and_eq_true,Bool.not_eq_true'] at h
 obtain ⟨⟨⟨h1,h2⟩,h3⟩,h4⟩:=h
 refine ⟨?_,h2,h3,?_⟩
 ·split at h1
  ·rename_i fs hu
   rw[hu]
   simp[Program.fieldsOf,hu]
  ·cases h1
 ·split at h4
  ·rename_i f0 f1 f2 hf
   simp only[Bool.and_eq_true] at h4
   exact ⟨f0,f1,f2,hf,chkStrF_of h4.1.1,chkI64_of h4.1.2,chkI64_of h4.2⟩
  ·cases h4
theorem run_part_of {P:Program} {t:TypeId} {d:TypeDesc} (hu:P.underlying t=some d) (hp:d=.string∨d=.int .i64) {xs:Array Value} {off:Nat} {v:Value} (hx:xs[off]? = some v) (w:World):(part t xs off).run P w=.ok v w:=
 run_part_plain w (by rcases hp with rfl|rfl <;> simp[Program.plainKey,hu]) hx
theorem run_eqStr {P:Program} {t:TypeId} (hu:P.underlying t=some .string) (d:Nat) (a b:List UInt8) (w:World):(Op.equalIn (d+1) t (.string ⟨a.toArray⟩) (.string ⟨b.toArray⟩)).run P w=.ok (decide (a=b)) w:=by
 simp only[Op.equalIn,Sem.run_bind,run_underlying' hu,Result.andThen_ok,Sem.run_pure]
 rw[beq_toListBytes,ByteArray.toList_eq,ByteArray.toList_eq]
 congr 1
 by_cases h:a=b <;> simp[h]
theorem run_eqInt {P:Program} {t:TypeId} (hu:P.underlying t=some (.int .i64)) (d:Nat) (a b:Int) (w:World):(Op.equalIn (d+1) t (.int .i64 a) (.int .i64 b)).run P w=.ok (decide (a=b)) w:=by
 simp only[Op.equalIn,Sem.run_bind,run_underlying' hu,Result.andThen_ok,Sem.run_pure,if_true]
 congr 1
theorem run_eqOut {P:Program} {t:TypeId} [h:TOut P t] (a b:List UInt8) (x y u v:Int) (w:World) :
  (Op.equal t (.agg #[.string ⟨a.toArray⟩,.int .i64 x,.int .i64 u]) (.agg #[.string ⟨b.toArray⟩,.int .i64 y,.int .i64 v])).run P w=.ok (decide (a=b∧x=y∧u=v)) w:=by
 obtain ⟨f0,f1,f2,hf,⟨n0,o0,u0⟩,⟨n1,o1,u1⟩,⟨n2,o2,u2⟩⟩:=h.fields
 rw[equal_step,run_equalIn_struct w 9999 t _ _ h.und h.apart,hf]
 have p0:∀ (s:List UInt8) (i j:Int),(part f0.type #[.string ⟨s.toArray⟩,.int .i64 i,.int .i64 j] f0.offset).run P w=.ok (.string ⟨s.toArray⟩) w:=fun s i j=>run_part_of u0 (.inl rfl) (by rw[o0];rfl) w
 have p1:∀ (s:List UInt8) (i j:Int),(part f1.type #[.string ⟨s.toArray⟩,.int .i64 i,.int .i64 j] f1.offset).run P w=.ok (.int .i64 i) w:=fun s i j=>run_part_of u1 (.inr rfl) (by rw[o1];rfl) w
 have p2:∀ (s:List UInt8) (i j:Int),(part f2.type #[.string ⟨s.toArray⟩,.int .i64 i,.int .i64 j] f2.offset).run P w=.ok (.int .i64 j) w:=fun s i j=>run_part_of u2 (.inr rfl) (by rw[o2];rfl) w
 have e0:=run_eqStr u0 9998 a b w
 have e1:=run_eqInt u1 9998 x y w
 have e2:=run_eqInt u2 9998 u v w
 have q1:∀ a b:Int,(Op.equalIn 9999 f1.type (.int .i64 a) (.int .i64 b)).run P w=.ok (decide (a=b)) w:=fun a b=>run_eqInt u1 9998 a b w
 have q2:∀ a b:Int,(Op.equalIn 9999 f2.type (.int .i64 a) (.int .i64 b)).run P w=.ok (decide (a=b)) w:=fun a b=>run_eqInt u2 9998 a b w
 have q0:(Op.equalIn 9999 f0.type (.string ⟨a.toArray⟩) (.string ⟨b.toArray⟩)).run P w=.ok (decide (a=b)) w:=run_eqStr u0 9998 a b w
 simp only[Op.eqFields,n0,n1,n2,ne_eq,not_false_eq_true,if_true,Sem.run_bind,p0,q0,Result.andThen_ok]
 by_cases ha:a=b
 ·simp only[ha,decide_true,Bool.not_true,Bool.false_eq_true,if_false,Sem.run_bind,p1,q1,Result.andThen_ok,true_and]
  by_cases hx:x=y
  ·simp only[hx,decide_true,Bool.not_true,Bool.false_eq_true,if_false,Sem.run_bind,p2,q2,Result.andThen_ok,true_and]
   by_cases hu:u=v
   ·simp[hu]
   ·simp[hu]
  ·simp[hx]
 ·simp[ha]
section
variable {C:Ctx} {e:Env} {H:Heap} {dst:Option Nat} {ty:TypeId} {pos:String} {aft:Array Edge} {g:Option (Nat×Bool)} {x y:Operand}
theorem agg_of {ρ:Operand→Value} {w:World} {L:Live} (h:∀ x,Rep w L (e.ev x) (ρ x)) {x:Operand} {a:List UInt8} {i j:Int} (hx:e.ev x=.agg [str a,int .i64 i,int .i64 j]):ρ x=.agg #[.string ⟨a.toArray⟩,.int .i64 i,.int .i64 j]:=by
 have hv:=h x
 rw[hx] at hv
 simp only[Rep,RepL,str,int] at hv
 obtain ⟨vs,h1,v0,r0,e0,rfl,v1,r1,e1,rfl,v2,r2,e2,rfl,e3⟩:=hv
 rw[h1,e0,e1,e2,e3]
theorem Pure.eqOut {t yT:TypeId} [h:TOut C.P t] {a b:List UInt8} {i j k l:Int} (hx:e.ev x=.agg [str a,int .i64 i,int .i64 j]) (hy:e.ev y=.agg [str b,int .i64 k,int .i64 l]) :
  Pure C ⟨dst,.binOp .eql t x y yT,ty,pos,aft,g⟩ e H (bool (decide (a=b∧i=k∧j=l))):=
 .of_any fun ρ _ _ hr=>⟨_,rep_atom,fun w'=>by
  have h1:=agg_of hr hx
  have h2:=agg_of hr hy
  have he:(eqGuard .eql t x y (.agg #[.string ⟨a.toArray⟩,.int .i64 i,.int .i64 j]) (.agg #[.string ⟨b.toArray⟩,.int .i64 k,.int .i64 l])).run C.P w'=.ok () w':=by
   simp[eqGuard,h.guard]
  have hb:binOp .eql t (.agg #[.string ⟨a.toArray⟩,.int .i64 i,.int .i64 j]) (.agg #[.string ⟨b.toArray⟩,.int .i64 k,.int .i64 l])=(do Pure.pure (.bool (←Op.equal t (.agg #[.string ⟨a.toArray⟩,.int .i64 i,.int .i64 j]) (.agg #[.string ⟨b.toArray⟩,.int .i64 k,.int .i64 l])))):=rfl
  simp only[execOp,h1,h2,he,hb,Sem.run_bind,Sem.run_pure,Result.andThen_ok,run_eqOut]⟩
theorem Pure.eqOutT {t yT:TypeId} [h:TOut C.P t] {a b:List UInt8} {i j k l:Int} (hx:e.ev x=.agg [str a,int .i64 i,int .i64 j]) (hy:e.ev y=.agg [str b,int .i64 k,int .i64 l]) (h1:a=b) (h2:i=k) (h3:j=l) :
  Pure C ⟨dst,.binOp .eql t x y yT,ty,pos,aft,g⟩ e H (bool true):=by
 have:=Pure.eqOut (C:=C) (H:=H) (dst:=dst) (ty:=ty) (pos:=pos) (aft:=aft) (g:=g) (t:=t) (yT:=yT) hx hy
 rwa [decide_eq_true ⟨h1,h2,h3⟩] at this
end
theorem LCalls.argsSub {C:Ctx} {f:FuncId} {us bs:List LV} {H:Heap} {R:LRes→Heap→Prop} (hs:SubL us bs) (h:LCalls C f bs H R):LCalls C f us H R:=fun vs w L hr hH=>h vs w L (hs.repL hr) hH
end Go.GL
