import Derived.Deep.WholeRow
import Derived.Shelf.Strings.Builder1
import Derived.Shelf.Strings.Builder2
import Derived.Shelf.Strings.OnBuilder
import Derived.Shelf.Strings.Trim
import Derived.Shelf.Small.Utf8
import Derived.Shelf.Small.Strs
import Derived.Shelf.Small.Wraps
import Derived.Shelf.Strings.BuilderF
import Derived.Shelf.Strings.BuilderK
import Derived.Shelf.Utf8.RuneCount
import Derived.Shelf.Strings.Builder2Cap
import Derived.Shelf.Strconv.Itoa0
import Derived.Shelf.Strconv.Itoa1
import Derived.Shelf.LaysM
import Derived.Shelf.Strconv.Itoa2
import Derived.Shelf.Strconv.Itoa3
import Derived.Shelf.Strconv.Clone
import Derived.Shelf.Strconv.SyntaxError
import Derived.Shelf.LaysC
import Derived.Shelf.Strconv.ToError
import Derived.Shelf.Strconv.Lower
import Derived.Shelf.Strconv.ParseUint10
import Derived.Shelf.Strconv.ParseUint10Empty
import Derived.Shelf.Strconv.ParseUint10Any
import Derived.Shelf.Strconv.RangeError
import Derived.Shelf.Strconv.ToErrorRange
import Derived.Shelf.Strconv.ParseUintEmpty
import Derived.Shelf.Strconv.ParseUint10b64
import Derived.Shelf.Strconv.ParseUint10b32
import Derived.Shelf.Strconv.ParseUint10b16
import Derived.Shelf.Strconv.ParseUint10b8
import Derived.Shelf.Strconv.ParseUint10At
import Derived.Ground.MpProg
import Derived.Shelf.Pu.ParseUintPublic10
import Derived.Shelf.Pu.ErrVarParseUint
import Derived.Shelf.Strings.Search1
import Derived.Shelf.Strings.Search2
import Derived.Shelf.Strings.Search3
import Derived.Shelf.Strings.Cut
import Derived.Shelf.Strings.Count
import Derived.Shelf.Strings.Shaped
import Derived.Shelf.Strings.Prefix
import Derived.Shelf.Strings.Split
import Derived.Shelf.Strings.SplitShaped
import Derived.Shelf.Unicode.Decode
import Derived.Shelf.Strings.Runes
import Derived.Shelf.Strings.RuneCount
import Derived.Shelf.Strings.AsciiSet
import Derived.Shelf.Strings.Explode
import Derived.Shelf.Unicode.DecodeSlow
import Derived.Shelf.Unicode.DecodeAny
import Derived.Shelf.Strings.BuilderCap
import Derived.Shelf.Slices.Turned
import Derived.Ground.Names2Prog
import Derived.Shelf.Slices.Clone
import Derived.Lib.Walk
import Derived.Lib.ItoaMem
import Derived.Lib.AppendIntMem
import Derived.WalkKit
import Derived.BigCall
import Derived.BigGuard
import Derived.WalkSmall
import Derived.Test.YtegmklafpoldgaaGreatDoorBRowTC2
set_option linter.unusedVariables false
set_option linter.unusedSimpArgs false
set_option maxRecDepth 100000
set_option maxHeartbeats 4000000
open Go.GL (zk)
open List (not_mem_nil nodup_cons mem_map_of_mem perm_middle mem_append_right length_drop length_singleton perm_append_singleton)
open Nat (sub_self lt_succ_self zero_le)
namespace Go.Proofs.YtegmklafpoldgaaGreatDoor.Inp
open Go.GL Go.RowKit Go.Stele
variable{F H H':Heap}{b db:Nat}{els thn:List Sm}{index value:List Ex}{k name:List UInt8}{rs:List ResultVar}{s:IS}{vs:List LV}
@[reducible] def u32(n:Nat):LV:=int .u32 (n:Int)
theorem swap1{x:Nat×LObj}:(x::H).Perm (H++[x]):=zPc (l₁:=[x])
theorem qd1{x y:Nat×LObj}:(x::y::H).Perm (H++[x,y]):=zPc (l₁:=[x,y])
theorem qaA:HSub H (H++F):=⟨F,List.Perm.refl _⟩
theorem qrK{x y:Nat×LObj}:HSub (y::H) (H++[x,y]):=⟨[x],by
 refine(zPc (l₂:=[x,y])).trans ?_
 exact(zRr y x H).trans (zRq y swap1)⟩
theorem get_mid{A B:Type}(g:A->B)(pre:List A)(a:A)(l:List A):((pre++a::l).map g)[((pre.length:Nat):Int).toNat]? = some (g a):=by
 rw[Int.toNat_natCast,List.getElem?_map,List.getElem?_append_right (zNr _),sub_self];rfl
theorem qqD{c:CEnv}{kind:Int}(h:errS c (.mk kind name index value thn els)=0) :
  qbJ (.mk kind name index value thn els)=true/\qba c value=0/\qba c index=0/\(if kind=1 then qb9 c name else if kind=2 then qdB c name else 0)=0/\qbB c thn=0/\qbB c els=0:=by
 rw[errS] at h;split at h;cases h
 rename_i hf
 obtain⟨h1,h⟩:=qac.1 h;obtain⟨h2,h⟩:=qac.1 h;obtain⟨h3,h⟩:=qac.1 h;obtain⟨h4,h5⟩:=qac.1 h;exact⟨by simpa using hf,h1,h2,h3,h4,h5⟩
theorem form_value{kind:Int}(h:qbJ (.mk kind name index value thn els)=true)(h7:¬ kind=7):∃ x,value=[x]:=by
 have h1:value.length=1:=by
  simp only[qbJ] at h
  repeat' (split at h)
  all_goals first
   |(simp only[zDe] at h;omega)
   |cases h
   |contradiction
 cases value with
 |nil=>cases h1
 |cons x l=>
  cases l with
  |nil=>exact⟨x,rfl⟩
  |cons y l=>simp at h1
theorem form_index(h:qbJ (.mk 2 name index value thn els)=true):∃ x,index=[x]:=by
 have h1:index.length=1:=by
  simp only[qbJ] at h;simp only[show ¬ ((2:Int)=1) by decide,if_false,if_true,zDe] at h;exact h.2.1
 cases index with
 |nil=>cases h1
 |cons x l=>
  cases l with
  |nil=>exact⟨x,rfl⟩
  |cons y l=>simp at h1
def unitV:Unit->LV:=λ_=>.tuple []
def retV:Option Nat->LV:=λr=>.tuple [u32 (r.getD 0),bool r.isSome]
@[reducible] def fnV(f:FuncId):LV:=.atom (.func (.func f) #[] #[])
def qkA(db:Nat):KV:=[([43],fnV 60),([45],fnV 61),([42],fnV 62),([47],.atom (.func (.func 63) #[] #[.pointer (some ⟨db,0,none⟩)])),([37],.atom (.func (.func 64) #[] #[.pointer (some ⟨db,0,none⟩)])),
 ([94],fnV 65),([61,61],fnV 66),([33,61],fnV 68),([60],fnV 69),([62],fnV 70),([60,61],fnV 71),([62,61],fnV 72),([38,38],fnV 73),([124,124],fnV 74)]
structure Cfg where
 p:Pr
 rb:Nat
 db:Nat
 om:Nat
 sm:Nat
 am:Nat
 fm:Nat
 oc:Nat
 sc:Nat
 ac:Nat
 fc:Nat
 sb:List (List UInt8×Nat)
 ab:List (List UInt8×Nat×Nat)
 lim:Nat
def scKV(sb:List (List UInt8×Nat)):KV:=sb.map λq=>(q.1,ptr q.2 0)
def arKV(ab:List (List UInt8×Nat×Nat)):KV:=ab.map λq=>(q.1,rowV q.2.1 q.2.2)
def fnKV(fs:List FnD):KV:=fs.map λf=>(f.name,qaM f)
def runC(c:Cfg)(s:IS)(v:LV):List LV:=[.list (c.p.vars.map str),.list (c.p.arrays.map qgC),.list (c.p.funcs.map qaM),.atom (.map (some c.om)),.list (s.inp.map u32),v,int .i64 ((c.lim-s.left:Nat):Int),int .i64 (s.left:Int),.atom (.map (some c.sm)),.atom (.map (some c.am)),.atom (.map (some c.fm))]
def scH(sb:List (List UInt8×Nat))(s:IS):Heap:=sb.map λq=>(q.2,LObj.cells 84 [u32 (s.sc q.1)])
def arH(ab:List (List UInt8×Nat×Nat))(s:IS):Heap:=ab.map λq=>(q.2.1,LObj.cells 84 ((s.ar q.1).map u32))
@[reducible] def divH(db:Nat):Nat×LObj:=(db,.cells 143 [fnV 59])
def stH(c:Cfg)(s:IS)(v:LV)(Ha:Heap):Heap:=(c.rb,.cells 82 (runC c s v))::(c.sm,.map (kvs (scKV c.sb)) c.sc)::(c.am,.map (kvs (arKV c.ab)) c.ac)::(c.fm,.map (kvs (fnKV c.p.funcs)) c.fc)::(c.om,.map (kvs (qkA c.db)) c.oc)::divH c.db::(scH c.sb s++(arH c.ab s++Ha))
def St(c:Cfg)(s:IS)(H:Heap):Prop:=(∀ q∈c.ab,(s.ar q.1).length=q.2.2)/\s.left<=c.lim/\∃ v Ha,Acc 1 v (byts s.out) Ha []/\H=stH c s v Ha
structure CfgOk(c:Cfg):Prop where
 valid:Valid c.p
 nums:∀ f∈c.p.funcs,qbu f.body
 sbk:c.sb.map (·.1)=qaf c.p.vars c.p.funcs
 abk:c.ab.map (·.1)=c.p.arrays.map (·.name)
 small:SmP c.p
 asz:∀ q∈c.ab,q.2.2<=150000
 lim:c.lim<=100000000
 fshort:∀ f∈c.p.funcs,f.name.length<=24
 short:∀ k∈qaf c.p.vars c.p.funcs,k.length<=49
def panI(e:Int):List PanicEntry:=[{ v:=.iface 142 (.agg #[.int .i64 e]),recovered:=false }]
def qky{A:Type}(c:Cfg)(enc:A->LV)(r:IR A)(res:LRes)(H:Heap):Prop:=match r with
 |.ok v s=>res=.ret (enc v)/\St c s H
 |.stop e s=>res=.panic (panI e)/\St c s H
@[reducible] def Same(v:LV)(H:Heap):LRes->Heap->Prop:=λr H'=>r=.ret v/\H'=H
section steps
variable{C:Ctx}{n:Nat}{e:Env}{H:Heap}{dst:Option Nat}{ty:TypeId}{pos:String}{aft:Array Edge}{g:Option (Nat×Bool)}{K:LV->Heap->Prop}{X:List PanicEntry->Heap->Prop}
theorem S.callS{f:FuncId} [TEnter C.P f](args:List Operand){ats:Array TypeId}{av:List LV}{lv:LV}{H1:Heap}(has:args.map e.ev=av)(hp:H.Perm (H1++F))(hc:LCalls C f av H1 (Same lv H1))(hk:K lv (H1++F)) :
  qae C ⟨dst,.call { callee:=.value (.func f),args:=args.toArray,argTypes:=ats },ty,pos,aft,g⟩ e H K X:=
 S.callH args has hp hc (by rintro v H' ⟨h,rfl⟩;cases h;exact hk) (by rintro ch H' ⟨h,_⟩;cases h)
theorem S.callI{A:Type}{c:Cfg}{enc:A->LV}{r:IR A}{f:FuncId} [TEnter C.P f](args:List Operand){ats:Array TypeId}{av:List LV}{H1:Heap}(has:args.map e.ev=av)(hp:H.Perm (H1++F))
  (hc:LCalls C f av H1 (qky c enc r)) (hk:∀ v s H',r=.ok v s->St c s H'->K (enc v) (H'++F)) (hx:∀ er s H',r=.stop er s->St c s H'->X (panI er) (H'++F)) :
  qae C ⟨dst,.call { callee:=.value (.func f),args:=args.toArray,argTypes:=ats },ty,pos,aft,g⟩ e H K X:=by
 refine S.callH args has hp hc ?_ ?_
 ·intro v H' h
  cases hr:r with
  |ok u s=>
   rw[hr] at h;obtain⟨h1,h2⟩:=h;cases h1
   exact hk _ _ _ hr h2
  |stop er s=>
   rw[hr] at h;obtain⟨h1,_⟩:=h;cases h1
 intro ch H' h
 cases hr:r with
 |ok u s=>
  rw[hr] at h;obtain⟨h1,_⟩:=h
  cases h1
 |stop er s=>
  rw[hr] at h;obtain⟨h1,h2⟩:=h;cases h1;exact hx _ _ _ hr h2
theorem retI{A:Type}{c:Cfg}{enc:A->LV}{r:IR A}{v:A}(hd:e.ds=[])(h:qbQ C n e H rs vs)(hr:r=.ok v s)(hv:qbE vs=enc v)(hH:HSub H' H)(hs:St c s H') :
  qad C n rs (qky c enc r) .ret e H:=rR hd h hH (by rw[hr];exact⟨by rw[hv],hs⟩)
theorem retIn{A:Type}{c:Cfg}{enc:A->LV}{r:IR A}{v:A}(hd:e.ds=[])(h:qbQ C n e H rs vs)(hr:r=.ok v s)(hv:qbE vs=enc v)(hH:HSub H' H)(hs:St c s H') :
  qad C n rs (qky c enc r) .normal e H:=rO hd h hH (by rw[hr];exact⟨by rw[hv],hs⟩)
theorem qe9{A:Type}{c:Cfg}{enc:A->LV}{r:IR A}{er:Int}(hd:e.ds=[])(hr:r=.stop er s)(hH:HSub H' H)(hs:St c s H') :
  qad C n rs (qky c enc r) (.panic (panI er)) e H:=qad.panic hd hH (by rw[hr];exact⟨rfl,hs⟩)
theorem retS{lv:LV}{H0:Heap}(hd:e.ds=[])(h:qbQ C n e H rs vs)(hv:qbE vs=lv)(hH:HSub H0 H):qad C n rs (Same lv H0) .ret e H:=
 rR hd h hH ⟨by rw[hv],rfl⟩
end steps
instance:TMap zTp 77 83 (.pointer none) (.atom (.pointer none)):=⟨⟨9,zk,zk⟩,λw=>(Go.zero_of_info (P:=zTp) (n:=1) zk).1 w,λ_ _=>qai⟩
instance:TMap zTp 78 22 (.slice none 0 0) qab:=⟨⟨9,zk,zk⟩,λw=>(Go.zero_of_info (P:=zTp) (n:=1) zk).1 w,λ_ _=>qai⟩
instance:TMap zTp 79 89 (.agg [.string ⟨#[]⟩,.slice none 0 0,.slice none 0 0,.slice none 0 0].toArray) (.agg ([.string ⟨#[]⟩,.slice none 0 0,.slice none 0 0,.slice none 0 0].map .atom)):=⟨⟨9,zk,zk⟩,λw=>(Go.zero_of_info (P:=zTp) (n:=4) zk).1 w,λw L=>qpN w L _⟩
instance:TMap zTp 75 144 .nilFunc (.atom .nilFunc):=⟨⟨9,zk,zk⟩,λw=>(Go.zero_of_info (P:=zTp) (n:=1) zk).1 w,λ_ _=>qai⟩
attribute [local irreducible] LOps qah qae LCalls Go.GL.Pure qaw qam qad LQ LAny qay qal
section
variable{B0:Nat}{w0:World}{H:Heap}
theorem qgR{c:Cfg}(hC:CfgOk c)(hs:St c s H):LCalls (KC B0 w0) 173 [ptr c.rb 0] H (qky c unitV (tick s)):=by
 have hs0:=hs;have hlim:=hC.lim;obtain⟨hl,hle,v,Ha,hacc,rfl⟩:=hs;refine cJ Tryz.func173 (n:=23) ?_;refine gaa ?_;refine oC rfl (λhc=>?_) (λhc=>?_);refine gac ?_;refine oS (qae.panic rfl λe' he'=>?_) rfl;refine gak ?_;have h0:s.left=0:=by have:=zt hc;omega
 exact qe9 (he'.trans rfl) (by rw[tick,zp h0]) zhr hs0;have h0:¬ s.left=0:=by have:=zf hc;omega
 refine gac ?_;have e1:(s.left:Int)-1=((s.left-1:Nat):Int):=by omega
 have e2:((c.lim-s.left:Nat):Int)+1=((c.lim-(s.left-1):Nat):Int):=by omega
 rw[e1,e2];exact retIn rfl rN (v:=()) (s:={ s with left:=s.left-1 }) (by rw[tick,zn h0]) rfl zhr ⟨hl,by show s.left-1<=c.lim;omega,v,Ha,hacc,rfl⟩
theorem qk8(b:Bool):LCalls (KC B0 w0) 67 [bool b] H (Same (u32 (b2n b)) H):=by
 refine cJ Tryz.func67 (n:=4) ?_;refine gag ?_;refine oC rfl (λhc=>?_) (λhc=>?_);refine gaa ?_;exact retS rfl (zra rfl) (by rw[hc];rfl) zhr;refine gaa ?_;exact retS rfl (zra rfl) (by rw[hc];rfl) zhr
end
theorem qeu(n:Int):IntKind.u32.wrap n=n % 4294967296:=by
 simp only[IntKind.wrap,IntKind.bits,IntKind.signed,zRs];rfl
theorem qdC{a:Int}(h:a=b):int .u32 a=u32 b:=by rw[h]
theorem qhN{p q:Prop} [Decidable p] [Decidable q](h:p ↔ q):b2n (decide p)=b2n (decide q):=by rw[decide_eq_decide.2 h]
section
variable{B0:Nat}{w0:World}{H:Heap}{a b:Nat}
theorem qn3(ha:a<4294967296)(hb:b<4294967296):IntKind.u32.wrap ((BitVec.ofInt IntKind.u32.bits a ^^^ BitVec.ofInt IntKind.u32.bits b).toNat:Nat)=((a ^^^ b:Nat):Int):=by
 rw[qeu,BitVec.toNat_xor]
 have h1:∀ n:Nat,n<4294967296->(BitVec.ofInt IntKind.u32.bits (n:Int)).toNat=n:=λn hn=>by
  rw[BitVec.ofInt_natCast,BitVec.toNat_ofNat];exact Nat.mod_eq_of_lt hn
 rw[h1 a ha,h1 b hb];have:a ^^^ b<4294967296:=Nat.xor_lt_two_pow (n:=32) ha hb;omega
theorem qtM(ha:a<4294967296)(hb:b<4294967296):LCalls (KC B0 w0) 60 [u32 a,u32 b] H (Same (u32 ((a+b) % 4294967296)) H):=by
 refine cJ Tryz.func60 (n:=8) ?_;refine gag ?_;refine oP (Pure.addW rfl rfl) rfl<|gaf ?_;exact retS rfl (zra rfl) (qdC (by rw[qeu];omega)) zhr
theorem quD(ha:a<4294967296)(hb:b<4294967296):LCalls (KC B0 w0) 61 [u32 a,u32 b] H (Same (u32 ((a+4294967296-b) % 4294967296)) H):=by
 refine cJ Tryz.func61 (n:=8) ?_;refine gag ?_;refine oP (Pure.subW rfl rfl) rfl<|gaf ?_;exact retS rfl (zra rfl) (qdC (by rw[qeu];omega)) zhr
theorem quW(ha:a<4294967296)(hb:b<4294967296):LCalls (KC B0 w0) 62 [u32 a,u32 b] H (Same (u32 (a * b % 4294967296)) H):=by
 refine cJ Tryz.func62 (n:=8) ?_;refine gag ?_;refine oP (Pure.mulW rfl rfl) rfl<|gaf ?_;exact retS rfl (zra rfl) (qdC (by rw[qeu,<-Int.natCast_mul];generalize a * b=q;omega)) zhr
theorem quY(ha:a<4294967296)(hb:b<4294967296):LCalls (KC B0 w0) 65 [u32 a,u32 b] H (Same (u32 (a ^^^ b)) H):=by
 refine cJ Tryz.func65 (n:=8) ?_;refine gag ?_;refine oP (Pure.xorW rfl rfl) rfl<|gaf ?_;exact retS rfl (zra rfl) (qdC (qn3 ha hb)) zhr
theorem qtX:LCalls (KC B0 w0) 66 [u32 a,u32 b] H (Same (u32 (b2n (decide (a=b)))) H):=by
 refine cJ Tryz.func66 (n:=9) ?_;refine gaa ?_;refine zQ13 ?_;rw[zLz];refine gaf ?_;exact retS rfl (zra rfl) (congrArg u32 (qhN zo)) zhr
theorem qvT:b2n (!decide ((a:Int)=b))=b2n (decide (a≠b)):=by
 by_cases h:a=b
 simp[h,b2n];have:¬ (a:Int)=b:=by omega
 simp[h,this,b2n]
theorem qtL:LCalls (KC B0 w0) 68 [u32 a,u32 b] H (Same (u32 (b2n (decide (a≠b)))) H):=by
 refine cJ Tryz.func68 (n:=9) ?_;refine gac ?_;refine zQ13 ?_;rw[zLz];refine gaf ?_;exact retS rfl (zra rfl) (congrArg u32 (qvT)) zhr
theorem qtv:LCalls (KC B0 w0) 69 [u32 a,u32 b] H (Same (u32 (b2n (decide (a<b)))) H):=by
 refine cJ Tryz.func69 (n:=9) ?_;refine gaa ?_;refine zQ13 ?_;rw[zLz];refine gaf ?_;exact retS rfl (zra rfl) (congrArg u32 (qhN zo)) zhr
theorem qrd:LCalls (KC B0 w0) 70 [u32 a,u32 b] H (Same (u32 (b2n (decide (b<a)))) H):=by
 refine cJ Tryz.func70 (n:=9) ?_;refine gac ?_;refine zQ13 ?_;rw[zLz];refine gaf ?_;exact retS rfl (zra rfl) (congrArg u32 (qhN zo)) zhr
theorem qsE:LCalls (KC B0 w0) 71 [u32 a,u32 b] H (Same (u32 (b2n (decide (a<=b)))) H):=by
 refine cJ Tryz.func71 (n:=9) ?_;refine gac ?_;refine zQ13 ?_;rw[zLz];refine gaf ?_;exact retS rfl (zra rfl) (congrArg u32 (qhN zo)) zhr
theorem qrx:LCalls (KC B0 w0) 72 [u32 a,u32 b] H (Same (u32 (b2n (decide (b<=a)))) H):=by
 refine cJ Tryz.func72 (n:=9) ?_;refine gac ?_;refine zQ13 ?_;rw[zLz];refine gaf ?_;exact retS rfl (zra rfl) (congrArg u32 (qhN zo)) zhr
theorem qrn:LCalls (KC B0 w0) 73 [u32 a,u32 b] H (Same (u32 (b2n (decide (a≠0/\b≠0)))) H):=by
 refine cJ Tryz.func73 (n:=12) ?_;refine gac ?_;refine oB 7 rfl (λht=>?_) (λht=>?_)
 have h1:a≠0:=by
  intro h;rw[h] at ht;exact absurd ht zDd
 refine gad ?_;refine zQ13 ?_;rw[zLz];refine gaf ?_;exact retS rfl (zra rfl) (congrArg u32 (by simp[b2n,h1])) zhr
 have h1:a=0:=by
  have:(a:Int)=0:=by simpa using ht
  omega
 refine gab ?_;refine zQ13 ?_;rw[zLz];refine gaf ?_;exact retS rfl (zra rfl) (congrArg u32 (by simp[b2n,h1])) zhr
theorem qsk:LCalls (KC B0 w0) 74 [u32 a,u32 b] H (Same (u32 (b2n (decide (a≠0∨b≠0)))) H):=by
 refine cJ Tryz.func74 (n:=12) ?_;refine gac ?_;refine oB 7 rfl (λht=>?_) (λht=>?_)
 have h1:a≠0:=by
  intro h;rw[h] at ht;exact absurd ht zDd
 refine gab ?_;refine zQ13 ?_;rw[zLz];refine gaf ?_;exact retS rfl (zra rfl) (congrArg u32 (by simp[b2n,h1])) zhr
 have h1:a=0:=by
  have:(a:Int)=0:=by simpa using ht
  omega
 refine gad ?_;refine zQ13 ?_;rw[zLz];refine gaf ?_;exact retS rfl (zra rfl) (congrArg u32 (by simp[b2n,h1])) zhr
theorem qfB:LCalls (KC B0 w0) 59 [u32 b] H (λr H'=>H'=H/\r=if b=0 then .panic (panI 12) else .ret (u32 b)):=by
 refine cJ Tryz.func59 (n:=8) ?_;refine gaa ?_;refine oC rfl (λhc=>?_) (λhc=>?_);have h0:b=0:=by have:=zt hc;omega
 refine gac ?_;refine oS (qae.panic rfl λe' he'=>?_) rfl;refine gak ?_;exact qad.panic (he'.trans rfl) zhr ⟨rfl,by rw[zp h0];rfl⟩;have h0:¬ b=0:=by have:=zf hc;omega
 refine gaa ?_;exact rR rfl (zra rfl) zhr ⟨rfl,by rw[zn h0];rfl⟩
theorem qtN(ha:a<4294967296):LCalls (KC B0 w0) 63 [u32 a,u32 b,ptr db 0] [divH db] (λr H'=>H'=[divH db]/\r=if b=0 then .panic (panI 12) else .ret (u32 (a / b))):=by
 refine cJ Tryz.func63 (n:=11) ?_;refine gaa ?_
 by_cases h0:b=0
 exact zT18;refine oS (S.callV (f:=59) (first:=#[]) (caps:=#[]) (H1:=[divH db]) (F:=[]) [_] rfl rfl (by simp) qfB ?_ ?_) rfl;rintro v H' ⟨rfl,h⟩;rw[zn h0] at h;cases h;refine oP (Pure.quoW rfl rfl zo) rfl<|zQ55 ?_;rw[zn h0];exact congrArg LRes.ret (qdC (by rw[qeu,Int.tdiv_eq_ediv_of_nonneg zo,<-Int.natCast_ediv];have hq:a / b<4294967296:=Nat.lt_of_le_of_lt (Nat.div_le_self a b) ha;generalize a / b=q at hq ⊢;omega));rintro ch H' ⟨rfl,h⟩;rw[zn h0] at h;cases h
theorem qtZ(ha:a<4294967296):LCalls (KC B0 w0) 64 [u32 a,u32 b,ptr db 0] [divH db] (λr H'=>H'=[divH db]/\r=if b=0 then .panic (panI 12) else .ret (u32 (a % b))):=by
 refine cJ Tryz.func64 (n:=11) ?_;refine gaa ?_
 by_cases h0:b=0
 exact zT18;refine oS (S.callV (f:=59) (first:=#[]) (caps:=#[]) (H1:=[divH db]) (F:=[]) [_] rfl rfl (by simp) qfB ?_ ?_) rfl;rintro v H' ⟨rfl,h⟩;rw[zn h0] at h;cases h;refine oP (Pure.remW rfl rfl zo) rfl<|zQ55 ?_;rw[zn h0];exact congrArg LRes.ret (qdC (by rw[Int.tmod_eq_emod_of_nonneg zo,<-Int.natCast_emod]));rintro ch H' ⟨rfl,h⟩;rw[zn h0] at h;cases h
def resB(o:Option Nat):LRes:=match o with
 |some v=>.ret (u32 v)
 |none=>.panic (panI 12)
theorem qqx{op:List UInt8}(hop:op∈qc4)(ha:a<4294967296)(hb:b<4294967296):∃ (f:FuncId) (caps:Array Value),GL.kvGet (qkA db) op=some (.atom (.func (.func f) #[] caps))/\TEnter Tryz.prog f /\
  LCalls (KC B0 w0) f ([u32 a,u32 b]++caps.toList.map .atom) [divH db] (λr H'=>H'=[divH db]/\r=resB (binI op a b)):=by
 simp only[qc4,zMi,not_mem_nil,or_false] at hop;rcases hop with rfl|rfl|rfl|rfl|rfl|rfl|rfl|rfl|rfl|rfl|rfl|rfl|rfl|rfl;exact⟨74,#[],rfl,inferInstance,LCalls.mono (qsk) λr H' ⟨h1,h2⟩=>⟨h2,h1⟩⟩;exact⟨73,#[],rfl,inferInstance,LCalls.mono (qrn) λr H' ⟨h1,h2⟩=>⟨h2,h1⟩⟩;exact⟨66,#[],rfl,inferInstance,LCalls.mono (qtX) λr H' ⟨h1,h2⟩=>⟨h2,h1⟩⟩;exact⟨68,#[],rfl,inferInstance,LCalls.mono (qtL) λr H' ⟨h1,h2⟩=>⟨h2,h1⟩⟩;exact⟨69,#[],rfl,inferInstance,LCalls.mono (qtv) λr H' ⟨h1,h2⟩=>⟨h2,h1⟩⟩;exact⟨70,#[],rfl,inferInstance,LCalls.mono (qrd) λr H' ⟨h1,h2⟩=>⟨h2,h1⟩⟩;exact⟨71,#[],rfl,inferInstance,LCalls.mono (qsE) λr H' ⟨h1,h2⟩=>⟨h2,h1⟩⟩;exact⟨72,#[],rfl,inferInstance,LCalls.mono (qrx) λr H' ⟨h1,h2⟩=>⟨h2,h1⟩⟩;exact⟨65,#[],rfl,inferInstance,LCalls.mono (quY ha hb) λr H' ⟨h1,h2⟩=>⟨h2,h1⟩⟩;exact⟨60,#[],rfl,inferInstance,LCalls.mono (qtM ha hb) λr H' ⟨h1,h2⟩=>⟨h2,h1⟩⟩;exact⟨61,#[],rfl,inferInstance,LCalls.mono (quD ha hb) λr H' ⟨h1,h2⟩=>⟨h2,h1⟩⟩;exact⟨62,#[],rfl,inferInstance,LCalls.mono (quW ha hb) λr H' ⟨h1,h2⟩=>⟨h2,h1⟩⟩;refine⟨63,#[.pointer (some ⟨db,0,none⟩)],rfl,inferInstance,LCalls.mono (qtN ha) λr H' ⟨h1,h2⟩=>⟨h1,h2.trans ?_⟩⟩
 by_cases h0:b=0
 rw[zp h0,h0];rfl;rw[zn h0];show _=resB (if b=0 then none else _);rw[zn h0];rfl;refine⟨64,#[.pointer (some ⟨db,0,none⟩)],rfl,inferInstance,LCalls.mono (qtZ ha) λr H' ⟨h1,h2⟩=>⟨h1,h2.trans ?_⟩⟩
 by_cases h0:b=0
 rw[zp h0,h0];rfl;rw[zn h0];show _=resB (if b=0 then none else _);rw[zn h0];rfl
end
theorem CfgOk.keys{c:Cfg}(hC:CfgOk c):(c.sb.map (·.1)).Nodup:=by rw[hC.sbk];exact hC.valid.keys
theorem CfgOk.block{c:Cfg}(hC:CfgOk c)(hk:k∈qaf c.p.vars c.p.funcs):∃ b,(k,b)∈c.sb/\GL.kvGet (scKV c.sb) k=some (ptr b 0):=by
 rw[<-hC.sbk] at hk;obtain⟨⟨k',b⟩,h1,rfl⟩:=zRf hk;exact⟨b,h1,qoZ (A:=List UInt8×Nat) (·.1) (λq=>ptr q.2 0) hC.keys h1⟩
theorem CfgOk.miss{c:Cfg}(hC:CfgOk c)(hk:k ∉ qaf c.p.vars c.p.funcs):GL.kvGet (scKV c.sb) k=none:=by
 rw[<-hC.sbk] at hk;exact qsl (A:=List UInt8×Nat) (·.1) (λq=>ptr q.2 0) hk
theorem CfgOk.akeys{c:Cfg}(hC:CfgOk c):(c.ab.map (·.1)).Nodup:=by
 rw[hC.abk];exact(zRc (zRc (qaP _ _ hC.valid.names).1).1).2.1
theorem CfgOk.arr{c:Cfg}(hC:CfgOk c)(hk:k∈c.p.arrays.map (·.name)):∃ b n,(k,b,n)∈c.ab/\GL.kvGet (arKV c.ab) k=some (rowV b n):=by
 rw[<-hC.abk] at hk;obtain⟨⟨k',b,n⟩,h1,rfl⟩:=zRf hk;exact⟨b,n,h1,qoZ (A:=List UInt8×Nat×Nat) (·.1) (λq=>rowV q.2.1 q.2.2) hC.akeys h1⟩
section
variable{B0:Nat}{w0:World}{H:Heap}
theorem qbT{c:Cfg}(hC:CfgOk c)(hs:St c s H){f:FnD}(hf:f∈c.p.funcs)(hk:keyI f name∈qaf c.p.vars c.p.funcs)(hb:GL.kvGet (scKV c.sb) (keyI f name)=some (ptr b 0)) :
  LCalls (KC B0 w0) 175 [ptr c.rb 0,qaM f,str name] H (Same (ptr b 0) H):=by
 have hke:=qvC hC.valid.names hf name;have hfl:=hC.fshort f hf;have hnl:=qrH hC.short hk;obtain⟨hl,hle,v,Ha,hacc,rfl⟩:=hs;refine cJ Tryz.func175 (n:=30) ?_;refine gai ?_;refine oS (sB rfl λb4=>?_) rfl;refine gab ?_;refine zQ33 ?_
 by_cases hin:f.name++[46]++name∈qaf c.p.vars c.p.funcs
 rw[zp hin] at hke;rw[<-hke] at hb;refine qP (Pure.kvHit2 rfl rfl zm2 hb) rfl ?_;refine gac ?_;refine oC rfl (λhc=>?_) (λhc=>?_);refine gaa ?_;exact retS rfl (zra rfl) rfl (zhD zhr);cases hc;rw[zn hin] at hke;rw[<-hke] at hb;refine qP (Pure.kvMiss2 rfl rfl zm2 (hC.miss hin)) rfl ?_;refine gac ?_;refine oC rfl (λhc=>?_) (λhc=>?_);cases hc;refine gac ?_;refine oP (Pure.kvHit rfl rfl zm2 hb) rfl<|gaf ?_;exact retS rfl (zra rfl) rfl (zhD zhr)
theorem qln{n:Nat}(h:n<18446744073709551616):IntKind.u64.wrap (n:Int)=n:=by
 have:IntKind.u64.wrap (n:Int)=(n:Int) % 18446744073709551616:=by
  simp only[IntKind.wrap,IntKind.bits,IntKind.signed,zRs];rfl
 rw[this];omega
theorem qfL{c:Cfg}(hC:CfgOk c)(hs:St c s H){n i:Nat}(hb:(name,b,n)∈c.ab)(hg:GL.kvGet (arKV c.ab) name=some (rowV b n))(hi:i<4294967296) :
  LCalls (KC B0 w0) 176 [ptr c.rb 0,str name,u32 i] H (λr H'=>H'=H/\r=if i<n then .ret (ptr b i) else .panic (panI 2)):=by
 have hn:=hC.asz _ hb;simp only at hn;obtain⟨hl,hle,v,Ha,hacc,rfl⟩:=hs;refine cJ Tryz.func176 (n:=25) ?_;refine gaa ?_;refine oP (Pure.kvHit rfl rfl zm2 hg) rfl<|gac ?_;refine oP (Pure.rowLen rfl) rfl<|gad ?_;have e1:=qln (n:=i) zo;have e2:=qln (n:=n) zo;refine oC rfl (λhc=>?_) (λhc=>?_)
 have h0:¬ i<n:=by
  have:=zt hc;rw[e1,e2] at this;omega
 refine gac ?_;refine oS (qae.panic rfl λe' he'=>?_) rfl;refine gak ?_;exact qad.panic (he'.trans rfl) zhr ⟨rfl,by rw[zn h0];rfl⟩
 have h0:i<n:=by
  have:=zf hc;rw[e1,e2] at this;omega
 refine gaa ?_;refine oP (Pure.indexRow rfl rfl zo zo) rfl<|zQ55 ?_;rw[zp h0];show LRes.ret (ptr b (0+(i:Int).toNat * 1))=_;rw[Int.toNat_natCast,Nat.mul_one,Nat.zero_add]
end
end Go.Proofs.YtegmklafpoldgaaGreatDoor.Inp
namespace Go.Proofs.YtegmklafpoldgaaGreatDoor.Inp
open Go.GL Go.RowKit Go.Stele
variable{H X:Heap}{b m n:Nat}{f:FnD}{k:List UInt8}{s s':IS}
theorem qwW{sb:List (List UInt8×Nat)}(s:IS):(sb.map (·.1)).Nodup->(k,b)∈sb->∃ F,(scH sb s).Perm ((b,.cells 84 [u32 (s.sc k)])::F)/\∀ x,(scH sb (qed s k x)).Perm ((b,.cells 84 [u32 x])::F):=by
 induction sb with
 |nil=>intro _ h;cases h
 |cons q l ih=>
  intro hn h;rw[zMc,nodup_cons] at hn
  have same:∀ (l:List (List UInt8×Nat)) x,k ∉ l.map (·.1)->scH l (qed s k x)=scH l s:=λl x hk=>by
   unfold scH;refine List.map_congr_left λp hp=>?_;show(p.2,LObj.cells 84 [u32 (if p.1=k then x else s.sc p.1)])=_;rw[zn (λhe=>hk (by rw[<-he];exact mem_map_of_mem hp))]
  rcases zMi.1 h with rfl|h;refine⟨scH l s,List.Perm.refl _,λx=>?_⟩;show List.Perm ((b,LObj.cells 84 [u32 (if k=k then x else s.sc k)])::scH l (qed s k x)) _;rw[zp rfl,same l x hn.1];obtain⟨F,h1,h2⟩:=ih hn.2 h;have hne:¬ q.1=k:=λhe=>hn.1 (by rw[he];exact mem_map_of_mem h);refine⟨(q.2,.cells 84 [u32 (s.sc q.1)])::F,(zRq _ h1).trans (zRr _ _ _),λx=>?_⟩;show List.Perm ((q.2,LObj.cells 84 [u32 (if q.1=k then x else s.sc q.1)])::scH l (qed s k x)) _;rw[zn hne];exact(zRq _ (h2 x)).trans (zRr _ _ _)
def hdH(c:Cfg)(s:IS)(v:LV):Heap:=[(c.rb,.cells 82 (runC c s v)),(c.sm,.map (kvs (scKV c.sb)) c.sc),(c.am,.map (kvs (arKV c.ab)) c.ac),(c.fm,.map (kvs (fnKV c.p.funcs)) c.fc),(c.om,.map (kvs (qkA c.db)) c.oc),divH c.db]
theorem qto(c:Cfg)(s:IS)(v:LV)(Ha:Heap):stH c s v Ha=hdH c s v++(scH c.sb s++(arH c.ab s++Ha)):=rfl
theorem qsQ{A B:Type}:∀ (L:List (A×B)),(L.map (·.1)).Nodup->∀ {x y:A×B},x∈L->y∈L->x.1=y.1->x=y
 |[],_,x,y,hx,_,_=>by cases hx
 |z::L,hn,x,y,hx,hy,he=>by
  rw[zMc,nodup_cons] at hn;rcases zMi.1 hx with hx1|hx1;rcases zMi.1 hy with hy1|hy1;rw[hx1,hy1];exact absurd (by rw[<-hx1,he];exact mem_map_of_mem (f:=Prod.fst) hy1) hn.1;rcases zMi.1 hy with hy1|hy1;exact absurd (by rw[<-hy1,<-he];exact mem_map_of_mem (f:=Prod.fst) hx1) hn.1;exact qsQ L hn.2 hx1 hy1 he
def qqk(s:IS)(name:List UInt8)(l:List Nat):IS:={ s with ar:=λx=>if x=name then l else s.ar x }
theorem qvM{ab:List (List UInt8×Nat×Nat)}(s:IS):(ab.map (·.1)).Nodup->(k,b,n)∈ab->∃ F,(arH ab s).Perm ((b,.cells 84 ((s.ar k).map u32))::F)/\∀ l,(arH ab (qqk s k l)).Perm ((b,.cells 84 (l.map u32))::F):=by
 induction ab with
 |nil=>intro _ h;cases h
 |cons q r ih=>
  intro hn h;rw[zMc,nodup_cons] at hn
  have same:∀ (r:List (List UInt8×Nat×Nat)) l,k ∉ r.map (·.1)->arH r (qqk s k l)=arH r s:=λr l hk=>by
   unfold arH;refine List.map_congr_left λp hp=>?_;show(p.2.1,LObj.cells 84 ((if p.1=k then l else s.ar p.1).map u32))=_;rw[zn (λhe=>hk (by rw[<-he];exact mem_map_of_mem hp))]
  rcases zMi.1 h with rfl|h;refine⟨arH r s,List.Perm.refl _,λl=>?_⟩;show List.Perm ((b,LObj.cells 84 ((if k=k then l else s.ar k).map u32))::arH r (qqk s k l)) _;rw[zp rfl,same r l hn.1];obtain⟨F,h1,h2⟩:=ih hn.2 h;have hne:¬ q.1=k:=λhe=>hn.1 (by rw[he];exact mem_map_of_mem (f:=Prod.fst) h);refine⟨(q.2.1,.cells 84 ((s.ar q.1).map u32))::F,(zRq _ h1).trans (zRr _ _ _),λl=>?_⟩;show List.Perm ((q.2.1,LObj.cells 84 ((if q.1=k then l else s.ar q.1).map u32))::arH r (qqk s k l)) _;rw[zn hne];exact(zRq _ (h2 l)).trans (zRr _ _ _)
theorem qwi{c:Cfg}(hC:CfgOk c)(hb:(k,b)∈c.sb)(hs:St c s H) :
  ∃ G,H.Perm ((b,.cells 84 [u32 (s.sc k)])::G)/\∀ x,∃ H',St c (qed s k x) H'/\List.Perm ((b,.cells 84 [u32 x])::G) H':=by
 obtain⟨hl,hle,v,Ha,hacc,rfl⟩:=hs;obtain⟨F,h1,h2⟩:=qwW s hC.keys hb;have key:∀ (X S R:Heap) (p:Nat×LObj),S.Perm (p::F)->List.Perm (X++(S++R)) (p::(X++(F++R))):=λX S R p h=>((h.append_right R).append_left X).trans perm_middle;refine⟨_,key (hdH c s v) _ _ _ h1,λx=>⟨stH c (qed s k x) v Ha,⟨hl,hle,v,Ha,hacc,rfl⟩,(key (hdH c s v) _ _ _ (h2 x)).symm⟩⟩
theorem qxX{c:Cfg}(hC:CfgOk c)(hb:(k,b,n)∈c.ab)(hs:St c s H) :
  (s.ar k).length=n/\∃ G,H.Perm ((b,.cells 84 ((s.ar k).map u32))::G)/\∀ l,l.length=n->∃ H',St c (qqk s k l) H'/\List.Perm ((b,.cells 84 (l.map u32))::G) H':=by
 obtain⟨hl,hle,v,Ha,hacc,rfl⟩:=hs;have hn:=hl _ hb;simp only at hn;refine⟨hn,?_⟩;obtain⟨F,h1,h2⟩:=qvM s hC.akeys hb;have key:∀ (X S R:Heap) (p:Nat×LObj),S.Perm (p::F)->List.Perm (X++(S++R)) (p::(X++(F++R))):=λX S R p h=>((h.append_right R).append_left X).trans perm_middle;have asc:∀ (X S A R:Heap),X++(S++(A++R))=(X++S)++(A++R):=λX S A R=>(zAs X S _).symm;refine⟨(hdH c s v++scH c.sb s)++(F++Ha),?_,λl hln=>⟨stH c (qqk s k l) v Ha,⟨λq hq=>?_,hle,v,Ha,hacc,rfl⟩,?_⟩⟩;have:=key (hdH c s v++scH c.sb s) _ Ha _ h1;rw[<-asc] at this;exact this;show((if q.1=k then l else s.ar q.1)).length=q.2.2;split
 rename_i he
 have:q=(k,b,n):=by
  have h3:=hC.akeys;exact qsQ c.ab h3 hq hb he
 rw[this];exact hln;exact hl q hq;have:=key (hdH c s v++scH c.sb s) _ Ha _ (h2 l);rw[<-asc] at this;exact this.symm
theorem qvN{p:Nat×LObj}{G:Heap}(h:H.Perm (p::G)):Pick p (X++H) (X++G):=(h.append_left X).trans perm_middle
theorem qwG{p:Nat×LObj}{G:Heap}(h:List.Perm (p::G) H):List.Perm (p::(X++G)) (X++H):=List.perm_middle.symm.trans (h.append_left X)
theorem qhd:∀ (cs:List LV) (i:Nat) (v:LV),i<cs.length->setL cs i [v]=cs.set i v:=λcs i v h=>by
 rw[qj5 cs i [v] (by simp;omega),List.set_eq_take_append_cons_drop];rw[zp h]
 simp
def Good(c:Cfg)(n:Nat)(s:IS):Prop:=Bnd s/\s.left<=n/\s.out.length+s.left<=c.lim
theorem qlx{c:Cfg}(hC:CfgOk c){x:Ex}{v:Nat}(hx:numE x)(hg:Good c m s)(h:evI c.p n f x s=.ok v s'):Good c m s'/\v<4294967296/\s'.left<s.left:=by
 have h1:=(qoX hC.nums n).1 f x s hx hg.1;have h2:=(qj0 c.p n).1 f x s;have h3:=qvR c.p n f x s s' v h;rw[h] at h1 h2;unfold Few at h2;simp only[IR.st] at h2;exact⟨⟨h1.2,zNt (Nat.le_of_lt h3) hg.2.1,by have:=hg.2.2;omega⟩,h1.1,h3⟩
theorem qe6{c:Cfg}(hC:CfgOk c){x:Sm}{r:Option Nat}(hx:numS x)(hg:Good c m s)(h:stI c.p n f x s=.ok r s'):Good c m s'/\qcA r:=by
 have h1:=(qoX hC.nums n).2 f x s hx hg.1;have h2:=(qj0 c.p n).2 f x s;have h3:=((qgf c.p n).2 f x s).2;rw[h] at h1 h2 h3;unfold Few at h2;simp only[IR.st] at h2 h3;exact⟨⟨h1.2,zNt h3 hg.2.1,by have:=hg.2.2;omega⟩,h1.1⟩
theorem quC{c:Cfg}(hC:CfgOk c){l:List Sm}{r:Option Nat}(hx:qbu l)(hg:Good c m s)(h:blkR (stI c.p n f) l s=.ok r s'):Good c m s'/\qcA r:=by
 have h1:=qhX l s (λa ha s hs=>(qoX hC.nums n).2 f a s (qeA hx ha) hs) hg.1;have h2:=qf9 ((qj0 c.p n).2 f) l s;have h3:=(qd5 ((qgf c.p n).2 f) l s).2;rw[h] at h1 h2 h3;unfold Few at h2;simp only[IR.st] at h2 h3;exact⟨⟨h1.2,zNt h3 hg.2.1,by have:=hg.2.2;omega⟩,h1.1⟩
theorem qrT{A B:Type}(g:A->IS->IR Nat)(a:A)(l:List A)(s:IS)(F:List Nat->IS->IR B):(mapR g (a::l) s).bind F=(g a s).bind λv s=>(mapR g l s).bind λvs s=>F (v::vs) s:=by
 rw[mapR]
 cases g a s with
 |stop e s=>rfl
 |ok v s=>
  show((mapR g l s).bind _).bind F=_
  cases hm:mapR g l s with
  |stop e s=>show _=(mapR g l _).bind _;rw[hm];rfl
  |ok vs s=>show _=(mapR g l _).bind _;rw[hm];rfl
abbrev cenv(c:Cfg)(kn:List FSum)(f:FnD):CEnv:=envF c.p.vars (c.p.arrays.map (·.name)) (c.p.funcs.map (·.name)) kn f
def qrE(B0:Nat)(w0:World)(c:Cfg)(n:Nat):Prop:=∀ (f:FnD) (kn:List FSum) (x:Ex) (s:IS) (H:Heap),f∈c.p.funcs->qiN c.p.funcs kn->errE (cenv c kn f) x=0->numE x->smE x->Good c n s->St c s H ->
 LCalls (KC B0 w0) 174 [ptr c.rb 0,qaM f,encE x] H (qky c u32 (evI c.p n f x s))
def qui(B0:Nat)(w0:World)(c:Cfg)(n:Nat):Prop:=∀ (f:FnD) (kn:List FSum) (x:Sm) (s:IS) (H:Heap),f∈c.p.funcs->qiN c.p.funcs kn->errS (cenv c kn f) x=0->numS x->smS x->Good c n s->St c s H ->
 LCalls (KC B0 w0) 130 [ptr c.rb 0,qaM f,encS x] H (qky c retV (stI c.p n f x s))
def BlkH(B0:Nat)(w0:World)(c:Cfg)(n:Nat):Prop:=∀ (f:FnD) (kn:List FSum) (l:List Sm) (s:IS) (H:Heap),f∈c.p.funcs->qiN c.p.funcs kn->qbB (cenv c kn f) l=0->qbu l->Few6 l.length->smSs l->Good c n s->St c s H ->
 LCalls (KC B0 w0) 76 [ptr c.rb 0,qaM f,.list (l.map encS)] H (qky c retV (blkR (stI c.p n f) l s))
attribute [local irreducible] LOps qah qae LCalls Go.GL.Pure qaw qam qad LQ LAny qay qal
section
variable{B0:Nat}{w0:World}
theorem qc9{c:Cfg}(hC:CfgOk c)(hX:qui B0 w0 c n):BlkH B0 w0 c n:=by
 intro f kn l s H hf hk hv hnum hlen6 hsm hg hs;refine cJ Tryz.func76 (n:=28) ?_;refine gai ?_;refine oS (sB rfl λb4=>?_) rfl;refine gaa ?_
 refine oL (λk ls H'=>∃ (pre l1:List Sm) (s1:IS) (Hs:Heap),l=pre++l1/\k=l1.length/\ls=[(0,ptr c.rb 0),(4,ptr b4 0),(12,.list (l.map encS)),(13,int .i64 ((l.map encS).length:Int)),(14,int .i64 (pre.length:Int))]/\H'=(b4,.cells 89 [str f.name,.list (f.params.map str),.list (f.locals.map str),.list (f.body.map encS)])::Hs/\St c s1 Hs/\Good c n s1/\qbB (cenv c kn f) l1=0/\qbu l1/\smSs l1/\blkR (stI c.p n f) l s=blkR (stI c.p n f) l1 s1)
  ⟨l.length,_,_,⟨[],l,s,H,rfl,rfl,rfl,rfl,hs,hg,hv,hnum,hsm,rfl⟩,⟨rfl,rfl,rfl,rfl,rfl,trivial⟩,zhR _⟩ ?_
 rintro k ls H' ⟨pre,l1,s1,Hs,hl,rfl,rfl,rfl,hs1,hg1,hv1,hn1,hm1,hI⟩ j hj
 have hl6:pre.length<=2000000:=by
  have h6:l.length<=2000000:=hlen6;rw[hl,zLa] at h6;omega
 refine gaj ?_;refine oC rfl (λhc=>?_) (λhc=>?_);have hlen:=zt hc;rw[zLm,hl,zLa] at hlen
 obtain⟨a,l2,rfl⟩:∃ a l2,l1=a::l2:=by
  cases l1 with
  |nil=>simp at hlen
  |cons a l2=>exact⟨a,l2,rfl⟩
 rw[qbB] at hv1;obtain⟨hva,hvl⟩:=qac.1 hv1;rw[blkR] at hI;refine gal ?_;refine oP (xR (el':=encS a) (cs:=[_,_,_,_,_,_]) rfl rfl zo (by rw[hl];exact get_mid encS pre a l2) rfl rfl) rfl<|gad ?_;refine oS (sA λb9=>?_) rfl;refine gac ?_;refine oS (S.callI [_,_,_] rfl qd1 (hX f kn a s1 Hs hf hk hva hn1.1 hm1.1 hg1 hs1) (λr s2 H2 hr hs2=>?_) (λer s2 H2 hr hs2 e' he'=>?_)) rfl;obtain⟨hg2,_⟩:=qe6 hC hn1.1 hg1 hr;rw[hr] at hI
 cases r with
 |none=>
  refine gaa ?_;refine oC rfl (λhd=>?_) (λhd=>?_);cases hd;refine gaa ?_
  exact⟨l2.length,_,_,lt_succ_self _,⟨pre++[a],l2,s2,H2,by rw[hl];simp,rfl,rfl,rfl,hs2,hg2,hvl,hn1.2,hm1.2,hI⟩,⟨rfl,rfl,rfl,rfl,qao (by simp),trivial⟩,qrK,hj⟩
 |some v=>
  refine gaa ?_;refine oC rfl (λhd=>?_) (λhd=>?_);refine gaa ?_;exact retI (v:=some v) hj (rC (zrt rfl) (zra rfl)) hI rfl qaA hs2;cases hd
 refine gae ?_;rw[hr] at hI;exact qe9 (he'.trans hj) hI qaA hs2;have hlen:=zf hc;rw[zLm,hl,zLa] at hlen
 obtain rfl:l1=[]:=by
  cases l1 with
  |nil=>rfl
  |cons a l2=>simp at hlen;omega
 refine gaa ?_;exact retI (v:=none) hj (rC (zrt rfl) (zra rfl)) (hI.trans rfl) rfl (zhD zhr) hs1
end
theorem qes{A B:Type}{v:A}{f:A->IS->IR B}:(IR.ok v s).bind f=f v s:=rfl
theorem qbZ{A B:Type}{e:Int}{f:A->IS->IR B}:(IR.stop e s).bind f=.stop e s:=rfl
theorem quM{P:Pr}{v:Nat}{x:Ex}{thn:List Sm}{s:IS}(hm:s.left<=m)(hv:¬ v=0):whlR (evI P n f x) (blkR (stI P n f) thn) m v s=(blkR (stI P n f) thn s).bind λr s=>match r with
  |some y=>.ok (some y) s
  |none=>(evI P n f x s).bind λv s=>whlR (evI P n f x) (blkR (stI P n f) thn) (m-1) v s:=by
 cases m with
 |succ m=>rw[whlR,zn hv];rfl
 |zero=>
  have h0:s.left=0:=by omega
  have ht:tick s=.stop 13 s:=by rw[tick,zp h0]
  have he:evI P n f x s=.stop 13 s:=by
   cases n with
   |zero=>rw[evI]
   |succ n=>
    obtain⟨op,num,name,args⟩:=x;rw[evI,ht,qbZ]
  rw[whlR,zn hv]
  cases thn with
  |nil=>
   rw[blkR,qes];show _=(evI P n f x s).bind _
   rw[he,qbZ]
  |cons a l=>
   have hs:stI P n f a s=.stop 13 s:=by
    cases n with
    |zero=>rw[stI]
    |succ n=>
     obtain⟨k,nm,i,va,t,e⟩:=a;rw[stI,ht,qbZ]
   rw[blkR,hs,qbZ,qbZ]
section steps
variable{C:Ctx}{n:Nat}{e:Env}{H:Heap}{dst:Option Nat}{ty:TypeId}{pos:String}{aft:Array Edge}{g:Option (Nat×Bool)}{K:LV->Heap->Prop}{X:List PanicEntry->Heap->Prop}
theorem qae.callI{A:Type}{c:Cfg}{enc:A->LV}{r:IR A}{f:FuncId} [TEnter C.P f](args:List Operand){ats:Array TypeId}{av:List LV}(has:args.map e.ev=av)
  (hc:LCalls C f av H (qky c enc r)) (hk:∀ v s H',r=.ok v s->St c s H'->K (enc v) H') (hx:∀ er s H',r=.stop er s->St c s H'->X (panI er) H') :
  qae C ⟨dst,.call { callee:=.value (.func f),args:=args.toArray,argTypes:=ats },ty,pos,aft,g⟩ e H K X:=by
 refine qae.conseq (S.callI (F:=[]) (K:=λlv H'=>K lv H') (X:=X) args has (by rw[zLz]) hc (λv s H' h1 h2=>by rw[zLz];exact hk v s H' h1 h2) (λer s H' h1 h2=>by rw[zLz];exact hx er s H' h1 h2)) (λlv H' h=>⟨lv,H',vR _,zhR _,h⟩)
end steps
attribute [local irreducible] LS
section
variable{B0:Nat}{w0:World}
theorem qmX{c:Cfg}(hC:CfgOk c)(hE:qrE B0 w0 c n)(hB:BlkH B0 w0 c n):qui B0 w0 c (n+1):=by
 intro f kn x s H hf hk hv hnum hsm hg hs;obtain⟨kind,name,index,value,thn,els⟩:=x;obtain⟨hform,hval,hidx,hname,hthn,hels⟩:=qqD hv;obtain⟨hn1,hn2,hn3,hn4⟩:=hnum;obtain⟨hm1,hm2,hm3,hm4,hm5,hm6,hm7,hm8⟩:=hsm;generalize hI:stI c.p (n+1) f (Sm.mk kind name index value thn els) s=R;rw[stI] at hI;rw[qca];refine cJ Tryz.func130 (n:=93) ?_;refine gai ?_;refine oS (sB rfl λb4=>oS (sB rfl λb5=>?_) rfl) rfl;refine gag ?_;refine oS (S.callI [_] rfl qd1 (qgR hC hs) (λu s1 H1 hr hs1=>?_) (λer s1 H1 hr hs1 e' he'=>?_)) rfl;rotate_left;refine gak ?_;rw[hr,qbZ] at hI;exact qe9 (he'.trans rfl) hI.symm qaA hs1
 have hg1:Good c n s1:=by
  have h1:=qkb hr;have h2:=qlm hg.1;rw[hr] at h2
  have h3:s1.out=s.out:=by
   unfold tick at hr;split at hr;cases hr;cases hr;rfl
  exact⟨h2.2,by have:=hg.2.1;omega,by rw[h3];have:=hg.2.2;omega⟩
 rw[hr,qes] at hI;refine LOps.perm (qd1 (H:=H1)).symm ?_;refine gaa ?_;refine oC rfl (λhc=>?_) (λhc=>?_);have h7:kind=7:=zt hc;rw[zp h7] at hI;refine gac ?_;refine oS (qae.panic rfl λe' he'=>?_) rfl;refine gak ?_;exact qe9 (he'.trans rfl) hI.symm (zhD (zhD zhr)) hs1;have h7:¬ kind=7:=zf hc;rw[zn h7] at hI;obtain⟨x0,rfl⟩:=form_value hform h7;rw[qba] at hval;obtain⟨hv0,_⟩:=qac.1 hval;refine zQ72 ?_;refine oS (S.callI [_,_,_] rfl qd1 (hE f kn x0 s1 H1 hf hk hv0 hn2.1 hm6.1 hg1 hs1) (λv s2 H2 hr2 hs2=>?_) (λer s2 H2 hr2 hs2 e' he'=>?_)) rfl;rotate_left;refine gak ?_;rw[show([x0]:List Ex).headD default=x0 from rfl,hr2,qbZ] at hI;exact qe9 (he'.trans rfl) hI.symm qaA hs2;obtain⟨hg2,hv2,hlt2⟩:=qlx hC hn2.1 hg1 hr2;rw[show([x0]:List Ex).headD default=x0 from rfl,hr2,qes] at hI;refine LOps.perm (qd1 (H:=H2)).symm ?_;refine gaa ?_
 by_cases hk1:kind=1
 subst hk1;rw[zp rfl] at hI;rw[zp rfl] at hname;have hpl:=qia hf hname;obtain⟨b,hb1,hb2⟩:=hC.block hpl;obtain⟨G,hG1,hG2⟩:=qwi hC hb1 hs2;obtain⟨H3,hs3,hp3⟩:=hG2 v;refine oC rfl (λhc=>?_) (λhc=>by cases hc);refine gac ?_;refine oS (S.callS [_,_,_] rfl qd1 (qbT hC hs2 hf hpl hb2) ?_) rfl;refine LOps.perm (qd1 (H:=H2)).symm ?_;refine gab ?_;refine oS (sS (cs':=[u32 v]) rfl (qvN (X:=[_,_]) hG1) rfl rfl rfl rfl rfl ?_) rfl;refine LOps.perm (qwG (X:=[_,_]) hp3) ?_;refine gaa ?_;exact retI (v:=none) rfl (rC (zrt rfl) (zra rfl)) hI.symm rfl (zhD (zhD zhr)) hs3;refine oC rfl (λhc=>absurd (zt hc) hk1) (λ_=>?_);rw[zn hk1] at hI hname;refine gam ?_
 by_cases hk2:kind=2
 ·subst hk2;rw[zp rfl] at hI hname;obtain⟨i0,rfl⟩:=form_index hform;rw[qba] at hidx;obtain⟨hi0,_⟩:=qac.1 hidx
  have hpl:name∈c.p.arrays.map (·.name):=by
   unfold qdB at hname;split at hname
   rename_i h
   exact h;split at hname <;> cases hname
  obtain⟨b,m,hb1,hb2⟩:=hC.arr hpl;refine oC rfl (λhc=>?_) (λhc=>by cases hc);refine cD (m:=14) rfl [(b5,.cells 168 [int .i64 2,str name,.list ([i0].map encE),.list ([x0].map encE),.list (thn.map encS),.list (els.map encS)]),(b4,.cells 89 [str f.name,.list (f.params.map str),.list (f.locals.map str),.list (f.body.map encS)])]<|zQ35 ?_;refine aT 3 rfl rfl (pM (lv:=.atom _) rfl)<|aT 4 rfl rfl (pG (cs':=[_,_,_,_]) rfl zm1 rfl rfl)<|aT 5 rfl rfl (pF rfl)<|aT 6 rfl rfl (pL (c:=.list _) rfl zm0 rfl)<|LAny.take (i:=7) (zhP pH zhp) rfl zk zk zk rfl (xR (el':=encE i0) (cs:=[_,_,_,_]) rfl rfl zo rfl rfl rfl)<|aT 8 rfl rfl (pR (cs':=[_,_,_,_]) rfl rfl rfl)<|aT 11 rfl rfl (pM (lv:=.atom _) rfl)<|aL ?_ (zhP pH zhp);refine lO 9 (lS (H1:=H2) rfl (.inl rfl) rfl qd1 zhr (qae.callI [_,_,_] rfl (hE f kn i0 s2 H2 hf hk hi0 hn1.1 hm5.1 hg2 hs2) (λi s3 H3 hr3 hs3=>?_) (λer s3 H3 hr3 hs3 e' he'=>?_)));rotate_left;refine gae ?_;rw[show([i0]:List Ex).headD default=i0 from rfl,hr3,qbZ] at hI;exact qe9 (he'.trans rfl) hI.symm qaA hs3;obtain⟨hg3,hv3,_⟩:=qlx hC hn1.1 hg2 hr3;rw[show([i0]:List Ex).headD default=i0 from rfl,hr3,qes] at hI;obtain⟨hlen,G,hG1,hG2⟩:=qxX hC hb1 hs3
  by_cases hin:i<m
  have hget:(s3.ar name)[i]? = some (s3.ar name)[i]:=zRl zo;rw[hget] at hI;refine lO 10 (lS (H1:=H3) rfl (.inl rfl) rfl zpr zhr (qae.call (args:=[_,_,_]) (qfL hC hs3 hb1 hb2 hv3) ?_ ?_));rintro lv H' ⟨rfl,h⟩;rw[zp hin] at h;cases h;refine lO 12 (lH rfl rfl (pN rfl) ?_);obtain⟨H4,hs4,hp4⟩:=hG2 ((s3.ar name).set i v) (by rw[List.length_set];exact hlen);refine lO 13 (lS (H1:=H') rfl (.inl rfl) rfl zpr zhr (sS (cs':=((s3.ar name).set i v).map u32) rfl hG1 rfl rfl ?_ rfl ?_ ?_));rw[zLm,hlen]
  simp
  omega;rw[qhd _ _ _ (by rw[zLm];omega),List.map_set];refine qay.weakH (H':=H4++_) ⟨[],by rw[zLz];exact hp4.append_right _⟩ ?_;refine zQ64 ?_;exact retI (v:=none) rfl (rC (zrt rfl) (zra rfl)) hI.symm rfl qaA hs4;rintro ch H' ⟨rfl,h⟩;rw[zp hin] at h;cases h;have hget:(s3.ar name)[i]? = none:=List.getElem?_eq_none zo;rw[hget] at hI;refine lO 10 (lS (H1:=H3) rfl (.inl rfl) rfl zpr zhr (qae.call (args:=[_,_,_]) (qfL hC hs3 hb1 hb2 hv3) ?_ ?_));rintro lv H' ⟨rfl,h⟩;rw[zn hin] at h;cases h;rintro ch H' ⟨rfl,h⟩ e' he';rw[zn hin] at h;cases h;refine gae ?_;exact qe9 (he'.trans rfl) hI.symm qaA hs3
 refine oC rfl (λhc=>absurd (zt hc) hk2) (λ_=>?_);rw[zn hk2] at hI;refine gam ?_
 by_cases hk5:kind=5
 subst hk5;rw[zp rfl] at hI;refine oC rfl (λhc=>?_) (λhc=>by cases hc);refine gaa ?_;exact retI (v:=some v) rfl (rC (zrt rfl) (zra rfl)) hI.symm rfl (zhD (zhD zhr)) hs2;refine oC rfl (λhc=>absurd (zt hc) hk5) (λ_=>?_);rw[zn hk5] at hI;refine gam ?_
 by_cases hk3:kind=3
 subst hk3;rw[zp rfl] at hI;refine oC rfl (λhc=>?_) (λhc=>by cases hc);refine gac ?_;refine oC rfl (λhd=>?_) (λhd=>?_)
 have hv0':v≠0:=by
  intro h;subst h;cases hd
 rw[zp hv0'] at hI;refine gac ?_;refine oS (S.callI [_,_,_] rfl qd1 (hB f kn thn s2 H2 hf hk hthn hn3 hm3 hm7 hg2 hs2) (λr s3 H3 hr3 hs3=>?_) (λer s3 H3 hr3 hs3 e' he'=>?_)) rfl;rw[hr3] at hI;refine gab ?_;exact retI (v:=r) rfl (rC (zrt rfl) (zra rfl)) hI.symm rfl qaA hs3;refine gae ?_;rw[hr3] at hI;exact qe9 (he'.trans rfl) hI.symm qaA hs3
 have hv0':¬ v≠0:=by
  intro h;have h2:(!decide ((v:Int)=0))=false:=hd;simp at h2;omega
 rw[zn hv0'] at hI;refine gac ?_;refine oS (S.callI [_,_,_] rfl qd1 (hB f kn els s2 H2 hf hk hels hn4 hm4 hm8 hg2 hs2) (λr s3 H3 hr3 hs3=>?_) (λer s3 H3 hr3 hs3 e' he'=>?_)) rfl;rw[hr3] at hI;refine gab ?_;exact retI (v:=r) rfl (rC (zrt rfl) (zra rfl)) hI.symm rfl qaA hs3;refine gae ?_;rw[hr3] at hI;exact qe9 (he'.trans rfl) hI.symm qaA hs3;refine oC rfl (λhc=>absurd (zt hc) hk3) (λ_=>?_);rw[zn hk3] at hI;refine gam ?_
 by_cases hk4:kind=4
 ·subst hk4;rw[zp rfl] at hI;refine oC rfl (λhc=>?_) (λhc=>by cases hc);refine gab ?_
  refine oL (λk ls H'=>∃ (m:Nat) (v1:Nat) (s3:IS) (Hs:Heap),k=s3.left/\s3.left<=m/\v1<4294967296/\ls=[(0,ptr c.rb 0),(4,ptr b4 0),(5,ptr b5 0),(8,u32 v1)]/\H'=(b5,.cells 168 [int .i64 4,str name,.list (index.map encE),.list ([x0].map encE),.list (thn.map encS),.list (els.map encS)])::(b4,.cells 89 [str f.name,.list (f.params.map str),.list (f.locals.map str),.list (f.body.map encS)])::Hs/\St c s3 Hs/\Good c n s3/\whlR (evI c.p n f x0) (blkR (stI c.p n f) thn) m v1 s3=R)
   ⟨_,_,_,⟨n,v,s2,H2,rfl,hg2.2.1,hv2,rfl,rfl,hs2,hg2,hI⟩,⟨rfl,rfl,rfl,rfl,trivial⟩,zhR _⟩ ?_
  rintro k ls H' ⟨m,v1,s3,Hs,rfl,hm,hv1,rfl,rfl,hs3,hg3,hI3⟩ j hj;refine gac ?_
  by_cases hv0':v1=0
  subst hv0';rw[qsK] at hI3;refine oC rfl (λhc=>by cases hc) (λ_=>?_);refine gaa ?_;exact retI (v:=none) hj (rC (zrt rfl) (zra rfl)) hI3.symm rfl (zhD (zhD zhr)) hs3;rw[quM hm hv0'] at hI3;refine oC rfl (λ_=>?_) (λhd=>?_);rotate_left;have h2:(!decide ((v1:Int)=0))=false:=hd;simp at h2;omega;refine gac ?_;refine oS (S.callI [_,_,_] rfl qd1 (hB f kn thn s3 Hs hf hk hthn hn3 hm3 hm7 hg3 hs3) (λr s4 H4 hr4 hs4=>?_) (λer s4 H4 hr4 hs4 e' he'=>?_)) rfl;rotate_left;refine gae ?_;rw[hr4,qbZ] at hI3;exact qe9 (he'.trans hj) hI3.symm qaA hs4;rw[hr4,qes] at hI3;obtain⟨hg4,_⟩:=quC hC hn3 hg3 hr4;have hlt4:=(qd5 ((qgf c.p n).2 f) thn s3).2;rw[hr4] at hlt4;refine LOps.perm (qd1 (H:=H4)).symm ?_
  cases r with
  |some y=>
   refine gaa ?_;refine oC rfl (λ_=>?_) (λhd=>by cases hd);refine gaa ?_
   exact retI (v:=some y) hj (rC (zrt rfl) (zra rfl)) hI3.symm rfl (zhD (zhD zhr)) hs4
  |none=>
   refine gaa ?_;refine oC rfl (λhd=>by cases hd) (λ_=>?_);refine zQ72 ?_;refine oS (S.callI [_,_,_] rfl qd1 (hE f kn x0 s4 H4 hf hk hv0 hn2.1 hm6.1 hg4 hs4) (λv5 s5 H5 hr5 hs5=>?_) (λer s5 H5 hr5 hs5 e' he'=>?_)) rfl;obtain⟨hg5,hv5,hlt5⟩:=qlx hC hn2.1 hg4 hr5;rw[hr5,qes] at hI3;refine gaf ?_;have hlt4':s4.left<=s3.left:=hlt4;exact⟨s5.left,_,_,by omega,⟨m-1,v5,s5,H5,rfl,by omega,hv5,rfl,rfl,hs5,hg5,hI3⟩,⟨rfl,rfl,rfl,rfl,trivial⟩,⟨[],by rw[zLz];exact qd1.symm⟩,hj⟩;refine gae ?_;rw[hr5,qbZ] at hI3;exact qe9 (he'.trans hj) hI3.symm qaA hs5
 refine oC rfl (λhc=>absurd (zt hc) hk4) (λ_=>?_);rw[zn hk4] at hI;refine gaa ?_;exact retI (v:=none) rfl (rC (zrt rfl) (zra rfl)) hI.symm rfl (zhD (zhD zhr)) hs2
end
section
variable{C:Ctx}{e:Env}{H:Heap}{dst:Option Nat}{ty:TypeId}{pos:String}{aft:Array Edge}{g:Option (Nat×Bool)}{x:Operand}
theorem Pure.ltail{t el s:Nat} [ht:TSlice C.P t el s]{lo:Operand}{k:IntKind}{a:LV}{es:List LV}(hx:elems (e.ev x)=some (a::es))(hlo:e.ev lo=int k 1)(hs:∀ v∈a::es,v.cells.length=s):Pure C ⟨dst,.slice t x (some lo) none none,ty,pos,aft,g⟩ e H (.list es):=by
 have:=Pure.lslice (t:=t) (C:=C) (H:=H) (dst:=dst) (ty:=ty) (pos:=pos) (aft:=aft) (g:=g) (lo:=some lo) (hi:=none) (i:=1) (j:=(((a::es).length:Nat):Int)) hx ⟨k,hlo⟩ rfl zDd (by simp only[zLc];omega) (Int.le_refl _) hs
 have h2:((a::es).take (((a::es).length:Nat):Int).toNat).drop (1:Int).toNat=es:=by
  rw[Int.toNat_natCast,List.take_length];rfl
 rwa [h2] at this
end
theorem qma(n:Nat):IntKind.u8.wrap (n:Int)=((UInt8.ofNat n).toNat:Int):=by
 have h:IntKind.u8.wrap (n:Int)=(n:Int) % 256:=by
  simp only[IntKind.wrap,IntKind.bits,IntKind.signed,zRs];rfl
 rw[h];have h2:(UInt8.ofNat n).toNat=n % 256:=by simp
 rw[h2];omega
theorem qjo{s:Nat}{v:LV}{es:List LV}{F:Heap}(h:GL.Acc s v es H F):v.cells? = some [v]/\([v].all qcP)=true:=by
 cases h <;> exact⟨rfl,rfl⟩
theorem qsW(l:List Nat):∀ v∈l.map u32,v.cells.length=1:=λv hv=>by
 obtain⟨a,_,rfl⟩:=zRf hv;rfl
theorem quX(c:Cfg)(s:IS)(v:LV)(Ha:Heap):(stH c s v Ha).Perm (Ha++(hdH c s v++(scH c.sb s++arH c.ab s))):=by
 rw[qto];have:hdH c s v++(scH c.sb s++(arH c.ab s++Ha))=(hdH c s v++(scH c.sb s++arH c.ab s))++Ha:=by simp only[zAs]
 rw[this];exact zPc
theorem qxB(c:Cfg)(s:IS)(v:LV)(Ha:Heap):(hdH c s v++(scH c.sb s++arH c.ab s))++Ha=stH c s v Ha:=by
 rw[qto];simp only[zAs]
theorem qqA{c:Cfg}(hC:CfgOk c)(hf:f∈c.p.funcs){p:List UInt8}(hp:p∈f.params):keyI f p∈qaf c.p.vars c.p.funcs:=by
 unfold keyI;rw[zp (.inl hp)];exact(qnL hC.valid.names hf p).2 (zRe (.inl hp))
theorem CfgOk.fn{c:Cfg}(hC:CfgOk c)(hf:f∈c.p.funcs):GL.kvGet (fnKV c.p.funcs) f.name=some (qaM f):=
 qoZ (A:=FnD) (·.name) qaM (zRc (qaP _ _ hC.valid.names).1).2.1 hf
section
variable{B0:Nat}{w0:World}
theorem qi7{c:Cfg}(hC:CfgOk c)(hB:BlkH B0 w0 c n){f0:FnD}{kn:List FSum}(hk0:qiN c.p.funcs kn){name:List UInt8}{vs:List Nat}(hv:callE (cenv c kn f0) name vs.length=0)(hvs:∀ v∈vs,Lt v)
  (hbd:Bnd s) (hleft:s.left<=n) (hroom:s.out.length+s.left+1<=c.lim) (hs:St c s H):LCalls (KC B0 w0) 209 [ptr c.rb 0,str name,.list (vs.map u32)] H (qky c u32 (callI c.p (stI c.p n) name vs s)):=by
 have hs0:=hs;have hlim:=hC.lim;generalize hI:callI c.p (stI c.p n) name vs s=R;unfold callI at hI;refine cJ Tryz.func209 (n:=85) ?_;refine gaa ?_
 by_cases hin:name=[105,110]
 subst hin;rw[zp rfl] at hI;obtain⟨hl,hle,v,Ha,hacc,rfl⟩:=hs;refine oC rfl (λhc=>?_) (λhc=>by cases hc);refine gac ?_
 cases hinp:s.inp with
 |nil=>
  rw[hinp] at hI;refine oC rfl (λhc=>?_) (λhc=>?_);refine gaa ?_;exact retI (v:=4294967295) rfl (zra rfl) hI.symm rfl zhr hs0
  cases hc
 |cons a r=>
  rw[hinp] at hI;refine oC rfl (λhc=>?_) (λhc=>?_);have:=zt hc;simp at this;omega;refine gac ?_;refine oP (xR (el':=u32 a) (cs:=[u32 a]) rfl rfl zo (by rw[hinp];rfl) rfl rfl) rfl<|gac ?_;refine oP (Pure.ltail (a:=u32 a) (es:=r.map u32) (by rw[show elems _=some (s.inp.map u32) from rfl,hinp];rfl) rfl (qsW (a::r))) rfl ?_;refine gac ?_;exact retI (v:=a) rfl (zra rfl) hI.symm rfl zhr ⟨hl,hle,v,Ha,hacc,rfl⟩
 refine oC rfl (λhc=>absurd (zt hc) hin) (λ_=>?_);rw[zn hin] at hI;unfold callE at hv;rw[zn hin] at hv;refine gaa ?_
 by_cases hout:name=[111,117,116]
 subst hout;rw[zp rfl] at hI hv
 obtain⟨a,rfl⟩:∃ a,vs=[a]:=by
  match vs,hv with
  |[],hv=>cases hv
  |[a],_=>exact⟨a,rfl⟩
  |_::_::_,hv=>
   split at hv
   rename_i h
   simp at h;cases hv
 obtain⟨hl,hle,v,Ha,hacc,rfl⟩:=hs;refine oC rfl (λhc=>?_) (λhc=>by cases hc);refine gab ?_;refine cD (m:=14) rfl []<|zQ9 ?_;refine aT 5 rfl rfl (pM (lv:=.list _) rfl)<|LAny.take (i:=6) zhn rfl zk zk zk rfl (xR (el':=u32 a) (cs:=[u32 a]) rfl rfl zo rfl rfl rfl)<|aT 7 rfl rfl (pO (c:=.atom _) rfl rfl)<|aT 8 rfl rfl (Pure.cvt rfl)<|aL ?_ zhn
 have e1:byts s.out++[int .u8 (IntKind.u8.wrap (a:Int))]=byts (s.out++[UInt8.ofNat a]):=by
  rw[qmf,qma];rfl
 have hroom2:((byts s.out).length+[int .u8 (IntKind.u8.wrap (a:Int))].length) * 1<=140737488355328:=by
  simp only[qhg,zLc,zLn];omega
 refine zl2 (i:=4) (j:=9) zk ?_ ?_;refine lH rfl rfl (pL (c:=v) rfl zm0 rfl)<|zl1 (i:=9) zk ?_;refine lW rfl (.inl rfl) rfl (sL (es:=[int .u8 (IntKind.u8.wrap (a:Int))]) [_] rfl (eC rfl rfl eN) rfl rfl rfl ?_);exact zT22;refine lW rfl (.inl rfl) rfl (sL (es:=[int .u8 (IntKind.u8.wrap (a:Int))]) [_] rfl (eC rfl rfl eN) rfl rfl rfl ?_);refine zl1 (i:=4) zk ?_;refine lH rfl rfl (pL (c:=v) rfl zm0 rfl) ?_;exact zT22;refine oC rfl (λhc=>absurd (zt hc) hout) (λ_=>?_);rw[zn hout] at hI;have hcv:=qql (p:=c.p) (f:=f0) (kn:=kn) hC.valid hk0 (name:=name) (n:=vs.length) (by unfold callE;rw[zn hin];exact hv) hin hout;generalize fnI c.p name=gf at hI hcv;obtain⟨hgm,hgn,hgl⟩:=hcv;subst hgn;obtain⟨kn2,hvb,hk2⟩:=hC.valid.bodies gf hgm;have hsm:=hC.small.each gf hgm;have hpl:gf.params.length<=2000000:=hsm.params;refine gaa ?_;have hs1:=hs;obtain⟨hl,hle,v,Ha,hacc,rfl⟩:=hs;refine gab ?_;refine oP (Pure.kvHit rfl rfl zm3 (hC.fn hgm)) rfl<|oS (sA λb8=>?_) rfl;refine gac ?_;generalize stH c s v Ha=Hs0 at hs0 hs1 ⊢
 refine oL (λk ls H'=>∃ (pre ps:List (List UInt8)) (vpre vs1:List Nat) (s1:IS) (Hs:Heap),gf.params=pre++ps/\vs=vpre++vs1/\vpre.length=pre.length/\k=ps.length/\ls=[(0,ptr c.rb 0),(2,.list (vs.map u32)),(8,ptr b8 0),(59,.list (gf.params.map str)),(60,int .i64 ((gf.params.map str).length:Int)),(61,int .i64 (pre.length:Int))]/\H'=(b8,.cells 89 [str gf.name,.list (gf.params.map str),.list (gf.locals.map str),.list (gf.body.map encS)])::Hs/\St c s1 Hs/\qcN gf gf.params vs s=qcN gf ps vs1 s1)
  ⟨_,_,_,⟨[],gf.params,[],vs,s,Hs0,rfl,rfl,rfl,rfl,rfl,rfl,hs1,rfl⟩,⟨rfl,rfl,rfl,rfl,rfl,rfl,trivial⟩,zhR _⟩ ?_
 rintro k ls H' ⟨pre,ps,vpre,vs1,s1,Hs,hps,hvs1,hvl,rfl,rfl,rfl,hst1,hset⟩ j hj
 have hl6:pre.length<=2000000:=by
  rw[hps,zLa] at hpl;omega
 have hpl2:ps.length=vs1.length:=by
  rw[hps,hvs1,zLa,zLa] at hgl;omega
 refine gaj ?_;refine oC rfl (λhc=>?_) (λhc=>?_);have hlen:=zt hc;rw[zLm,hps,zLa] at hlen
 obtain⟨p,ps,rfl⟩:∃ a l,ps=a::l:=by
  cases ps with
  |nil=>simp at hlen
  |cons a l2=>exact⟨a,l2,rfl⟩
 obtain⟨x,vs1,rfl⟩:∃ a l,vs1=a::l:=by
  cases vs1 with
  |nil=>simp at hpl2
  |cons a l2=>exact⟨a,l2,rfl⟩
 rw[qcN] at hset;have hkp:=qqA hC hgm (p:=p) (by rw[hps];exact mem_append_right _ zMs);obtain⟨b,hb1,hb2⟩:=hC.block hkp;obtain⟨G,hG1,hG2⟩:=qwi hC hb1 hst1;obtain⟨H3,hs3,hp3⟩:=hG2 x;refine gaa ?_;refine oP (xR (el':=str p) (cs:=[str p]) rfl rfl zo (by rw[hps];exact get_mid str pre p ps) rfl rfl) rfl<|gad ?_;refine cD (m:=10) rfl [(b8,.cells 89 [str gf.name,.list (gf.params.map str),.list (gf.locals.map str),.list (gf.body.map encS)])]<|aT 0 rfl rfl (pM (lv:=.atom _) rfl)<|aT 1 rfl rfl (pG (cs':=[_,_,_,_]) rfl zm0 rfl rfl)<|zQ40 ?_;refine aT 4 rfl rfl (pM (lv:=.list _) rfl)<|aT 5 rfl rfl (pM (lv:=.atom _) rfl)<|LAny.take (i:=6) zhp rfl zk zk zk rfl (xR (el':=u32 x) (cs:=[u32 x]) rfl rfl zo (by rw[hvs1,<-hvl];exact get_mid u32 vpre x vs1) rfl rfl)<|aT 7 rfl rfl (pO (c:=.atom _) rfl rfl)<|aL ?_ zhp;refine lO 3 (lS (H1:=Hs) rfl (.inl rfl) rfl swap1 zhr (qae.call (args:=[_,_,_]) (qbT hC hst1 hgm hkp hb2) ?_ ?_));rintro lv H' ⟨h,rfl⟩;cases h;refine lO 8 (lH rfl rfl (pN rfl) ?_);refine lO 9 (lS (H1:=H') rfl (.inl rfl) rfl zpr zhr (sS (cs':=[u32 x]) rfl hG1 rfl rfl rfl rfl rfl ?_));refine qay.weakH (H':=H3++_) ⟨[],by rw[zLz];exact hp3.append_right _⟩ ?_;refine zQ64 ?_;exact⟨ps.length,_,_,lt_succ_self _,⟨pre++[p],ps,vpre++[x],vs1,_,H3,by rw[hps];simp,by rw[hvs1];simp,by simp[hvl],rfl,rfl,rfl,hs3,hset⟩,⟨rfl,rfl,rfl,rfl,rfl,qao (by simp),trivial⟩,⟨[],by rw[zLz];exact swap1.symm⟩,hj⟩;rintro ch H' ⟨h,rfl⟩;cases h;have hlen:=zf hc;rw[zLm,hps,zLa] at hlen
 obtain rfl:ps=[]:=by
  cases ps with
  |nil=>rfl
  |cons a l2=>simp at hlen;omega
 obtain rfl:vs1=[]:=List.length_eq_zero_iff.1 hpl2.symm
 replace hset:qcN gf gf.params vs s=s1:=hset.trans rfl
 have hb1:=qmn gf gf.params vs s hvs hbd;obtain⟨ho,hlf,_⟩:=qdT gf gf.params vs s;rw[hset] at hI hb1 ho hlf;have hg1:Good c n s1:=⟨hb1,by rw[hlf];exact hleft,by rw[ho,hlf];omega⟩;refine gac ?_;refine oS (S.callI [_,_,_] rfl swap1 (hB gf kn2 gf.body s1 Hs hgm hk2 hvb (hC.nums gf hgm) hsm.body hsm.stmts hg1 hst1) (λr s3 H3 hr3 hs3=>?_) (λer s3 H3 hr3 hs3 e' he'=>?_)) rfl;rw[hr3,qes] at hI;refine gaa ?_;exact retI (v:=r.getD 0) hj (zra rfl) hI.symm rfl qaA hs3;refine gak ?_;rw[hr3,qbZ] at hI;exact qe9 (he'.trans hj) hI.symm qaA hs3
end
theorem qqJ{c:CEnv}{op:List UInt8}{num:Nat}{name:List UInt8}{args:List Ex}(h:errE c (.mk op num name args)=0):(qbk op = -1∨qbk op=args.length)/\qba c args=0/\useE c op name args.length=0:=by
 rw[errE] at h;split at h
 rename_i h1
 obtain⟨h2,h3⟩:=qac.1 h;exact⟨h1,h2,h3⟩;cases h
theorem qj7{l:List Nat}(h:l.length=1):∃ a,l=[a]:=by
 cases l with
 |nil=>cases h
 |cons a l=>
  cases l with
  |nil=>exact⟨a,rfl⟩
  |cons b l=>simp at h
theorem qxI{l:List Nat}(h:l.length=2):∃ a b,l=[a,b]:=by
 cases l with
 |nil=>cases h
 |cons a l=>
  obtain⟨b,rfl⟩:=qj7 (l:=l) (by simpa using h);exact⟨a,b,rfl⟩
theorem qwA{a:Nat}(h:a<4294967296):IntKind.u32.wrap (0-(a:Int))=(((4294967296-a) % 4294967296:Nat):Int):=by
 rw[qeu];omega
theorem qvG{A:Type}(l r:List A)(x y:A):(l++x::r).set l.length y=l++y::r:=by
 induction l with
 |nil=>rfl
 |cons a l ih=>simp only[List.cons_append,zLc,List.set_cons_succ,ih]
theorem qmG{H1 H2:Heap}(hp:H1.Perm H2)(h:HSub X H2):HSub X H1:=
 let ⟨G,hG⟩:=h
 ⟨G,hp.trans hG⟩
section
variable{B0:Nat}{w0:World}
theorem qs1{c:Cfg}(hC:CfgOk c)(hE:qrE B0 w0 c n)(hB:BlkH B0 w0 c n):qrE B0 w0 c (n+1):=by
 intro f kn x s H hf hk hv hnum hsm hg hs;obtain⟨op,num,name,args⟩:=x;obtain⟨hop,hargs,huse⟩:=qqJ hv;obtain⟨hn1,hn2⟩:=hnum;obtain⟨hm1,hm2⟩:=hsm;have hal:args.length<=2000000:=hm1;generalize hI:evI c.p (n+1) f (Ex.mk op num name args) s=R;rw[evI] at hI;rw[qcH];refine cJ Tryz.func174 (n:=92) ?_;refine gai ?_;refine oS (sB rfl λb4=>oS (sB rfl λb5=>?_) rfl) rfl;refine gag ?_;refine oS (S.callI [_] rfl qd1 (qgR hC hs) (λu s1 H1 hr hs1=>?_) (λer s1 H1 hr hs1 e' he'=>?_)) rfl;rotate_left;refine gak ?_;rw[hr,qbZ] at hI;exact qe9 (he'.trans rfl) hI.symm qaA hs1
 have hg1:Good c n s1/\s1.out.length+s1.left+1<=c.lim:=by
  have h1:=qkb hr;have h2:=qlm hg.1;rw[hr] at h2
  have h3:s1.out=s.out:=by
   unfold tick at hr;split at hr;cases hr;cases hr;rfl
  have h4:=hg.2.1;have h5:=hg.2.2;exact⟨⟨h2.2,by omega,by rw[h3];omega⟩,by rw[h3];omega⟩
 rw[hr,qes] at hI;refine LOps.perm (qd1 (H:=H1)).symm ?_;refine gac ?_;refine oS (S.makeRow (n:=args.length) (k:=.i64) (k2:=.i64) (qao (by rw[zLm])) (qao (by rw[zLm])) zo zo λb7=>?_) rfl;refine gac ?_
 refine oL (λk ls H'=>∃ (pre l1:List Ex) (vs:List Nat) (s2:IS) (Hs:Heap),args=pre++l1/\vs.length=pre.length/\(∀ v∈vs,Lt v)/\k=l1.length/\ls=[(0,ptr c.rb 0),(4,ptr b4 0),(5,ptr b5 0),(7,rowV b7 args.length),(17,.list (args.map encE)),(18,int .i64 ((args.map encE).length:Int)),(19,int .i64 (pre.length:Int))] /\
   H'=(b7,.cells 84 (vs.map u32++List.replicate l1.length (u32 0)))::(b5,.cells 170 [str op,u32 num,str name,.list (args.map encE)])::(b4,.cells 89 [str f.name,.list (f.params.map str),.list (f.locals.map str),.list (f.body.map encS)])::Hs /\
   St c s2 Hs/\Good c n s2/\s2.out.length+s2.left+1<=c.lim/\qba (cenv c kn f) l1=0/\qcB l1/\smEs l1/\(mapR (evI c.p n f) l1 s2).bind (λvs' s=>opI c.p (stI c.p n) f op num name (vs++vs') s)=R)
  ⟨args.length,_,_,⟨[],args,[],s1,H1,rfl,rfl,λv hv=>(not_mem_nil hv).elim,rfl,rfl,rfl,hs1,hg1.1,hg1.2,hargs,hn2,hm2,hI⟩,⟨rfl,rfl,rfl,rfl,rfl,rfl,rfl,trivial⟩,zhR _⟩ ?_
 rintro k ls H' ⟨pre,l1,vs,s2,Hs,hpre,hvl,hvlt,rfl,rfl,rfl,hs2,hg2,hroom,he2,hnn2,hmm2,hI2⟩ j hj
 have hl6:pre.length<=2000000:=by
  have:=hal;rw[hpre,zLa] at this;omega
 refine gaj ?_;refine oC rfl (λhc=>?_) (λhc=>?_)
 ·have hlen:=zt hc;rw[zLm,hpre,zLa] at hlen
  obtain⟨a,l2,rfl⟩:∃ a l2,l1=a::l2:=by
   cases l1 with
   |nil=>simp at hlen
   |cons a l2=>exact⟨a,l2,rfl⟩
  rw[qba] at he2;obtain⟨hea,hel⟩:=qac.1 he2;rw[qrT] at hI2;refine gaa ?_;refine oP (xR (el':=encE a) (cs:=[_,_,_,_]) rfl rfl zo (by rw[hpre];exact get_mid encE pre a l2) rfl rfl) rfl<|gad ?_;refine oS (sA λb9=>?_) rfl;refine gac ?_;refine oS (S.callI [_,_,_] rfl (zPc (l₁:=[_,_,_,_])) (hE f kn a s2 Hs hf hk hea hnn2.1 hmm2.1 hg2 hs2) (λv s3 H3 hr3 hs3=>?_) (λer s3 H3 hr3 hs3 e' he'=>?_)) rfl;rotate_left;refine gae ?_;rw[hr3,qbZ] at hI2;exact qe9 (he'.trans hj) hI2.symm qaA hs3;obtain⟨hg3,hv3,_⟩:=qlx hC hnn2.1 hg2 hr3;have hf3:=(qj0 c.p n).1 f a s2;rw[hr3] at hf3;have hf3':s3.out.length+s3.left<=s2.out.length+s2.left+0:=hf3;rw[hr3,qes] at hI2;refine LOps.perm (zPc (l₂:=[_,_,_,_])) ?_
  have hlt:pre.length<args.length:=by
   rw[hpre,zLa,zLc];omega
  refine oP (Pure.indexRow rfl rfl zo zo) rfl ?_;have ecs:vs.map u32++List.replicate (a::l2).length (u32 0)=vs.map u32++u32 0::List.replicate l2.length (u32 0):=rfl;rw[ecs]
  refine oS (sS (n:=1) (vs:=[u32 v]) (cs':=(vs++[v]).map u32++List.replicate l2.length (u32 0)) rfl zp1 rfl rfl (by simp[hvl]) rfl (by
   rw[show 0+((pre.length:Int)).toNat * 1=(vs.map u32).length by rw[zLm,hvl];simp,qhd _ _ _ (by simp),qvG]
   simp) ?_) rfl
  refine gaa ?_
  exact⟨l2.length,_,_,lt_succ_self _,⟨pre++[a],l2,vs++[v],s3,H3,by rw[hpre];simp,by simp[hvl],λy hy=>by
   rcases zRd hy with h1|h1;exact hvlt y h1;rw[zRa h1];exact hv3,rfl,rfl,rfl,hs3,hg3,by omega,hel,hnn2.2,hmm2.2,by
   rw[<-hI2]
   simp only[zAs,List.singleton_append]⟩,⟨rfl,rfl,rfl,rfl,rfl,rfl,qao (by simp),trivial⟩,zhP pH (zhD zhr),hj⟩
 have hlen:=zf hc;rw[zLm,hpre,zLa] at hlen
 obtain rfl:l1=[]:=by
  cases l1 with
  |nil=>rfl
  |cons a l2=>simp at hlen;omega
 rw[mapR,qes,zLz] at hI2;have hvn:vs.length=args.length:=by rw[hvl,hpre,zLz]
 have hcs:vs.map u32++List.replicate ([]:List Ex).length (u32 0)=(vs.map λ(v:Nat)=>Value.int .u32 (v:Int)).map .atom:=by
  rw[List.map_map];simp only[zLn,List.replicate_zero,zLz];rfl
 have hvn2:args.length=(vs.map λ(v:Nat)=>Value.int .u32 (v:Int)).length:=by rw[zLm,hvn]
 rw[hcs];have hI:=hI2;clear hI2;refine gab ?_;refine qah.rowShut 7 (vs:=vs.map λ(v:Nat)=>Value.int .u32 (v:Int)) pH (by rw[<-hvn2];rfl) ?_;rw[show(vs.map λ(v:Nat)=>Value.int .u32 (v:Int)).map LV.atom=vs.map u32 by rw[List.map_map];rfl];rw[<-hvn] at hop huse;unfold opI at hI;obtain⟨hb2,hl2,_⟩:=hg2;refine gaa ?_
 by_cases h1:op=[110,117,109]
 subst h1;rw[zp rfl] at hI;refine oC rfl (λhc=>?_) (λhc=>by cases hc);refine gaa ?_;exact retI (v:=num) hj (zra rfl) hI.symm rfl (zhD (zhD zhr)) hs2;refine oC rfl (λhc=>absurd (zt hc) h1) (λ_=>?_);rw[zn h1] at hI;refine gaa ?_
 by_cases h2:op=[118,97,114]
 subst h2;rw[zp rfl] at hI;unfold useE at huse;rw[zp (show([118,97,114]:List UInt8)=nVar from rfl)] at huse;have hpl:=qia hf huse;obtain⟨b,hb1,hb3⟩:=hC.block hpl;obtain⟨G,hG1,_⟩:=qwi hC hb1 hs2;refine oC rfl (λhc=>?_) (λhc=>by cases hc);refine gac ?_;refine oS (S.callS [_,_,_] rfl qd1 (qbT hC hs2 hf hpl hb3) ?_) rfl;refine LOps.perm (qd1 (H:=Hs)).symm ?_;refine oP (pN rfl) rfl<|oP (pL (c:=u32 (s2.sc (keyI f name))) rfl (zMo _ (zMo _ (hG1.mem_iff.2 zMs))) rfl) rfl<|gab ?_;exact retI (v:=s2.sc (keyI f name)) hj (zra rfl) hI.symm rfl (zhD (zhD zhr)) hs2;refine oC rfl (λhc=>absurd (zt hc) h2) (λ_=>?_);rw[zn h2] at hI;refine gaa ?_
 by_cases h3:op=[101,108,101,109]
 ·subst h3;rw[zp rfl] at hI;unfold useE at huse;rw[zn zDd,zp (show([101,108,101,109]:List UInt8)=qeD from rfl)] at huse
  have hpl:name∈c.p.arrays.map (·.name):=by
   unfold qdB at huse;split at huse
   rename_i h
   exact h;split at huse <;> cases huse
  obtain⟨b,m,hb1,hb3⟩:=hC.arr hpl;obtain⟨hlen2,G,hG1,_⟩:=qxX hC hb1 hs2
  obtain⟨a,rfl⟩:∃ a,vs=[a]:=qj7 (by
   rcases hop with h|h;exact absurd h zDd;have h9:(1:Int)=(vs.length:Int):=h
   omega)
  have ha:a<4294967296:=hvlt a zMs;refine oC rfl (λhc=>?_) (λhc=>by cases hc);refine gab ?_;refine qah.tail 6 zk ?_;refine gad ?_;refine lP (xR (el':=u32 a) (cs:=[u32 a]) rfl rfl zo rfl rfl rfl) rfl ?_;refine gad ?_;refine oS (S.callH (H1:=Hs) [_,_,_] rfl qd1 (qfL hC hs2 hb1 hb3 ha) ?_ ?_) rfl
  ·rintro lv H' ⟨rfl,h⟩
   by_cases hin:a<m
   ·rw[zp hin] at h;cases h;have hget:(s2.ar name)[a]? = some (s2.ar name)[a]:=zRl zo
    have hI':(match (s2.ar name)[a]? with
     |some v=>IR.ok v s2
     |none=>.stop 2 s2)=R:=hI
    rw[hget] at hI';refine oP (pN rfl) rfl<|oP (pL (c:=u32 (s2.ar name)[a]) rfl (List.mem_append_left _ (hG1.mem_iff.2 zMs)) (by rw[List.getElem?_map,hget];rfl)) rfl<|gab ?_;exact retI (v:=(s2.ar name)[a]) hj (zra rfl) hI'.symm rfl qaA hs2
   rw[zn hin] at h;cases h
  rintro ch H' ⟨rfl,h⟩ e' he'
  by_cases hin:a<m
  rw[zp hin] at h;cases h;rw[zn hin] at h;cases h;have hget:(s2.ar name)[a]? = none:=List.getElem?_eq_none zo
  have hI':(match (s2.ar name)[a]? with
   |some v=>IR.ok v s2
   |none=>.stop 2 s2)=R:=hI
  rw[hget] at hI';refine gae ?_;exact qe9 (he'.trans hj) hI'.symm qaA hs2
 refine oC rfl (λhc=>absurd (zt hc) h3) (λ_=>?_);rw[zn h3] at hI;refine gaa ?_
 by_cases h4:op=[110,101,103]
 subst h4;rw[zp rfl] at hI
 obtain⟨a,rfl⟩:∃ a,vs=[a]:=qj7 (by
  rcases hop with h|h;exact absurd h zDd;have h9:(1:Int)=(vs.length:Int):=h
  omega)
 have ha:a<4294967296:=hvlt a zMs;refine oC rfl (λhc=>?_) (λhc=>by cases hc);refine gaa ?_;refine oP (xR (el':=u32 a) (cs:=[u32 a]) rfl rfl zo rfl rfl rfl) rfl<|gad ?_;refine oP (Pure.negW rfl) rfl<|gab ?_;exact retI (v:=(4294967296-a) % 4294967296) hj (zra rfl) hI.symm (qao (qwA ha)) (zhD (zhD zhr)) hs2;refine oC rfl (λhc=>absurd (zt hc) h4) (λ_=>?_);rw[zn h4] at hI;refine gaa ?_
 by_cases h5:op=[110,111,116]
 subst h5;rw[zp rfl] at hI
 obtain⟨a,rfl⟩:∃ a,vs=[a]:=qj7 (by
  rcases hop with h|h;exact absurd h zDd;have h9:(1:Int)=(vs.length:Int):=h
  omega)
 refine oC rfl (λhc=>?_) (λhc=>by cases hc);refine gaa ?_;refine oP (xR (el':=u32 a) (cs:=[u32 a]) rfl rfl zo rfl rfl rfl) rfl<|gad ?_;refine oS (S.callS (F:=[]) [_] rfl (by rw[zLz]) (qk8 _) ?_) rfl;rw[zLz];refine gab ?_;exact retI (v:=b2n (decide (a=0))) hj (zra rfl) hI.symm (congrArg u32 (qhN zo)) (zhD (zhD zhr)) hs2;refine oC rfl (λhc=>absurd (zt hc) h5) (λ_=>?_);rw[zn h5] at hI;refine gaa ?_
 by_cases h6:op=[99,97,108,108]
 subst h6;rw[zp rfl] at hI;unfold useE at huse;rw[zn zDd,zn zDd,zp (show([99,97,108,108]:List UInt8)=qch from rfl)] at huse;refine oC rfl (λhc=>?_) (λhc=>by cases hc);refine gaa ?_;refine oS (S.callI [_,_,_] rfl qd1 (qi7 hC hB hk huse hvlt hb2 hl2 hroom hs2) (λv s3 H3 hr3 hs3=>?_) (λer s3 H3 hr3 hs3 e' he'=>?_)) rfl;rw[hr3] at hI;refine gab ?_;exact retI (v:=v) hj (zra rfl) hI.symm rfl qaA hs3;refine gae ?_;rw[hr3] at hI;exact qe9 (he'.trans hj) hI.symm qaA hs3;refine oC rfl (λhc=>absurd (zt hc) h6) (λ_=>?_);rw[zn h6] at hI;refine gab ?_
 have hbin:op∈qc4/\vs.length=2:=by
  unfold qbk at hop;rw[zn (λh=>h.elim h1 h2),zn (λh=>h.elim h3 (λh=>h.elim h4 h5)),zn (show ¬ op=qch from h6)] at hop;split at hop
  rename_i h
  refine⟨h,?_⟩;rcases hop with h|h <;> omega;rcases hop with h|h <;> omega
 obtain⟨hbo,hv2⟩:=hbin;obtain⟨a,b2,rfl⟩:=qxI hv2;have ha:a<4294967296:=hvlt a zMs;have hb:b2<4294967296:=hvlt b2 (zMo _ zMs);obtain⟨fi,caps,hkv,hte,hcall⟩:=qqx (B0:=B0) (w0:=w0) (db:=c.db) hbo ha hb;have hs3:=hs2;obtain⟨hl,hle,v,Ha,hacc,rfl⟩:=hs2;refine qah.tail 13 zk ?_;refine gad ?_;refine lP (Pure.kvHit rfl rfl zm6 hkv) rfl ?_;refine gad ?_;refine lP (xR (el':=u32 a) (cs:=[u32 a]) rfl rfl zo rfl rfl rfl) rfl ?_;refine gad ?_;refine lP (xR (el':=u32 b2) (cs:=[u32 b2]) rfl rfl zo rfl rfl rfl) rfl ?_;refine gad ?_;have hpick:Pick (divH c.db) ((b5,.cells 170 [str op,u32 num,str name,.list (args.map encE)])::(b4,.cells 89 [str f.name,.list (f.params.map str),.list (f.locals.map str),.list (f.body.map encS)])::stH c s2 v Ha) _:=pT zp6;refine oS (S.callV (f:=fi) (first:=#[]) (caps:=caps) (H1:=[divH c.db]) [_,_] rfl rfl hpick hcall ?_ ?_) rfl
 ·rintro lv H' ⟨rfl,h⟩
  have hI':(match binI op a b2 with
   |some v=>IR.ok v s2
   |none=>.stop 12 s2)=R:=hI
  cases hb9:binI op a b2 with
  |none=>rw[hb9] at h;cases h
  |some y=>
   rw[hb9] at h hI';cases h;refine gaf ?_;exact retI (v:=y) hj (zra rfl) hI'.symm rfl (qmG (List.Perm.symm hpick) (zhD (zhD zhr))) hs3
 rintro ch H' ⟨rfl,h⟩ e' he'
 have hI':(match binI op a b2 with
  |some v=>IR.ok v s2
  |none=>.stop 12 s2)=R:=hI
 cases hb9:binI op a b2 with
 |some y=>rw[hb9] at h;cases h
 |none=>
  rw[hb9] at h hI';cases h;refine gak ?_;exact qe9 (he'.trans hj) hI'.symm (qmG (List.Perm.symm hpick) (zhD (zhD zhr))) hs3
theorem qq1{c:Cfg}(hC:CfgOk c):qrE B0 w0 c 0:=by
 intro f kn x s H hf hk hv hnum hsm hg hs;have ht:tick s=.stop 13 s:=by rw[tick,zp (Nat.le_zero.1 hg.2.1)]
 obtain⟨op,num,name,args⟩:=x;rw[qcH];refine cJ Tryz.func174 (n:=92) ?_;refine gai ?_;refine oS (sB rfl λb4=>oS (sB rfl λb5=>?_) rfl) rfl;refine gag ?_;refine oS (S.callI [_] rfl qd1 (qgR hC hs) (λu s1 H1 hr hs1=>?_) (λer s1 H1 hr hs1 e' he'=>?_)) rfl;rw[ht] at hr;cases hr;rw[ht] at hr;cases hr;refine gak ?_;exact qe9 (he'.trans rfl) (by rw[evI]) qaA hs1
theorem qsD{c:Cfg}(hC:CfgOk c):qui B0 w0 c 0:=by
 intro f kn x s H hf hk hv hnum hsm hg hs;have ht:tick s=.stop 13 s:=by rw[tick,zp (Nat.le_zero.1 hg.2.1)]
 obtain⟨kind,name,index,value,thn,els⟩:=x;rw[qca];refine cJ Tryz.func130 (n:=93) ?_;refine gai ?_;refine oS (sB rfl λb4=>oS (sB rfl λb5=>?_) rfl) rfl;refine gag ?_;refine oS (S.callI [_] rfl qd1 (qgR hC hs) (λu s1 H1 hr hs1=>?_) (λer s1 H1 hr hs1 e' he'=>?_)) rfl;rw[ht] at hr;cases hr;rw[ht] at hr;cases hr;refine gak ?_;exact qe9 (he'.trans rfl) (by rw[stI]) qaA hs1
theorem qrN{c:Cfg}(hC:CfgOk c):∀ n:Nat,qrE B0 w0 c n/\qui B0 w0 c n
 |0=>⟨qq1 hC,qsD hC⟩
 |n+1=>by
  obtain⟨h1,h2⟩:=qrN hC n;have hB:=qc9 hC h2;exact⟨qs1 hC h1 hB,qmX hC h1 hB⟩
end
end Go.Proofs.YtegmklafpoldgaaGreatDoor.Inp
namespace Go.Proofs.YtegmklafpoldgaaGreatDoor.Chk
open Go.GL Go.RowKit Go.Stele
def qpy(es:List LV)(r:LRes)(H:Heap):Prop:=∃ v,r=.ret v/\GL.Acc 1 v es H []
theorem get_mid{A B:Type}(g:A->B)(pre:List A)(a:A)(l:List A):((pre++a::l).map g)[((pre.length:Nat):Int).toNat]? = some (g a):=by
 rw[Int.toNat_natCast,List.getElem?_map,List.getElem?_append_right (zNr _),sub_self];rfl
theorem qaA{H F:Heap}:HSub H (H++F):=⟨F,List.Perm.refl _⟩
theorem qnG(l:List (List UInt8)):∀ v∈l.map str,v.cells.length=1:=λv hv=>by
 obtain⟨a,_,rfl⟩:=zRf hv;rfl
theorem qvz(l:List (List UInt8)):((l.map str).flatMap LV.cells).all qcP=true:=by
 induction l with
 |nil=>rfl
 |cons a l ih=>
  simp only[zMc,List.flatMap_cons,List.all_append,ih,Bool.and_true];rfl
section
variable{C:Ctx}{n:Nat}{e:Env}{H H':Heap}{rs:List ResultVar}{vs:List LV}{es:List LV}{v:LV}
theorem qmI(hd:e.ds=[])(h:qbQ C n e H rs [v])(hv:GL.Acc 1 v es H' [])(hH:HSub H' H):qad C n rs (qpy es) .ret e H:=rR hd h hH ⟨v,rfl,hv⟩
end
attribute [local irreducible] LOps qah qae LCalls Go.GL.Pure qaw qam qad LQ LAny qay qal LS
section
variable{B0:Nat}{w0:World}
theorem qqp(l:List (List UInt8))(hl:l.length<=2000000):LCalls (KC B0 w0) 50 [.list (l.map str)] [] (qpy (l.map str)):=by
 refine cJ Tryz.func50 (n:=8) ?_;refine gaa ?_;refine oS (S.sliceNil (es:=l.map str) rfl λb hb=>?_) rfl;refine gaf ?_;refine oC rfl (λhc=>?_) (λhc=>?_);have h0:=hb hc;refine gaa ?_;exact qmI rfl (rC (rT (v:=qab) rfl zsr) rN) (by rw[h0];exact Acc.nil) zhr;refine gal ?_;refine oS (S.litA [] rfl eN rfl rfl rfl λb4=>?_) rfl;refine gab ?_;refine oS (S.acc (es:=[]) (F:=[]) rfl Acc.row rfl (qnG l) (qvz l) (by simp;omega) λv' H' hacc=>?_) rfl;refine zQ30 ?_;refine gaf ?_;exact qmI rfl (rC (rT (v:=v') rfl zsr) rN) hacc zhr
theorem qsx(k:Nat)(hk:k<=1000000000):LCalls (KC B0 w0) 124 [qab,int .i64 k] [] (qpy []):=by
 refine cJ Tryz.func124 (n:=27) ?_;refine gaa ?_;refine oC rfl (λhc=>?_) (λ_=>?_);have:=zt hc;omega;refine gaa ?_;refine oP (Pure.rowCap rfl) rfl<|oP (pM (lv:=qab) rfl) rfl<|oP (Pure.rowLen rfl) rfl<|gac ?_;refine oC rfl (λhc=>?_) (λhc=>?_)
 have h0:0<k:=by
  have:=zt hc;simp at this;omega
 refine gah ?_;refine oP (Pure.rowCap rfl) rfl<|oP (Pure.rowSlice (n:=0) rfl rfl (zNr _)) rfl<|gab ?_;refine oS (S.appZeros (n:=k) rfl (qao (by simp)) h0 zo λb cap hcap=>?_) rfl;refine gab ?_;refine oP (Pure.rowSlice (n:=0) rfl rfl zo) rfl<|LOps.rowOpen 25 1 pH rfl (by simp) ?_;refine oP (pA (lv:=.app b cap 1 []) rfl) rfl<|gac ?_;exact qmI rfl (rC (rT (v:=.app b cap 1 []) rfl zsr) rN) Acc.row zhr;refine gaa ?_;exact qmI rfl (rC (rT (v:=qab) rfl zsr) rN) Acc.nil zhr
def qeU(l:List (List UInt8)):LV:=.list (l.map str)
theorem qvq(L:List (List (List UInt8)))(M:Nat)(h:∀ l∈L,l.length<=M):L.flatten.length<=L.length * M:=by
 induction L with
 |nil=>simp
 |cons a L ih=>
  rw[List.flatten_cons,zLa,zLc,Nat.add_mul];have h1:=h a zMs;have h2:=ih λl hl=>h l (zMo _ hl);omega
theorem qjG(L:List (List (List UInt8)))(hL:L.length<=4)(hl:∀ l∈L,l.length<=2000000):LCalls (KC B0 w0) 51 [.list (L.map qeU)] [] (qpy (L.flatten.map str)):=by
 have hsum:=qvq L 2000000 hl;refine cJ Tryz.func51 (n:=36) ?_;refine gaa ?_
 refine oL (λk ls H'=>∃ pre l1,L=pre++l1/\k=l1.length/\ls=[(0,.list (L.map qeU)),(3,int .i64 (pre.flatten.length:Int)),(9,.list (L.map qeU)),(10,int .i64 ((L.map qeU).length:Int)),(11,int .i64 (pre.length:Int))]/\H'=[])
  ⟨L.length,_,_,⟨[],L,rfl,rfl,rfl,rfl⟩,⟨rfl,rfl,rfl,rfl,rfl,trivial⟩,zhR _⟩ ?_
 rintro k ls H' ⟨pre,l1,hLe,rfl,rfl,rfl⟩ j hj
 have hb1:pre.flatten.length<=8000000:=by
  have h1:=hsum;rw[hLe,List.flatten_append,zLa] at h1;rw[hLe] at hL;omega
 have hb2:pre.length<=4:=by
  rw[hLe,zLa] at hL;omega
 refine gaj ?_;refine oC rfl (λhc=>?_) (λhc=>?_);have hlen:=zt hc;rw[zLm,hLe,zLa] at hlen
 obtain⟨a,l2,rfl⟩:∃ a l2,l1=a::l2:=by
  cases l1 with
  |nil=>simp at hlen
  |cons a l2=>exact⟨a,l2,rfl⟩
 have ha:(a.map str).length<=2000000:=by
  rw[zLm];exact hl a (by rw[hLe];exact mem_append_right _ zMs)
 refine zQ75 ?_;refine oC rfl (λhd=>?_) (λ_=>?_);have:=zt hd;omega;refine gaa ?_;exact⟨l2.length,_,_,lt_succ_self _,⟨pre++[a],l2,by rw[hLe];simp,rfl,rfl,rfl⟩,⟨rfl,qao (by simp),rfl,rfl,qao (by simp),trivial⟩,zhR _,hj⟩;have hlen:=zf hc;rw[zLm,hLe,zLa] at hlen
 obtain rfl:l1=[]:=by
  cases l1 with
  |nil=>rfl
  |cons a l2=>simp at hlen;omega
 rw[zLz] at hLe;subst hLe;refine gaa ?_;have hfl:L.flatten.length<=8000000:=by omega
 refine oS (S.callH (H1:=[]) (F:=[]) [_,_] rfl zpr (qsx L.flatten.length zo) ?_ (by rintro ch H' ⟨v,h,_⟩;cases h)) rfl;rintro v Ha ⟨_,h,hacc⟩;cases h;rw[zLz];refine oP (pA (lv:=v) rfl) rfl<|gaa ?_
 refine oL (λk ls H'=>∃ pre l1 v1 Ha1,L=pre++l1/\k=l1.length/\ls=[(6,v1),(25,.list (L.map qeU)),(26,int .i64 ((L.map qeU).length:Int)),(27,int .i64 (pre.length:Int))]/\H'=Ha1/\GL.Acc 1 v1 (pre.flatten.map str) Ha1 [])
  ⟨L.length,_,_,⟨[],L,v,Ha,rfl,rfl,rfl,rfl,hacc⟩,⟨rfl,rfl,rfl,rfl,trivial⟩,zhR _⟩ ?_
 rintro k ls H' ⟨pre,l1,v1,Ha1,hLe,rfl,rfl,rfl,hacc1⟩ j2 hj2
 have hb1:pre.flatten.length<=8000000:=by
  have h1:=hsum;rw[hLe,List.flatten_append,zLa] at h1;rw[hLe] at hL;omega
 have hb2:pre.length<=4:=by
  rw[hLe,zLa] at hL;omega
 refine gaj ?_;refine oC rfl (λhc=>?_) (λhc=>?_);have hlen:=zt hc;rw[zLm,hLe,zLa] at hlen
 obtain⟨a,l2,rfl⟩:∃ a l2,l1=a::l2:=by
  cases l1 with
  |nil=>simp at hlen
  |cons a l2=>exact⟨a,l2,rfl⟩
 have ha:a.length<=2000000:=hl a (by rw[hLe];exact mem_append_right _ zMs);refine zQ75 ?_;refine oP (pM (lv:=v1) rfl) rfl<|gab ?_;refine oS (S.acc rfl hacc1 rfl (qnG a) (qvz a) (by rw[zLm,zLm];omega) λv' H' hacc=>?_) rfl;refine zQ30 ?_;refine gaa ?_
 exact⟨l2.length,_,_,lt_succ_self _,⟨pre++[a],l2,v',H',by rw[hLe];simp,rfl,rfl,rfl,by
  have e:((pre++[a]).flatten.map str)=pre.flatten.map str++a.map str:=by simp
  rw[e]
  exact hacc⟩,⟨rfl,rfl,rfl,qao (by simp),trivial⟩,zhR _,hj2⟩
 have hlen:=zf hc;rw[zLm,hLe,zLa] at hlen
 obtain rfl:l1=[]:=by
  cases l1 with
  |nil=>rfl
  |cons a l2=>simp at hlen;omega
 rw[zLz] at hLe;rw[<-hLe] at hacc1;refine gaa ?_;refine oP (pM (lv:=v1) rfl) rfl<|oP (pA (lv:=v1) rfl) rfl<|gaf ?_;exact qmI (hj2.trans hj) (rC (rT (v:=v1) rfl zsr) rN) hacc1 zhr
end
def ownS(f:FnD):List (List UInt8):=(f.params++f.locals).map λx=>f.name++[46]++x
section
variable{B0:Nat}{w0:World}
theorem scalars_specG{vars:List Nm}{fs:List FnD}(AL:LV)(hv6:vars.length<=2000000)(hf6:fs.length<=2000000)(hsm:∀ f∈fs,SmF f)(hn:∀ f∈fs,f.name.length<=1000/\∀ x∈f.params++f.locals,x.length<=1000):LCalls (KC B0 w0) 23 [.agg [.list (vars.map str),AL,.list (fs.map qaM)]] [] (Ret (.list ((qaf vars fs).map str))):=by
 have hown:∀ f∈fs,(ownS f).length<=4000000:=λf hf=>by
  have h1:f.params.length<=2000000:=(hsm f hf).params;have h2:f.locals.length<=2000000:=(hsm f hf).locals;unfold ownS;rw[zLm,zLa];omega
 have hsum:∀ l:List FnD,(∀ f∈l,f∈fs)->((l.map ownS).flatten).length<=l.length * 4000000:=λl hl=>by
  have:=qvq (l.map ownS) 4000000 (λx hx=>by
   obtain⟨f,hf,rfl⟩:=zRf hx
   exact hown f (hl f hf))
  rwa [zLm] at this
 refine cJ Tryz.func23 (n:=40) ?_;refine gai ?_;refine oS (sB rfl λb1=>?_) rfl;refine gac ?_;refine oS (S.callH (H1:=[]) (F:=[_]) [_] rfl zpr (qqp vars hv6) ?_ (by rintro ch H' ⟨v,h,_⟩;cases h)) rfl;rintro v Ha ⟨_,h,hacc⟩;cases h;refine LOps.perm (zPc (l₂:=[_])) ?_;refine oP (pA (lv:=v) rfl) rfl<|gac ?_
 refine oL (λk ls H'=>∃ pre l1 v1 Ha1,fs=pre++l1/\k=l1.length/\ls=[(3,v1),(12,.list (fs.map qaM)),(13,int .i64 ((fs.map qaM).length:Int)),(14,int .i64 (pre.length:Int))]/\H'=Ha1/\GL.Acc 1 v1 ((vars++(pre.map ownS).flatten).map str) Ha1 [])
  ⟨fs.length,_,_,⟨[],fs,v,Ha,rfl,rfl,rfl,rfl,by simpa using hacc⟩,⟨rfl,rfl,rfl,rfl,trivial⟩,zhD zhr⟩ ?_
 rintro k ls Ha1 ⟨pre,l1,v1,_,hLe,rfl,rfl,rfl,hacc1⟩ j hj
 have hb2:pre.length<=2000000:=by
  rw[hLe,zLa] at hf6;omega
 have hb1:((pre.map ownS).flatten).length<=8000000000000:=by
  have:=hsum pre (λf hf=>by rw[hLe];exact List.mem_append_left _ hf);omega
 refine gaj ?_;refine oC rfl (λhc=>?_) (λhc=>?_);have hlen:=zt hc;rw[zLm,hLe,zLa] at hlen
 obtain⟨f,l2,rfl⟩:∃ a l2,l1=a::l2:=by
  cases l1 with
  |nil=>simp at hlen
  |cons a l2=>exact⟨a,l2,rfl⟩
 have hfm:f∈fs:=by rw[hLe];exact mem_append_right _ zMs
 obtain⟨hn1,hn2⟩:=hn f hfm;have hp6:f.params.length<=2000000:=(hsm f hfm).params;have hl6:f.locals.length<=2000000:=(hsm f hfm).locals;refine gal ?_;refine oP (xR (el':=qaM f) (cs:=[_,_,_,_]) rfl rfl zo (by rw[hLe];exact get_mid qaM pre f l2) rfl rfl) rfl<|gad ?_;refine oS (sA λb5=>?_) rfl;refine gac ?_;refine oS (sL (es:=[qeU f.params,qeU f.locals]) [_,_] rfl (eC rfl rfl (eC rfl rfl eN)) rfl rfl rfl ?_) rfl
 refine oS (S.callH (H1:=[]) (F:=(b5,.cells 89 [str f.name,qeU f.params,qeU f.locals,.list (f.body.map encS)])::Ha1) [_] rfl zpr (qjG [f.params,f.locals] (by simp) (by
  intro l hl;rcases zMi.1 hl with rfl|hl;exact hp6;rw[zRa hl]
  exact hl6)) ?_ (by rintro ch H' ⟨v,h,_⟩;cases h)) rfl
 rintro v2 Ha2 ⟨_,h,hacc2⟩;cases h;have hfl:[f.params,f.locals].flatten=f.params++f.locals:=by simp
 rw[hfl] at hacc2;refine LOps.sub 23 rfl hacc2.sub ?_;refine LOps.weak (H':=(b5,.cells 89 [str f.name,qeU f.params,qeU f.locals,.list (f.body.map encS)])::Ha1) ⟨Ha2,zPc⟩ ?_;refine gab ?_
 refine oL (λk ls H'=>∃ pre2 l3 v3 Ha3,f.params++f.locals=pre2++l3/\k=l3.length/\ls=[(3,v3),(5,ptr b5 0),(12,.list (fs.map qaM)),(13,int .i64 ((fs.map qaM).length:Int)),(14,int .i64 (pre.length:Int)),(23,.list ((f.params++f.locals).map str)),(24,int .i64 (((f.params++f.locals).map str).length:Int)),(25,int .i64 (pre2.length:Int))] /\
   H'=(b5,.cells 89 [str f.name,qeU f.params,qeU f.locals,.list (f.body.map encS)])::Ha3/\GL.Acc 1 v3 ((vars++(pre.map ownS).flatten++pre2.map λx=>f.name++[46]++x).map str) Ha3 [])
  ⟨(f.params++f.locals).length,_,_,⟨[],f.params++f.locals,v1,Ha1,rfl,rfl,rfl,rfl,by simpa using hacc1⟩,⟨rfl,rfl,rfl,rfl,rfl,rfl,rfl,rfl,trivial⟩,zhR _⟩ ?_
 rintro k ls H' ⟨pre2,l3,v3,Ha3,hLe2,rfl,rfl,rfl,hacc3⟩ j2 hj2
 have hb3:pre2.length<=4000000:=by
  have:(f.params++f.locals).length<=4000000:=by rw[zLa];omega
  rw[hLe2,zLa] at this;omega
 refine gaj ?_;refine oC rfl (λhd=>?_) (λhd=>?_);have hlen2:=zt hd;rw[zLm,hLe2,zLa] at hlen2
 obtain⟨x,l4,rfl⟩:∃ a l2,l3=a::l2:=by
  cases l3 with
  |nil=>simp at hlen2
  |cons a l2=>exact⟨a,l2,rfl⟩
 have hx:x.length<=1000:=hn2 x (by rw[hLe2];exact mem_append_right _ zMs);refine gal ?_;refine oP (xR (el':=str x) (cs:=[str x]) rfl rfl zo (by rw[hLe2];exact get_mid str pre2 x l4) rfl rfl) rfl<|gac ?_;refine oP (pM (lv:=v3) rfl) rfl<|gad ?_;refine oS (sL (es:=[str (f.name++[46]++x)]) [_] rfl (eC rfl rfl eN) rfl rfl rfl<|oS (S.acc1 rfl hacc3 rfl (qnG [f.name++[46]++x]) rfl (by rw[zLm,zLa,zLa,zLm,zLc,zLn];omega) λv' H' hacc'=>?_) rfl) rfl;refine zQ30 ?_;refine gaa ?_
 exact⟨l4.length,_,_,lt_succ_self _,⟨pre2++[x],l4,v',H',by rw[hLe2];simp,rfl,rfl,rfl,by
  have e:((vars++(pre.map ownS).flatten++(pre2++[x]).map λx=>f.name++[46]++x).map str)=((vars++(pre.map ownS).flatten++pre2.map λx=>f.name++[46]++x).map str)++[str (f.name++[46]++x)]:=by simp
  rw[e]
  exact hacc'⟩,⟨rfl,rfl,rfl,rfl,rfl,rfl,rfl,qao (by simp),trivial⟩,zhR _,hj2⟩
 have hlen2:=zf hd;rw[zLm,hLe2,zLa] at hlen2
 obtain rfl:l3=[]:=by
  cases l3 with
  |nil=>rfl
  |cons a l2=>simp at hlen2;omega
 rw[zLz] at hLe2;refine gaa ?_
 exact⟨l2.length,_,_,lt_succ_self _,⟨pre++[f],l2,v3,Ha3,by rw[hLe];simp,rfl,rfl,rfl,by
  have e:((vars++((pre++[f]).map ownS).flatten).map str)=(vars++(pre.map ownS).flatten++pre2.map λx=>f.name++[46]++x).map str:=by
   rw[<-hLe2];simp[ownS]
  rw[e]
  exact hacc3⟩,⟨rfl,rfl,rfl,qao (by simp),trivial⟩,zhD zhr,hj2.trans hj⟩
 have hlen:=zf hc;rw[zLm,hLe,zLa] at hlen
 obtain rfl:l1=[]:=by
  cases l1 with
  |nil=>rfl
  |cons a l2=>simp at hlen;omega
 rw[zLz] at hLe;rw[<-hLe] at hacc1;refine gaa ?_;refine oP (pM (lv:=v1) rfl) rfl<|oP (pA (lv:=v1) rfl) rfl<|gaf ?_;exact rR hj (rC (rT (v:=v1) rfl hacc1.sub) rN) zhn ⟨rfl,rfl⟩
theorem scalars_spec{p:Pr}(hsm:SmP p)(hn:∀ f∈p.funcs,f.name.length<=1000/\∀ x∈f.params++f.locals,x.length<=1000):LCalls (KC B0 w0) 23 [qfk p] [] (Ret (.list ((qaf p.vars p.funcs).map str))):=
 scalars_specG _ hsm.vars hsm.funcs hsm.each hn
end
end Go.Proofs.YtegmklafpoldgaaGreatDoor.Chk
namespace Go.Proofs
def Tryz.lays156_ren:Go.Shelf.Ren:=⟨fun|156=>26|165=>56|166=>57|169=>58|240=>128|241=>129|276=>171|277=>172|n=>n,fun|31=>24|9=>9|3=>3|4=>4|0=>0|20=>20|72=>134|76=>138|70=>132|37=>80|75=>137|127=>195|164=>221|5=>5|80=>140|n=>n,fun|n=>n⟩
theorem Tryz.lays156:Go.Proofs.Lays.n156 Tryz.prog Tryz.lays156_ren:={
 mixed:=by kernel_rfl
 f156:=Tryz.func26.trans zCs
 f165:=Tryz.func56.trans zCs
 f166:=Tryz.func57.trans zCs
 f169:=Tryz.func58.trans zCs
 f240:=Tryz.func128.trans zCs
 f241:=Tryz.func129.trans zCs
 f276:=Tryz.func171.trans zCs
 f277:=Tryz.func172.trans zCs
 t0:=Tryz.underlying0
 a0:=Tryz.isAgg0
 z0:=Tryz.sizeOf0
 v0:=Tryz.zeroValue0
 t3:=Tryz.underlying3
 a3:=Tryz.isAgg3
 z3:=Tryz.sizeOf3
 v3:=Tryz.zeroValue3
 t4:=Tryz.underlying4
 a4:=Tryz.isAgg4
 z4:=Tryz.sizeOf4
 v4:=Tryz.zeroValue4
 t9:=Tryz.underlying9
 a9:=Tryz.isAgg9
 z9:=Tryz.sizeOf9
 v9:=Tryz.zeroValue9
 t20:=Tryz.underlying20
 a20:=Tryz.isAgg20
 z20:=Tryz.sizeOf20
 v20:=Tryz.zeroValue20
 t31:=Tryz.underlying24
 a31:=Tryz.isAgg24
 z31:=Tryz.sizeOf24
 v31:=Tryz.zeroValue24
 t37:=Tryz.underlying80
 a37:=Tryz.isAgg80
 z37:=Tryz.sizeOf80
 v37:=Tryz.zeroValue80
 t70:=Tryz.underlying132
 a70:=Tryz.isAgg132
 z70:=Tryz.sizeOf132
 v70:=Tryz.zeroValue132
 t72:=Tryz.underlying134
 a72:=Tryz.isAgg134
 z72:=Tryz.sizeOf134
 v72:=Tryz.zeroValue134
 t75:=Tryz.underlying137
 a75:=Tryz.isAgg137
 z75:=Tryz.sizeOf137
 v75:=Tryz.zeroValue137
 t76:=Tryz.underlying138
 a76:=Tryz.isAgg138
 z76:=Tryz.sizeOf138
 v76:=Tryz.zeroValue138
 t127:=Tryz.underlying195
 a127:=Tryz.isAgg195
 z127:=Tryz.sizeOf195
 v127:=Tryz.zeroValue195
 t164:=Tryz.underlying221
 a164:=Tryz.isAgg221
 z164:=Tryz.sizeOf221
 v164:=Tryz.zeroValue221 }
theorem Tryz.Builder_Extra_156:Builder.Extra Tryz.prog Tryz.lays156_ren:={
 sizeBuilder:=by kernel_rfl
 liesBuilder:=by kernel_rfl
 t5:=Tryz.underlying5
 a5:=Tryz.isAgg5
 z5:=Tryz.sizeOf5
 v5:=Tryz.zeroValue5
 infoByte:=by kernel_rfl
 cellsByte:=by kernel_rfl
 sizeByte:=by kernel_rfl
 neB5:=by decide }
open Go.RowKit in
theorem Tryz.strings_Join_none(a:Option Addr)(c:Nat)(sep:ByteArray)(w:World) :
  Calls Tryz.prog 26 #[.slice a 0 c,.string sep] w λe w'=>e=.returned (.string ⟨#[]⟩)/\w'=w:=Any.strings_Join_none Tryz.lays156 Tryz.Builder_Extra_156 a c sep w
open Go.RowKit in
theorem Tryz.strings_Join(bk o c:Nat)(xs:List ByteArray)(sep:ByteArray)(w:World)(hcells:∀ (j:Nat) x,xs[j]? = some x->w.cell? ⟨bk,o+j,none⟩=some (.string x))(hbk:bk<w.heap.size)(hN:xs.length<=140737488355328)(hcap:xs.length<=c)(hlen:(Lib.join (xs.map (·.data.toList)) sep.data.toList).length<=140737488355328) :
  Calls Tryz.prog 26 #[.slice (some ⟨bk,o,none⟩) xs.length c,.string sep] w λe w'=>e=.returned (.string ⟨(Lib.join (xs.map (·.data.toList)) sep.data.toList).toArray⟩)/\Below w.heap.size w w':=Any.strings_Join Tryz.lays156 Tryz.Builder_Extra_156 bk o c xs sep w hcells hbk hN hcap hlen
def Tryz.lays160_ren:Go.Shelf.Ren:=⟨fun|160=>159|232=>191|231=>190|227=>192|234=>194|233=>193|236=>196|235=>195|228=>218|271=>220|151=>219|197=>216|120=>239|152=>238|260=>237|137=>245|119=>246|224=>202|225=>201|217=>200|266=>227|n=>n,fun|9=>9|4=>4|3=>3|5=>5|117=>241|116=>240|0=>0|124=>244|21=>21|105=>252|46=>234|119=>279|139=>282|138=>281|n=>n,fun|3=>6|4=>7|n=>n⟩
theorem Tryz.lays160:Go.Proofs.Lays.n160 Tryz.prog Tryz.lays160_ren:={
 mixed:=by kernel_rfl
 f119:=Tryz.func246.trans zCs
 f120:=Tryz.func239.trans zCs
 f137:=Tryz.func245.trans zCs
 f151:=Tryz.func219.trans zCs
 f152:=Tryz.func238.trans zCs
 f160:=Tryz.func159.trans zCs
 f197:=Tryz.func216.trans zCs
 f217:=Tryz.func200.trans zCs
 f224:=Tryz.func202.trans zCs
 f225:=Tryz.func201.trans zCs
 f227:=Tryz.func192.trans zCs
 f228:=Tryz.func218.trans zCs
 f231:=Tryz.func190.trans zCs
 f232:=Tryz.func191.trans zCs
 f233:=Tryz.func193.trans zCs
 f234:=Tryz.func194.trans zCs
 f235:=Tryz.func195.trans zCs
 f236:=Tryz.func196.trans zCs
 f260:=Tryz.func237.trans zCs
 f266:=Tryz.func227.trans zCs
 f271:=Tryz.func220.trans zCs
 t0:=Tryz.underlying0
 a0:=Tryz.isAgg0
 z0:=Tryz.sizeOf0
 v0:=Tryz.zeroValue0
 t3:=Tryz.underlying3
 a3:=Tryz.isAgg3
 z3:=Tryz.sizeOf3
 v3:=Tryz.zeroValue3
 t4:=Tryz.underlying4
 a4:=Tryz.isAgg4
 z4:=Tryz.sizeOf4
 v4:=Tryz.zeroValue4
 t5:=Tryz.underlying5
 a5:=Tryz.isAgg5
 z5:=Tryz.sizeOf5
 v5:=Tryz.zeroValue5
 t9:=Tryz.underlying9
 a9:=Tryz.isAgg9
 z9:=Tryz.sizeOf9
 v9:=Tryz.zeroValue9
 t21:=Tryz.underlying21
 a21:=Tryz.isAgg21
 z21:=Tryz.sizeOf21
 v21:=Tryz.zeroValue21
 t46:=Tryz.underlying234
 a46:=Tryz.isAgg234
 z46:=Tryz.sizeOf234
 v46:=Tryz.zeroValue234
 t105:=Tryz.underlying252
 a105:=Tryz.isAgg252
 z105:=Tryz.sizeOf252
 v105:=Tryz.zeroValue252
 t116:=Tryz.underlying240
 a116:=Tryz.isAgg240
 z116:=Tryz.sizeOf240
 t117:=Tryz.underlying241
 a117:=Tryz.isAgg241
 z117:=Tryz.sizeOf241
 v117:=Tryz.zeroValue241
 t119:=Tryz.underlying279
 a119:=Tryz.isAgg279
 z119:=Tryz.sizeOf279
 t124:=Tryz.underlying244
 a124:=Tryz.isAgg244
 z124:=Tryz.sizeOf244
 v124:=Tryz.zeroValue244
 t138:=Tryz.underlying281
 a138:=Tryz.isAgg281
 z138:=Tryz.sizeOf281
 v138:=Tryz.zeroValue281
 t139:=Tryz.underlying282
 a139:=Tryz.isAgg282
 z139:=Tryz.sizeOf282
 v139:=Tryz.zeroValue282
 g3:=by kernel_rfl
 g4:=zk }
def Tryz.lays103_ren:Go.Shelf.Ren:=⟨fun|103=>131|210=>177|206=>160|n=>n,fun|9=>9|4=>4|24=>151|3=>3|n=>n,fun|n=>n⟩
theorem Tryz.lays103:Go.Proofs.Lays.n103 Tryz.prog Tryz.lays103_ren:={
 mixed:=by kernel_rfl
 f103:=Tryz.func131.trans zCs
 f206:=Tryz.func160.trans zCs
 f210:=Tryz.func177.trans zCs
 t3:=Tryz.underlying3
 a3:=Tryz.isAgg3
 z3:=Tryz.sizeOf3
 v3:=Tryz.zeroValue3
 t4:=Tryz.underlying4
 a4:=Tryz.isAgg4
 z4:=Tryz.sizeOf4
 v4:=Tryz.zeroValue4
 t9:=Tryz.underlying9
 a9:=Tryz.isAgg9
 z9:=Tryz.sizeOf9
 v9:=Tryz.zeroValue9
 t24:=Tryz.underlying151
 a24:=Tryz.isAgg151
 z24:=Tryz.sizeOf151
 v24:=Tryz.zeroValue151 }
open Go.RowKit in
theorem Tryz.strings_CutPrefix(s p:ByteArray)(w:World) :
  Calls Tryz.prog 131 #[.string s,.string p] w λe w'=>e=.returned (.tuple #[.string ⟨(Lib.trimPrefix s.data.toList p.data.toList).toArray⟩,.bool (Lib.hasPrefix s.data.toList p.data.toList)])/\w'=w:=Any.strings_CutPrefix Tryz.lays103 s p w
def Tryz.lays104_ren:Go.Shelf.Ren:=⟨fun|104=>157|211=>189|207=>217|n=>n,fun|9=>9|4=>4|24=>151|3=>3|n=>n,fun|n=>n⟩
theorem Tryz.lays104:Go.Proofs.Lays.n104 Tryz.prog Tryz.lays104_ren:={
 mixed:=by kernel_rfl
 f104:=Tryz.func157.trans zCs
 f207:=Tryz.func217.trans zCs
 f211:=Tryz.func189.trans zCs
 t3:=Tryz.underlying3
 a3:=Tryz.isAgg3
 z3:=Tryz.sizeOf3
 v3:=Tryz.zeroValue3
 t4:=Tryz.underlying4
 a4:=Tryz.isAgg4
 z4:=Tryz.sizeOf4
 v4:=Tryz.zeroValue4
 t9:=Tryz.underlying9
 a9:=Tryz.isAgg9
 z9:=Tryz.sizeOf9
 v9:=Tryz.zeroValue9
 t24:=Tryz.underlying151
 a24:=Tryz.isAgg151
 z24:=Tryz.sizeOf151
 v24:=Tryz.zeroValue151 }
open Go.RowKit in
theorem Tryz.strings_CutSuffix(s p:ByteArray)(w:World)(hs:s.size<=9223372036854775807) :
  Calls Tryz.prog 157 #[.string s,.string p] w λe w'=>e=.returned (.tuple #[.string ⟨(Lib.trimSuffix s.data.toList p.data.toList).toArray⟩,.bool (Lib.hasSuffix s.data.toList p.data.toList)])/\w'=w:=Any.strings_CutSuffix Tryz.lays104 s p w hs
def Tryz.lays283_ren:Go.Shelf.Ren:=⟨fun|283=>149|n=>n,fun|3=>3|9=>9|4=>4|n=>n,fun|n=>n⟩
theorem Tryz.lays283:Go.Proofs.Lays.n283 Tryz.prog Tryz.lays283_ren:={
 mixed:=by kernel_rfl
 f283:=Tryz.func149.trans zCs
 t3:=Tryz.underlying3
 a3:=Tryz.isAgg3
 z3:=Tryz.sizeOf3
 v3:=Tryz.zeroValue3
 t4:=Tryz.underlying4
 a4:=Tryz.isAgg4
 z4:=Tryz.sizeOf4
 v4:=Tryz.zeroValue4
 t9:=Tryz.underlying9
 a9:=Tryz.isAgg9
 z9:=Tryz.sizeOf9
 v9:=Tryz.zeroValue9 }
open Go.Lib in
theorem Tryz.internal_strconv_small(i:Nat)(h:i<100)(w:World) :
  Calls Tryz.prog 149 #[.int .i64 i] w λe w'=>e=.returned (.string ⟨(Lib.decDigits i).toArray⟩)/\w'=w:=Any.internal_strconv_small Tryz.lays283 i h w
def Tryz.laysM284_ren:Go.Shelf.Ren:=⟨fun|284=>150|129=>183|317=>182|318=>184|n=>n,fun|53=>208|3=>3|212=>231|0=>0|4=>4|46=>234|5=>5|9=>9|n=>n,fun|17=>1|n=>n⟩
theorem Tryz.laysM284:Go.Proofs.LaysM.n284 Tryz.prog Tryz.laysM284_ren:={
 mixed:=by kernel_rfl
 f129:=Tryz.func183.trans zCs
 f284:=Tryz.func150.trans zCs
 f317:=Tryz.func182.trans zCs
 f318:=Tryz.func184.trans zCs
 t0:=Tryz.underlying0
 a0:=Tryz.isAgg0
 z0:=Tryz.sizeOf0
 v0:=Tryz.zeroValue0
 t3:=Tryz.underlying3
 a3:=Tryz.isAgg3
 z3:=Tryz.sizeOf3
 v3:=Tryz.zeroValue3
 t4:=Tryz.underlying4
 a4:=Tryz.isAgg4
 z4:=Tryz.sizeOf4
 v4:=Tryz.zeroValue4
 t5:=Tryz.underlying5
 a5:=Tryz.isAgg5
 z5:=Tryz.sizeOf5
 v5:=Tryz.zeroValue5
 t9:=Tryz.underlying9
 a9:=Tryz.isAgg9
 z9:=Tryz.sizeOf9
 v9:=Tryz.zeroValue9
 t46:=Tryz.underlying234
 a46:=Tryz.isAgg234
 z46:=Tryz.sizeOf234
 v46:=Tryz.zeroValue234
 t53:=Tryz.underlying208
 a53:=Tryz.isAgg208
 z53:=Tryz.sizeOf208
 v53:=Tryz.zeroValue208
 t212:=Tryz.underlying231
 a212:=Tryz.isAgg231
 z212:=Tryz.sizeOf231
 v212:=Tryz.zeroValue231
 g17:=by kernel_rfl
 i0:=by kernel_rfl
 i3:=by kernel_rfl
 i4:=by kernel_rfl
 i5:=by kernel_rfl
 i9:=by kernel_rfl
 i46:=by kernel_rfl
 i53:=by kernel_rfl
 i212:=by kernel_rfl
 m17:=zk }
open Go.Lib in
theorem Tryz.internal_strconv_numDigits (u : Nat) (h1 : 1 ≤ u) (h2 : u < 18446744073709551616) (w : World) (htab : Lib.TabIs Tryz.prog w "internal/strconv.uint64pow10" .u64 Lib.pow10Tab) :
  Calls Tryz.prog 150 #[.int .u64 u] w λe w'=>e=.returned (.int .i64 (Lib.nDigits u))/\w'=w:=Any.internal_strconv_numDigits Tryz.laysM284 u h1 h2 w htab
def Tryz.lays285_ren:Go.Shelf.Ren:=⟨fun|285=>151|n=>n,fun|37=>80|53=>208|3=>3|4=>4|51=>84|9=>9|5=>5|0=>0|n=>n,fun|n=>n⟩
theorem Tryz.lays285:Go.Proofs.Lays.n285 Tryz.prog Tryz.lays285_ren:={
 mixed:=by kernel_rfl
 f285:=Tryz.func151.trans zCs
 t0:=Tryz.underlying0
 a0:=Tryz.isAgg0
 z0:=Tryz.sizeOf0
 v0:=Tryz.zeroValue0
 t3:=Tryz.underlying3
 a3:=Tryz.isAgg3
 z3:=Tryz.sizeOf3
 v3:=Tryz.zeroValue3
 t4:=Tryz.underlying4
 a4:=Tryz.isAgg4
 z4:=Tryz.sizeOf4
 v4:=Tryz.zeroValue4
 t5:=Tryz.underlying5
 a5:=Tryz.isAgg5
 z5:=Tryz.sizeOf5
 v5:=Tryz.zeroValue5
 t9:=Tryz.underlying9
 a9:=Tryz.isAgg9
 z9:=Tryz.sizeOf9
 v9:=Tryz.zeroValue9
 t37:=Tryz.underlying80
 a37:=Tryz.isAgg80
 z37:=Tryz.sizeOf80
 v37:=Tryz.zeroValue80
 t51:=Tryz.underlying84
 a51:=Tryz.isAgg84
 z51:=Tryz.sizeOf84
 v51:=Tryz.zeroValue84
 t53:=Tryz.underlying208
 a53:=Tryz.isAgg208
 z53:=Tryz.sizeOf208
 v53:=Tryz.zeroValue208 }
open Go.RowKit Go.Sort Go.Lib in
theorem Tryz.internal_strconv_formatBase10(blk off cap:Nat)(u:Nat)(d:Array UInt8)(w:World)(hH:Holds (λ(b:UInt8)=>Value.int .u8 (b.toNat:Int)) w blk off d)(hu:u<10 ^ d.size)(hu64:u<18446744073709551616)(hsz:d.size<4611686018427387904) :
  Calls Tryz.prog 151 #[.slice (some ⟨blk,off,none⟩) d.size cap,.int .u64 u] w λe w'=>
   e=.returned (.tuple #[])/\∃ (n v':Nat) (dk:Array UInt8),w'=(putRow (λ(b:UInt8)=>Value.int .u8 (b.toNat:Int)) w blk off dk).drewN n/\FmtInv d.size u 0 v' dk:=Any.internal_strconv_formatBase10 Tryz.lays285 blk off cap u d w hH hu hu64 hsz
def Tryz.laysM171_ren:Go.Shelf.Ren:=⟨fun|171=>13|243=>32|246=>89|283=>149|284=>150|285=>151|286=>152|129=>183|317=>182|318=>184|319=>185|320=>186|337=>210|338=>211|n=>n,fun|3=>3|9=>9|2=>2|4=>4|171=>207|0=>0|53=>208|37=>80|5=>5|173=>211|212=>231|51=>84|20=>20|213=>232|46=>234|232=>268|233=>269|n=>n,fun|17=>1|18=>2|19=>3|n=>n⟩
theorem Tryz.laysM171:Go.Proofs.LaysM.n171 Tryz.prog Tryz.laysM171_ren:={
 mixed:=by kernel_rfl
 f129:=Tryz.func183.trans zCs
 f171:=Tryz.func13.trans zCs
 f243:=Tryz.func32.trans zCs
 f246:=Tryz.func89.trans zCs
 f283:=Tryz.func149.trans zCs
 f284:=Tryz.func150.trans zCs
 f285:=Tryz.func151.trans zCs
 f286:=Tryz.func152.trans zCs
 f317:=Tryz.func182.trans zCs
 f318:=Tryz.func184.trans zCs
 f319:=Tryz.func185.trans zCs
 f320:=Tryz.func186.trans zCs
 f337:=Tryz.func210.trans zCs
 f338:=Tryz.func211.trans zCs
 t0:=Tryz.underlying0
 a0:=Tryz.isAgg0
 z0:=Tryz.sizeOf0
 v0:=Tryz.zeroValue0
 t2:=Tryz.underlying2
 a2:=Tryz.isAgg2
 z2:=Tryz.sizeOf2
 v2:=Tryz.zeroValue2
 t3:=Tryz.underlying3
 a3:=Tryz.isAgg3
 z3:=Tryz.sizeOf3
 v3:=Tryz.zeroValue3
 t4:=Tryz.underlying4
 a4:=Tryz.isAgg4
 z4:=Tryz.sizeOf4
 v4:=Tryz.zeroValue4
 t5:=Tryz.underlying5
 a5:=Tryz.isAgg5
 z5:=Tryz.sizeOf5
 v5:=Tryz.zeroValue5
 t9:=Tryz.underlying9
 a9:=Tryz.isAgg9
 z9:=Tryz.sizeOf9
 v9:=Tryz.zeroValue9
 t20:=Tryz.underlying20
 a20:=Tryz.isAgg20
 z20:=Tryz.sizeOf20
 v20:=Tryz.zeroValue20
 t37:=Tryz.underlying80
 a37:=Tryz.isAgg80
 z37:=Tryz.sizeOf80
 v37:=Tryz.zeroValue80
 t46:=Tryz.underlying234
 a46:=Tryz.isAgg234
 z46:=Tryz.sizeOf234
 v46:=Tryz.zeroValue234
 t51:=Tryz.underlying84
 a51:=Tryz.isAgg84
 z51:=Tryz.sizeOf84
 v51:=Tryz.zeroValue84
 t53:=Tryz.underlying208
 a53:=Tryz.isAgg208
 z53:=Tryz.sizeOf208
 v53:=Tryz.zeroValue208
 t171:=Tryz.underlying207
 a171:=Tryz.isAgg207
 z171:=Tryz.sizeOf207
 v171:=Tryz.zeroValue207
 t173:=Tryz.underlying211
 a173:=Tryz.isAgg211
 z173:=Tryz.sizeOf211
 v173:=Tryz.zeroValue211
 t212:=Tryz.underlying231
 a212:=Tryz.isAgg231
 z212:=Tryz.sizeOf231
 v212:=Tryz.zeroValue231
 t213:=Tryz.underlying232
 a213:=Tryz.isAgg232
 z213:=Tryz.sizeOf232
 t232:=Tryz.underlying268
 a232:=Tryz.isAgg268
 z232:=Tryz.sizeOf268
 v232:=Tryz.zeroValue268
 t233:=Tryz.underlying269
 a233:=Tryz.isAgg269
 z233:=Tryz.sizeOf269
 v233:=Tryz.zeroValue269
 g17:=by kernel_rfl
 g18:=by kernel_rfl
 g19:=by kernel_rfl
 i0:=by kernel_rfl
 i2:=by kernel_rfl
 i3:=by kernel_rfl
 i4:=by kernel_rfl
 i5:=by kernel_rfl
 i9:=by kernel_rfl
 i20:=by kernel_rfl
 i37:=by kernel_rfl
 i46:=by kernel_rfl
 i51:=by kernel_rfl
 i53:=by kernel_rfl
 i171:=by kernel_rfl
 i173:=by kernel_rfl
 i212:=by kernel_rfl
 i232:=by kernel_rfl
 i233:=by kernel_rfl
 m17:=by kernel_rfl
 m18:=by kernel_rfl
 m19:=zk }
open Go.RowKit Go.Sort Go.Lib in
theorem Tryz.strconv_Itoa (n : Int) (h0 : -9223372036854775808 ≤ n) (h1 : n ≤ 9223372036854775807) (w : World) (htab : Lib.TabIs Tryz.prog w "internal/strconv.uint64pow10" .u64 Lib.pow10Tab) :
  Calls Tryz.prog 13 #[.int .i64 n] w λe w'=>e=.returned (.string ⟨(Lib.itoa n).toArray⟩)/\∃ k os,w'=grow (w.drewN k) os:=Any.strconv_Itoa Tryz.laysM171 n h0 h1 w htab
def Tryz.laysPu14_ren:Go.Shelf.Ren:=⟨fun|14=>161|16=>197|17=>198|19=>221|20=>222|21=>223|22=>224|23=>225|24=>226|25=>240|27=>13|26=>241|28=>32|29=>89|30=>149|31=>150|32=>151|33=>152|35=>183|34=>182|36=>184|37=>185|38=>186|39=>210|40=>211|n=>n,fun|9=>9|3=>3|22=>208|24=>137|25=>215|4=>4|34=>255|5=>5|36=>234|37=>80|0=>0|39=>257|21=>21|44=>274|47=>195|50=>286|48=>284|2=>2|52=>207|55=>211|59=>231|60=>84|20=>20|61=>232|65=>268|66=>269|67=>140|n=>n,fun|0=>4|1=>5|2=>1|3=>2|4=>3|n=>n⟩
theorem Tryz.laysPu14:Go.Proofs.LaysPu.n14 Tryz.prog Tryz.laysPu14_ren:={
 mixed:=by kernel_rfl
 f14:=Tryz.func161.trans zCs
 f16:=Tryz.func197.trans zCs
 f17:=Tryz.func198.trans zCs
 f19:=Tryz.func221.trans zCs
 f20:=Tryz.func222.trans zCs
 f21:=Tryz.func223.trans zCs
 f22:=Tryz.func224.trans zCs
 f23:=Tryz.func225.trans zCs
 f24:=Tryz.func226.trans zCs
 f25:=Tryz.func240.trans zCs
 f26:=Tryz.func241.trans zCs
 f27:=Tryz.func13.trans zCs
 f28:=Tryz.func32.trans zCs
 f29:=Tryz.func89.trans zCs
 f30:=Tryz.func149.trans zCs
 f31:=Tryz.func150.trans zCs
 f32:=Tryz.func151.trans zCs
 f33:=Tryz.func152.trans zCs
 f34:=Tryz.func182.trans zCs
 f35:=Tryz.func183.trans zCs
 f36:=Tryz.func184.trans zCs
 f37:=Tryz.func185.trans zCs
 f38:=Tryz.func186.trans zCs
 f39:=Tryz.func210.trans zCs
 f40:=Tryz.func211.trans zCs
 t0:=Tryz.underlying0
 a0:=Tryz.isAgg0
 z0:=Tryz.sizeOf0
 v0:=Tryz.zeroValue0
 i0:=by kernel_rfl
 t2:=Tryz.underlying2
 a2:=Tryz.isAgg2
 z2:=Tryz.sizeOf2
 v2:=Tryz.zeroValue2
 i2:=by kernel_rfl
 t3:=Tryz.underlying3
 a3:=Tryz.isAgg3
 z3:=Tryz.sizeOf3
 v3:=Tryz.zeroValue3
 i3:=by kernel_rfl
 t4:=Tryz.underlying4
 a4:=Tryz.isAgg4
 z4:=Tryz.sizeOf4
 v4:=Tryz.zeroValue4
 i4:=by kernel_rfl
 t5:=Tryz.underlying5
 a5:=Tryz.isAgg5
 z5:=Tryz.sizeOf5
 v5:=Tryz.zeroValue5
 i5:=by kernel_rfl
 t9:=Tryz.underlying9
 a9:=Tryz.isAgg9
 z9:=Tryz.sizeOf9
 v9:=Tryz.zeroValue9
 i9:=by kernel_rfl
 t20:=Tryz.underlying20
 a20:=Tryz.isAgg20
 z20:=Tryz.sizeOf20
 v20:=Tryz.zeroValue20
 i20:=by kernel_rfl
 t21:=Tryz.underlying21
 a21:=Tryz.isAgg21
 z21:=Tryz.sizeOf21
 v21:=Tryz.zeroValue21
 i21:=by kernel_rfl
 t22:=Tryz.underlying208
 a22:=Tryz.isAgg208
 z22:=Tryz.sizeOf208
 v22:=Tryz.zeroValue208
 i22:=by kernel_rfl
 t24:=Tryz.underlying137
 a24:=Tryz.isAgg137
 z24:=Tryz.sizeOf137
 v24:=Tryz.zeroValue137
 i24:=by kernel_rfl
 t25:=Tryz.underlying215
 a25:=Tryz.isAgg215
 z25:=Tryz.sizeOf215
 v25:=Tryz.zeroValue215
 i25:=by kernel_rfl
 t34:=Tryz.underlying255
 a34:=Tryz.isAgg255
 z34:=Tryz.sizeOf255
 v34:=Tryz.zeroValue255
 i34:=by kernel_rfl
 c34:=by kernel_rfl
 t36:=Tryz.underlying234
 a36:=Tryz.isAgg234
 z36:=Tryz.sizeOf234
 v36:=Tryz.zeroValue234
 i36:=by kernel_rfl
 t37:=Tryz.underlying80
 a37:=Tryz.isAgg80
 z37:=Tryz.sizeOf80
 v37:=Tryz.zeroValue80
 i37:=by kernel_rfl
 t39:=Tryz.underlying257
 a39:=Tryz.isAgg257
 z39:=Tryz.sizeOf257
 v39:=Tryz.zeroValue257
 i39:=by kernel_rfl
 t44:=Tryz.underlying274
 a44:=Tryz.isAgg274
 z44:=Tryz.sizeOf274
 v44:=Tryz.zeroValue274
 i44:=by kernel_rfl
 t47:=Tryz.underlying195
 a47:=Tryz.isAgg195
 z47:=Tryz.sizeOf195
 v47:=Tryz.zeroValue195
 i47:=by kernel_rfl
 t48:=Tryz.underlying284
 a48:=Tryz.isAgg284
 z48:=Tryz.sizeOf284
 v48:=Tryz.zeroValue284
 i48:=by kernel_rfl
 t50:=Tryz.underlying286
 a50:=Tryz.isAgg286
 z50:=Tryz.sizeOf286
 v50:=Tryz.zeroValue286
 i50:=by kernel_rfl
 t52:=Tryz.underlying207
 a52:=Tryz.isAgg207
 z52:=Tryz.sizeOf207
 v52:=Tryz.zeroValue207
 i52:=by kernel_rfl
 t55:=Tryz.underlying211
 a55:=Tryz.isAgg211
 z55:=Tryz.sizeOf211
 v55:=Tryz.zeroValue211
 i55:=by kernel_rfl
 t59:=Tryz.underlying231
 a59:=Tryz.isAgg231
 z59:=Tryz.sizeOf231
 v59:=Tryz.zeroValue231
 i59:=by kernel_rfl
 t60:=Tryz.underlying84
 a60:=Tryz.isAgg84
 z60:=Tryz.sizeOf84
 v60:=Tryz.zeroValue84
 i60:=by kernel_rfl
 t61:=Tryz.underlying232
 a61:=Tryz.isAgg232
 z61:=Tryz.sizeOf232
 t65:=Tryz.underlying268
 a65:=Tryz.isAgg268
 z65:=Tryz.sizeOf268
 v65:=Tryz.zeroValue268
 i65:=by kernel_rfl
 t66:=Tryz.underlying269
 a66:=Tryz.isAgg269
 z66:=Tryz.sizeOf269
 v66:=Tryz.zeroValue269
 i66:=by kernel_rfl
 t67:=Tryz.underlying140
 a67:=Tryz.isAgg140
 z67:=Tryz.sizeOf140
 v67:=Tryz.zeroValue140
 i67:=by kernel_rfl
 g0:=by kernel_rfl
 m0:=by kernel_rfl
 g1:=by kernel_rfl
 m1:=by kernel_rfl
 g2:=by kernel_rfl
 m2:=by kernel_rfl
 g3:=by kernel_rfl
 m3:=by kernel_rfl
 g4:=by kernel_rfl
 m4:=zk }
open Go.RowKit in
theorem Tryz.strconv_ParseUint_10_at32_ok(s:ByteArray)(hmax:s.size<=9223372036854775806)(u:Nat)(h:Lib.parseUintB 32 s.data.toList=.ok u)(w:World) :
  Calls Tryz.prog 161 #[.string s,.int .i64 10,.int .i64 32] w λe w'=>e=.returned (.tuple #[.int .u64 u,.nilIface])/\(w'=w∨w'=Lib.bytesWorld w 5 s):=Any.strconv_ParseUint_10_at32_ok Tryz.laysPu14 s hmax u h w
open Go.RowKit in
theorem Tryz.strconv_ParseUint_10_at32_syntax_var (s : ByteArray) (hlim : s.size ≤ 281474976710656) (h : (∀ u, Lib.parseUintB 32 s.data.toList ≠ .ok u) ∧ Lib.parseUintB 32 s.data.toList ≠ .range) (tp : TypeId) (p : Value) (w : World) (hvar : w.var? Tryz.prog "strconv.ErrSyntax" = some #[.iface tp p]) :
  Calls Tryz.prog 161 #[.string s,.int .i64 10,.int .i64 32] w λe w'=>∃ N,e=.returned (.tuple #[.int .u64 0,.iface 257 (.pointer (some ⟨N,0,none⟩))])/\w.heap.size<=N/\w'.heap[N]? = some (.cells #[.string ⟨#[80,97,114,115,101,85,105,110,116]⟩,.string s,.iface tp p] 274 (0,0))/\Below w.heap.size w w':=by
 refine Any.strconv_ParseUint_10_at32_syntax_var Tryz.laysPu14 s hlim ?_ tp p w hvar
 cases hq:Lib.parseUintB 32 s.data.toList with
 |ok u=>exact absurd hq (h.1 u)
 |range=>exact absurd hq h.2
 |_=>rfl
open Go.RowKit in
theorem Tryz.strconv_ParseUint_10_at32_range_var (s : ByteArray) (hlim : s.size ≤ 281474976710656) (h : Lib.parseUintB 32 s.data.toList = .range) (tp : TypeId) (p : Value) (w : World) (hvar : w.var? Tryz.prog "strconv.ErrRange" = some #[.iface tp p]) :
  Calls Tryz.prog 161 #[.string s,.int .i64 10,.int .i64 32] w λe w'=>∃ N,e=.returned (.tuple #[.int .u64 4294967295,.iface 257 (.pointer (some ⟨N,0,none⟩))])/\w.heap.size<=N/\w'.heap[N]? = some (.cells #[.string ⟨#[80,97,114,115,101,85,105,110,116]⟩,.string s,.iface tp p] 274 (0,0))/\Below w.heap.size w w':=Any.strconv_ParseUint_10_at32_range_var Tryz.laysPu14 s hlim h tp p w hvar
def Tryz.lays145_ren:Go.Shelf.Ren:=⟨fun|145=>95|220=>156|219=>165|217=>200|225=>201|224=>202|267=>203|266=>227|314=>228|n=>n,fun|9=>9|4=>4|59=>178|3=>3|5=>5|46=>234|146=>260|51=>84|n=>n,fun|1=>0|n=>n⟩
theorem Tryz.lays145:Go.Proofs.Lays.n145 Tryz.prog Tryz.lays145_ren:={
 mixed:=by kernel_rfl
 f145:=Tryz.func95.trans zCs
 f217:=Tryz.func200.trans zCs
 f219:=Tryz.func165.trans zCs
 f220:=Tryz.func156.trans zCs
 f224:=Tryz.func202.trans zCs
 f225:=Tryz.func201.trans zCs
 f266:=Tryz.func227.trans zCs
 f267:=Tryz.func203.trans zCs
 f314:=Tryz.func228.trans zCs
 t3:=Tryz.underlying3
 a3:=Tryz.isAgg3
 z3:=Tryz.sizeOf3
 v3:=Tryz.zeroValue3
 t4:=Tryz.underlying4
 a4:=Tryz.isAgg4
 z4:=Tryz.sizeOf4
 v4:=Tryz.zeroValue4
 t5:=Tryz.underlying5
 a5:=Tryz.isAgg5
 z5:=Tryz.sizeOf5
 v5:=Tryz.zeroValue5
 t9:=Tryz.underlying9
 a9:=Tryz.isAgg9
 z9:=Tryz.sizeOf9
 v9:=Tryz.zeroValue9
 t46:=Tryz.underlying234
 a46:=Tryz.isAgg234
 z46:=Tryz.sizeOf234
 v46:=Tryz.zeroValue234
 t51:=Tryz.underlying84
 a51:=Tryz.isAgg84
 z51:=Tryz.sizeOf84
 v51:=Tryz.zeroValue84
 t59:=Tryz.underlying178
 a59:=Tryz.isAgg178
 z59:=Tryz.sizeOf178
 v59:=Tryz.zeroValue178
 t146:=Tryz.underlying260
 a146:=Tryz.isAgg260
 z146:=Tryz.sizeOf260
 v146:=Tryz.zeroValue260
 g1:=zk }
open Go.RowKit Go.Lib in
theorem Tryz.strings_Cut(s sep:ByteArray)(m:Int)(w:World)(hs:s.size<4294967281)(hm:w.cell? ⟨0,0,none⟩=some (.int .i64 m)) :
  Calls Tryz.prog 95 #[.string s,.string sep] w λe w'=>e=.returned (.tuple #[.string ⟨(Lib.cut s.data.toList sep.data.toList).1.toArray⟩,.string ⟨(Lib.cut s.data.toList sep.data.toList).2.1.toArray⟩,.bool (Lib.cut s.data.toList sep.data.toList).2.2])/\∃ n,w'=w.drewN n:=Any.strings_Cut Tryz.lays145 s sep m w hs hm
def Tryz.lays138_ren:Go.Shelf.Ren:=⟨fun|138=>41|195=>113|218=>114|143=>115|219=>165|217=>200|225=>201|224=>202|267=>203|266=>227|314=>228|n=>n,fun|9=>9|3=>3|4=>4|5=>5|0=>0|46=>234|146=>260|51=>84|n=>n,fun|1=>0|n=>n⟩
theorem Tryz.lays138:Go.Proofs.Lays.n138 Tryz.prog Tryz.lays138_ren:={
 mixed:=by kernel_rfl
 f138:=Tryz.func41.trans zCs
 f143:=Tryz.func115.trans zCs
 f195:=Tryz.func113.trans zCs
 f217:=Tryz.func200.trans zCs
 f218:=Tryz.func114.trans zCs
 f219:=Tryz.func165.trans zCs
 f224:=Tryz.func202.trans zCs
 f225:=Tryz.func201.trans zCs
 f266:=Tryz.func227.trans zCs
 f267:=Tryz.func203.trans zCs
 f314:=Tryz.func228.trans zCs
 t0:=Tryz.underlying0
 a0:=Tryz.isAgg0
 z0:=Tryz.sizeOf0
 v0:=Tryz.zeroValue0
 t3:=Tryz.underlying3
 a3:=Tryz.isAgg3
 z3:=Tryz.sizeOf3
 v3:=Tryz.zeroValue3
 t4:=Tryz.underlying4
 a4:=Tryz.isAgg4
 z4:=Tryz.sizeOf4
 v4:=Tryz.zeroValue4
 t5:=Tryz.underlying5
 a5:=Tryz.isAgg5
 z5:=Tryz.sizeOf5
 v5:=Tryz.zeroValue5
 t9:=Tryz.underlying9
 a9:=Tryz.isAgg9
 z9:=Tryz.sizeOf9
 v9:=Tryz.zeroValue9
 t46:=Tryz.underlying234
 a46:=Tryz.isAgg234
 z46:=Tryz.sizeOf234
 v46:=Tryz.zeroValue234
 t51:=Tryz.underlying84
 a51:=Tryz.isAgg84
 z51:=Tryz.sizeOf84
 v51:=Tryz.zeroValue84
 t146:=Tryz.underlying260
 a146:=Tryz.isAgg260
 z146:=Tryz.sizeOf260
 v146:=Tryz.zeroValue260
 g1:=zk }
open Go.RowKit Go.Lib in
theorem Tryz.strings_Count_one(s:ByteArray)(c:UInt8)(w:World) :
  Calls Tryz.prog 41 #[.string s,.string ⟨#[c]⟩] w λe w'=>e=.returned (.int .i64 (Lib.countByte s.data.toList c))/\w'=w:=Any.strings_Count_one Tryz.lays138 s c w
def Tryz.lays99_ren:Go.Shelf.Ren:=⟨fun|99=>103|206=>160|n=>n,fun|9=>9|4=>4|3=>3|n=>n,fun|n=>n⟩
theorem Tryz.lays99:Go.Proofs.Lays.n99 Tryz.prog Tryz.lays99_ren:={
 mixed:=by kernel_rfl
 f99:=Tryz.func103.trans zCs
 f206:=Tryz.func160.trans zCs
 t3:=Tryz.underlying3
 a3:=Tryz.isAgg3
 z3:=Tryz.sizeOf3
 v3:=Tryz.zeroValue3
 t4:=Tryz.underlying4
 a4:=Tryz.isAgg4
 z4:=Tryz.sizeOf4
 v4:=Tryz.zeroValue4
 t9:=Tryz.underlying9
 a9:=Tryz.isAgg9
 z9:=Tryz.sizeOf9
 v9:=Tryz.zeroValue9 }
open Go.RowKit Go.Lib in
theorem Tryz.strings_HasPrefix(s p:ByteArray)(w:World) :
  Calls Tryz.prog 103 #[.string s,.string p] w λe w'=>e=.returned (.bool (Lib.hasPrefix s.data.toList p.data.toList))/\w'=w:=Any.strings_HasPrefix Tryz.lays99 s p w
def Tryz.lays146_ren:Go.Shelf.Ren:=⟨fun|146=>94|221=>155|268=>188|138=>41|143=>115|195=>113|197=>216|218=>114|219=>165|260=>237|217=>200|225=>201|224=>202|267=>203|266=>227|314=>228|n=>n,fun|9=>9|31=>24|3=>3|4=>4|0=>0|105=>252|21=>21|5=>5|46=>234|119=>279|139=>282|138=>281|146=>260|51=>84|n=>n,fun|1=>0|3=>6|4=>7|n=>n⟩
theorem Tryz.lays146:Go.Proofs.Lays.n146 Tryz.prog Tryz.lays146_ren:={
 mixed:=by kernel_rfl
 f138:=Tryz.func41.trans zCs
 f143:=Tryz.func115.trans zCs
 f146:=Tryz.func94.trans zCs
 f195:=Tryz.func113.trans zCs
 f197:=Tryz.func216.trans zCs
 f217:=Tryz.func200.trans zCs
 f218:=Tryz.func114.trans zCs
 f219:=Tryz.func165.trans zCs
 f221:=Tryz.func155.trans zCs
 f224:=Tryz.func202.trans zCs
 f225:=Tryz.func201.trans zCs
 f260:=Tryz.func237.trans zCs
 f266:=Tryz.func227.trans zCs
 f267:=Tryz.func203.trans zCs
 f268:=Tryz.func188.trans zCs
 f314:=Tryz.func228.trans zCs
 t0:=Tryz.underlying0
 a0:=Tryz.isAgg0
 z0:=Tryz.sizeOf0
 v0:=Tryz.zeroValue0
 t3:=Tryz.underlying3
 a3:=Tryz.isAgg3
 z3:=Tryz.sizeOf3
 v3:=Tryz.zeroValue3
 t4:=Tryz.underlying4
 a4:=Tryz.isAgg4
 z4:=Tryz.sizeOf4
 v4:=Tryz.zeroValue4
 t5:=Tryz.underlying5
 a5:=Tryz.isAgg5
 z5:=Tryz.sizeOf5
 v5:=Tryz.zeroValue5
 t9:=Tryz.underlying9
 a9:=Tryz.isAgg9
 z9:=Tryz.sizeOf9
 v9:=Tryz.zeroValue9
 t21:=Tryz.underlying21
 a21:=Tryz.isAgg21
 z21:=Tryz.sizeOf21
 v21:=Tryz.zeroValue21
 t31:=Tryz.underlying24
 a31:=Tryz.isAgg24
 z31:=Tryz.sizeOf24
 v31:=Tryz.zeroValue24
 t46:=Tryz.underlying234
 a46:=Tryz.isAgg234
 z46:=Tryz.sizeOf234
 v46:=Tryz.zeroValue234
 t51:=Tryz.underlying84
 a51:=Tryz.isAgg84
 z51:=Tryz.sizeOf84
 v51:=Tryz.zeroValue84
 t105:=Tryz.underlying252
 a105:=Tryz.isAgg252
 z105:=Tryz.sizeOf252
 v105:=Tryz.zeroValue252
 t119:=Tryz.underlying279
 a119:=Tryz.isAgg279
 z119:=Tryz.sizeOf279
 t138:=Tryz.underlying281
 a138:=Tryz.isAgg281
 z138:=Tryz.sizeOf281
 v138:=Tryz.zeroValue281
 t139:=Tryz.underlying282
 a139:=Tryz.isAgg282
 z139:=Tryz.sizeOf282
 v139:=Tryz.zeroValue282
 t146:=Tryz.underlying260
 a146:=Tryz.isAgg260
 z146:=Tryz.sizeOf260
 v146:=Tryz.zeroValue260
 g1:=by kernel_rfl
 g3:=by kernel_rfl
 g4:=zk }
open Go.RowKit Go.Lib in
theorem Tryz.strings_Split(s sep:ByteArray)(m:Int)(w:World)(hs:s.size<4294967281)(hm:w.cell? ⟨0,0,none⟩=some (.int .i64 m))(h1:1<=sep.size) :
  Calls Tryz.prog 94 #[.string s,.string sep] w λe w'=>
   e=.returned (.slice (some ⟨w.heap.size,0,none⟩) (Lib.countB s sep+1) (Lib.countB s sep+1))/\w'=w.alloc (.cells ((Lib.splitB sep 0 (Lib.countB s sep) s).map Value.string).toArray 9):=Any.strings_Split Tryz.lays146 zk s sep m w hs hm h1
end Go.Proofs
namespace Go.Proofs.YtegmklafpoldgaaGreatDoor
open Go.GL Go.RowKit Go.Stele
attribute [local irreducible] LOps qah qae LCalls Go.GL.Pure qaw qam qad
section
variable{B0:Nat}{w0:World}
theorem run_spec{f:FuncId} [TEnter Tryz.prog f](p:UInt8->Bool)(hp:∀ c:UInt8,LCalls (KC B0 w0) f [int .u8 c.toNat] [] (Ret (bool (p c))))(s:List UInt8)(hs:s.length<=1000000000) :
  LCalls (KC B0 w0) 104 [str s,.atom (.func (.func f) #[] #[])] [] (Ret (str (s.takeWhile p))):=by
 refine cJ Tryz.func104 (n:=22) ?_;refine gaa ?_
 refine oL (λk l H=>∃ m:Nat,k=s.length-m/\l=[(0,str s),(1,.atom (.func (.func f) #[] #[])),(5,int .i64 m)]/\H=[]/\m<=s.length/\s.takeWhile p=s.take m++(s.drop m).takeWhile p)
  ⟨_,_,_,⟨0,rfl,rfl,rfl,by omega,by simp⟩,⟨rfl,rfl,rfl,trivial⟩,zhR _⟩ ?_
 rintro k l H ⟨m,rfl,rfl,rfl,hm,hI⟩ j hj;refine gac ?_;refine oB 10 rfl (λht=>?_) (λht=>?_);have hlt:m<s.length:=by simpa using ht
 refine gab ?_;refine oP (pI (c:=s[m]) rfl rfl zo (by simp)) rfl<|LOps.want rfl rfl ?_;refine oS (S.fnV [_] rfl rfl (hp s[m]) ?_) rfl;refine gab ?_;refine oC rfl (λhc=>?_) (λhc=>?_);refine gaa ?_;exact⟨_,_,_,by omega,⟨m+1,rfl,rfl,rfl,by omega,(qgt hlt hI).1 (by simpa using hc)⟩,⟨rfl,rfl,qao zo,trivial⟩,zhR _,hj⟩;refine gaa ?_;refine oP (Pure.sslice (i:=0) (j:=m) rfl rfl ⟨_,rfl⟩ zo zo zo) rfl<|gaf ?_
 exact qak hj (zra rfl) (by
  rw[(qgt hlt hI).2 (by simpa using hc)]
  simp[qbE])
 have hge:s.length<=m:=by simpa using ht
 refine gab ?_;refine oC rfl (λhc=>?_) (λhc=>?_);cases hc;refine gaa ?_;refine oP (Pure.sslice (i:=0) (j:=m) rfl rfl ⟨_,rfl⟩ zo zo zo) rfl<|gaf ?_
 exact qak hj (zra rfl) (by
  rw[qlR hge hI]
  simp[qbE])
theorem qgp(s p:List UInt8):LCalls (KC B0 w0) 103 [str s,str p] [] (Ret (bool (p.isPrefixOf s))):=
 LCalls.ret_of (vs:=[.string ⟨s.toArray⟩,.string ⟨p.toArray⟩]) λw _=>(Go.Proofs.Tryz.strings_HasPrefix _ _ w).mono λe w' he=>by
  obtain⟨h1,h2⟩:=he;subst h2;exact⟨by simpa [Go.Lib.hasPrefix] using h1,Below.refl _ _⟩
theorem qsC(s:List UInt8)(hs:s.length<=1000000000):LCalls (KC B0 w0) 39 [str s] [] (Ret (int .i64 (qcu s))):=by
 refine cJ Tryz.func39 (n:=11) ?_;refine gag ?_;refine oS (sF [_,_] rfl (qgp s [47,47]) ?_) rfl;refine gaf ?_;refine oC rfl (λhc=>?_) (λhc=>?_);refine gah ?_;refine oS (sF [_,_] rfl (run_spec qwc qqh s hs) ?_) rfl;refine gad ?_;exact qak rfl (zra rfl) (by simp only[qbE,qcu,hc,if_true]);refine gaa ?_;refine oS (sF [_,_] rfl (run_spec qh2 qqI s hs) ?_) rfl;refine gad ?_;exact qak rfl (zra rfl) (by simp only[qbE,qcu,hc,zRn,if_false])
end
end Go.Proofs.YtegmklafpoldgaaGreatDoor
namespace Go.Proofs.YtegmklafpoldgaaGreatDoor
open Go Go.Shelf Go.RowKit Go.Sort Go.Lib
set_option maxHeartbeats 6400000
theorem qjT (u : Nat) (hu64 : u < 18446744073709551616) (w : World) (htab : Lib.TabIs Tryz.prog w "internal/strconv.uint64pow10" .u64 Lib.pow10Tab) :
  Calls Tryz.prog 199 #[.int .u64 u,.int .i64 10] w λe w'=>e=.returned (.string ⟨(Lib.decDigits u).toArray⟩)/\Below w.heap.size w w':=by
 have mixed:Tryz.prog.follows .mixedOrders=true:=by kernel_rfl
 have t3:=Tryz.underlying3;have a3:=Tryz.isAgg3;have z3:=Tryz.sizeOf3;have v3:=Tryz.zeroValue3;have t9:=Tryz.underlying9;have a9:=Tryz.isAgg9;have z9:=Tryz.sizeOf9;have v9:=Tryz.zeroValue9;have t4:=Tryz.underlying4;have a4:=Tryz.isAgg4;have z4:=Tryz.sizeOf4;have v4:=Tryz.zeroValue4;have t142:=Tryz.underlying207;have a142:=Tryz.isAgg207;have z142:=Tryz.sizeOf207;have v142:=Tryz.zeroValue207;have t0:=Tryz.underlying0;have a0:=Tryz.isAgg0;have z0:=Tryz.sizeOf0;have v0:=Tryz.zeroValue0;have t119:=Tryz.underlying208;have a119:=Tryz.isAgg208;have z119:=Tryz.sizeOf208;have v119:=Tryz.zeroValue208;have t85:=Tryz.underlying80;have a85:=Tryz.isAgg80;have z85:=Tryz.sizeOf80;have v85:=Tryz.zeroValue80;have t5:=Tryz.underlying5;have a5:=Tryz.isAgg5;have z5:=Tryz.sizeOf5;have v5:=Tryz.zeroValue5;have e137:∀ args w,(callFunc 149 args).run Tryz.prog w=.ok (.enter 149 args) w:=enters_of Tryz.func149 zk rfl;have e138:∀ args w,(callFunc 150 args).run Tryz.prog w=.ok (.enter 150 args) w:=enters_of Tryz.func150 zk rfl;have e139:∀ args w,(callFunc 151 args).run Tryz.prog w=.ok (.enter 151 args) w:=enters_of Tryz.func151 zk rfl
 by_cases hs:u<100
 go_enter Tryz.func199,Tryz.ntmps199
 go_wp2_with (go_at_fn (149);refine(Tryz.internal_strconv_small u hs _).mono ?_;rintro e w' ⟨rfl,rfl⟩)
 go_ret
 exact⟨rfl,Below.refl _ _⟩;have hu1:1<=u:=by omega
 have hnd20:Lib.nDigits u<=20:=by have:=Lib.numDigits_eq u hu1 hu64;split at this <;> omega
 have hal:Tryz.prog.arrayLen 207=24:=by simp[Program.arrayLen,Tryz.underlying207]
 have hsl:∀ W,(Instr.sliceAt 207 (.pointer (some ⟨w.heap.size,0,none⟩)) none (some (.int .i64 (Lib.nDigits u:Int))) none).run Tryz.prog W=.ok (.slice (some ⟨w.heap.size,0,none⟩) (Lib.nDigits u) 24) W:=λW=>by
  rw[run_sliceAt_array_h W 207 ⟨w.heap.size,0,none⟩ (by simp[Program.arrayLen,Program.elem,Tryz.underlying207]) .i64 (Lib.nDigits u:Int) (by omega) (by rw[hal];omega)]
  go_simp
 have hH0:=Lib.holds_zero0 w 207 (Lib.nDigits u) (by omega);have hfmt:=Tryz.internal_strconv_formatBase10 w.heap.size 0 24 u (Array.replicate (Lib.nDigits u) 0) (w.alloc (.cells Lib.zeros24 207)) hH0 (by rw[Array.size_replicate];exact Lib.lt_pow_nDigits u) hu64 (by rw[Array.size_replicate];omega);rw[Array.size_replicate] at hfmt;have HH0:=Lib.hid hH0;clear hH0 hal
 go_enter Tryz.func199,Tryz.ntmps199
 go_wp2_with (first
  |(go_at_fn (150);refine(Tryz.internal_strconv_numDigits u hu1 hu64 _ (Lib.tabIs_alloc htab _)).mono ?_;rintro e w' ⟨rfl,rfl⟩))
 go_at_fn (151)
 refine hfmt.mono ?_;rintro e w' ⟨rfl,k,v',dk,rfl,hF⟩
 have hcv:(convert 80 9 (.slice (some ⟨w.heap.size,0,none⟩) (Lib.nDigits u) 24)).run Tryz.prog ((putRow (λ(b:UInt8)=>Value.int .u8 (b.toNat:Int)) (w.alloc (.cells Lib.zeros24 207)) w.heap.size 0 dk).drewN k)=.ok (.string ⟨(Lib.decDigits u).toArray⟩) ((putRow (λ(b:UInt8)=>Value.int .u8 (b.toNat:Int)) (w.alloc (.cells Lib.zeros24 207)) w.heap.size 0 dk).drewN k):=by
  have h:=run_convert_bytes_back (P:=Tryz.prog) ((putRow (λ(b:UInt8)=>Value.int .u8 (b.toNat:Int)) (w.alloc (.cells Lib.zeros24 207)) w.heap.size 0 dk).drewN k) 80 9 5 ⟨w.heap.size,0,none⟩ 24 (Lib.decDigits u) Tryz.underlying80 Tryz.underlying5 Tryz.underlying9 (λj hj=>by
   rw[Lib.row_is_numeral hF j hj,Lib.add_plain,World.cell?_drewN]
   exact cell?_putRow (λ(b:UInt8)=>Value.int .u8 (b.toNat:Int)) _ w.heap.size 0 _ dk HH0.out (by rw[hF.size,Array.size_replicate]) j (by rw[hF.size];rw[Lib.decDigits_length] at hj;exact hj))
  rw[Lib.decDigits_length] at h;exact h
 go_wp2
 go_ret
 refine⟨rfl,?_⟩;obtain⟨os,eo⟩:=Lib.fin_at w (.cells Lib.zeros24 207) dk k 0;rw[eo];exact Lib.below_grow _ w (zNr _) k os
open Go.GL Go.RowKit Go.Stele
variable{F Hc:Heap}{T:List Tok}{ats:Array TypeId}{caps first:Array Value}{f:FuncId}{i n op sb:Nat}{rs:List ResultVar}
attribute [local irreducible] LOps qah qae LCalls Go.GL.Pure qaw qam qad
structure GW(B0:Nat)(w0:World):Prop where
 pow10 : Go.Lib.TabIs Tryz.prog w0 "internal/strconv.uint64pow10" .u64 Go.Lib.pow10Tab
 errRange : ∃ tp p, w0.var? Tryz.prog "strconv.ErrRange" = some #[.iface tp p]
 big:8<=B0
section
variable{B0:Nat}{w0:World}
theorem GW.tab (h : GW B0 w0) {w : World} (hb : Below B0 w0 w) : Go.Lib.TabIs Tryz.prog w "internal/strconv.uint64pow10" .u64 Go.Lib.pow10Tab := by
 have hg : Tryz.prog.globalNamed "internal/strconv.uint64pow10" = some 1 := by kernel_rfl
 exact var?_below hb hg (Nat.lt_of_lt_of_le zDd h.big) h.pow10
theorem GW.err (h : GW B0 w0) {w : World} (hb : Below B0 w0 w) : ∃ tp p, w.var? Tryz.prog "strconv.ErrRange" = some #[.iface tp p] := by
 have hg : Tryz.prog.globalNamed "strconv.ErrRange" = some 5 := by kernel_rfl
 obtain⟨tp,p,hv⟩:=h.errRange;exact⟨tp,p,var?_below hb hg (Nat.lt_of_lt_of_le zDd h.big) hv⟩
theorem qdp(hG:GW B0 w0)(u:Nat)(hu:u<=9223372036854775807):LCalls (KC B0 w0) 13 [int .i64 u] [] (Ret (str (Go.Lib.decDigits u))):=
 LCalls.ret_of (vs:=[.int .i64 u]) λw hw=>(Go.Proofs.Tryz.strconv_Itoa u zo zo w (hG.tab hw)).mono λe w' he=>by
  obtain⟨h1,k,os,h2⟩:=he;rw[Go.Lib.itoa_nonneg] at h1;exact⟨h1,by rw[h2];exact Go.Lib.below_grow _ w (zNr _) k os⟩
theorem fmtUint_spec(hG:GW B0 w0)(u:Nat)(hu:u<18446744073709551616):LCalls (KC B0 w0) 162 [int .u64 u,int .i64 10] [] (Ret (str (Go.Lib.decDigits u))):=by
 refine cJ Tryz.func162 (n:=8) ?_;refine gag ?_;refine oS (sF [_,_] rfl (LCalls.ret_of (vs:=[.int .u64 u,.int .i64 10]) λw hw=>qjT u hu w (hG.tab hw)) ?_) rfl;refine gaf ?_;exact qak rfl (zra rfl) rfl
theorem qiB(s:List UInt8)(hs:s.length<=1000000000)(u:Nat)(h:Go.Lib.parseUintB 32 s=.ok u) :
  LCalls (KC B0 w0) 161 [str s,int .i64 10,int .i64 32] [] (Ret (.tuple [int .u64 u,.atom .nilIface])):=by
 refine LCalls.mono (LCalls.of_belowT (vs:=[.string ⟨s.toArray⟩,.int .i64 10,.int .i64 32]) (p:=λus=>us=[.int .u64 u,.nilIface]) λw hw=>?_) ?_;refine(Go.Proofs.Tryz.strconv_ParseUint_10_at32_ok ⟨s.toArray⟩ ?_ u (by simpa using h) w).mono λe w' he=>⟨_,he.1,rfl,?_⟩;show s.toArray.size<=_
 simp
 omega;rcases he.2 with h2|h2;rw[h2];exact Below.refl _ _;rw[h2];exact⟨rfl,rfl,rfl,by rw[Go.Lib.bytesWorld_size];omega,λk hk=>Go.Lib.bytesWorld_at_old w 5 _ k hk⟩;rintro r H ⟨v,rfl,⟨us,rfl,rfl⟩,rfl⟩;exact⟨rfl,rfl⟩
theorem qkp(hG:GW B0 w0)(s:List UInt8)(hs:s.length<=1000000000)(h:Go.Lib.parseUintB 32 s=.range) :
  LCalls (KC B0 w0) 161 [str s,int .i64 10,int .i64 32] [] (qgV λlv=>∃ v t p,lv=.tuple [int .u64 v,.atom (.iface t p)]):=by
 refine LCalls.mono (LCalls.of_belowT (vs:=[.string ⟨s.toArray⟩,.int .i64 10,.int .i64 32]) (p:=λus=>∃ v t p,us=[.int .u64 v,.iface t p]) λw hw=>?_) ?_;obtain⟨tp,p,hv⟩:=hG.err hw;refine(Go.Proofs.Tryz.strconv_ParseUint_10_at32_range_var ⟨s.toArray⟩ ?_ (by simpa using h) tp p w hv).mono λe w' he=>?_;show s.toArray.size<=_
 simp
 omega;obtain⟨N,h1,_,_,h4⟩:=he;exact⟨_,h1,⟨_,_,_,rfl⟩,h4⟩;rintro r H ⟨v,rfl,⟨us,⟨a,t,p,rfl⟩,rfl⟩,rfl⟩;exact⟨_,rfl,⟨a,t,p,rfl⟩,rfl⟩
theorem qiF(s:List UInt8):LCalls (KC B0 w0) 41 [str s,str [10]] [] (Ret (int .i64 (s.count 10))):=
 LCalls.ret_of (vs:=[.string ⟨s.toArray⟩,.string ⟨#[10]⟩]) λw _=>(Go.Proofs.Tryz.strings_Count_one _ _ w).mono λe w' he=>by
  obtain⟨h1,h2⟩:=he;subst h2;exact⟨by simpa [Go.Lib.countByte] using h1,Below.refl _ _⟩
end
def qdr(t:Tok):LV:=.agg [int .i64 t.kind,str t.text,int .i64 t.line]
def qlO(r:TokR):LV:=.tuple [qdr r.1,int .i64 r.2.1,int .i64 r.2.2]
theorem qa3(l:List (List UInt8)):qdw 1 (l.map str):=λv hv=>by
 obtain⟨x,_,rfl⟩:=zRf hv;exact⟨rfl,rfl⟩
section
variable{B0:Nat}{w0:World}
theorem qhl:LCalls (KC B0 w0) 164 [] [] (Ret (.list (qdm.map str))):=by
 refine cJ Tryz.func164 (n:=2) ?_;refine gag ?_;refine oS (sL [_,_,_,_,_,_,_,_] rfl (qa3 qdm) rfl rfl rfl ?_) rfl;refine gad ?_;exact qak rfl (rC (rT (v:=.list _) rfl zsr) rN) rfl
theorem qqi:LCalls (KC B0 w0) 112 [] [] (Ret (.list (qc0.map str))):=by
 refine cJ Tryz.func112 (n:=2) ?_;refine gag ?_;refine oS (sL [_,_,_,_,_,_,_,_,_,_,_,_,_,_,_,_,_,_,_,_,_,_,_,_] rfl (qa3 qc0) rfl rfl rfl ?_) rfl;refine gad ?_;exact qak rfl (rC (rT (v:=.list _) rfl zsr) rN) rfl
theorem qqB(l:List (List UInt8))(x:List UInt8)(hl:l.length<=1000000000):LCalls (KC B0 w0) 166 [.list (l.map str),str x] [] (qgV λlv=>∃ n:Int,lv=int .i64 n/\decide (0<=n)=l.contains x):=by
 refine cJ Tryz.func166 (n:=19) ?_;refine gaa ?_
 refine oL (λk ls H=>∃ m:Nat,k=l.length-m/\ls=[(0,.list (l.map str)),(1,str x),(7,int .i64 (l.map str).length),(8,int .i64 m)]/\H=[]/\m<=l.length/\l.contains x=(l.drop m).contains x)
  ⟨_,_,_,⟨0,rfl,rfl,rfl,by omega,by simp⟩,⟨rfl,rfl,rfl,rfl,trivial⟩,zhR _⟩ ?_
 rintro k ls H ⟨m,rfl,rfl,rfl,hm,hI⟩ j hj;refine gaj ?_;refine oC rfl (λhc=>?_) (λhc=>?_);have hlt:m<l.length:=by simpa using hc
 refine gaa ?_;refine oP (xR (el':=str l[m]) rfl rfl zo (by simp) rfl rfl) rfl<|gad ?_;refine oC rfl (λhe=>?_) (λhe=>?_);refine gaa ?_;have hx:x=l[m]:=by simpa using he
 exact qcf hj (zra rfl) ⟨m,rfl,by
  rw[hx,zRp zo]
  simp⟩
 refine gaa ?_;have hx:¬ x=l[m]:=by simpa using he
 exact⟨_,_,_,by omega,⟨m+1,rfl,rfl,rfl,by omega,by
  rw[hI,List.drop_eq_getElem_cons hlt,List.contains_cons]
  simp[hx]⟩,⟨rfl,rfl,rfl,qao zo,trivial⟩,zhR _,hj⟩
 have hge:l.length<=m:=by simpa using hc
 refine gaa ?_
 exact qcf hj (zra rfl) ⟨-1,rfl,by
  rw[hI,List.drop_eq_nil_of_le hge]
  rfl⟩
theorem qdN(l:List (List UInt8))(x:List UInt8)(hl:l.length<=1000000000):LCalls (KC B0 w0) 116 [.list (l.map str),str x] [] (Ret (bool (l.contains x))):=by
 refine cJ Tryz.func116 (n:=9) ?_;refine gaa ?_;refine oS (S.fnIf [_,_] rfl (qqB l x hl) ?_) rfl;rintro lv ⟨n,rfl,hn⟩;refine gad ?_;exact qak rfl (zra rfl) (by rw[<-hn];rfl)
theorem qsn(s:List UInt8)(hs:s.length<=1000000000):LCalls (KC B0 w0) 110 [str s] [] (Ret (qlO (qgz s))):=by
 refine cJ Tryz.func110 (n:=21) ?_;refine gai ?_;refine oS (sA λb=>?_) rfl;refine gag ?_;refine oS (sF [_,_] rfl (run_spec qaU qqu s hs) ?_) rfl;refine gac ?_;refine oC rfl (λhc=>?_) (λhc=>?_);refine gac ?_
 exact qak rfl (rC (rA rfl zm0 rfl zsr) (rC (zrt rfl) (zra rfl))) (by
  rw[qgz,zp (by have:=zt hc;omega)]
  rfl)
 refine gaa ?_;refine oS (sF [] rfl qhl ?_) rfl;refine gab ?_;refine oS (sF [_,_] rfl (qdN qdm (s.takeWhile qaU) zDd) ?_) rfl;refine gaf ?_;refine oC rfl (λhk=>?_) (λhk=>?_);refine gac ?_
 exact qak rfl (rC (rA rfl zm0 rfl zsr) (rC (zrt rfl) (zra rfl))) (by
  rw[qgz,zn (by have:=zf hc;omega),zp hk]
  rfl)
 refine gac ?_
 exact qak rfl (rC (rA rfl zm0 rfl zsr) (rC (zrt rfl) (zra rfl))) (by
  rw[qgz,zn (by have:=zf hc;omega),zn (by rw[hk];decide)]
  rfl)
end
theorem qio(M:Nat)(acc:Nat)(l:List UInt8)(h:∀ c∈l,qar c=true):Go.Lib.parseUintM M acc l=.range∨∃ u,Go.Lib.parseUintM M acc l=.ok u:=by
 induction l generalizing acc with
 |nil=>exact .inr ⟨acc,rfl⟩
 |cons c r ih=>
  have hc:=h c List.mem_cons_self;simp only[qar,zBa,zDe,cv] at hc;rw[Go.Lib.parseUintM,zp zo];split;exact .inl rfl;split;exact .inl rfl;exact ih _ (λc hc=>h c (zMo _ hc))
theorem qiL(M:Nat)(acc:Nat)(l:List UInt8)(ha:acc<=M){u:Nat}(h:Go.Lib.parseUintM M acc l=.ok u):u<=M:=by
 induction l generalizing acc with
 |nil=>simp only[Go.Lib.parseUintM,Go.Lib.NumEnd.ok.injEq] at h;omega
 |cons c r ih=>
  rw[Go.Lib.parseUintM] at h;split at h;split at h;cases h;split at h;cases h;exact ih _ zo h;cases h
theorem qiI(s:List UInt8)(hne:s.takeWhile qar≠[]):Go.Lib.parseUintB 32 (s.takeWhile qar)=.range∨∃ u,u<18446744073709551616/\Go.Lib.parseUintB 32 (s.takeWhile qar)=.ok u:=by
 unfold Go.Lib.parseUintB;rw[zn hne]
 have hall:∀ (s:List UInt8),∀ c∈s.takeWhile qar,qar c=true:=λs c hc=>by
  induction s with
  |nil=>cases hc
  |cons a r ih=>
   by_cases ha:qar a=true
   rw[List.takeWhile_cons_of_pos ha] at hc;rcases zMi.1 hc with rfl|hc;exact ha;exact ih hc;rw[List.takeWhile_cons_of_neg ha] at hc;cases hc
 rcases qio (2 ^ 32-1) 0 (s.takeWhile qar) (hall s) with h|⟨u,h⟩;exact .inl h;have:=qiL _ _ _ zo h;exact .inr ⟨u,by omega,h⟩
instance:TIface zTp 137:=.of zk
section
variable{B0:Nat}{w0:World}
theorem qdf(hG:GW B0 w0)(s:List UInt8)(hs:s.length<=1000000000)(hne:s.takeWhile qar≠[]):LCalls (KC B0 w0) 108 [str s] [] (Ret (qlO (qdZ s))):=by
 refine cJ Tryz.func108 (n:=43) ?_;refine gai ?_;refine oS (sA λb=>?_) rfl;refine gag ?_;refine oS (sF [_,_] rfl (run_spec qar qhI s hs) ?_) rfl;refine gac ?_;refine LOps.cut [(0,str s),(2,ptr b 0),(5,str (s.takeWhile qar)),(28,bool (qfe s (s.takeWhile qar).length))] ?_ (λj hj=>?_);refine oB 17 rfl (λht=>?_) (λht=>?_);have hlt:(s.takeWhile qar).length<s.length:=by simpa using ht
 have hw:qfe s (s.takeWhile qar).length=(qaV s[(s.takeWhile qar).length] || decide (cv s[(s.takeWhile qar).length]=95)):=by
  rw[qfe,zRl hlt]
 refine gab ?_;refine oP (pI (c:=s[(s.takeWhile qar).length]) rfl rfl zo (by simp)) rfl<|LOps.want rfl rfl ?_;refine oS (sF [_] rfl (qgG _) ?_) rfl;refine gab ?_;refine oB 22 rfl (λhl=>?_) (λhl=>?_);refine gab ?_;exact⟨⟨rfl,rfl,rfl,qau (by rw[hw,hl];rfl),trivial⟩,rfl,rfl⟩;refine gab ?_;refine oP (pI (c:=s[(s.takeWhile qar).length]) rfl rfl zo (by simp)) rfl<|gab ?_;exact⟨⟨rfl,rfl,rfl,qau (by rw[hw,hl];rfl),trivial⟩,rfl,rfl⟩;have hge:s.length<=(s.takeWhile qar).length:=by simpa using ht
 refine gad ?_;exact⟨⟨rfl,rfl,rfl,qau (by rw[qfe,List.getElem?_eq_none hge]),trivial⟩,rfl,rfl⟩
 skip
 refine oC rfl (λhc=>?_) (λhc=>?_);refine gac ?_
 exact qak hj (rC (rA rfl zm0 rfl zsr) (rC (zrt rfl) (zra rfl))) (by
  rw[qdZ,zp hc]
  rfl)
 refine gaa ?_;rcases qiI s hne with hp|⟨u,hu,hp⟩;refine oS (S.fnIf [_,_,_] rfl (qkp hG (s.takeWhile qar) (zNt (List.takeWhile_prefix qar).length_le hs) hp) ?_) rfl;rintro lv ⟨v,t,p,rfl⟩;refine gac ?_;refine oC rfl (λhc=>?_) (λhc=>?_);refine gac ?_
 exact qak hj (rC (rA rfl zm0 rfl zsr) (rC (zrt rfl) (zra rfl))) (by
  rw[qdZ,zn (by rw[‹qfe s _=false›];decide),hp]
  rfl)
 cases hc;refine oS (sF [_,_,_] rfl (qiB (s.takeWhile qar) (zNt (List.takeWhile_prefix qar).length_le hs) u hp) ?_) rfl;refine gac ?_;refine oC rfl (λhc=>?_) (λhc=>?_);cases hc;refine gaa ?_;refine oS (sF [_,_] rfl (fmtUint_spec hG u hu) ?_) rfl;refine gad ?_
 exact qak hj (rC (rA rfl zm0 rfl zsr) (rC (zrt rfl) (zra rfl))) (by
  rw[qdZ,zn (by rw[‹qfe s _=false›];decide),hp]
  rfl)
theorem qnD(hG:GW B0 w0)(s:List UInt8)(hs:s.length<=1000000000):LCalls (KC B0 w0) 111 [str s] [] (Ret (qlO (qc7 s))):=by
 by_cases h3:s.length<3
 have hl:qc7 s=qcs 3:=by
  match s,h3 with
  |[],_=>rfl
  |[_],_=>rfl
  |[_,_],_=>rfl
 refine cJ Tryz.func111 (n:=39) ?_;refine gai ?_;refine oS (sA λb=>?_) rfl;refine gac ?_;refine oB 8 rfl (λht=>?_) (λht=>?_);refine gab ?_;refine oC rfl (λhc=>?_) (λhc=>?_);refine gac ?_;exact qak rfl (rC (rA rfl zm0 rfl zsr) (rC (zrt rfl) (zra rfl))) (by rw[hl];rfl);cases hc;exact absurd (zf ht) zo
 match s,h3 with
 |[],h=>exact absurd (by simp) h
 |[_],h=>exact absurd (by simp) h
 |[_,_],h=>exact absurd (by simp) h
 |x::c1::c2::r,h=>
  refine cJ Tryz.func111 (n:=39) ?_;refine gai ?_;refine oS (sA λb=>?_) rfl;refine gac ?_;refine LOps.cut [(0,str (x::c1::c2::r)),(2,ptr b 0),(32,bool ((!decide (cv c2=39)) || decide (cv c1<32) || decide (126<cv c1) || decide (cv c1=39) || decide (cv c1=92)))] ?_ (λj hj=>?_)
  ·refine oB 8 rfl (λht=>?_) (λht0=>?_);exact absurd (zt ht) (by simp only[zLc];omega)
   skip
   refine oP (pI (c:=c2) rfl rfl zDd rfl) rfl<|gad ?_;refine oB 13 rfl (λht=>?_) (λht1=>?_);refine gab ?_;exact⟨⟨rfl,rfl,qau (by rw[ht];rfl),trivial⟩,rfl,rfl⟩;refine zQ68 ?_;refine gab ?_;refine oB 18 rfl (λht=>?_) (λht2=>?_);refine gab ?_;exact⟨⟨rfl,rfl,qau (by rw[ht1,ht];rfl),trivial⟩,rfl,rfl⟩;refine zQ68 ?_;refine gad ?_;refine oB 23 rfl (λht=>?_) (λht3=>?_);refine gab ?_;exact⟨⟨rfl,rfl,qau (by rw[ht1,ht2,ht];rfl),trivial⟩,rfl,rfl⟩;refine zQ68 ?_;refine gab ?_;refine oB 28 rfl (λht=>?_) (λht4=>?_);refine gab ?_;exact⟨⟨rfl,rfl,qau (by rw[ht1,ht2,ht3,ht];rfl),trivial⟩,rfl,rfl⟩;refine zQ68 ?_;refine gab ?_;exact⟨⟨rfl,rfl,qau (by rw[ht1,ht2,ht3,ht4];rfl),trivial⟩,rfl,rfl⟩
  skip
  refine oC rfl (λhc=>?_) (λhc=>?_);refine gac ?_;exact qak hj (rC (rA rfl zm0 rfl zsr) (rC (zrt rfl) (zra rfl))) (by rw[qc7,zp hc];rfl);refine gaa ?_;refine oP (pI (c:=c1) rfl rfl zDd rfl) rfl<|oP (Pure.cvt rfl) rfl ?_;have hw:IntKind.i64.wrap (c1.toNat:Int)=((c1.toNat:Nat):Int):=qeo (by have:=c1.toNat_lt;omega);rw[hw];refine oS (sF [_] rfl (qdp hG c1.toNat (by have:=c1.toNat_lt;omega)) ?_) rfl;refine gad ?_;exact qak hj (rC (rA rfl zm0 rfl zsr) (rC (zrt rfl) (zra rfl))) (by rw[qc7,zn (by rw[hc];decide)];rfl)
theorem qqq(hG:GW B0 w0)(s:List UInt8)(hs:s.length<=1000000000)(hne:s≠[]):LCalls (KC B0 w0) 40 [str s] [] (Ret (qlO (qaN s))):=by
 match s,hne with
 |c::r,_=>
  refine cJ Tryz.func40 (n:=49) ?_;refine gai ?_;refine oS (sA λb=>?_) rfl;refine gaa ?_;refine oP (pI (c:=c) rfl rfl zDd rfl) rfl<|oS (sF [_] rfl (qhI c) ?_) rfl;refine gaf ?_;refine oC rfl (λhc=>?_) (λhc=>?_);refine gah ?_;refine oS (sF [_] rfl (qdf hG (c::r) hs (by rw[List.takeWhile_cons_of_pos hc];simp)) ?_) rfl;refine gad ?_;exact qak rfl (rC (rA rfl zm0 rfl zsr) (rC (zrt rfl) (zra rfl))) (by simp only[qaN,hc,if_true];rfl);refine gah ?_;refine oP (pI (c:=c) rfl rfl zDd rfl) rfl<|oS (sF [_] rfl (qgG c) ?_) rfl;refine gaf ?_;refine oC rfl (λhl=>?_) (λhl=>?_);refine gah ?_;refine oS (sF [_] rfl (qsn (c::r) hs) ?_) rfl;refine gad ?_;exact qak rfl (rC (rA rfl zm0 rfl zsr) (rC (zrt rfl) (zra rfl))) (by simp only[qaN,hc,hl,if_true,zRn,if_false];rfl);refine gah ?_;refine oP (pI (c:=c) rfl rfl zDd rfl) rfl<|gab ?_;refine oC rfl (λhq=>?_) (λhq=>?_);refine gah ?_;refine oS (sF [_] rfl (qnD hG (c::r) hs) ?_) rfl;refine gad ?_;exact qak rfl (rC (rA rfl zm0 rfl zsr) (rC (zrt rfl) (zra rfl))) (by simp only[qaN,hc,hl,zRn,if_false];rw[zp hq];rfl);have htok:qaN (c::r)=qhG (c::r):=by simp only[qaN,hc,hl,zRn,if_false];rw[zn (by rw[hq];decide)]
  refine gaa ?_;refine oS (sF [] rfl qqi ?_) rfl;refine gab ?_
  refine oL (λk ls H=>∃ m:Nat,k=qc0.length-m/\ls=[(0,str (c::r)),(2,ptr b 0),(34,.list (qc0.map str)),(35,int .i64 24),(36,int .i64 m)]/\H=[(b,.cells 114 [int .i64 0,str [],int .i64 0])]/\m<=24/\qc0.find? (λx=>x.isPrefixOf (c::r))=(qc0.drop m).find? (λx=>x.isPrefixOf (c::r)))
   ⟨_,_,_,⟨0,rfl,rfl,rfl,by omega,by simp⟩,⟨rfl,rfl,rfl,rfl,rfl,trivial⟩,zhR _⟩ ?_
  rintro k ls H ⟨m,rfl,rfl,rfl,hm,hI⟩ j hj;have h24:qc0.length=24:=rfl;refine gaj ?_;refine oC rfl (λht=>?_) (λht=>?_);have hlt:m<qc0.length:=by have:=zt ht;omega
  refine gal ?_;refine oP (xR (el':=str qc0[m]) rfl rfl zo (by simp) rfl rfl) rfl<|gac ?_;refine oS (sF [_,_] rfl (qgp (c::r) qc0[m]) ?_) rfl;refine gaf ?_;refine oC rfl (λhp=>?_) (λhp=>?_);refine gac ?_
  exact qak hj (rC (rA rfl zm0 rfl zsr) (rC (zrt rfl) (zra rfl))) (by
   rw[htok,qhG,hI,List.drop_eq_getElem_cons hlt,List.find?_cons_of_pos (by simpa using hp)]
   rfl)
  refine gaa ?_
  exact⟨_,_,_,by omega,⟨m+1,rfl,rfl,rfl,by omega,by
   rw[hI,List.drop_eq_getElem_cons hlt,List.find?_cons_of_neg (by rw[hp];decide)]⟩,⟨rfl,rfl,rfl,rfl,qao zo,trivial⟩,zhR _,hj⟩
  have hge:qc0.length<=m:=by have:=zf ht;omega
  refine gac ?_
  exact qak hj (rC (rA rfl zm0 rfl zsr) (rC (zrt rfl) (zra rfl))) (by
   rw[htok,qhG,hI,List.drop_eq_nil_of_le hge]
   rfl)
end
def qet(s:List UInt8):Except (Int×Int) (List Tok):=if 60000<s.length then .error (0,6) else lexP s.length s 1
def qpD:Except (Int×Int) (List Tok)->LV
 |.ok T=>.tuple [.list (T.map qdr),int .i64 0,int .i64 0]
 |.error (l,e)=>.tuple [.list [],int .i64 l,int .i64 e]
theorem qqv{A B D:Type}(f:A->B)(h:B->D)(r:Except (Int×Int) A):(r.map f).map h=r.map (λx=>h (f x)):=by cases r <;> rfl
section
variable{B0:Nat}{w0:World}
theorem qpY(hG:GW B0 w0)(s:List UInt8):LCalls (KC B0 w0) 19 [str s] [] (Ret (qpD (qet s))):=by
 refine cJ Tryz.func19 (n:=49) ?_;refine gac ?_;refine oC rfl (λhc=>?_) (λhc=>?_);refine gaa ?_
 exact qak rfl (rC (rT (v:=qab) rfl vN) (rC (zrt rfl) (zra rfl))) (by
  rw[qet,zp (by have:=zt hc;omega)]
  rfl)
 have hlen:s.length<=60000:=by have:=zf hc;omega
 refine gaa ?_
 refine oL (λk ls H=>∃ (v:LV) (out:List Tok) (rest:List UInt8) (line:Int) (fuel:Nat),k=rest.length/\ls=[(5,v),(6,int .i64 line),(7,str rest)]/\Acc 3 v (out.map qdr) H [] /\
   rest.length<=fuel/\0<=line/\line+rest.length<=60001/\out.length+rest.length<=60000/\lexP s.length s 1=(lexP fuel rest line).map (out++·))
  ⟨_,_,_,⟨qab,[],s,1,s.length,rfl,rfl,Acc.nil,by omega,by omega,by omega,by simp;omega,by cases lexP s.length s 1 <;> rfl⟩,⟨rfl,rfl,rfl,trivial⟩,zhR _⟩ ?_
 rintro k ls H ⟨v,out,rest,line,fuel,rfl,rfl,hacc,hf,hl0,hl1,ho,hI⟩ j hj;refine gac ?_;refine oC rfl (λhne=>?_) (λhne=>?_);have hrest:rest≠[]:=by simpa using hne
 obtain⟨f,rfl⟩:∃ f,fuel=f+1:=⟨fuel-1,by
  have:0<rest.length:=List.length_pos_iff.2 hrest
  omega⟩
 rw[lexP,zn hrest] at hI;have hsk:=qqf rest;refine gaa ?_;refine oS (sF [_] rfl (qsC rest zo) ?_) rfl;refine gaa ?_;refine oC rfl (λhz=>?_) (λhz=>?_);have hz':qcu rest=0:=by have:=zt hz;omega
 rw[zp hz'] at hI;refine gah ?_;refine oS (sF [_] rfl (qqq hG rest zo hrest) ?_) rfl;refine gad ?_;refine oS (sA λb=>?_) rfl;refine gac ?_;refine oC rfl (λhe=>?_) (λhe=>?_);have he':(qaN rest).2.2≠0:=by simpa using he
 rw[zp he'] at hI;refine gaa ?_
 exact qak hj (rC (rT (v:=qab) rfl vN) (rC (zrt rfl) (zra rfl))) (by
  rw[qet,zn zo,hI]
  rfl)
 have he':(qaN rest).2.2=0:=by simpa using he
 rw[zn (by simpa using he')] at hI;obtain⟨hs0,hs1⟩:=ql4 rest he';refine gac ?_;refine zQ18 ?_;refine gad ?_;refine zQ2 ?_;refine LOps.weak (zhD zhr) ?_;refine oS (S.acc rfl hacc rfl (by simp;rfl) rfl (by simp;omega) λv' H' hacc'=>?_) rfl;refine zQ30 ?_;refine gag ?_;refine oP (Pure.sslice (i:=0) (j:=(qaN rest).2.1) rfl rfl ⟨_,rfl⟩ zo zo zo) rfl<|oS (sF [_,_] rfl (qiF _) ?_) rfl;have hcnt:(List.drop (Int.toNat 0) (List.take ((qaN rest).2.1:Int).toNat rest)).count 10<=(qaN rest).2.1:=zNt List.count_le_length (by simp;omega);refine gaa ?_;refine oP (Pure.sslice (i:=(qaN rest).2.1) (j:=rest.length) rfl ⟨_,rfl⟩ rfl zo zo zo) rfl<|gab ?_
 have hacc2:Acc 3 v' ((out++[{ (qaN rest).1 with line:=line }]).map qdr) H' []:=by
  rw[zMa];exact hacc'
 exact⟨_,_,_,by simp only[length_drop];omega,⟨v',out++[{ (qaN rest).1 with line:=line }],rest.drop (qaN rest).2.1,line+((rest.take (qaN rest).2.1).count 10:Nat),f,rfl,rfl,hacc2,
  by simp only[length_drop];omega,by omega,by simp only[length_drop];simp at hcnt;omega,by simp only[length_drop,zLa,length_singleton];omega,by
   rw[hI,qqv];congr 1;funext x
   simp⟩,⟨rfl,qao (by simp),qm7 (by simp),trivial⟩,zhR _,hj⟩
 have hz':¬ qcu rest=0:=by have:=zf hz;omega
 rw[zn hz'] at hI;refine gaa ?_;refine oP (Pure.sslice (i:=0) (j:=qcu rest) rfl rfl ⟨_,rfl⟩ zo zo zo) rfl<|oS (sF [_,_] rfl (qiF _) ?_) rfl;have hcnt:(List.drop (Int.toNat 0) (List.take (qcu rest:Int).toNat rest)).count 10<=qcu rest:=zNt List.count_le_length (by simp;omega);refine gaa ?_;refine oP (Pure.sslice (i:=qcu rest) (j:=rest.length) rfl ⟨_,rfl⟩ rfl zo zo zo) rfl<|gab ?_
 exact⟨_,_,_,by simp only[length_drop];omega,⟨v,out,rest.drop (qcu rest),line+((rest.take (qcu rest)).count 10:Nat),f,rfl,rfl,hacc,
   by simp only[length_drop];omega,by omega,by simp only[length_drop];simp at hcnt;omega,by simp only[length_drop];omega,hI⟩,⟨rfl,qao (by simp),qm7 (by simp),trivial⟩,zhR _,hj⟩
 have hrest:rest=[]:=by simpa using hne
 refine gaa ?_;refine zQ41 ?_
 exact qak hj (rC (rT (v:=v) rfl hacc.sub) (rC (zrt rfl) (zra rfl))) (by
  rw[qet,zn zo,hI,hrest]
  cases fuel <;> simp[lexP,Except.map,qpD,qbE])
end
attribute [local irreducible] LQ LAny qay qal
@[reducible] def srcH(sb:Nat)(T:List Tok)(i op:Nat):Nat×LObj:=(sb,.cells 60 [.list (T.map qdr),int .i64 i,int .i64 op])
def pan(l e:Int):List PanicEntry:=[{ v:=.iface 56 (.agg #[.int .i64 l,.int .i64 e]),recovered:=false }]
def qdv{A:Type}(sb:Nat)(T:List Tok)(enc:A->LV)(res:Res A)(r:LRes)(H:Heap):Prop:=match res with
 |.ok v i op=>r=.ret (enc v)/\H=[srcH sb T i op]
 |.err l e=>r=.panic (pan l e)/\∃ i op:Nat,H=[srcH sb T i op]
def encU:Unit->LV:=λ_=>.tuple []
theorem qbR{A:Type}(f:A->LV)(l:List A)(i:Nat)(h:i<l.length):(l.map f)[((i:Nat):Int).toNat]? = some (f l[i]):=by
 rw[Int.toNat_natCast,List.getElem?_map,zRl h];rfl
section
variable{B0:Nat}{w0:World}
theorem qck(sb:Nat)(T:List Tok)(i op:Nat)(xs:List (List UInt8))(hT:T.length<=100000)(hi:i<=1000000)(hx:xs.length<=1000) :
  LCalls (KC B0 w0) 42 [ptr sb 0,.list (xs.map str)] [srcH sb T i op] (λr H=>r=.ret (bool (qbb T i xs))/\H=[srcH sb T i op]):=by
 refine cJ Tryz.func42 (n:=40) ?_;refine gag ?_;refine cC [(0,ptr sb 0),(1,.list (xs.map str)),(15,bool (decide (T.length<=i)))] ?_ (λj hj=>?_);refine zQ33 ?_;exact⟨⟨rfl,rfl,qau (by rw[decide_eq_decide];simp),trivial⟩,rfl,rfl⟩
 skip
 refine oC rfl (λhc=>?_) (λhc=>?_);refine gaa ?_;exact rR hj (zra rfl) zhr ⟨by rw[qbb,List.getElem?_eq_none (zt hc)];rfl,rfl⟩;have hlt:i<T.length:=by have:=zf hc;omega
 refine gab ?_;refine cD (m:=12) rfl [srcH sb T i op]<|zQ10 ?_;refine aT 3 rfl rfl (pL (c:=.list _) rfl zm0 rfl)<|aT 4 rfl rfl (pM (lv:=.atom _) rfl)<|aT 5 rfl rfl (pN rfl)<|zQ66 ?_;refine LAny.take (i:=8) zhr rfl zk zk zk rfl (xR (el':=qdr T[i]) (cs:=[_,_,_]) rfl rfl zo (qbR _ _ _ hlt) rfl rfl)<|aT 9 rfl rfl (pR (cs':=[_,_,_]) rfl rfl rfl)<|aL ?_ zhr;refine lO 10 (lS (H1:=[]) (F:=[srcH sb T i op]) rfl (.inl rfl) rfl zpr zhr (sA λb=>?_));refine lO 11 (lS (H1:=[(b,_)]) (F:=[srcH sb T i op]) rfl (.inl rfl) rfl zpr zhr (sS (cs':=[_,_,_]) rfl pH rfl rfl rfl rfl rfl ?_));refine zQ64 ?_;have hsp:qbb T i xs=((decide (T[i].kind=3) || decide (T[i].kind=4)) && xs.contains T[i].text):=by rw[qbb,zRl hlt]
 rw[hsp];refine oB 29 rfl (λh3=>?_) (λh3=>?_);refine gab ?_;refine oS (sF [_,_] rfl (qdN xs T[i].text zo) ?_) rfl;refine gab ?_;exact rR hj (zra rfl) (zhD zhr) ⟨by rw[h3];rfl,rfl⟩;refine gab ?_;refine oB 34 rfl (λh4=>?_) (λh4=>?_);refine gab ?_;refine oS (sF [_,_] rfl (qdN xs T[i].text zo) ?_) rfl;refine gab ?_;exact rR hj (zra rfl) (zhD zhr) ⟨by rw[h3,h4];rfl,rfl⟩;refine gab ?_;exact rR hj (zra rfl) (zhD zhr) ⟨by rw[h3,h4];rfl,rfl⟩
end
section steps
variable{C:Ctx}{e:Env}{H:Heap}{dst:Option Nat}{ty:TypeId}{pos:String}{aft:Array Edge}{g:Option (Nat×Bool)}{K:LV->Heap->Prop}{X:List PanicEntry->Heap->Prop}
theorem sH{f:FuncId} [TEnter C.P f](args:List Operand){av:List LV}{lv:LV}{p p':Nat×LObj}(has:args.map e.ev=av)(hp:Pick p H F)(hc:LCalls C f av [p] (λr H=>r=.ret lv/\H=[p']))(hk:K lv (p'::F)) :
  qae C ⟨dst,.call { callee:=.value (.func f),args:=args.toArray,argTypes:=ats },ty,pos,aft,g⟩ e H K X:=
 S.call1 args has hp hc (by rintro v H' ⟨h,rfl⟩;cases h;exact hk) (by rintro ch H' ⟨h,_⟩;cases h)
theorem sP{A:Type}{enc:A->LV}{res:Res A}{f:FuncId} [TEnter C.P f](args:List Operand){av:List LV}(has:args.map e.ev=av)(hp:Pick (srcH sb T i op) H F)
  (hc:LCalls C f av [srcH sb T i op] (qdv sb T enc res)) (hk:∀ v i' op',res=.ok v i' op'->K (enc v) (srcH sb T i' op'::F)) (hx:∀ l er i' op',res=.err l er->X (pan l er) (srcH sb T i' op'::F)) :
  qae C ⟨dst,.call { callee:=.value (.func f),args:=args.toArray,argTypes:=ats },ty,pos,aft,g⟩ e H K X:=by
 refine S.call1 args has hp hc ?_ ?_;intro v H' h
 cases hr:res with
 |ok u i' op'=>
  rw[hr] at h;obtain⟨h1,rfl⟩:=h;cases h1
  exact hk _ _ _ hr
 |err l er=>
  rw[hr] at h;obtain⟨h1,_⟩:=h;cases h1
 intro ch H' h
 cases hr:res with
 |ok u i' op'=>
  rw[hr] at h;obtain⟨h1,_⟩:=h
  cases h1
 |err l er=>
  rw[hr] at h;obtain⟨h1,i',op',rfl⟩:=h;cases h1;exact hx _ _ _ _ hr
theorem retP{A:Type}{enc:A->LV}{res:Res A}{vs:List LV}{v:A}(hd:e.ds=[])(h:qbQ C n e H rs vs)(hr:res=.ok v i op)(hv:qbE vs=enc v)(hH:HSub [srcH sb T i op] H) :
  qad C n rs (qdv sb T enc res) .ret e H:=rR hd h hH (by rw[hr];exact⟨by rw[hv],rfl⟩)
theorem qw0{A:Type}{enc:A->LV}{res:Res A}{vs:List LV}{v:A}(hd:e.ds=[])(h:qbQ C n e H rs vs)(hr:res=.ok v i op)(hv:qbE vs=enc v)(hH:HSub [srcH sb T i op] H) :
  qad C n rs (qdv sb T enc res) .normal e H:=rO hd h hH (by rw[hr];exact⟨by rw[hv],rfl⟩)
theorem panP{A:Type}{enc:A->LV}{res:Res A}{l er:Int}(hd:e.ds=[])(hr:res=.err l er)(hH:HSub [srcH sb T i op] H) :
  qad C n rs (qdv sb T enc res) (.panic (pan l er)) e H:=qad.panic hd hH (by rw[hr];exact⟨rfl,i,op,rfl⟩)
end steps
section
variable{B0:Nat}{w0:World}
theorem qfM{A:Type}(enc:A->LV)(sb:Nat)(T:List Tok)(i op:Nat)(er:Int)(hT:T.length<=100000)(hi:i<=1000000) :
  LCalls (KC B0 w0) 47 [ptr sb 0,int .i64 er] [srcH sb T i op] (qdv sb T enc (.err (qf4 T i) er)):=by
 have hml:(T.map qdr).length=T.length:=zLm _;refine cJ Tryz.func47 (n:=31) ?_;refine gac ?_;refine cC [(0,ptr sb 0),(1,int .i64 er),(4,int .i64 (qf4 T i))] ?_ (λj hj=>?_);refine oC rfl (λhc=>?_) (λhc=>?_);have hpos:0<T.length:=by have:=zt hc;simp at this;omega
 have hmin:min i (T.length-1)<T.length:=by omega
 have hmv:(if ((T.map qdr).length:Int)-1<(i:Int) then ((T.map qdr).length:Int)-1 else (i:Int))=((min i (T.length-1):Nat):Int):=by
  rw[zLm];split <;> omega
 refine zQ33 ?_;refine qP (xR (n:=((min i (T.length-1):Nat):Int)) (el':=qdr T[min i (T.length-1)]) (cs:=[_,_,_]) rfl (congrArg (int .i64) hmv) zo (qbR _ _ _ hmin) rfl rfl) rfl ?_;refine gad ?_;exact⟨⟨rfl,rfl,qao (by rw[qf4,zRl hmin]),trivial⟩,rfl,rfl⟩
 have hz:T=[]:=by
  have:=zf hc;exact List.length_eq_zero_iff.1 zo
 refine gab ?_;exact⟨⟨rfl,rfl,qao (by rw[qf4,hz];rfl),trivial⟩,rfl,rfl⟩;refine gac ?_;refine oS (qae.panic rfl λe' he'=>?_) rfl;exact panP (he'.trans hj) rfl zhr
theorem qcx(sb:Nat)(T:List Tok)(i op:Nat)(x:List UInt8)(hT:T.length<=100000)(hi:i<=1000000) :
  LCalls (KC B0 w0) 44 [ptr sb 0,str x] [srcH sb T i op] (λr H=>r=.ret (bool (qbb T i [x]))/\H=[srcH sb T (if qbb T i [x] then i+1 else i) op]):=by
 refine cJ Tryz.func44 (n:=17) ?_;refine gag ?_;refine zQ2 ?_;refine oS (sH [_,_] rfl pH (qck sb T i op [x] hT hi (by simp)) ?_) rfl;refine gad ?_;refine oC rfl (λhc=>?_) (λhc=>?_);have h:qbb T i [x]=false:=by simpa using hc
 refine gaa ?_;exact rR rfl (zra rfl) zhr ⟨by rw[h];rfl,by rw[h];rfl⟩;have h:qbb T i [x]=true:=by simpa using hc
 refine gac ?_;exact rR rfl (zra rfl) zhr ⟨by rw[h];rfl,by rw[h];rfl⟩
theorem qdY(sb:Nat)(T:List Tok)(i op:Nat)(x:List UInt8)(hT:T.length<=100000)(hi:i<=1000000) :
  LCalls (KC B0 w0) 118 [ptr sb 0,str x] [srcH sb T i op] (qdv sb T encU (qgH T x i op)):=by
 refine cJ Tryz.func118 (n:=10) ?_;refine gah ?_;refine oS (sH [_,_] rfl pH (qcx sb T i op x hT hi) ?_) rfl;refine gad ?_;refine oC rfl (λhc=>?_) (λhc=>?_);have h:qbb T i [x]=false:=by simpa using hc
 simp only[h,zRn,if_false];refine gah ?_;refine oS (sP [_,_] rfl pH (qfM encU sb T i op 3 hT hi) (λ_ _ _ h=>by cases h) (λl er i' op' h e' he'=>?_)) rfl;cases h;exact panP (he'.trans rfl) (by rw[qgH,h,zn zDd];rfl) zhr;have h:qbb T i [x]=true:=by simpa using hc
 simp only[h,if_true];refine gab ?_;exact qw0 rfl rN (by rw[qgH,h,zp rfl]) rfl zhr
theorem qaO(sb:Nat)(T:List Tok)(i op:Nat)(k:Int)(hT:T.length<=100000)(hi:i<=1000000) :
  LCalls (KC B0 w0) 119 [ptr sb 0,int .i64 k] [srcH sb T i op] (qdv sb T str (qe4 T k i op)):=by
 have hml:(T.map qdr).length=T.length:=zLm _;refine cJ Tryz.func119 (n:=51) ?_;refine gag ?_;refine cC [(0,ptr sb 0),(1,int .i64 k),(29,bool (match T[i]? with|some t=>!decide (t.kind=k)|none=>true))] ?_ (λj hj=>?_);refine zQ33 ?_;refine LQ.bcase 15 rfl (λh=>?_) (λh=>?_);have hge:T.length<=i:=by have:=zt h;omega
 refine gad ?_;exact⟨⟨rfl,rfl,qau (by rw[List.getElem?_eq_none hge]),trivial⟩,rfl,rfl⟩;have hlt:i<T.length:=by have:=zf h;omega
 refine gad ?_;refine qP (xR (el':=qdr T[i]) (cs:=[_,_,_]) rfl rfl zo (qbR _ _ _ hlt) rfl rfl) rfl ?_;refine gan ?_;exact⟨⟨rfl,rfl,qau (by rw[zRl hlt]),trivial⟩,rfl,rfl⟩
 skip
 refine oC rfl (λhc=>?_) (λhc=>?_)
 have hs:qe4 T k i op=qlb T i:=by
  unfold qe4
  cases hg:T[i]? with
  |none=>rfl
  |some t=>
   rw[hg] at hc;have:¬ t.kind=k:=by simpa using hc
   simp only;rw[zn this]
 refine gah ?_;refine oS (sP [_,_] rfl pH (qfM str sb T i op 3 hT hi) (λ_ _ _ h=>by cases h) (λl er i' op' h e' he'=>?_)) rfl;cases h;refine gak ?_;exact panP (he'.trans hj) hs zhr
 have hlt:i<T.length:=by
  rcases Nat.lt_or_ge i T.length with h|h;exact h;rw[List.getElem?_eq_none h] at hc;cases hc
 rw[zRl hlt] at hc;have hk:T[i].kind=k:=by simpa using hc
 have hs:qe4 T k i op=.ok T[i].text (i+1) op:=by rw[qe4,zRl hlt];simp only;rw[zp hk]
 refine gac ?_;refine cC [(0,ptr sb 0),(4,str T[i].text)] ?_ (λj2 hj2=>?_);refine zQ33 ?_;refine qP (xR (n:=((i:Nat):Int)) (el':=qdr T[i]) (cs:=[_,_,_]) rfl (qao zo) zo (qbR _ _ _ hlt) rfl rfl) rfl ?_;refine gad ?_;exact⟨⟨rfl,rfl,trivial⟩,rfl,rfl⟩;refine gaf ?_;exact retP (hj2.trans hj) (zra rfl) hs rfl zhr
theorem qcp(sb:Nat)(T:List Tok)(i op:Nat)(x:List UInt8)(hT:T.length<=100000)(hi:i<=1000000)(ho:op<=1000000) :
  LCalls (KC B0 w0) 120 [ptr sb 0,str x] [srcH sb T i op] (qdv sb T encU (qcY T x i op)):=by
 refine cJ Tryz.func120 (n:=32) ?_;refine gah ?_;refine zQ2 ?_;refine oS (sH [_,_] rfl pH (qck sb T i op [x] hT hi (by simp)) ?_) rfl;refine gad ?_;refine oC rfl (λhc=>?_) (λhc=>?_);have h:qbb T i [x]=false:=by simpa using hc
 refine gah ?_;refine oS (sP [_,_] rfl pH (qfM encU sb T i op 3 hT hi) (λ_ _ _ h=>by cases h) (λl er i' op' h' e' he'=>?_)) rfl;cases h';refine gak ?_;exact panP (he'.trans rfl) (by rw[qcY,h,zn zDd];rfl) zhr;have h:qbb T i [x]=true:=by simpa using hc
 refine gac ?_;refine oC rfl (λhd=>?_) (λhd=>?_);have hd':100<=op:=by have:=zt hd;omega
 refine gah ?_;refine oS (sP [_,_] rfl pH (qfM encU sb T i op 6 hT hi) (λ_ _ _ h=>by cases h) (λl er i' op' h' e' he'=>?_)) rfl;cases h';refine gak ?_;exact panP (he'.trans rfl) (by rw[qcY,h,zp rfl,zp hd']) zhr;have hd':¬ 100<=op:=by have:=zf hd;omega
 refine gac ?_;exact qw0 rfl rN (by rw[qcY,h,zp rfl,zn hd']) rfl zhr
theorem qfg(sb:Nat)(T:List Tok)(i op:Nat)(x:List UInt8)(hT:T.length<=100000)(hi:i<=1000000)(ho:op<=1000000)(h1:1<=op) :
  LCalls (KC B0 w0) 122 [ptr sb 0,str x] [srcH sb T i op] (qdv sb T encU (sEnd T x i op)):=by
 refine cJ Tryz.func122 (n:=14) ?_;refine gah ?_;refine oS (sP [_,_] rfl pH (qdY sb T i op x hT hi) (λv i' op' h=>?_) (λl er i' op' h e' he'=>?_)) rfl
 have hop:op'=op:=by
  unfold qgH at h;split at h;cases h;rfl;cases h
 subst hop;refine gac ?_;rw[show((op':Int)-1)=((op'-1:Nat):Int) by omega];exact qw0 rfl rN (by rw[sEnd,h];rfl) rfl zhr;refine gak ?_;exact panP (he'.trans rfl) (by rw[sEnd,h];rfl) zhr
end
theorem qan{A B:Type}{v:A}{f:A->Nat->Nat->OR B}:qaQ (some (.ok v i op)) f=f v i op:=rfl
theorem qat{A B:Type}{l e:Int}{f:A->Nat->Nat->OR B}:qaQ (some (.err l e)) f=some (.err l e):=rfl
theorem qaR{A B:Type}{r:OR A}{f:A->Nat->Nat->OR B}{q:Res B}(h:qaQ r f=some q):∃ r1,r=some r1:=by
 cases r with
 |none=>cases h
 |some r1=>exact⟨r1,rfl⟩
structure TOK(T:List Tok):Prop where
 len:T.length<=100000
 txt:∀ t∈T,t.text.length<=100000
 num:∀ t∈T,t.kind=1->∃ u,u<4294967296/\Go.Lib.parseUintB 32 t.text=.ok u
theorem quL{n:Int}(h:0<=n/\n<=4294967295):IntKind.u32.wrap n=n:=by
 simp only[IntKind.wrap,IntKind.bits,IntKind.signed,zRs]
 simp
 omega
theorem qdP{k:Int}{i' op':Nat}{s:List UInt8}(h:qe4 T k i op=.ok s i' op'):i'=i+1/\op'=op/\∃ t,T[i]? = some t/\t.kind=k/\t.text=s:=by
 unfold qe4 at h;split at h
 rename_i t ht
 split at h
 rename_i hk
 cases h;exact⟨rfl,rfl,t,ht,hk,rfl⟩;cases h;cases h
def qoU(l:List (List UInt8)):LV:=.list (l.map str)
def encN(n:Nat):LV:=int .u32 n
def qlT(B0:Nat)(w0:World)(sb:Nat)(T:List Tok)(f:Nat):Prop:=
 ∀ i op r,i<=T.length->op<=100->eLev T f 0 i op=some r->LCalls (KC B0 w0) 204 [ptr sb 0] [srcH sb T i op] (qdv sb T encE r)
section
variable{B0:Nat}{w0:World}
theorem qix(hG:GW B0 w0)(sb:Nat)(T:List Tok)(hT:TOK T)(i op:Nat)(hi:i<=1000000):LCalls (KC B0 w0) 121 [ptr sb 0] [srcH sb T i op] (qdv sb T encN (qfC T i op)):=by
 have hl:=hT.len;refine cJ Tryz.func121 (n:=13) ?_;refine gag ?_;refine oS (sP [_,_] rfl pH (qaO sb T i op 1 hl hi) (λs i1 op1 h1=>?_) (λl er i1 op1 h1 e' he'=>?_)) rfl;obtain⟨rfl,rfl,t,ht,hk,rfl⟩:=qdP h1;have hmem:=List.mem_of_getElem? ht;obtain⟨u,hu,hp⟩:=hT.num t hmem hk;have htx:=hT.txt t hmem;have hn:qss t.text=u:=by rw[qss,hp]
 have hw:IntKind.u32.wrap (u:Int)=(u:Int):=quL zo;refine oS (sF [_,_,_] rfl (qiB t.text zo u hp) ?_) rfl;refine gac ?_;exact retP (v:=qss t.text) rfl (zra rfl) (by rw[qfC,h1];rfl) (by rw[hn];exact qao hw) zhr;refine gak ?_;exact panP (he'.trans rfl) (by rw[qfC,h1];rfl) zhr
theorem qjb(sb:Nat)(T:List Tok)(hT:TOK T)(f i op:Nat)(r:Res (List (List UInt8)))(hi:i<=T.length)(hr:qis T f i op=some r) :
  LCalls (KC B0 w0) 117 [ptr sb 0] [srcH sb T i op] (qdv sb T qoU r):=by
 have hl:=hT.len;rw[qis] at hr;refine cJ Tryz.func117 (n:=15) ?_;refine gag ?_;refine oS (sP [_,_] rfl pH (qaO sb T i op 2 hl zo) (λs i1 op1 h1=>?_) (λl er i1 op1 h1 e' he'=>?_)) rfl;rw[h1,qan] at hr
 have hi1:i1<=T.length:=by
  have:=qbL T 2 i op;rw[h1] at this;exact this.2.2.1 hi
 refine oS (S.litA [_] rfl (eC rfl rfl eN) rfl rfl rfl λb=>?_) rfl;refine gad ?_
 refine oL (λk ls H=>∃ (v:LV) (l:List (List UInt8)) (i2:Nat) (Ha:Heap),ls=[(0,ptr sb 0),(3,v)]/\H=srcH sb T i2 op1::Ha/\Acc 1 v (l.map str) Ha []/\i2<=T.length/\l.length<=i2+1/\qbK T k l i2 op1=some r)
  ⟨f,_,srcH sb T i1 op1::[(b,.row 1)],⟨.app b 1 1 [str s],[s],i1,_,rfl,rfl,Acc.row,hi1,by simp,hr⟩,⟨rfl,rfl,trivial⟩,zhP zp1 zhr⟩ ?_
 rintro k ls H ⟨v,l,i2,Ha,rfl,rfl,hacc,hi2,hll,hI⟩ j hj
 obtain⟨k,rfl⟩:∃ k',k=k'+1:=by
  cases k with
  |zero=>rw[qbK] at hI;cases hI
  |succ k=>exact⟨k,rfl⟩
 rw[qbK] at hI;refine gah ?_;refine oS (sH [_,_] rfl pH (qcx sb T i2 op1 [44] hl zo) ?_) rfl;refine gaf ?_;refine oC rfl (λhc=>?_) (λhc=>?_);have hlt:=qaS hc;rw[zp hc] at hI;simp only[hc,if_true];refine gal ?_;refine zQ79 ?_;refine oS (sP [_,_] rfl pH (qaO sb T (i2+1) op1 2 hl zo) (λs2 i3 op3 h3=>?_) (λl er i3 op3 h3 e' he'=>?_)) rfl;rw[h3,qan] at hI;obtain⟨rfl,rfl,t,ht,_,_⟩:=qdP h3;have:=qjN ht;refine zQ2 ?_;refine oS (S.acc1 rfl hacc rfl (by simp;rfl) rfl (by simp;omega) λv' H' hacc'=>?_) rfl;refine zQ30 ?_;refine gab ?_;exact⟨k,_,_,by omega,⟨v',l++[s2],i2+1+1,H',rfl,rfl,by rw[zMa];exact hacc',by omega,by simp;omega,hI⟩,⟨rfl,rfl,trivial⟩,zhR _,hj⟩;rw[h3,qat] at hI;refine gae ?_;exact panP (he'.trans hj) (by cases hI;rfl) zhp;have hc':qbb T i2 [[44]]=false:=hc;rw[zn (by rw[hc'];decide)] at hI;simp only[hc',zRn,if_false];refine gaa ?_;refine zQ41 ?_;exact retP (v:=l) hj (rC (rT (v:=v) rfl hacc.sub) rN) (by cases hI;rfl) rfl zhp;exact zT26
theorem qqH(sb:Nat)(T:List Tok)(hT:TOK T)(f:Nat)(hE:qlT B0 w0 sb T f)(i op:Nat)(r:Res Ex)(hi:i<=T.length)(ho:op<=100)(hr:qfA T (f+1) i op=some r) :
  LCalls (KC B0 w0) 234 [ptr sb 0] [srcH sb T i op] (qdv sb T encE r):=by
 have hl:=hT.len;rw[qfA] at hr;refine cJ Tryz.func234 (n:=11) ?_;refine gai ?_;refine oS (sA λb=>?_) rfl;refine gag ?_;refine oS (sP [_,_] rfl zp1 (qcp sb T i op [91] hl zo zo) (λv i1 op1 h1=>?_) (λl er i1 op1 h1 e' he'=>?_)) rfl;rw[h1,qan] at hr;obtain⟨rfl,rfl,ho1,hi1⟩:=qbC h1;refine gag ?_;obtain⟨r1,hr1⟩:=qaR hr;refine oS (sP [_] rfl pH (hE _ _ r1 zo zo hr1) (λv i2 op2 h2=>?_) (λl er i2 op2 h2 e' he'=>?_)) rfl;rw[hr1,h2,qan] at hr;obtain⟨g1,_,g3,rfl⟩:=(qcW T f).1 0 _ _ _ (hr1.trans (congrArg some h2));have g4:=g3 zo;refine oS (sA λb2=>?_) rfl;refine gac ?_;refine oS (sP [_,_] rfl zp1 (qfg sb T i2 (op+1) [93] hl zo zo zo) (λu i3 op3 h3=>?_) (λl er i3 op3 h3 e' he'=>?_)) rfl;rw[h3,qan] at hr;refine gac ?_;exact retP rfl (rC (rA rfl zm0 rfl zsr) rN) (by cases hr;rfl) rfl (zhD zhp);rw[h3,qat] at hr;refine gak ?_;exact panP (he'.trans rfl) (by cases hr;rfl) zhp;rw[hr1,h2,qat] at hr;refine gak ?_;exact panP (he'.trans rfl) (by cases hr;rfl) zhp;exact zT26
end
def encEL(l:List Ex):LV:=.list (l.map encE)
section
variable{B0:Nat}{w0:World}
theorem qmF(sb:Nat)(T:List Tok)(hT:TOK T)(f:Nat)(hE:∀ g,g<f->qlT B0 w0 sb T g)(i op:Nat)(r:Res (List Ex))(hi:i<=T.length)(ho:op<=100)(hr:qkE T f i op=some r) :
  LCalls (KC B0 w0) 233 [ptr sb 0] [srcH sb T i op] (qdv sb T encEL r):=by
 have hl:=hT.len
 obtain⟨f,rfl⟩:∃ g,f=g+1:=by
  cases f with
  |zero=>rw[qkE] at hr;cases hr
  |succ g=>exact⟨g,rfl⟩
 rw[qkE] at hr;refine cJ Tryz.func233 (n:=23) ?_;refine gag ?_;refine oS (sP [_,_] rfl pH (qcp sb T i op [40] hl zo zo) (λv i1 op1 h1=>?_) (λl er i1 op1 h1 e' he'=>?_)) rfl;rw[h1,qan] at hr;obtain⟨rfl,rfl,ho1,hi1⟩:=qbC h1;refine gaa ?_;obtain⟨r1,hr1⟩:=qaR hr
 refine oL (λk ls H=>∃ (v:LV) (l:List Ex) (i2:Nat) (Ha:Heap),k<=f/\ls=[(0,ptr sb 0),(3,v)]/\H=srcH sb T i2 (op+1)::Ha/\Acc 4 v (l.map encE) Ha []/\i2<=T.length/\l.length<=i2+1/\qci T k l i2 (op+1)=some r1)
  ⟨f,_,srcH sb T (i+1) (op+1)::[],⟨qab,[],i+1,_,zNr _,rfl,rfl,Acc.nil,by omega,by simp,hr1⟩,⟨rfl,rfl,trivial⟩,zhR _⟩ ?_
 rintro k ls H ⟨v,l,i2,Ha,hkf,rfl,rfl,hacc,hi2,hll,hI⟩ j hj
 obtain⟨k,rfl⟩:∃ k',k=k'+1:=by
  cases k with
  |zero=>rw[qci] at hI;cases hI
  |succ k=>exact⟨k,rfl⟩
 rw[qci] at hI;refine gah ?_;refine zQ2 ?_;refine oS (sH [_,_] rfl pH (qck sb T i2 (op+1) [[41]] hl zo (by simp)) ?_) rfl;refine gad ?_;refine oC rfl (λhc=>?_) (λhc=>?_);have hc':qbb T i2 [[41]]=false:=by simpa using hc
 rw[zn (by rw[hc'];decide)] at hI;refine gal ?_;refine zQ18 ?_;refine oP (Pure.llen hacc.elems) rfl<|gad ?_;refine oC rfl (λhd=>?_) (λhd=>?_)
 have hl0:¬ l=[]:=by
  rintro rfl;have:=zt hd;simp at this
 rw[zn hl0] at hI;refine gah ?_;refine oS (sP [_,_] rfl pH (qdY sb T i2 (op+1) [44] hl zo) (λu i3 op3 h3=>?_) (λl er i3 op3 h3 e' he'=>?_)) rfl;rw[h3,qan] at hI
 obtain⟨q1,q2,q3,rfl⟩:i2<=i3/\(true=true->i2<i3)/\(i2<=T.length->i3<=T.length)/\op3=op+1:=by
  have:=qbq T [44] i2 (op+1);rw[h3] at this;exact this
 have q4:=q3 hi2;refine gaj ?_;refine zQ79 ?_;obtain⟨r2,hr2⟩:=qaR hI;refine oS (sP [_] rfl pH (hE k zo _ _ r2 zo zo hr2) (λe2 i4 op4 h4=>?_) (λl er i4 op4 h4 e' he'=>?_)) rfl;exact zT12;rw[hr2,h4,qat] at hI;rw[hr1] at hr;cases hI;rw[qat] at hr;refine gae ?_;exact panP (he'.trans hj) (by cases hr;rfl) zhp;rw[h3,qat] at hI;rw[hr1] at hr;cases hI;rw[qat] at hr;refine gae ?_;exact panP (he'.trans hj) (by cases hr;rfl) zhp
 have hl0:l=[]:=by
  have:=zf hd;simp at this;exact this
 rw[zp hl0,qan] at hI;refine gal ?_;refine zQ79 ?_;obtain⟨r2,hr2⟩:=qaR hI;refine oS (sP [_] rfl pH (hE k zo _ _ r2 zo zo hr2) (λe2 i4 op4 h4=>?_) (λl er i4 op4 h4 e' he'=>?_)) rfl;exact zT12;rw[hr2,h4,qat] at hI;rw[hr1] at hr;cases hI;rw[qat] at hr;refine gae ?_;exact panP (he'.trans hj) (by cases hr;rfl) zhp;have hc':qbb T i2 [[41]]=true:=by simpa using hc
 rw[zp hc'] at hI;refine gaa ?_;rw[hr1] at hr;cases hI;rw[qan] at hr;refine oS (sP [_,_] rfl pH (qfg sb T i2 (op+1) [41] hl zo zo zo) (λu i3 op3 h3=>?_) (λl er i3 op3 h3 e' he'=>?_)) rfl;rw[h3,qan] at hr;refine gaj ?_;refine zQ41 ?_;exact retP (v:=l) hj (rC (rT (v:=v) rfl hacc.sub) rN) (by cases hr;rfl) rfl zhp;rw[h3,qat] at hr;refine gak ?_;exact panP (he'.trans hj) (by cases hr;rfl) zhp;exact zT26
theorem qjj(sb:Nat)(T:List Tok)(hT:TOK T)(f:Nat)(hE:∀ g,g<f->qlT B0 w0 sb T g)(i op:Nat)(r:Res Ex)(hi:i<=T.length)(ho:op<=100)(hr:qfA T f i op=some r) :
  LCalls (KC B0 w0) 234 [ptr sb 0] [srcH sb T i op] (qdv sb T encE r):=by
 cases f with
 |zero=>rw[qfA] at hr;cases hr
 |succ f=>exact qqH sb T hT f (hE f zo) i op r hi ho hr
theorem qth(hG:GW B0 w0)(sb:Nat)(T:List Tok)(hT:TOK T)(f:Nat)(hE:∀ g,g<f->qlT B0 w0 sb T g)(i op:Nat)(r:Res Ex)(hi:i<=T.length)(ho:op<=100)(hr:qme T f i op=some r) :
  LCalls (KC B0 w0) 242 [ptr sb 0] [srcH sb T i op] (qdv sb T encE r):=by
 have hl:=hT.len;have hml:(T.map qdr).length=T.length:=zLm _
 obtain⟨f,rfl⟩:∃ g,f=g+1:=by
  cases f with
  |zero=>rw[qme] at hr;cases hr
  |succ g=>exact⟨g,rfl⟩
 rw[qme] at hr;refine cJ Tryz.func242 (n:=63) ?_;refine gai ?_;refine oS (sA λb=>?_) rfl;refine gag ?_;refine zQ2 ?_;refine oS (sH [_,_] rfl zp1 (qck sb T i op [[40]] hl zo (by simp)) ?_) rfl;refine gaf ?_;refine oC rfl (λhp=>?_) (λhp=>?_);rw[zp hp] at hr;refine gah ?_;refine oS (sP [_,_] rfl pH (qcp sb T i op [40] hl zo zo) (λv i1 op1 h1=>?_) (λl er i1 op1 h1 e' he'=>?_)) rfl;rw[h1,qan] at hr;obtain⟨rfl,rfl,ho1,hi1⟩:=qbC h1;refine gag ?_;obtain⟨r1,hr1⟩:=qaR hr;refine oS (sP [_] rfl pH (hE f zo _ _ r1 zo zo hr1) (λv i2 op2 h2=>?_) (λl er i2 op2 h2 e' he'=>?_)) rfl;rw[hr1,h2,qan] at hr;obtain⟨g1,_,g3,rfl⟩:=(qcW T f).1 0 _ _ _ (hr1.trans (congrArg some h2));have g4:=g3 zo;refine oS (sA λb2=>?_) rfl;refine gac ?_;refine oS (sP [_,_] rfl zp1 (qfg sb T i2 (op+1) [41] hl zo zo zo) (λu i3 op3 h3=>?_) (λl er i3 op3 h3 e' he'=>?_)) rfl;rw[h3,qan] at hr;refine gac ?_;exact retP rfl (rC (rA rfl zm0 rfl zsr) rN) (by cases hr;rfl) rfl (zhD zhp);rw[h3,qat] at hr;refine gak ?_;exact panP (he'.trans rfl) (by cases hr;rfl) zhp;rw[hr1,h2,qat] at hr;refine gak ?_;exact panP (he'.trans rfl) (by cases hr;rfl) zhp;exact zT26;have hp':qbb T i [[40]]=false:=hp;rw[zn (by rw[hp'];decide)] at hr;refine gab ?_;refine cC [(0,ptr sb 0),(2,ptr b 0),(38,bool (decide (qpC T i=1)))] ?_ (λj hj=>?_);refine zQ33 ?_;refine LQ.bcase 25 rfl (λh=>?_) (λh=>?_);have hlt:i<T.length:=by have:=zt h;omega
 refine gad ?_;refine qP (xR (el':=qdr T[i]) (cs:=[_,_,_]) rfl rfl zo (qbR _ _ _ hlt) rfl rfl) rfl ?_;refine gad ?_;exact⟨⟨rfl,rfl,qau (by rw[qpC,zRl hlt]),trivial⟩,rfl,rfl⟩;have hge:T.length<=i:=by have:=zf h;omega
 refine gad ?_;exact⟨⟨rfl,rfl,qau (by rw[qpC,List.getElem?_eq_none hge];rfl),trivial⟩,rfl,rfl⟩
 skip
 refine oC rfl (λhk=>?_) (λhk=>?_);rw[zp (zt hk)] at hr;refine gah ?_;refine oS (sP [_] rfl pH (qix hG sb T hT i op zo) (λn i1 op1 h1=>?_) (λl er i1 op1 h1 e' he'=>?_)) rfl;rw[h1,qan] at hr;refine gad ?_;exact retP (v:=.mk nNum n [] []) hj (rC (rA (k:=4) rfl zm0 rfl (vA (bs:=[_,_,_,.list []]) ⟨vR _,vR _,vR _,vN,trivial⟩)) rN) (by cases hr;rfl) (by rw[qcH];rfl) (zhP zp1 zhn);rw[h1,qat] at hr;refine gak ?_;exact panP (he'.trans hj) (by cases hr;rfl) zhp;rw[zn (zf hk)] at hr;refine gaa ?_;refine oS (sP [_,_] rfl pH (qaO sb T i op 2 hl zo) (λs i1 op1 h1=>?_) (λl er i1 op1 h1 e' he'=>?_)) rfl;rw[h1,qan] at hr;obtain⟨rfl,rfl,t,ht,_,_⟩:=qdP h1;have:=qjN ht;refine gaa ?_;refine zQ2 ?_;refine oS (sH [_,_] rfl pH (qck sb T (i+1) op1 [[91]] hl zo (by simp)) ?_) rfl;refine gaf ?_;refine oC rfl (λhx=>?_) (λhx=>?_);rw[zp hx] at hr;obtain⟨r1,hr1⟩:=qaR hr;refine gah ?_;refine oS (sP [_] rfl pH (qjj sb T hT f (λg hg=>hE g zo) (i+1) op1 r1 zo zo hr1) (λe2 i2 op2 h2=>?_) (λl er i2 op2 h2 e' he'=>?_)) rfl;rw[hr1,h2,qan] at hr;refine zQ2 ?_;refine gad ?_;exact retP (v:=.mk qeD 0 s [e2]) hj (rC (rA rfl zm0 rfl zsr) rN) (by cases hr;rfl) (by rw[qcH];rfl) (zhP zp1 zhn);exact zT25;have hx':qbb T (i+1) [[91]]=false:=hx;rw[zn (by rw[hx'];decide)] at hr;refine gah ?_;refine zQ2 ?_;refine oS (sH [_,_] rfl pH (qck sb T (i+1) op1 [[40]] hl zo (by simp)) ?_) rfl;refine gaf ?_;refine oC rfl (λhy=>?_) (λhy=>?_);rw[zp hy] at hr;obtain⟨r1,hr1⟩:=qaR hr;refine gah ?_;refine oS (sP [_] rfl pH (qmF sb T hT f (λg hg=>hE g zo) (i+1) op1 r1 zo zo hr1) (λe2 i2 op2 h2=>?_) (λl er i2 op2 h2 e' he'=>?_)) rfl;rw[hr1,h2,qan] at hr;refine gad ?_;exact retP (v:=.mk qch 0 s e2) hj (rC (rA rfl zm0 rfl zsr) rN) (by cases hr;rfl) (by rw[qcH];rfl) (zhP zp1 zhn);exact zT25;have hy':qbb T (i+1) [[40]]=false:=hy;rw[zn (by rw[hy'];decide)] at hr;refine gac ?_;exact retP (v:=.mk nVar 0 s []) hj (rC (rA (k:=4) rfl zm0 rfl (vA (bs:=[_,_,_,.list []]) ⟨vR _,vR _,vR _,vN,trivial⟩)) rN) (by cases hr;rfl) (by rw[qcH];rfl) (zhP zp1 zhn);rw[h1,qat] at hr;refine gak ?_;exact panP (he'.trans hj) (by cases hr;rfl) zhp
end
def e45:MapEntry:={ key:=.string ⟨#[45]⟩,val:=.string ⟨#[110,101,103]⟩,born:=0 }
def e33:MapEntry:={ key:=.string ⟨#[33]⟩,val:=.string ⟨#[110,111,116]⟩,born:=1 }
section
variable{B0:Nat}{w0:World}
def qxx(B0:Nat)(w0:World)(sb:Nat)(T:List Tok)(f:Nat):Prop:=
 ∀ i op r,i<=T.length->op<=100->qeP T f i op=some r->LCalls (KC B0 w0) 229 [ptr sb 0] [srcH sb T i op] (qdv sb T encE r)
def qmR(T:List Tok)(i:Nat)(seen:Array Nat):Prop:=
 seen=#[]∨(seen=#[0]/\qbb T i [[45]]=false)∨(seen=#[1]/\qbb T i [[33]]=false)∨((seen=#[0,1]∨seen=#[1,0])/\qbb T i [[45]]=false/\qbb T i [[33]]=false)
theorem qqU{seen:Array Nat}(h:qmR T i seen)(ho:#[e45,e33].filter (λe=>!seen.contains e.born)=#[]):qbb T i [[45]]=false/\qbb T i [[33]]=false:=by
 have h1:=Array.filter_eq_empty_iff.1 ho e45 (by simp);have h2:=Array.filter_eq_empty_iff.1 ho e33 (by simp);rcases h with rfl|⟨rfl,_⟩|⟨rfl,_⟩|⟨_,h3,h4⟩;simp[e45] at h1;simp[e33] at h2;simp[e45] at h1;exact⟨h3,h4⟩
theorem qqX{seen:Array Nat}{e:MapEntry}(h:qmR T i seen)(he:e∈(#[e45,e33].filter (λe=>!seen.contains e.born)).toList) :
  seen.size<2/\((e=e45/\(qbb T i [[45]]=false->qmR T i (seen.push 0)))∨(e=e33/\(qbb T i [[33]]=false->qmR T i (seen.push 1)))):=by
 have he':=Array.mem_filter.1 (Array.mem_toList_iff.1 he);have hor:e=e45∨e=e33:=by simpa using he'.1
 have hno:=he'.2;rcases h with rfl|⟨rfl,h1⟩|⟨rfl,h1⟩|⟨rfl|rfl,_,_⟩;rcases hor with rfl|rfl;exact⟨by decide,.inl ⟨rfl,λh=>.inr (.inl ⟨rfl,h⟩)⟩⟩;exact⟨by decide,.inr ⟨rfl,λh=>.inr (.inr (.inl ⟨rfl,h⟩))⟩⟩;rcases hor with rfl|rfl;simp[e45] at hno;exact⟨by decide,.inr ⟨rfl,λh=>.inr (.inr (.inr ⟨.inl rfl,h1,h⟩))⟩⟩;rcases hor with rfl|rfl;exact⟨by decide,.inl ⟨rfl,λh=>.inr (.inr (.inr ⟨.inr rfl,h,h1⟩))⟩⟩;simp[e33] at hno;rcases hor with rfl|rfl;simp[e45] at hno;simp[e33] at hno;rcases hor with rfl|rfl;simp[e45] at hno;simp[e33] at hno
theorem qp9(h:qbb T i [[33]]=true):qbb T i [[45]]=false:=by
 unfold qbb at h ⊢;split at h
 rename_i t ht
 simp only[zBa] at h;have h2:t.text=[33]:=by simpa using h.2
 rw[h2]
 simp
 cases h
theorem qqn(hG:GW B0 w0)(sb:Nat)(T:List Tok)(hT:TOK T):∀ f:Nat,(∀ g,g<f->qlT B0 w0 sb T g)->qxx B0 w0 sb T f:=by
 intro f
 induction f with
 |zero=>intro _ i op r _ _ hr;rw[qeP] at hr;cases hr
 |succ f ih=>
  intro hE i op r hi ho hr;have hl:=hT.len;rw[qeP] at hr;refine cJ Tryz.func229 (n:=36) ?_;refine gai ?_;refine oS (sA λb=>?_) rfl;refine gaj ?_;refine oS (S.makeMap λmb=>oS (S.insert (k:=⟨#[45]⟩) (v:=.string ⟨#[110,101,103]⟩) (kt:=9) (el:=9) zk zk rfl rfl rfl pH (by simp) ?_) rfl) rfl;refine oS (S.insert (k:=⟨#[33]⟩) (v:=.string ⟨#[110,111,116]⟩) (kt:=9) (el:=9) zk zk rfl rfl rfl pH (λe he=>⟨⟨#[45]⟩,by simp at he;rw[he],by decide⟩)<|oP (pM (lv:=.atom _) rfl) rfl<|oS (S.range (kt:=9) (el:=9) zk rfl zm0 λrb=>?_) rfl) rfl;refine gab ?_
  refine oL (λk ls H=>∃ seen:Array Nat,k=2-seen.size/\ls=[(0,ptr sb 0),(2,ptr b 0),(8,ptr rb 0)]/\H=[(rb,.obj (.mapIter (some mb) 2 seen 2)),(mb,.obj (.map #[e45,e33] 2)),(b,.cells 170 [str [],int .u32 0,str [],qab]),srcH sb T i op]/\qmR T i seen)
   ⟨_,_,_,⟨#[],rfl,rfl,rfl,.inl rfl⟩,⟨rfl,rfl,rfl,trivial⟩,zhR _⟩ ?_
  rintro k ls H ⟨seen,rfl,rfl,rfl,hS⟩ j hj;refine gai ?_;refine oS (S.next (F:=[(b,.cells 170 [str [],int .u32 0,str [],qab]),srcH sb T i op]) rfl zpr zDd (λhov=>?_) (λen hen=>?_)) rfl;obtain⟨hn1,hn2⟩:=qqU hS hov;rw[zn (by rw[hn1];decide),zn (by rw[hn2];decide)] at hr;refine gab ?_;refine oC rfl (λhcc=>?_) (λhcc=>?_);cases hcc;refine gaa ?_;refine oS (sP [_] rfl zp3 (qth hG sb T hT f (λg hg=>hE g zo) i op r hi ho hr) (λv i1 op1 h1=>?_) (λl er i1 op1 h1 e' he'=>?_)) rfl;refine gad ?_;exact retP (v:=v) hj (rC (rA rfl zm0 rfl zsr) rN) h1 rfl (zhP zp1 zhn);refine gak ?_;exact panP (he'.trans hj) h1 zhp;obtain⟨hsz,⟨rfl,hnext⟩|⟨rfl,hnext⟩⟩:=qqX hS hen;refine gab ?_;refine oC rfl (λhcc=>?_) (λhcc=>?_);refine gal ?_;refine oP (Pure.entry (en:=e45) (stamp:=0) rfl zm0 zm1 rfl (by show(seen.push 0).back? = _;simp) rfl) rfl ?_;refine gaa ?_;refine zQ2 ?_;refine oS (sH [_,_] rfl zp3 (qck sb T i op [[45]] hl zo (by simp)) ?_) rfl;refine gaf ?_;refine oC rfl (λhc=>?_) (λhc=>?_);rw[zp hc] at hr;refine gah ?_;refine oS (sP [_,_] rfl pH (qcp sb T i op [45] hl zo zo) (λv i1 op1 h1=>?_) (λl er i1 op1 h1 e' he'=>?_)) rfl;rw[h1,qan] at hr;obtain⟨rfl,rfl,ho1,hi1⟩:=qbC h1;refine gag ?_;obtain⟨r1,hr1⟩:=qaR hr;refine oS (sP [_] rfl pH (ih (λg hg=>hE g zo) _ _ r1 zo zo hr1) (λe2 i2 op2 h2=>?_) (λl er i2 op2 h2 e' he'=>?_)) rfl;rw[hr1,h2,qan] at hr;obtain⟨g1,_,g3,rfl⟩:=(qcW T f).2.2.1 _ _ _ (hr1.trans (congrArg some h2));have g4:=g3 zo;refine zQ2 ?_;refine gad ?_;refine oS (sA λb2=>?_) rfl;refine gac ?_
  exact retP (v:=.mk nNeg 0 [] [e2]) hj (rC (rA rfl zm0 rfl zsr) rN) (by cases hr;rfl) (by rw[qcH];rfl) (by
   rw[show(((op+1:Nat):Int)-1)=((op+1-1:Nat):Int) by omega]
   exact zhP zp1 zhn)
  exact zT25;rw[h1,qat] at hr;refine gae ?_;exact panP (he'.trans hj) (by cases hr;rfl) zhp;refine gab ?_;exact⟨_,_,_,by have:=hsz;simp;omega,⟨seen.push 0,rfl,rfl,rfl,hnext hc⟩,⟨rfl,rfl,rfl,trivial⟩,zhP zp1 (zhP zp1 (zhP zp1 zhp)),hj⟩;cases hcc;refine gab ?_;refine oC rfl (λhcc=>?_) (λhcc=>?_);refine gal ?_;refine oP (Pure.entry (en:=e33) (stamp:=1) rfl zm0 zm1 rfl (by show(seen.push 1).back? = _;simp) rfl) rfl ?_;refine gaa ?_;refine zQ2 ?_;refine oS (sH [_,_] rfl zp3 (qck sb T i op [[33]] hl zo (by simp)) ?_) rfl;refine gaf ?_;refine oC rfl (λhc=>?_) (λhc=>?_);rw[zn (by rw[qp9 hc];decide),zp hc] at hr;refine gah ?_;refine oS (sP [_,_] rfl pH (qcp sb T i op [33] hl zo zo) (λv i1 op1 h1=>?_) (λl er i1 op1 h1 e' he'=>?_)) rfl;rw[h1,qan] at hr;obtain⟨rfl,rfl,ho1,hi1⟩:=qbC h1;refine gag ?_;obtain⟨r1,hr1⟩:=qaR hr;refine oS (sP [_] rfl pH (ih (λg hg=>hE g zo) _ _ r1 zo zo hr1) (λe2 i2 op2 h2=>?_) (λl er i2 op2 h2 e' he'=>?_)) rfl;rw[hr1,h2,qan] at hr;obtain⟨g1,_,g3,rfl⟩:=(qcW T f).2.2.1 _ _ _ (hr1.trans (congrArg some h2));have g4:=g3 zo;refine zQ2 ?_;refine gad ?_;refine oS (sA λb2=>?_) rfl;refine gac ?_
  exact retP (v:=.mk nNot 0 [] [e2]) hj (rC (rA rfl zm0 rfl zsr) rN) (by cases hr;rfl) (by rw[qcH];rfl) (by
   rw[show(((op+1:Nat):Int)-1)=((op+1-1:Nat):Int) by omega]
   exact zhP zp1 zhn)
  exact zT25;rw[h1,qat] at hr;refine gae ?_;exact panP (he'.trans hj) (by cases hr;rfl) zhp;refine gab ?_;exact⟨_,_,_,by have:=hsz;simp;omega,⟨seen.push 1,rfl,rfl,rfl,hnext hc⟩,⟨rfl,rfl,rfl,trivial⟩,zhP zp1 (zhP zp1 (zhP zp1 zhp)),hj⟩;cases hcc
end
inductive Clo (sb:Nat):Nat->FuncId->Array Value->Array Value->Heap->Prop
 |un:Clo sb 6 229 #[.pointer (some ⟨sb,0,none⟩)] #[] []
 |bin {k bo bs bp bn:Nat} {f:FuncId} {first caps:Array Value} {H:Heap} (h:Clo sb (k+1) f first caps H):Clo sb k 244 #[] #[.pointer (some ⟨bo,0,none⟩),.pointer (some ⟨bs,0,none⟩),.pointer (some ⟨bp,0,none⟩),.pointer (some ⟨bn,0,none⟩)]
   ((bo,.cells 246 [.atom (.func (.func f) first caps)])::(bs,.cells 58 [ptr sb 0])::(bp,.cells 24 [.list ((qb3 k).map str)])::(bn,.cells 4 [bool (decide ((k:Int)=2))])::H)
def qwl{A:Type}(sb:Nat)(T:List Tok)(enc:A->LV)(Hc:Heap)(res:Res A)(r:LRes)(H:Heap):Prop:=match res with
 |.ok v i op=>r=.ret (enc v)/\H=srcH sb T i op::Hc
 |.err l e=>r=.panic (pan l e)/\∃ i op:Nat,H=srcH sb T i op::Hc
def CloC(B0:Nat)(w0:World)(sb:Nat)(T:List Tok)(f:Nat):Prop:=
 ∀ k fn first caps Hc i op r,Clo sb k fn first caps Hc->i<=T.length->op<=100->eLev T f k i op=some r ->
  LCalls (KC B0 w0) fn (first.toList.map .atom++caps.toList.map .atom) (srcH sb T i op::Hc) (qwl sb T encE Hc r)
section steps
variable{C:Ctx}{e:Env}{H:Heap}{dst:Option Nat}{ty:TypeId}{pos:String}{aft:Array Edge}{g:Option (Nat×Bool)}{K:LV->Heap->Prop}{X:List PanicEntry->Heap->Prop}
theorem qxG(a b:List LV){e:Env}:a++([]:List Operand).map e.ev++b=a++b:=by simp
theorem S.callClo{A:Type}{enc:A->LV}{res:Res A}{sb i op:Nat}{T:List Tok}{fo:Operand}{f:FuncId} [TEnter C.P f]{first caps:Array Value}{Hc F:Heap}(hf:e.ev fo=.atom (.func (.func f) first caps))(hp:Pick (srcH sb T i op) H (F++Hc))
  (hc:LCalls C f (first.toList.map .atom++caps.toList.map .atom) (srcH sb T i op::Hc) (qwl sb T enc Hc res)) (hk:∀ v i' op',res=.ok v i' op'->K (enc v) (srcH sb T i' op'::(F++Hc))) (hx:∀ l er i' op',res=.err l er->X (pan l er) (srcH sb T i' op'::Hc++F)) :
  qae C ⟨dst,.call { callee:=.value fo,args:=#[],argTypes:=ats },ty,pos,aft,g⟩ e H K X:=by
 have hp':H.Perm ((srcH sb T i op::Hc)++F):=hp.trans (zRq _ zPc);refine qae.conseq (K:=λv H'=>∃ u i' op',res=.ok u i' op'/\v=enc u/\H'=srcH sb T i' op'::Hc++F) (S.callV (H1:=srcH sb T i op::Hc) (F:=F) [] hf (qxG _ _) hp' hc ?_ ?_) ?_;intro v H' h
 cases hr:res with
 |ok u i' op'=>rw[hr] at h;obtain⟨h1,rfl⟩:=h;cases h1;exact⟨u,i',op',rfl,rfl,rfl⟩
 |err l er=>rw[hr] at h;obtain⟨h1,_⟩:=h;cases h1
 intro ch H' h
 cases hr:res with
 |ok u i' op'=>rw[hr] at h;obtain⟨h1,_⟩:=h;cases h1
 |err l er=>rw[hr] at h;obtain⟨h1,i',op',rfl⟩:=h;cases h1;exact hx _ _ _ _ hr
 rintro v H' ⟨u,i',op',h1,rfl,rfl⟩;exact⟨_,_,vR _,⟨[],by simpa using zPc⟩,hk u i' op' h1⟩
end steps
theorem Clo.enter{k:Nat}{H:Heap}(h:Clo sb k f first caps H):TEnter Tryz.prog f:=by
 cases h <;> infer_instance
theorem Clo.le{k:Nat}{H:Heap}(h:Clo sb k f first caps H):k<=6:=by
 induction h with
 |un=>exact zNr _
 |bin _ ih=>omega
theorem qt7{s:Nat×LObj}{A B:Heap}:HSub (s::(B++Hc)) ((s::Hc++[])++(A++B)):=by
 refine⟨A,?_⟩;have h1:(Hc++(A++B)).Perm ((B++Hc)++A):=zPc.trans (by rw[zAs];exact zPc);simpa using zRq s h1
theorem qnl{s u:Nat×LObj}{A:Heap}:HSub (u::s::(A++Hc)) (u::((s::([]++Hc))++A)):=by
 refine⟨[],?_⟩;have h1:(Hc++A).Perm (A++Hc):=zPc;simpa using zRq u (zRq s h1)
theorem HSub.appR{H' l1 l2:Heap}(h:HSub H' l2):HSub H' (l1++l2):=by
 obtain⟨G,hG⟩:=h;refine⟨G++l1,?_⟩;have h1:(l1++l2).Perm (l2++l1):=zPc;have h2:(l2++l1).Perm ((H'++G)++l1):=hG.append_right l1;simpa using h1.trans h2
theorem qo0{a:Nat×LObj}{l1 l2:Heap}:([]++(l1++a::l2)).Perm ([a]++(l1++l2)):=by
 exact(List.nil_append _).symm▸perm_middle
theorem quN(k:Nat):(qb3 k).length<=1000:=by
 unfold qb3;split <;> simp
theorem qsY(h:i<T.length):qiv T i=T[i].text:=by rw[qiv,zRl h]
section
variable{B0:Nat}{w0:World}
theorem qu7(hG:GW B0 w0)(sb:Nat)(T:List Tok)(hT:TOK T)(f:Nat)(hC:∀ g,g<f->CloC B0 w0 sb T g)(k bo bs bp bn:Nat)(fn:FuncId)(first caps:Array Value)(Hc:Heap)(hclo:Clo sb (k+1) fn first caps Hc)(i op:Nat)(r:Res Ex)
  (hi:i<=T.length) (ho:op<=100) (hr:eLev T f k i op=some r) :
  LCalls (KC B0 w0) 244 [ptr bo 0,ptr bs 0,ptr bp 0,ptr bn 0] (srcH sb T i op::(bo,.cells 246 [.atom (.func (.func fn) first caps)])::(bs,.cells 58 [ptr sb 0])::(bp,.cells 24 [.list ((qb3 k).map str)])::(bn,.cells 4 [bool (decide ((k:Int)=2))])::Hc)
   (qwl sb T encE ((bo,.cells 246 [.atom (.func (.func fn) first caps)])::(bs,.cells 58 [ptr sb 0])::(bp,.cells 24 [.list ((qb3 k).map str)])::(bn,.cells 4 [bool (decide ((k:Int)=2))])::Hc) r):=by
 have hl:=hT.len;have hk6:=hclo.le;have hen:=hclo.enter
 obtain⟨f,rfl⟩:∃ g,f=g+1:=by
  cases f with
  |zero=>rw[eLev] at hr;cases hr
  |succ g=>exact⟨g,rfl⟩
 rw[eLev,zn zo] at hr;obtain⟨r1,hr1⟩:=qaR hr;refine cJ Tryz.func244 (n:=38) ?_;refine gai ?_;refine oS (sA λb=>?_) rfl;refine gac ?_;refine oS (S.callClo (F:=[(b,_),(bo,_),(bs,_),(bp,_),(bn,_)]) (Hc:=Hc) rfl zp1 (hC f zo _ _ _ _ _ _ _ r1 hclo hi ho hr1) (λv i1 op1 h1=>?_) (λl er i1 op1 h1 e' he'=>?_)) rfl;rw[hr1,h1,qan] at hr;obtain⟨g1,_,g3,rfl⟩:=(qcW T f).1 _ _ _ _ (hr1.trans (congrArg some h1));have g4:=g3 hi;refine oS (sA λb5=>?_) rfl;refine gad ?_
 refine oL (λq ls H=>∃ (ex:Ex) (i2:Nat),q<=f/\ls=[(0,ptr bo 0),(1,ptr bs 0),(2,ptr bp 0),(3,ptr bn 0),(4,ptr b 0),(5,ptr b5 0)] /\
   H=(b5,.cells 170 [str (exOp ex),int .u32 (qeE ex),str (qcM ex),.list (qbS ex)])::srcH sb T i2 op1::(b,.cells 170 [str [],int .u32 0,str [],qab])::([(bo,.cells 246 [.atom (.func (.func fn) first caps)]),(bs,.cells 58 [ptr sb 0]),(bp,.cells 24 [.list ((qb3 k).map str)]),(bn,.cells 4 [bool (decide ((k:Int)=2))])]++Hc)/\i2<=T.length/\qks T q k ex i2 op1=some r)
  ⟨f,_,_,⟨v,i1,zNr _,rfl,rfl,g4,hr⟩,⟨rfl,rfl,rfl,rfl,rfl,rfl,trivial⟩,zhR _⟩ ?_
 rintro q ls H ⟨ex,i2,hqf,rfl,rfl,hi2,hI⟩ j hj
 obtain⟨q,rfl⟩:∃ q',q=q'+1:=by
  cases q with
  |zero=>rw[qks] at hI;cases hI
  |succ q=>exact⟨q,rfl⟩
 rw[qks] at hI;refine gac ?_;refine oS (sH [_,_] rfl zp1 (qck sb T i2 op1 (qb3 k) hl zo (quN k)) ?_) rfl;refine gaf ?_;refine oC rfl (λhc=>?_) (λhc=>?_);have hlt:=qaS hc;rw[zp hc] at hI;refine gab ?_;refine cC [(0,ptr bo 0),(1,ptr bs 0),(2,ptr bp 0),(3,ptr bn 0),(4,ptr b 0),(5,ptr b5 0),(6,str (qiv T i2))] ?_ (λj2 hj2=>?_);refine zQ33 ?_;refine qP (xR (el':=qdr T[i2]) (cs:=[_,_,_]) rfl rfl zo (qbR _ _ _ hlt) rfl rfl) rfl ?_;refine gad ?_;exact⟨⟨rfl,rfl,rfl,rfl,rfl,rfl,qm7 (qsY hlt).symm,trivial⟩,rfl,rfl⟩;obtain⟨r2,hr2⟩:=qaR hI;refine gac ?_;refine cD (m:=7) rfl [(bo,.cells 246 [.atom (.func (.func fn) first caps)])] ?_;have hHF:HSub [(bo,.cells 246 [.atom (.func (.func fn) first caps)])] (srcH sb T (i2+1) op1::(b5,.cells 170 [str (exOp ex),int .u32 (qeE ex),str (qcM ex),.list (qbS ex)])::(b,.cells 170 [str [],int .u32 0,str [],qab])::(bo,.cells 246 [.atom (.func (.func fn) first caps)])::[(bs,.cells 58 [ptr sb 0]),(bp,.cells 24 [.list ((qb3 k).map str)]),(bn,.cells 4 [bool (decide ((k:Int)=2))])]++Hc):=zhP zp3 zhn;refine LAny.take (i:=0) hHF rfl zk zk zk rfl (pM (lv:=.atom _) rfl)<|LAny.take (i:=2) hHF rfl zk zk zk rfl (pL (c:=.atom _) rfl zm0 rfl)<|aL ?_ hHF;refine zl2 (i:=1) (j:=3) zk ?_ ?_;have hperm:(srcH sb T (i2+1) op1::(b5,LObj.cells 170 [str (exOp ex),int .u32 (qeE ex),str (qcM ex),.list (qbS ex)])::(b,LObj.cells 170 [str [],int .u32 0,str [],qab])::([(bo,LObj.cells 246 [.atom (.func (.func fn) first caps)]),(bs,LObj.cells 58 [ptr sb 0]),(bp,LObj.cells 24 [.list ((qb3 k).map str)]),(bn,LObj.cells 4 [bool (decide ((k:Int)=2))])]++Hc)).Perm ((srcH sb T (i2+1) op1::Hc)++[(b5,LObj.cells 170 [str (exOp ex),int .u32 (qeE ex),str (qcM ex),.list (qbS ex)]),(b,LObj.cells 170 [str [],int .u32 0,str [],qab]),(bo,LObj.cells 246 [.atom (.func (.func fn) first caps)]),(bs,LObj.cells 58 [ptr sb 0]),(bp,LObj.cells 24 [.list ((qb3 k).map str)]),(bn,LObj.cells 4 [bool (decide ((k:Int)=2))])]):=zRq _ (show([(b5,LObj.cells 170 [str (exOp ex),int .u32 (qeE ex),str (qcM ex),.list (qbS ex)]),(b,LObj.cells 170 [str [],int .u32 0,str [],qab]),(bo,LObj.cells 246 [.atom (.func (.func fn) first caps)]),(bs,LObj.cells 58 [ptr sb 0]),(bp,LObj.cells 24 [.list ((qb3 k).map str)]),(bn,LObj.cells 4 [bool (decide ((k:Int)=2))])]++Hc).Perm (Hc++[(b5,LObj.cells 170 [str (exOp ex),int .u32 (qeE ex),str (qcM ex),.list (qbS ex)]),(b,LObj.cells 170 [str [],int .u32 0,str [],qab]),(bo,LObj.cells 246 [.atom (.func (.func fn) first caps)]),(bs,LObj.cells 58 [ptr sb 0]),(bp,LObj.cells 24 [.list ((qb3 k).map str)]),(bn,LObj.cells 4 [bool (decide ((k:Int)=2))])]) from zPc);refine lH rfl rfl (pG (cs':=[_,_,_,_]) rfl zm1 rfl rfl)<|lO 3 (lS (H1:=srcH sb T (i2+1) op1::Hc) (F:=[(b5,LObj.cells 170 [str (exOp ex),int .u32 (qeE ex),str (qcM ex),.list (qbS ex)]),(b,LObj.cells 170 [str [],int .u32 0,str [],qab]),(bo,LObj.cells 246 [.atom (.func (.func fn) first caps)]),(bs,LObj.cells 58 [ptr sb 0]),(bp,LObj.cells 24 [.list ((qb3 k).map str)]),(bn,LObj.cells 4 [bool (decide ((k:Int)=2))])]) rfl (.inl rfl) rfl (hperm) (zhP zp2 zhn) (S.callClo (F:=[]) (Hc:=Hc) rfl pH (hC q zo _ _ _ _ _ _ _ r2 hclo zo ho hr2) (λe2 i3 op3 h3=>?_) (λl er i3 op3 h3 e' he'=>?_)));rw[hr2,h3,qan] at hI;obtain⟨q1,q2,q3,rfl⟩:=(qcW T q).1 _ _ _ _ (hr2.trans (congrArg some h3));have q4:=q3 zo;refine lO 4 (lS (H1:=[]) (F:=(srcH sb T i3 op3::([]++Hc))++[(b5,LObj.cells 170 [str (exOp ex),int .u32 (qeE ex),str (qcM ex),.list (qbS ex)]),(b,LObj.cells 170 [str [],int .u32 0,str [],qab]),(bo,LObj.cells 246 [.atom (.func (.func fn) first caps)]),(bs,LObj.cells 58 [ptr sb 0]),(bp,LObj.cells 24 [.list ((qb3 k).map str)]),(bn,LObj.cells 4 [bool (decide ((k:Int)=2))])]) rfl (.inl rfl) rfl zpr (HSub.appR (zhP zp2 zhn)) (sL (es:=[encE ex,encE e2]) [_,_] rfl (eC rfl rfl (eC rfl rfl eN)) rfl rfl rfl ?_))
 refine lO 5 (lH rfl rfl (pB _ (cs:=[_,_,_,_]) rfl) ?_);refine lO 6 (lS (H1:=[(b5,LObj.cells 170 [str (exOp ex),int .u32 (qeE ex),str (qcM ex),.list (qbS ex)])]) (F:=(srcH sb T i3 op3::([]++Hc))++[(b,LObj.cells 170 [str [],int .u32 0,str [],qab]),(bo,LObj.cells 246 [.atom (.func (.func fn) first caps)]),(bs,LObj.cells 58 [ptr sb 0]),(bp,LObj.cells 24 [.list ((qb3 k).map str)]),(bn,LObj.cells 4 [bool (decide ((k:Int)=2))])]) rfl (.inl rfl) rfl qo0 (HSub.appR (zhP zp1 zhn)) (sS (cs':=[_,_,_,_]) rfl pH rfl rfl rfl rfl rfl ?_));refine zQ80 ?_;refine cW (H':=(b5,LObj.cells 170 [str (qiv T i2),int .u32 0,str [],.list [encE ex,encE e2]])::srcH sb T i3 op3::(b,LObj.cells 170 [str [],int .u32 0,str [],qab])::([(bo,LObj.cells 246 [.atom (.func (.func fn) first caps)]),(bs,LObj.cells 58 [ptr sb 0]),(bp,LObj.cells 24 [.list ((qb3 k).map str)]),(bn,LObj.cells 4 [bool (decide ((k:Int)=2))])]++Hc)) (qnl (A:=[(b,LObj.cells 170 [str [],int .u32 0,str [],qab]),(bo,LObj.cells 246 [.atom (.func (.func fn) first caps)]),(bs,LObj.cells 58 [ptr sb 0]),(bp,LObj.cells 24 [.list ((qb3 k).map str)]),(bn,LObj.cells 4 [bool (decide ((k:Int)=2))])])) ?_;refine gac ?_;refine oC rfl (λhk2=>?_) (λhk2=>?_);exact zT34;exact zT27;exact zT6;have hperm:(srcH sb T (i2+1) op1::(b5,LObj.cells 170 [str (exOp ex),int .u32 (qeE ex),str (qcM ex),.list (qbS ex)])::(b,LObj.cells 170 [str [],int .u32 0,str [],qab])::([(bo,LObj.cells 246 [.atom (.func (.func fn) first caps)]),(bs,LObj.cells 58 [ptr sb 0]),(bp,LObj.cells 24 [.list ((qb3 k).map str)]),(bn,LObj.cells 4 [bool (decide ((k:Int)=2))])]++Hc)).Perm ((srcH sb T (i2+1) op1::Hc)++[(b5,LObj.cells 170 [str (exOp ex),int .u32 (qeE ex),str (qcM ex),.list (qbS ex)]),(b,LObj.cells 170 [str [],int .u32 0,str [],qab]),(bo,LObj.cells 246 [.atom (.func (.func fn) first caps)]),(bs,LObj.cells 58 [ptr sb 0]),(bp,LObj.cells 24 [.list ((qb3 k).map str)]),(bn,LObj.cells 4 [bool (decide ((k:Int)=2))])]):=zRq _ (show([(b5,LObj.cells 170 [str (exOp ex),int .u32 (qeE ex),str (qcM ex),.list (qbS ex)]),(b,LObj.cells 170 [str [],int .u32 0,str [],qab]),(bo,LObj.cells 246 [.atom (.func (.func fn) first caps)]),(bs,LObj.cells 58 [ptr sb 0]),(bp,LObj.cells 24 [.list ((qb3 k).map str)]),(bn,LObj.cells 4 [bool (decide ((k:Int)=2))])]++Hc).Perm (Hc++[(b5,LObj.cells 170 [str (exOp ex),int .u32 (qeE ex),str (qcM ex),.list (qbS ex)]),(b,LObj.cells 170 [str [],int .u32 0,str [],qab]),(bo,LObj.cells 246 [.atom (.func (.func fn) first caps)]),(bs,LObj.cells 58 [ptr sb 0]),(bp,LObj.cells 24 [.list ((qb3 k).map str)]),(bn,LObj.cells 4 [bool (decide ((k:Int)=2))])]) from zPc);refine(lS (H1:=srcH sb T (i2+1) op1::Hc) (F:=[(b5,LObj.cells 170 [str (exOp ex),int .u32 (qeE ex),str (qcM ex),.list (qbS ex)]),(b,LObj.cells 170 [str [],int .u32 0,str [],qab]),(bo,LObj.cells 246 [.atom (.func (.func fn) first caps)]),(bs,LObj.cells 58 [ptr sb 0]),(bp,LObj.cells 24 [.list ((qb3 k).map str)]),(bn,LObj.cells 4 [bool (decide ((k:Int)=2))])]) rfl (.inl rfl) rfl (hperm) (zhP zp2 zhn) (S.callClo (F:=[]) (Hc:=Hc) rfl pH (hC q zo _ _ _ _ _ _ _ r2 hclo zo ho hr2) (λe2 i3 op3 h3=>?_) (λl er i3 op3 h3 e' he'=>?_)));rw[hr2,h3,qan] at hI;obtain⟨q1,q2,q3,rfl⟩:=(qcW T q).1 _ _ _ _ (hr2.trans (congrArg some h3));have q4:=q3 zo;refine lO 1 (lH rfl rfl (pG (cs':=[_,_,_,_]) rfl (mem_append_right _ zm0) rfl rfl) ?_);refine lO 4 (lS (H1:=[]) (F:=(srcH sb T i3 op3::([]++Hc))++[(b5,LObj.cells 170 [str (exOp ex),int .u32 (qeE ex),str (qcM ex),.list (qbS ex)]),(b,LObj.cells 170 [str [],int .u32 0,str [],qab]),(bo,LObj.cells 246 [.atom (.func (.func fn) first caps)]),(bs,LObj.cells 58 [ptr sb 0]),(bp,LObj.cells 24 [.list ((qb3 k).map str)]),(bn,LObj.cells 4 [bool (decide ((k:Int)=2))])]) rfl (.inl rfl) rfl zpr (HSub.appR (zhP zp2 zhn)) (sL (es:=[encE ex,encE e2]) [_,_] rfl (eC rfl rfl (eC rfl rfl eN)) rfl rfl rfl ?_))
 refine lO 5 (lH rfl rfl (pB _ (cs:=[_,_,_,_]) rfl) ?_);refine lO 6 (lS (H1:=[(b5,LObj.cells 170 [str (exOp ex),int .u32 (qeE ex),str (qcM ex),.list (qbS ex)])]) (F:=(srcH sb T i3 op3::([]++Hc))++[(b,LObj.cells 170 [str [],int .u32 0,str [],qab]),(bo,LObj.cells 246 [.atom (.func (.func fn) first caps)]),(bs,LObj.cells 58 [ptr sb 0]),(bp,LObj.cells 24 [.list ((qb3 k).map str)]),(bn,LObj.cells 4 [bool (decide ((k:Int)=2))])]) rfl (.inl rfl) rfl qo0 (HSub.appR (zhP zp1 zhn)) (sS (cs':=[_,_,_,_]) rfl pH rfl rfl rfl rfl rfl ?_));refine zQ80 ?_;refine cW (H':=(b5,LObj.cells 170 [str (qiv T i2),int .u32 0,str [],.list [encE ex,encE e2]])::srcH sb T i3 op3::(b,LObj.cells 170 [str [],int .u32 0,str [],qab])::([(bo,LObj.cells 246 [.atom (.func (.func fn) first caps)]),(bs,LObj.cells 58 [ptr sb 0]),(bp,LObj.cells 24 [.list ((qb3 k).map str)]),(bn,LObj.cells 4 [bool (decide ((k:Int)=2))])]++Hc)) (qnl (A:=[(b,LObj.cells 170 [str [],int .u32 0,str [],qab]),(bo,LObj.cells 246 [.atom (.func (.func fn) first caps)]),(bs,LObj.cells 58 [ptr sb 0]),(bp,LObj.cells 24 [.list ((qb3 k).map str)]),(bn,LObj.cells 4 [bool (decide ((k:Int)=2))])])) ?_;refine gac ?_;refine oC rfl (λhk2=>?_) (λhk2=>?_);exact zT34;exact zT27;exact zT6;have hc':qbb T i2 (qb3 k)=false:=hc;rw[zn (by rw[hc'];decide)] at hI;refine gac ?_;exact rR hj (rC (rA rfl zm0 rfl zsr) rN) (zhD (zhP pH (zhD zhr))) (by cases hI;exact⟨rfl,rfl⟩);rw[hr1,h1,qat] at hr;refine gak ?_;refine qad.panic (he'.trans rfl) (H':=srcH sb T i1 op1::(bo,.cells 246 [.atom (.func (.func fn) first caps)])::(bs,.cells 58 [ptr sb 0])::(bp,.cells 24 [.list ((qb3 k).map str)])::(bn,.cells 4 [bool (decide ((k:Int)=2))])::Hc) ?_ (by cases hr;exact⟨rfl,i1,op1,rfl⟩);exact zhP pH ⟨[(b,_)],zPc.trans (by exact List.Perm.refl _ |>.trans (perm_append_singleton _ _).symm)⟩
end
def lvLV(k:Nat):LV:=.list ((qb3 k).map str)
def qha:List LV:=[lvLV 0,lvLV 1,lvLV 2,lvLV 3,lvLV 4,lvLV 5]
section
variable{B0:Nat}{w0:World}
theorem qof:LCalls (KC B0 w0) 231 [] [] (Ret (.list qha)):=by
 refine cJ Tryz.func231 (n:=8) ?_;refine gag ?_;refine oS (sL (es:=[str [124,124]]) [_] rfl (eC rfl rfl eN) rfl rfl rfl<|oS (sL (es:=[str [38,38]]) [_] rfl (eC rfl rfl eN) rfl rfl rfl ?_) rfl) rfl;refine oS (sL (es:=[str [61,61],str [33,61],str [60],str [62],str [60,61],str [62,61]]) [_,_,_,_,_,_] rfl (eC rfl rfl (eC rfl rfl (eC rfl rfl (eC rfl rfl (eC rfl rfl (eC rfl rfl eN)))))) rfl rfl rfl<|oS (sL (es:=[str [94]]) [_] rfl (eC rfl rfl eN) rfl rfl rfl ?_) rfl) rfl;refine oS (sL (es:=[str [43],str [45]]) [_,_] rfl (eC rfl rfl (eC rfl rfl eN)) rfl rfl rfl<|oS (sL (es:=[str [42],str [47],str [37]]) [_,_,_] rfl (eC rfl rfl (eC rfl rfl (eC rfl rfl eN))) rfl rfl rfl ?_) rfl) rfl;refine oS (sL (es:=qha) [_,_,_,_,_,_] rfl (eC rfl rfl (eC rfl rfl (eC rfl rfl (eC rfl rfl (eC rfl rfl (eC rfl rfl eN)))))) rfl rfl rfl ?_) rfl;refine gad ?_;exact qak rfl (rC (rT (v:=.list _) rfl zsr) rN) rfl
theorem qgA(sb:Nat)(ops:List LV)(once:Bool)(fn:FuncId)(first caps:Array Value):LCalls (KC B0 w0) 232 [ptr sb 0,.list ops,bool once,.atom (.func (.func fn) first caps)] []
  (λr H=>∃ bo bs bp bn:Nat,r=.ret (.atom (.func (.func 244) #[] #[.pointer (some ⟨bo,0,none⟩),.pointer (some ⟨bs,0,none⟩),.pointer (some ⟨bp,0,none⟩),.pointer (some ⟨bn,0,none⟩)])) /\
   H=[(bo,.cells 246 [.atom (.func (.func fn) first caps)]),(bs,.cells 58 [ptr sb 0]),(bp,.cells 24 [.list ops]),(bn,.cells 4 [bool once])]):=by
 refine cJ Tryz.func232 (n:=10) ?_;refine gai ?_;refine oS (sB rfl λbs=>oS (sB rfl λbp=>?_) rfl) rfl;refine oS (sB rfl λbn=>oS (sB rfl λbo=>?_) rfl) rfl;refine gac ?_;exact rR rfl (zra rfl) (zhP pH (zhP zp2 (zhP zp1 zhp))) ⟨bo,bs,bp,bn,rfl,rfl⟩
theorem qlu(es:List LV):LCalls (KC B0 w0) 230 [.list es] [] (λr H=>∃ b:Nat,r=.ret (.atom (.func (.func 243) #[] #[.pointer (some ⟨b,0,none⟩)]))/\H=[(b,.cells 190 [.list es])]):=by
 refine cJ Tryz.func230 (n:=4) ?_;refine gai ?_;refine oS (sB rfl λb=>?_) rfl;refine gac ?_;exact rR rfl (zra rfl) zhr ⟨b,rfl,rfl⟩
def qmj(ls:List (List (List UInt8)))(q:Nat):List LV:=[int .i64 ((ls.length:Int)-1-q),.list (((ls[ls.length-1-q]?).getD []).map str)]
theorem qsi(b:Nat)(ls:List (List (List UInt8)))(hl:ls.length<=100000):qwV (KC B0 w0) 243 [ptr b 0] [(b,.cells 190 [.list (ls.map λl=>.list (l.map str))])] ls.length (qmj ls):=by
 intro l J hY H0 h0;have hml:(ls.map λl=>LV.list (l.map str)).length=ls.length:=zLm _;refine cJ Tryz.func243 (n:=19) ?_;refine qah.perm (H':=(b,.cells 190 [.list (ls.map λl=>.list (l.map str))])::H0) (perm_append_singleton _ _) ?_;refine gac ?_
 refine oL (λk lsl H=>∃ (q:Nat) (Hq:Heap),q<=ls.length/\k=ls.length-q/\lsl=[(0,.atom (.func (.yield l) #[] #[])),(1,ptr b 0),(3,int .i64 ((ls.length:Int)-1-q))]/\H=(b,.cells 190 [.list (ls.map λl=>.list (l.map str))])::Hq/\J q Hq)
  ⟨_,_,_,⟨0,H0,zero_le _,rfl,rfl,rfl,h0⟩,⟨rfl,rfl,qao (by simp),trivial⟩,zhR _⟩ ?_
 rintro k lsl H ⟨q,Hq,hq,rfl,rfl,rfl,hJ⟩ j hj;refine gac ?_;refine oC rfl (λhc=>?_) (λhc=>?_);have hlt:q<ls.length:=by have:=zt hc;omega
 have hix:((ls.length:Int)-1-q).toNat=ls.length-1-q:=by omega
 have hlt2:ls.length-1-q<ls.length:=by omega
 have hel:(ls.map λl=>LV.list (l.map str))[((ls.length:Int)-1-q).toNat]? = some (.list (((ls[ls.length-1-q]?).getD []).map str)):=by
  rw[hix,List.getElem?_map,zRl hlt2];rfl
 refine gab ?_;refine qah.regionW ?_;refine gad ?_;refine qfo.pure (xR (cs:=[_]) rfl rfl zo hel rfl rfl) rfl ?_;refine gad ?_;refine qfo.yield (H:=(b,.cells 190 [.list (ls.map λl=>.list (l.map str))])::Hq) (args:=[_,_]) rfl rfl (qfv.frame (H:=Hq) (F:=[(b,.cells 190 [.list (ls.map λl=>.list (l.map str))])]) (perm_append_singleton _ _).symm (K:=λH'=>∃ H1,H'=H1++[(b,.cells 190 [.list (ls.map λl=>.list (l.map str))])]/\J (q+1) H1) (qfv.mono (hY q Hq hlt hJ) λH' h=>⟨H',rfl,h⟩)) rfl ?_;rintro H' ⟨H1,rfl,hJ1⟩;refine gad ?_;refine qfo.nil ?_;refine qN ?_;refine cW (H':=(b,.cells 190 [.list (ls.map λl=>.list (l.map str))])::H1) ⟨[],by rw[zLz];exact perm_append_singleton _ _⟩ ?_;refine oC rfl (λhcc=>?_) (λhcc=>?_);cases hcc;refine gac ?_;exact⟨_,_,_,by omega,⟨q+1,H1,hlt,rfl,rfl,rfl,hJ1⟩,⟨rfl,rfl,qao zo,trivial⟩,zhR _,hj⟩;have hge:q=ls.length:=by have:=zf hc;omega
 subst hge;refine gab ?_;exact rO hj rN ⟨[],by rw[zLz];exact(perm_append_singleton _ _).symm⟩ ⟨⟨_,rfl⟩,Hq,rfl,hJ⟩
end
end Go.Proofs.YtegmklafpoldgaaGreatDoor
namespace Go.Proofs.YtegmklafpoldgaaGreatDoor
open Go.GL Go.RowKit Go.Stele
def BH(b:Nat)(l:List UInt8)(H:Heap):Prop:=∃ p v Hv,(p=LV.atom (.pointer none)∨p=ptr b 0)/\BRow 5 v l Hv/\H=(b,.cells 134 [p,.atom v])::Hv
theorem qq7:Lays.n240 Tryz.prog Tryz.lays156_ren:={ Tryz.lays156 with }
section
variable{B0:Nat}{w0:World}
theorem qgo(b:Nat)(p v:LV)(hp:p=LV.atom (.pointer none)∨p=ptr b 0):LCalls (KC B0 w0) 128 [ptr b 0] [(b,.cells 134 [p,v])]
  (λr H'=>(∃ x,r=.ret (.atom x))/\H'=[(b,.cells 134 [ptr b 0,v])]):=λxs w L hv hH=>by
 simp only[RepL] at hv;obtain⟨y,ys,rfl,hy,rfl⟩:=hv;simp only[Rep] at hy;subst hy;obtain⟨hb0,hbs,hl,zs,hx1,hx2⟩:=hH.objs _ (zRb rfl);simp only at hb0 hbs hl hx1 hx2;have hz:=hx2;simp only[RepL] at hz;obtain⟨a,as1,rfl,ha,c,as2,rfl,hc,rfl⟩:=hz;rcases hp with rfl|rfl;simp only[Rep] at ha;subst ha;have h0:w.cell? ⟨b,0,none⟩=some (.pointer none):=by simp[World.cell?,hx1]
 have hsh:w.shape? b=some (134,2):=by simp[World.shape?,hx1]
 have hfz:w.frozen? ⟨b,0,none⟩=false:=Go.Lib.frozen_of_heap hx1 0;refine(Any.Builder_copyCheck_fresh (P:=Tryz.prog) qq7 Tryz.Builder_Extra_156.toX72 b w h0 hsh hfz).mono λe w' he=>?_;obtain⟨rfl,rfl⟩:=he;refine qeQ (w:=w) (w':=w.setCell ⟨b,0,none⟩ (.pointer (some ⟨b,0,none⟩))) (xs':=[.pointer (some ⟨b,0,none⟩),c]) (cs':=[ptr b 0,v]) (lv:=.atom (.tuple #[])) hH rfl rfl rfl (by simp[World.setCell]) (λd hd=>by simp[World.setCell,Array.getElem?_modify,Ne.symm hd]) (by rw[qiu (xs:=[.pointer none,c]) hx1];rfl) rfl ?_ qai ⟨⟨_,rfl⟩,rfl⟩;simp only[RepL] at hx2 ⊢;exact⟨_,_,rfl,qai,c,[],rfl,hc,rfl⟩;simp only[Rep] at ha;subst ha;have h0:w.cell? ⟨b,0,none⟩=some (.pointer (some ⟨b,0,none⟩)):=by simp[World.cell?,hx1]
 refine(Any.Builder_copyCheck_used (P:=Tryz.prog) qq7 Tryz.Builder_Extra_156.toX72 b w h0).mono λe w' he=>?_;obtain⟨rfl,rfl⟩:=he;exact⟨.atom (.tuple #[]),_,L,Fr.refl _ _ _,hH,qai,⟨_,rfl⟩,rfl⟩
attribute [local irreducible] LOps qah qae LCalls Go.GL.Pure qaw qam qad LQ LAny qay qal
theorem qiP(b:Nat)(l m:List UInt8)(H:Heap)(hB:BH b l H)(hlen:l.length+m.length<=10000000000):LCalls (KC B0 w0) 57 [ptr b 0,str m] H (λr H'=>(∃ x,r=.ret x)/\BH b (l++m) H'):=by
 obtain⟨p,v,Hv,hp,hacc,rfl⟩:=hB;refine cJ Tryz.func57 (n:=19) ?_;refine gag ?_;refine oS (S.callH (H1:=[(b,_)]) (F:=Hv) [_] rfl zpr (qgo b p (.atom v) hp) (λx H' h=>?_) (λch H' h=>?_)) rfl;obtain⟨⟨x',hx'⟩,rfl⟩:=h;cases hx';refine gaa ?_;refine oS (S.appB1 (q:=(b,.cells 134 [ptr b 0,.atom v])) (l:=l) (m:=m) rfl hacc rfl zo λv' H' hacc'=>?_) rfl;refine gab ?_;have hacc2:=hacc';generalize l++m=lm at hacc' hacc2 ⊢
 cases hacc' with
 |nil=>
  refine gac ?_
  exact rR rfl (rC (zrt rfl) (zra rfl)) zhr ⟨⟨_,rfl⟩,ptr b 0,_,_,.inr rfl,hacc2,rfl⟩
 |row h0 h1 h2=>
  refine gac ?_;exact rR rfl (rC (zrt rfl) (zra rfl)) zhr ⟨⟨_,rfl⟩,ptr b 0,_,_,.inr rfl,hacc2,rfl⟩
 obtain⟨⟨x',hx'⟩,_⟩:=h;cases hx'
end
open Go Go.Shelf Go.RowKit
section
variable{P:Program}{ρ:Ren}
set_option maxHeartbeats 4000000 in
set_option maxRecDepth 100000 in
theorem qgK(L:Lays.n169 P ρ)(X:Builder.Extra P ρ)(b g:Nat)(p:Value)(l:List UInt8)(cur:Array Value)(w:World)(hbk:w.heap[b]? = some (.cells #[p,.slice (some ⟨g,0,none⟩) l.length cur.size] (ρ.t 72) (0,0)))
  (hg:w.heap[g]? = some (.cells cur (ρ.t 5) (0,0))) (h0:l≠[]) (hn:l.length<=cur.size) (hbig:l.length<=9223372036854775807) (hcell:∀ (j:Nat) (x:UInt8),l[j]? = some x->cur[j]? = some (.int .u8 x.toNat)) :
  Calls P (ρ.f 169) #[.pointer (some ⟨b,0,none⟩)] w λe w'=>e=.returned (.string ⟨l.toArray⟩)/\w'=w.drew.freeze ⟨g,0,none⟩ l.length:=by
 have hl0:l.length≠0:=by simpa using h0
 have c1:w.drew.cell? ⟨b,1,none⟩=some (.slice (some ⟨g,0,none⟩) l.length cur.size):=by
  have:w.drew.heap[b]? = some (.cells #[p,.slice (some ⟨g,0,none⟩) l.length cur.size] (ρ.t 72) (0,0)):=hbk;rw[Lib.cell_of_heap this];rfl
 have hSD:(Builtin.unsafeSliceData_ #[(ρ.t 37)] (ρ.t 127) #[.slice (some ⟨g,0,none⟩) l.length cur.size]).run P w.drew=.ok (.pointer (some ⟨g,0,none⟩)) w.drew:=
  Lib.run_unsafeSliceData_row _ _ _ _ _ _ (by omega)
 have hUS:(Builtin.unsafeString_ #[(ρ.t 127),(ρ.t 3)] (ρ.t 9) #[.pointer (some ⟨g,0,none⟩),.int .i64 l.length]).run P w.drew=.ok (.string ⟨l.toArray⟩) (w.drew.freeze ⟨g,0,none⟩ l.length):=by
  refine Lib.run_unsafeString_row w.drew (ρ.t 127) (ρ.t 3) (ρ.t 9) (ρ.t 5) L.t127 X.cellsByte g cur.size (by have hg':w.drew.heap[g]? = some (.cells cur (ρ.t 5) (0,0)):=hg;simp[World.shape?,hg']) l h0 hn hbig ?_;intro j x hx;have hg':w.drew.heap[g]? = some (.cells cur (ρ.t 5) (0,0)):=hg;have:=hcell j x hx;rw[Go.GL.add_mk];simp[World.cell?,hg',this]
 have mixed:=L.mixed;have t72:=L.t72;have a72:=L.a72;have z72:=L.z72;have v72:=L.v72;have u72:=run_underlying L.t72;have t70:=L.t70;have a70:=L.a70;have z70:=L.z70;have v70:=L.v70;have u70:=run_underlying L.t70;have t37:=L.t37;have a37:=L.a37;have z37:=L.z37;have v37:=L.v37;have u37:=run_underlying L.t37;have t127:=L.t127;have a127:=L.a127;have z127:=L.z127;have v127:=L.v127;have u127:=run_underlying L.t127;have t3:=L.t3;have a3:=L.a3;have z3:=L.z3;have v3:=L.v3;have u3:=run_underlying L.t3;have t9:=L.t9;have a9:=L.a9;have z9:=L.z9;have v9:=L.v9;have u9:=run_underlying L.t9;have t5:=X.t5;have a5:=X.a5;have z5:=X.z5;have v5:=X.v5;have u5:=run_underlying X.t5
 go_enter L.f169,Body.n169_ntmps ρ
 go_wp2
 go_region_o
 all_goals (go_wp2;go_ret;exact⟨rfl,rfl⟩)
end
open Go.GL Go.Stele
variable{C:Ctx}{F H H' X Y Z:Heap}{R:LRes->Heap->Prop}{e:Env}{n:Nat}{rs:List ResultVar}{vs:List LV}
theorem qrC:Lays.n169 Tryz.prog Tryz.lays156_ren:={ Tryz.lays156 with }
section
variable{B0:Nat}{w0:World}
theorem qtA{w:World}{L:Live}(hH:RelH C w L H){g:Nat}(hm:g∈keys H)(hb:C.B0<=g):Fr (keys H) w L (w.drew.freeze ⟨g,0,none⟩ n) L []/\RelH C (w.drew.freeze ⟨g,0,none⟩ n) L []:=by
 have hbl:∀ c,c≠g->(w.drew.freeze ⟨g,0,none⟩ n).heap[c]? = w.heap[c]? := λc hc=>by
  unfold World.freeze;split;rfl;simp only[Array.getElem?_modify];rw[zn (Ne.symm hc)];rfl
 have hsz:(w.drew.freeze ⟨g,0,none⟩ n).heap.size=w.heap.size:=by
  unfold World.freeze;split;rfl
  simp
 have hsh:∀ c,(w.drew.freeze ⟨g,0,none⟩ n).shape? c=w.shape? c:=λc=>by
  by_cases hc:c=g
  subst hc;unfold World.freeze;split;rfl;simp only[World.shape?,Array.getElem?_modify,if_true];show(match Option.map _ w.heap[c]? with|some (Obj.cells c e _)=>some (e,c.size)|_=>none)=_
  cases w.heap[c]? with
  |none=>rfl
  |some o=>cases o <;> rfl
  exact qbM (hbl c hc)
 have hce:∀ c i,(w.drew.freeze ⟨g,0,none⟩ n).cell? ⟨c,i,none⟩=w.cell? ⟨c,i,none⟩:=λc i=>by
  by_cases hc:c=g
  subst hc;unfold World.freeze;split;rfl;simp only[World.cell?,Array.getElem?_modify,if_true];show(match Option.map _ w.heap[c]? with|some (Obj.cells c e _)=>_|_=>none)=_
  cases w.heap[c]? with
  |none=>rfl
  |some o=>cases o <;> rfl
  exact cell_of_heap (hbl c hc) i
 have hos:(w.drew.freeze ⟨g,0,none⟩ n).os=w.os/\(w.drew.freeze ⟨g,0,none⟩ n).tape=w.tape/\(w.drew.freeze ⟨g,0,none⟩ n).output=w.output:=by
  unfold World.freeze;split <;> exact⟨rfl,rfl,rfl⟩
 exact⟨⟨hos.1,hos.2.1,hos.2.2,⟨Nat.le_of_eq hsz.symm,λc _=>hsh c,λc i _=>hce c i,λ_=>zNr _⟩,λc _ hc=>hbl c (λh=>hc (h▸hm)),λ_ _ _=>rfl,by simp⟩,
  ⟨hH.base.trans ⟨hos.1,hos.2.1,hos.2.2,Nat.le_of_eq hsz.symm,λc hc=>hbl c zo⟩,hH.lbase,by rw[hsz];exact hH.b0,λc hc=>hH.wf c (by rw[hsz] at hc;exact hc),List.nodup_nil,by simp⟩⟩
theorem qn4(b:Nat)(l:List UInt8)(H:Heap)(hB:BH b l H)(hlen:l.length<=10000000000):LCalls (KC B0 w0) 58 [ptr b 0] H (Ret (str l)):=λxs w L hv hH=>by
 obtain⟨p,v,Hv,hp,hacc,rfl⟩:=hB;simp only[RepL] at hv;obtain⟨y,ys,rfl,hy,rfl⟩:=hv;simp only[Rep] at hy;subst hy;obtain⟨hb0,hbs,hl,zs,hx1,hx2⟩:=hH.objs _ zMs;simp only at hb0 hbs hl hx1 hx2;simp only[RepL] at hx2;obtain⟨a,as1,rfl,ha,c,as2,rfl,hc,rfl⟩:=hx2;simp only[Rep] at hc;subst hc
 cases hacc with
 |nil=>
  refine(Any.Builder_String_nil (P:=Tryz.prog) qrC Tryz.Builder_Extra_156 w.heap.size b a w hx1).mono λe w' he=>?_;obtain⟨rfl,hb⟩:=he;obtain⟨h1,h2⟩:=qiQ (hH.sub (List.nil_sublist _)) hb
  exact⟨str [],[],L,h1.wide (by simp),h2,qai,rfl,rfl⟩
 |row h0 h1 h2=>
  rename_i g xs
  obtain⟨hg0,hgs,hgl,ws,hw1,hw2⟩:=hH.objs _ (zMo _ (zRb rfl));simp only at hg0 hgs hgl hw1;have:=qcn hw2;subst this
  have hcell:∀ (j:Nat) (x:UInt8),l[j]? = some x->ws.toArray[j]? = some (Value.int .u8 x.toNat):=λj x hx=>by
   have hj:(bytV l)[j]? = some (Value.int .u8 x.toNat):=by simp[bytV,hx]
   rw[<-h2,List.getElem?_take] at hj;split at hj;simpa using hj;cases hj
  refine(qgK (P:=Tryz.prog) qrC Tryz.Builder_Extra_156 b g a l ws.toArray w hx1 hw1 h0 (by simpa using h1) zo hcell).mono λe w' he=>?_;obtain⟨rfl,rfl⟩:=he;obtain⟨f1,f2⟩:=qtA (n:=l.length) hH (g:=g) (by simp) hg0;exact⟨str l,[],L,f1,f2,qai,rfl,rfl⟩
end
attribute [local irreducible] LOps qah qae LCalls Go.GL.Pure qaw qam qad LQ LAny qay qal qds qfo qdi qwV qfv
def lvs:List (List (List UInt8)):=[qb3 0,qb3 1,qb3 2,qb3 3,qb3 4,qb3 5]
theorem qvo(q:Nat)(h:q<6):qmj lvs q=[int .i64 (((5-q:Nat):Int)),.list ((qb3 (5-q)).map str)]:=by
 have:q=0∨q=1∨q=2∨q=3∨q=4∨q=5:=by omega
 rcases this with rfl|rfl|rfl|rfl|rfl|rfl <;> rfl
theorem qdi.mkRet{D:Nat}(hd:e.ds=[{ target:=.collected D,args:=#[] }])(F:Heap)(hp:H.Perm ((D,.obj (.deferred (some [])))::F))(h:qbQ C n e F rs vs)(hH:HSub H' F)(hR:R (.ret (qbE vs)) H') :
  qdi C n rs R .ret e H:=by
 unfold qdi;exact⟨D,F,hd,hp,vs,H',h,hH,hR⟩
theorem qdi.mkPanic{ch:List PanicEntry}{D:Nat}(hd:e.ds=[{ target:=.collected D,args:=#[] }])(F:Heap)(hp:H.Perm ((D,.obj (.deferred (some [])))::F))(hH:HSub H' F)(hR:R (.panic ch) H') :
  qdi C n rs R (.panic ch) e H:=by
 unfold qdi;exact .inr ⟨D,F,hd,hp,H',hH,hR⟩
section
variable{B0:Nat}{w0:World}
theorem qd8(sb:Nat)(T:List Tok)(f:Nat)(hC:CloC B0 w0 sb T f):qlT B0 w0 sb T f:=by
 intro i op r hi ho hr;refine LCalls.introM Tryz.func204 rfl (n:=20) rfl rfl rfl ?_;refine gai ?_;refine oS (sB rfl λb1=>oS (sA λb2=>?_) rfl) rfl;refine gac ?_;refine oS (sA λb3=>?_) rfl;refine gac ?_;refine oS (sF [] rfl qof<|oS (S.call0 [_] rfl (qlu qha) (λv H' h=>?_) (λch H' h=>?_)) rfl) rfl
 ·obtain⟨bB,h,rfl⟩:=h;cases h;refine gab ?_;have hexit:∀ (first caps:Array Value) (fn:FuncId) (Hclo F:Heap),Clo sb 0 fn first caps Hclo->TEnter Tryz.prog fn:=λ_ _ _ _ _ h=>h.enter
  refine qah.rangeFunc (g:=.tmp 9) (ps:=[10,11]) (caps:=#[.pointer (some ⟨bB,0,none⟩)]) (by rfl) lvs.length (qmj lvs)
   [(b3,.cells 246 [.atom (.func (.func 229) #[.pointer (some ⟨sb,0,none⟩)] #[])]),(b2,.cells 170 [str [],int .u32 0,str [],qab]),(b1,.cells 58 [ptr sb 0]),srcH sb T i op] [(bB,.cells 190 [.list qha])]
   (perm_append_singleton _ _).symm (qsi bB lvs zDd) (λk hk=>by rw[qvo k hk];rfl) (by rfl)
   (λq Hq=>∃ (fn:FuncId) (first caps:Array Value) (Hclo:Heap),Clo sb (6-q) fn first caps Hclo/\Hq=(b3,.cells 246 [.atom (.func (.func fn) first caps)])::(b2,.cells 170 [str [],int .u32 0,str [],qab])::(b1,.cells 58 [ptr sb 0])::srcH sb T i op::Hclo)
   ⟨_,_,_,[],.un,rfl⟩ ?_ ?_
  rintro q Hq hq ⟨fn,first,caps,Hclo,hclo,rfl⟩ j hjd hja l D o oD;have hq6:q<6:=hq;have hj1:j.s 1=ptr b1 0:=hja 1 _ rfl;have hj3:j.s 3=ptr b3 0:=hja 3 _ rfl
  rw[qvo q hq6,<-Env.slots_self (e:=j) (l:=[(1,ptr b1 0),(3,ptr b3 0)]) (by
   intro p hp;simp only[zMi,not_mem_nil,or_false] at hp;rcases hp with rfl|rfl;exact hj1
   exact hj3)]
  refine qds.seq ?_;refine qds.region rfl ?_;refine gaf ?_;refine qds.region rfl ?_;refine gad ?_;refine⟨hjd,_,rfl,λo'=>?_⟩;refine qds.block ?_;refine qds.region rfl ?_;refine gad ?_;refine oS (S.call0 [_,_,_,_] rfl (qgA sb ((qb3 (5-q)).map str) (decide (((5-q:Nat):Int)=2)) fn first caps) (λv H' h=>?_) (λch H' h=>?_)) rfl;obtain⟨bo,bs,bp,bn,h,rfl⟩:=h;cases h;refine gad ?_
  refine⟨(b3,.cells 246 [.atom (.func (.func 244) #[] #[.pointer (some ⟨bo,0,none⟩),.pointer (some ⟨bs,0,none⟩),.pointer (some ⟨bp,0,none⟩),.pointer (some ⟨bn,0,none⟩)])])::(b2,.cells 170 [str [],int .u32 0,str [],qab])::(b1,.cells 58 [ptr sb 0])::srcH sb T i op ::
   (bo,.cells 246 [.atom (.func (.func fn) first caps)])::(bs,.cells 58 [ptr sb 0])::(bp,.cells 24 [.list ((qb3 (5-q)).map str)])::(bn,.cells 4 [bool (decide (((5-q:Nat):Int)=2))])::Hclo,?_,_,_,_,_,?_,rfl⟩
  exact zhP zp5 (zhP zp5 (zhP pH (zhP zp4 (zhP zp4 (zhP zp4 zhr)))));have e1:6-(q+1)=5-q:=by omega
  have e2:6-q=5-q+1:=by omega
  rw[e1];rw[e2] at hclo;exact .bin hclo;obtain⟨_,_,_,_,h,_⟩:=h;cases h;rintro D H' ⟨fn,first,caps,Hclo,hclo,rfl⟩;have hclo0:Clo sb 0 fn first caps Hclo:=hclo
  have hen:=hexit _ _ _ _ [] hclo0;refine gab ?_;refine cW (H':=(D,.obj (.deferred (some [])))::(b3,.cells 246 [.atom (.func (.func fn) first caps)])::(b2,.cells 170 [str [],int .u32 0,str [],qab])::(b1,.cells 58 [ptr sb 0])::srcH sb T i op::Hclo) ⟨[(bB,.cells 190 [.list qha])],List.Perm.refl _⟩ ?_;refine gac ?_;refine oS (S.callClo (F:=[(D,.obj (.deferred (some []))),(b3,.cells 246 [.atom (.func (.func fn) first caps)]),(b2,.cells 170 [str [],int .u32 0,str [],qab]),(b1,.cells 58 [ptr sb 0])]) (Hc:=Hclo) rfl zp4 (hC _ _ _ _ _ _ _ r hclo0 hi ho hr) (λv i1 op1 h1=>?_) (λl er i1 op1 h1 e' he'=>?_)) rfl;refine gad ?_;exact qdi.mkRet rfl _ zp2 (rC (rA rfl zm0 rfl zsr) rN) (zhP zp1 zhn) (by rw[h1];exact⟨rfl,rfl⟩);refine gak ?_;refine qdi.mkPanic (he'.trans rfl) (srcH sb T i1 op1::(Hclo++[(b3,.cells 246 [.atom (.func (.func fn) first caps)]),(b2,.cells 170 [str [],int .u32 0,str [],qab]),(b1,.cells 58 [ptr sb 0])])) ?_ zhp (by rw[h1];exact⟨rfl,i1,op1,rfl⟩);exact(zRq _ perm_middle).trans (zRr _ _ _)
 obtain⟨bB,h,_⟩:=h;cases h
theorem qlA(hG:GW B0 w0)(sb:Nat)(T:List Tok)(hT:TOK T):∀ f:Nat,CloC B0 w0 sb T f/\qlT B0 w0 sb T f:=by
 intro f
 induction f using Nat.strongRecOn with
 |_ f ih=>
  have hC:CloC B0 w0 sb T f:=by
   intro k fn first caps Hc i op r hclo hi ho hr
   cases hclo with
   |un=>
    obtain⟨f,rfl⟩:∃ g,f=g+1:=by
     cases f with
     |zero=>rw[eLev] at hr;cases hr
     |succ g=>exact⟨g,rfl⟩
    rw[eLev,zp rfl] at hr;refine LCalls.mono (qqn hG sb T hT f (λg hg=>(ih g zo).2) i op r hi ho hr) ?_;intro r' H h
    cases r with
    |ok v i' op'=>exact h
    |err l e=>exact h
   |bin h=>exact qu7 hG sb T hT f (λg hg=>(ih g hg).1) _ _ _ _ _ _ _ _ _ h i op r hi ho hr
  exact⟨hC,qd8 sb T f hC⟩
end
def qxe(l:List Sm):LV:=.list (l.map encS)
section
variable{B0:Nat}{w0:World}
def qq3(B0:Nat)(w0:World)(sb:Nat)(T:List Tok)(f:Nat):Prop:=
 ∀ i op r,i<=T.length->op<=100->qfT T f i op=some r->LCalls (KC B0 w0) 205 [ptr sb 0] [srcH sb T i op] (qdv sb T qxe r)
def qsI(B0:Nat)(w0:World)(sb:Nat)(T:List Tok)(f:Nat):Prop:=
 ∀ i op r,i<=T.length->op<=100->qeO T f [] i op=some r->LCalls (KC B0 w0) 123 [ptr sb 0] [srcH sb T i op] (qdv sb T qxe r)
def qvD(B0:Nat)(w0:World)(sb:Nat)(T:List Tok)(f:Nat):Prop:=
 ∀ i op r,i<=T.length->op<=100->qlV T f i op=some r->LCalls (KC B0 w0) 167 [ptr sb 0] [srcH sb T i op] (qdv sb T encS r)
def qnR(B0:Nat)(w0:World)(sb:Nat)(T:List Tok)(f:Nat):Prop:=
 ∀ i op r,i<=T.length->op<=100->qeY T f i op=some r->LCalls (KC B0 w0) 206 [ptr sb 0] [srcH sb T i op] (qdv sb T encS r)
theorem qc9(sb:Nat)(T:List Tok)(hT:TOK T)(f:Nat)(hS:qsI B0 w0 sb T f):qq3 B0 w0 sb T (f+1):=by
 intro i op r hi ho hr;have hl:=hT.len;rw[qfT] at hr;refine cJ Tryz.func205 (n:=11) ?_;refine gag ?_;refine oS (sP [_,_] rfl pH (qcp sb T i op [123] hl zo zo) (λv i1 op1 h1=>?_) (λl er i1 op1 h1 e9 he9=>?_)) rfl;rotate_left;exact zT32;rw[h1,qan] at hr;obtain⟨rfl,rfl,ho1,hi1⟩:=qbC h1;refine gag ?_;obtain⟨r1,hr1⟩:=qaR hr;refine oS (sP [_] rfl pH (hS _ _ r1 zo zo hr1) (λl i2 op2 h2=>?_) (λl er i2 op2 h2 e9 he9=>?_)) rfl;rotate_left;rw[hr1,h2,qat] at hr;refine gae ?_;exact panP zb0 (by cases hr;rfl) zhp;rw[hr1,h2,qan] at hr;obtain⟨g1,_,g3,rfl⟩:=(qe6 T f).2.1 _ _ _ _ (hr1.trans (congrArg some h2));have g4:=g3 zo;refine gac ?_;refine oS (sP [_,_] rfl pH (qfg sb T i2 (op+1) [125] hl zo zo zo) (λu i3 op3 h3=>?_) (λl er i3 op3 h3 e9 he9=>?_)) rfl;rotate_left;exact zT33;rw[h3,qan] at hr;refine gac ?_;exact retP (v:=l) rfl (rC (rT (v:=.list _) rfl zsr) rN) (by cases hr;rfl) rfl zhr
theorem qeB(sb:Nat)(T:List Tok)(hT:TOK T)(f:Nat)(hS:∀ g,g<f->qvD B0 w0 sb T g):qsI B0 w0 sb T f:=by
 intro i op r hi ho hr;have hl:=hT.len;refine cJ Tryz.func123 (n:=14) ?_;refine gaa ?_
 refine oL (λk ls H=>∃ (v:LV) (l:List Sm) (i2:Nat) (Ha:Heap),k<=f/\ls=[(0,ptr sb 0),(3,v)]/\H=srcH sb T i2 op::Ha/\Acc 6 v (l.map encS) Ha []/\i2<=T.length/\l.length<=i2+1/\qeO T k l i2 op=some r)
  ⟨f,_,srcH sb T i op::[],⟨qab,[],i,_,zNr _,rfl,rfl,Acc.nil,by omega,by simp,hr⟩,⟨rfl,rfl,trivial⟩,zhR _⟩ ?_
 rintro k ls H ⟨v,l,i2,Ha,hkf,rfl,rfl,hacc,hi2,hll,hI⟩ j hj
 obtain⟨k,rfl⟩:∃ k',k=k'+1:=by
  cases k with
  |zero=>rw[qeO] at hI;cases hI
  |succ k=>exact⟨k,rfl⟩
 rw[qeO] at hI;refine gah ?_;refine zQ2 ?_;refine oS (sH [_,_] rfl pH (qck sb T i2 op [[125]] hl zo (by simp)) ?_) rfl;refine gad ?_;refine oC rfl (λhc=>?_) (λhc=>?_)
 ·have hc':qbb T i2 [[125]]=false:=by simpa using hc
  rw[zn (by rw[hc'];decide)] at hI;refine gal ?_;refine zQ79 ?_;obtain⟨r2,hr2⟩:=qaR hI;refine oS (sP [_] rfl pH (hS k zo _ _ r2 zo zo hr2) (λe2 i4 op4 h4=>?_) (λl er i4 op4 h4 e9 he9=>?_)) rfl;rotate_left;rw[hr2,h4,qat] at hI;refine gae ?_;exact panP zb0 (by cases hI;rfl) zhp;rw[hr2,h4,qan] at hI;obtain⟨g1,g2,g3,rfl⟩:=(qe6 T k).2.2.1 _ _ _ (hr2.trans (congrArg some h4));have g5:=g3 zo;have g6:=g2 rfl;refine zQ2 ?_;refine oS (S.acc1 rfl hacc rfl (by simp;rfl) rfl (by simp;omega) λv' H' hacc'=>?_) rfl;refine zQ30 ?_;refine gab ?_;exact⟨k,_,_,by omega,⟨v',l++[e2],i4,H',by omega,rfl,rfl,by rw[zMa];exact hacc',by omega,by simp;omega,hI⟩,⟨rfl,rfl,trivial⟩,zhR _,hj⟩
 have hc':qbb T i2 [[125]]=true:=by simpa using hc
 rw[zp hc'] at hI;refine gaa ?_;refine zQ41 ?_;exact retP (v:=l) hj (rC (rT (v:=v) rfl hacc.sub) rN) (by cases hI;rfl) rfl zhp
end
section
variable{B0:Nat}{w0:World}
theorem qwr(s:List UInt8)(l:List Ex):encS (.mk 6 [] [] [.mk qch 0 s l] [] [])=.agg [int .i64 6,str [],.list [],.list [.agg [str qch,int .u32 0,str s,.list (l.map encE)]],.list [],.list []]:=by
 rw[qca,zMc,qcH];rfl
theorem qnH(sb:Nat)(T:List Tok)(hT:TOK T)(f:Nat)(hE:∀ g,g<=f->qlT B0 w0 sb T g):qnR B0 w0 sb T (f+1):=by
 intro i op r hi ho hr;have hl:=hT.len;obtain⟨gL,_,_,_,gI,gA,_⟩:=qcW T f;rw[qeY] at hr;refine cJ Tryz.func206 (n:=46) ?_;refine gai ?_;refine oS (sA λb2=>?_) rfl;refine gaa ?_;refine oS (sH [_,_] rfl zp1 (qcx sb T i op qpn hl zo) ?_) rfl;refine gaf ?_;refine oC rfl (λhc=>?_) (λhc=>?_)
 ·have hlt:=qaS hc;rw[zp hc] at hr;simp only[hc,if_true];refine gah ?_;obtain⟨r1,hr1⟩:=qaR hr;refine oS (sP [_] rfl pH (hE f zo _ _ r1 zo zo hr1) (λv i1 op1 h1=>?_) (λl er i1 op1 h1 e9 he9=>?_)) rfl;rotate_left;exact zT28;rw[hr1,h1,qan] at hr;refine zQ2 ?_;refine gad ?_;exact retP (v:=.mk 5 [] [] [v] [] []) rfl (rC (rA (k:=6) rfl zm0 rfl (vA (bs:=[_,_,.list [],_,.list [],.list []]) ⟨vR _,vR _,vN,vR _,vN,vN,trivial⟩)) rN) (by cases hr;rfl) (by rw[qca];rfl) (zhP zp1 zhn)
 rw[zn (by rw[hc];decide)] at hr;simp only[hc,zRn,if_false];refine gah ?_;refine oS (sH [_,_] rfl pH (qcx sb T i op qvt hl zo) ?_) rfl;refine gaf ?_;refine oC rfl (λhc2=>?_) (λhc2=>?_);have hlt:=qaS hc2;rw[zp hc2] at hr;simp only[hc2,if_true];refine gac ?_;exact retP (v:=.mk 7 [] [] [] [] []) rfl (rC (rA (k:=6) rfl zm0 rfl (vA (bs:=[_,_,.list [],.list [],.list [],.list []]) ⟨vR _,vR _,vN,vN,vN,vN,trivial⟩)) rN) (by cases hr;rfl) (by rw[qca];rfl) (zhP zp1 zhn);rw[zn (by rw[hc2];decide)] at hr;simp only[hc2,zRn,if_false];refine gaa ?_;refine oS (sP [_,_] rfl pH (qaO sb T i op 2 hl zo) (λs i1 op1 h1=>?_) (λl er i1 op1 h1 e9 he9=>?_)) rfl;rotate_left;exact zT32;rw[h1,qan] at hr;obtain⟨rfl,rfl,t,ht,_,_⟩:=qdP h1;have:=qjN ht;refine gac ?_;refine oS (sA λb4=>?_) rfl;refine gac ?_;refine zQ2 ?_;refine oS (sH [_,_] rfl zp1 (qck sb T (i+1) op1 [[40]] hl zo (by simp)) ?_) rfl;refine gaf ?_;refine oC rfl (λhc3=>?_) (λhc3=>?_)
 ·rw[zp hc3] at hr;refine gah ?_;obtain⟨r1,hr1⟩:=qaR hr;refine oS (sP [_] rfl pH (qmF sb T hT f (λg hg=>hE g zo) (i+1) op1 r1 zo zo hr1) (λl i2 op2 h2=>?_) (λl er i2 op2 h2 e9 he9=>?_)) rfl;rotate_left;rw[hr1,h2,qat] at hr;refine gae ?_;exact panP zb0 (by cases hr;rfl) zhp;rw[hr1,h2,qan] at hr;refine gad ?_;refine zQ2 ?_;refine gad ?_;exact retP (v:=.mk 6 [] [] [.mk qch 0 s l] [] []) rfl (rC (rA (k:=6) rfl zm0 rfl (vA (bs:=[_,_,.list [],_,.list [],.list []]) ⟨vR _,vR _,vN,vR _,vN,vN,trivial⟩)) rN) (by cases hr;rfl) (by rw[qwr];rfl) (zhP zp1 zhn)
 rw[zn (by rw[hc3];decide)] at hr;refine gah ?_;refine zQ2 ?_;refine oS (sH [_,_] rfl pH (qck sb T (i+1) op1 [[91]] hl zo (by simp)) ?_) rfl;refine gaf ?_;refine oC rfl (λhc4=>?_) (λhc4=>?_)
 ·rw[zp hc4] at hr;refine gah ?_;obtain⟨r1,hr1⟩:=qaR hr;refine oS (sP [_] rfl pH (qjj sb T hT f (λg hg=>hE g zo) (i+1) op1 r1 zo zo hr1) (λx i2 op2 h2=>?_) (λl er i2 op2 h2 e9 he9=>?_)) rfl;rotate_left;rw[hr1,h2,qat] at hr;refine gae ?_;exact panP zb0 (by cases hr;rfl) zhp;rw[hr1,h2,qan] at hr;obtain⟨q1,q2,q3,rfl⟩:=gI _ _ _ (hr1.trans (congrArg some h2));have q4:=q3 zo;refine zQ2 ?_;refine gac ?_;refine oS (sP [_,_] rfl zp1 (qdY sb T i2 op2 [61] hl zo) (λu i3 op3 h3=>?_) (λl er i3 op3 h3 e9 he9=>?_)) rfl;rotate_left;exact zT33;rw[h3,qan] at hr;have hg3:=qbq T [61] i2 op2;rw[h3] at hg3;obtain⟨k1,k2,k3,rfl⟩:=hg3;have k4:=k3 q4;refine gag ?_;obtain⟨r2,hr2⟩:=qaR hr;refine oS (sP [_] rfl pH (hE f zo _ _ r2 zo zo hr2) (λv i4 op4 h4=>?_) (λl er i4 op4 h4 e9 he9=>?_)) rfl;rotate_left;rw[hr2,h4,qat] at hr;refine gae ?_;exact panP zb0 (by cases hr;rfl) zhp;rw[hr2,h4,qan] at hr;refine zQ2 ?_;refine gac ?_;exact retP (v:=.mk 2 s [x] [v] [] []) rfl (rC (rA (k:=6) rfl zm0 rfl (vA (bs:=[_,_,_,_,.list [],.list []]) ⟨vR _,vR _,vR _,vR _,vN,vN,trivial⟩)) rN) (by cases hr;rfl) (by rw[qca];rfl) (zhP zp2 zhn)
 rw[zn (by rw[hc4];decide)] at hr;refine gaa ?_;refine oS (sP [_,_] rfl pH (qdY sb T (i+1) op1 [61] hl zo) (λu i3 op3 h3=>?_) (λl er i3 op3 h3 e9 he9=>?_)) rfl;rotate_left;exact zT33;rw[h3,qan] at hr;have hg3:=qbq T [61] (i+1) op1;rw[h3] at hg3;obtain⟨k1,k2,k3,rfl⟩:=hg3;have k4:=k3 zo;refine gag ?_;obtain⟨r2,hr2⟩:=qaR hr;refine oS (sP [_] rfl pH (hE f zo _ _ r2 zo zo hr2) (λv i4 op4 h4=>?_) (λl er i4 op4 h4 e9 he9=>?_)) rfl;rotate_left;rw[hr2,h4,qat] at hr;refine gae ?_;exact panP zb0 (by cases hr;rfl) zhp;rw[hr2,h4,qan] at hr;refine zQ2 ?_;refine gac ?_;exact retP (v:=.mk 1 s [] [v] [] []) rfl (rC (rA (k:=6) rfl zm0 rfl (vA (bs:=[_,_,.list [],_,.list [],.list []]) ⟨vR _,vR _,vN,vR _,vN,vN,trivial⟩)) rN) (by cases hr;rfl) (by rw[qca];rfl) (zhP zp2 zhn)
theorem qhy(sb:Nat)(T:List Tok)(hT:TOK T)(f:Nat)(hE:∀ g,g<=f->qlT B0 w0 sb T g)(hB:qq3 B0 w0 sb T f)(hM:qnR B0 w0 sb T f):qvD B0 w0 sb T (f+1):=by
 intro i op r hi ho hr;have hl:=hT.len;obtain⟨gL,_,_,_,gI,gA,_⟩:=qcW T f;obtain⟨kB,kL,kS,kM⟩:=qe6 T f;rw[qlV] at hr;refine cJ Tryz.func167 (n:=38) ?_;refine gai ?_;refine oS (sA λb2=>?_) rfl;refine gaa ?_;refine oS (sH [_,_] rfl zp1 (qcx sb T i op kwIf hl zo) ?_) rfl;refine gaf ?_;refine oC rfl (λhc=>?_) (λhc=>?_)
 ·have hlt:=qaS hc;rw[zp hc] at hr;simp only[hc,if_true];refine gah ?_;obtain⟨r1,hr1⟩:=qaR hr;refine oS (sP [_] rfl pH (hE f zo _ _ r1 zo zo hr1) (λv i1 op1 h1=>?_) (λl er i1 op1 h1 e9 he9=>?_)) rfl;rotate_left;exact zT28;rw[hr1,h1,qan] at hr;obtain⟨g1,g2,g3,rfl⟩:=gL 0 _ _ _ (hr1.trans (congrArg some h1));have g4:=g3 zo;refine zQ2 ?_;refine gad ?_;refine oS (sA λb3=>?_) rfl;refine gac ?_;obtain⟨r2,hr2⟩:=qaR hr;refine oS (sP [_] rfl zp1 (hB _ _ r2 zo zo hr2) (λth i2 op2 h2=>?_) (λl er i2 op2 h2 e9 he9=>?_)) rfl;rotate_left;rw[hr2,h2,qat] at hr;refine gae ?_;exact panP zb0 (by cases hr;rfl) zhp;rw[hr2,h2,qan] at hr;obtain⟨q1,q2,q3,rfl⟩:=kB _ _ _ (hr2.trans (congrArg some h2));have q4:=q3 zo;refine gac ?_;refine oS (sH [_,_] rfl zp1 (qcx sb T i2 op2 qvm hl zo) ?_) rfl;refine gaf ?_;refine oC rfl (λhc2=>?_) (λhc2=>?_)
  ·have hlt2:=qaS hc2;rw[zp hc2] at hr;simp only[hc2,if_true];refine gah ?_;obtain⟨r3,hr3⟩:=qaR hr;refine oS (sP [_] rfl pH (hB _ _ r3 zo zo hr3) (λel i3 op3 h3=>?_) (λl er i3 op3 h3 e9 he9=>?_)) rfl;rotate_left;rw[hr3,h3,qat] at hr;refine gae ?_;exact panP zb0 (by cases hr;rfl) zhp;rw[hr3,h3,qan] at hr;refine gac ?_;exact retP (v:=.mk 3 [] [] [v] th el) rfl (rC (rA (k:=6) rfl zm0 rfl (vA (bs:=[_,_,.list [],_,_,_]) ⟨vR _,vR _,vN,vR _,vR _,vR _,trivial⟩)) rN) (by cases hr;rfl) (by rw[qca];rfl) (zhP zp2 zhn)
  rw[zn (by rw[hc2];decide)] at hr;simp only[hc2,zRn,if_false];refine gac ?_;exact retP (v:=.mk 3 [] [] [v] th []) rfl (rC (rA (k:=6) rfl zm0 rfl (vA (bs:=[_,_,.list [],_,_,.list []]) ⟨vR _,vR _,vN,vR _,vR _,vN,trivial⟩)) rN) (by cases hr;rfl) (by rw[qca];rfl) (zhP zp1 zhn)
 rw[zn (by rw[hc];decide)] at hr;simp only[hc,zRn,if_false];refine gah ?_;refine oS (sH [_,_] rfl pH (qcx sb T i op qsg hl zo) ?_) rfl;refine gaf ?_;refine oC rfl (λhc2=>?_) (λhc2=>?_)
 ·have hlt:=qaS hc2;rw[zp hc2] at hr;simp only[hc2,if_true];refine gah ?_;obtain⟨r1,hr1⟩:=qaR hr;refine oS (sP [_] rfl pH (hE f zo _ _ r1 zo zo hr1) (λv i1 op1 h1=>?_) (λl er i1 op1 h1 e9 he9=>?_)) rfl;rotate_left;exact zT28;rw[hr1,h1,qan] at hr;obtain⟨g1,g2,g3,rfl⟩:=gL 0 _ _ _ (hr1.trans (congrArg some h1));have g4:=g3 zo;refine zQ2 ?_;refine gad ?_;refine oS (sA λb3=>?_) rfl;refine gac ?_;obtain⟨r2,hr2⟩:=qaR hr;refine oS (sP [_] rfl zp1 (hB _ _ r2 zo zo hr2) (λth i2 op2 h2=>?_) (λl er i2 op2 h2 e9 he9=>?_)) rfl;rotate_left;rw[hr2,h2,qat] at hr;refine gae ?_;exact panP zb0 (by cases hr;rfl) zhp;rw[hr2,h2,qan] at hr;refine gac ?_;exact retP (v:=.mk 4 [] [] [v] th []) rfl (rC (rA (k:=6) rfl zm0 rfl (vA (bs:=[_,_,.list [],_,_,.list []]) ⟨vR _,vR _,vN,vR _,vR _,vN,trivial⟩)) rN) (by cases hr;rfl) (by rw[qca];rfl) (zhP zp2 zhn)
 rw[zn (by rw[hc2];decide)] at hr;simp only[hc2,zRn,if_false];refine gaa ?_;obtain⟨r1,hr1⟩:=qaR hr;refine oS (sP [_] rfl pH (hM _ _ r1 zo zo hr1) (λv i1 op1 h1=>?_) (λl er i1 op1 h1 e9 he9=>?_)) rfl;rotate_left;exact zT28;rw[hr1,h1,qan] at hr;obtain⟨g1,g2,g3,rfl⟩:=kM _ _ _ (hr1.trans (congrArg some h1));have g4:=g3 zo;refine oS (sA λb5=>?_) rfl;refine gac ?_;refine oS (sP [_,_] rfl zp1 (qdY sb T i1 op1 [59] hl zo) (λu i2 op2 h2=>?_) (λl er i2 op2 h2 e9 he9=>?_)) rfl;rotate_left;rw[h2,qat] at hr;refine gae ?_;exact panP zb0 (by cases hr;rfl) zhp;rw[h2,qan] at hr;refine gac ?_;exact retP (v:=v) rfl (rC (rA rfl zm0 rfl zsr) rN) (by cases hr;rfl) rfl (zhP zp1 zhn)
theorem qx1(hG:GW B0 w0)(sb:Nat)(T:List Tok)(hT:TOK T):∀ f:Nat,qq3 B0 w0 sb T f/\qsI B0 w0 sb T f/\qvD B0 w0 sb T f/\qnR B0 w0 sb T f:=by
 intro f
 induction f using Nat.strongRecOn with
 |_ f ih=>
  have hE:=λg=>(qlA (B0:=B0) (w0:=w0) hG sb T hT g).2
  cases f with
  |zero=>
   refine⟨?_,qeB sb T hT 0 (λg hg=>by omega),?_,?_⟩;intro i op r _ _ hr;rw[qfT] at hr;cases hr;intro i op r _ _ hr;rw[qlV] at hr;cases hr
   intro i op r _ _ hr;rw[qeY] at hr;cases hr
  |succ f=>
   have h:=ih f zo;exact⟨qc9 sb T hT f h.2.1,qeB sb T hT _ (λg hg=>(ih g hg).2.2.1),qhy sb T hT f (λg _=>hE g) h.1 h.2.2.2,qnH sb T hT f (λg _=>hE g)⟩
end
theorem qht(T:List Tok):∀ (f:Nat) (acc:List (List UInt8)) (i op:Nat) (l:List (List UInt8)) (i' op':Nat),qbK T f acc i op=some (.ok l i' op')->l.length+i<=acc.length+i'
 |0,_,_,_,_,_,_,h=>by rw[qbK] at h;cases h
 |f+1,acc,i,op,l,i',op',h=>by
  rw[qbK] at h;split at h;rcases qaL h with⟨s,i1,op1,h1,h2⟩|⟨l,e,_,hh⟩;injection h1 with h1;obtain⟨rfl,rfl,_⟩:=qdP h1;have:=qht T f _ _ _ _ _ _ h2;rw[zLa,length_singleton] at this;omega;cases hh;cases h;omega
theorem qmt{T:List Tok}{f i op:Nat}{l:List (List UInt8)}{i' op':Nat}(h:qis T f i op=some (.ok l i' op')):l.length+i<=i':=by
 unfold qis at h;rcases qaL h with⟨s,i1,op1,h1,h2⟩|⟨l,e,_,hh⟩;injection h1 with h1;obtain⟨rfl,rfl,_⟩:=qdP h1;have:=qht T f _ _ _ _ _ _ h2;rw[length_singleton] at this;omega;cases hh
theorem ql1(T:List Tok):∀ (f:Nat) (acc:List (List UInt8)) (i op:Nat) (l:List (List UInt8)) (i' op':Nat),qgJ T f acc i op=some (.ok l i' op')->l.length+i<=acc.length+i'
 |0,_,_,_,_,_,_,h=>by rw[qgJ] at h;cases h
 |f+1,acc,i,op,l,i',op',h=>by
  rw[qgJ] at h;split at h;rcases qaL h with⟨s,i1,op1,h1,h2⟩|⟨l,e,_,hh⟩;have:=qmt h1;rcases qaL h2 with⟨u,i2,op2,h3,h4⟩|⟨l,e,_,hh⟩;injection h3 with h3;have hg:=qbq T [59] i1 op1;rw[h3] at hg;have hv:=ql1 T f _ _ _ _ _ _ h4;have:=hg.1;rw[zLa] at hv;omega;cases hh;cases hh;cases h;omega
section
variable{B0:Nat}{w0:World}
theorem qkk(sb:Nat)(T:List Tok)(hT:TOK T)(f i op:Nat)(r:Res (List (List UInt8)))(hi:i<=T.length)(hr:qgJ T f [] i op=some r) :
  LCalls (KC B0 w0) 43 [ptr sb 0] [srcH sb T i op] (qdv sb T qoU r):=by
 have hl:=hT.len;refine cJ Tryz.func43 (n:=13) ?_;refine gaa ?_
 refine oL (λk ls H=>∃ (v:LV) (l:List (List UInt8)) (i2:Nat) (Ha:Heap),k<=f/\ls=[(0,ptr sb 0),(3,v)]/\H=srcH sb T i2 op::Ha/\Acc 1 v (l.map str) Ha []/\i2<=T.length/\l.length<=i2/\qgJ T k l i2 op=some r)
  ⟨f,_,srcH sb T i op::[],⟨qab,[],i,_,zNr _,rfl,rfl,Acc.nil,by omega,by simp,hr⟩,⟨rfl,rfl,trivial⟩,zhR _⟩ ?_
 rintro k ls H ⟨v,l,i2,Ha,hkf,rfl,rfl,hacc,hi2,hll,hI⟩ j hj
 obtain⟨k,rfl⟩:∃ k',k=k'+1:=by
  cases k with
  |zero=>rw[qgJ] at hI;cases hI
  |succ k=>exact⟨k,rfl⟩
 rw[qgJ] at hI;refine gah ?_;refine oS (sH [_,_] rfl pH (qcx sb T i2 op qrX hl zo) ?_) rfl;refine gaf ?_;refine oC rfl (λhc=>?_) (λhc=>?_)
 ·have hlt:=qaS hc;rw[zp hc] at hI;simp only[hc,if_true];refine gal ?_;refine zQ79 ?_;obtain⟨r2,hr2⟩:=qaR hI;refine oS (sP [_] rfl pH (qjb sb T hT k (i2+1) op r2 zo hr2) (λns i4 op4 h4=>?_) (λl er i4 op4 h4 e9 he9=>?_)) rfl;rotate_left;rw[hr2,h4,qat] at hI;refine gae ?_;exact panP zb0 (by cases hI;rfl) zhp;rw[hr2,h4,qan] at hI;obtain⟨g1,g2,g3,rfl⟩:=qcG T k _ _ _ (hr2.trans (congrArg some h4));have g5:=g3 zo;have g6:=qmt (hr2.trans (congrArg some h4));refine oS (S.acc1 (ms:=ns.map str) rfl hacc rfl (qdk ns) (qe1 ns) (by simp;omega) λv' H' hacc'=>?_) rfl;refine zQ30 ?_;refine gag ?_;refine oS (sP [_,_] rfl pH (qdY sb T i4 op4 [59] hl zo) (λu i5 op5 h5=>?_) (λl er i5 op5 h5 e9 he9=>?_)) rfl;rotate_left;rw[h5,qat] at hI;refine gae ?_;exact panP zb0 (by cases hI;rfl) zhp;rw[h5,qan] at hI;have hg5:=qbq T [59] i4 op4;rw[h5] at hg5;obtain⟨k1,k2,k3,rfl⟩:=hg5;have k4:=k3 g5;refine gab ?_;exact⟨k,_,_,by omega,⟨v',l++ns,i5,H',by omega,rfl,rfl,by rw[zMa];exact hacc',by omega,by rw[zLa];omega,hI⟩,⟨rfl,rfl,trivial⟩,zhR _,hj⟩
 rw[zn (by rw[hc];decide)] at hI;simp only[hc,zRn,if_false];refine gaa ?_;refine zQ41 ?_;exact retP (v:=l) hj (rC (rT (v:=v) rfl hacc.sub) rN) (by cases hI;rfl) rfl zhp
theorem qeL(hG:GW B0 w0)(sb:Nat)(T:List Tok)(hT:TOK T)(i op:Nat)(r:Res Ar)(hi:i<=T.length)(ho:op<=100)(hr:qi8 T i op=some r) :
  LCalls (KC B0 w0) 45 [ptr sb 0] [srcH sb T i op] (qdv sb T qgC r):=by
 have hl:=hT.len;unfold qi8 at hr;refine cJ Tryz.func45 (n:=18) ?_;refine gai ?_;refine oS (sA λb2=>?_) rfl;refine gag ?_;refine oS (sP [_,_] rfl zp1 (qaO sb T i op 2 hl zo) (λs i1 op1 h1=>?_) (λl er i1 op1 h1 e9 he9=>?_)) rfl;rotate_left;exact zT32;rw[h1,qan] at hr;obtain⟨rfl,rfl,t,ht,_,_⟩:=qdP h1;have:=qjN ht;refine gad ?_;refine oS (sA λb3=>?_) rfl;refine gac ?_;refine oS (sP [_,_] rfl zp1 (qcp sb T (i+1) op1 [91] hl zo zo) (λv i2 op2 h2=>?_) (λl er i2 op2 h2 e9 he9=>?_)) rfl;rotate_left;rw[h2,qat] at hr;refine gae ?_;exact panP zb0 (by cases hr;rfl) zhp;rw[h2,qan] at hr;obtain⟨rfl,rfl,ho1,hi1⟩:=qbC h2;refine gag ?_;refine oS (sP [_] rfl pH (qix hG sb T hT (i+1+1) (op1+1) zo) (λm i3 op3 h3=>?_) (λl er i3 op3 h3 e9 he9=>?_)) rfl;rotate_left;exact zT33;rw[h3,qan] at hr;have hg3:=qfO T (i+1+1) (op1+1);rw[h3] at hg3;obtain⟨k1,k2,k3,rfl⟩:=hg3;have k4:=k3 zo
 have hm:m<=4294967295:=by
  unfold qfC at h3;unfold Res.bind at h3;split at h3
  rename_i s2 i6 op6 h6
  cases h3;obtain⟨_,_,t6,ht6,hk6,rfl⟩:=qdP h6;obtain⟨u,hu,hp⟩:=hT.num t6 (List.mem_of_getElem? ht6) hk6;rw[qss,hp];simp only;omega;cases h3
 have hw:IntKind.i64.wrap (m:Int)=(m:Int):=qeo zo;refine gac ?_;refine oS (sP [_,_] rfl zp1 (qfg sb T i3 (op1+1) [93] hl zo zo zo) (λu i4 op4 h4=>?_) (λl er i4 op4 h4 e9 he9=>?_)) rfl;rotate_left;rw[h4,qat] at hr;refine gae ?_;exact panP zb0 (by cases hr;rfl) zhp;rw[h4,qan] at hr;obtain⟨rfl,rfl,hi4⟩:=qgD h4;refine gag ?_;refine oS (sP [_,_] rfl pH (qdY sb T (i3+1) op4 [59] hl zo) (λu2 i5 op5 h5=>?_) (λl er i5 op5 h5 e9 he9=>?_)) rfl;rotate_left;rw[h5,qat] at hr;refine gae ?_;exact panP zb0 (by cases hr;rfl) zhp;rw[h5,qan] at hr;refine gac ?_;exact retP (v:=⟨s,m⟩) rfl (rC (rA (k:=2) rfl zm0 rfl zsr) rN) (by cases hr;rfl) (by show LV.agg [str s,int .i64 (IntKind.i64.wrap m)]=qgC ⟨s,m⟩;rw[hw];rfl) (zhP zp1 zhn)
theorem qm0(hG:GW B0 w0)(sb:Nat)(T:List Tok)(hT:TOK T)(f i op:Nat)(r:Res FnD)(hi:i<=T.length)(ho:op<=100)(hr:qn5 T f i op=some r) :
  LCalls (KC B0 w0) 46 [ptr sb 0] [srcH sb T i op] (qdv sb T qaM r):=by
 have hl:=hT.len;unfold qn5 at hr;refine cJ Tryz.func46 (n:=29) ?_;refine gai ?_;refine oS (sA λb2=>?_) rfl;refine gag ?_;refine oS (sP [_,_] rfl zp1 (qaO sb T i op 2 hl zo) (λs i1 op1 h1=>?_) (λl er i1 op1 h1 e9 he9=>?_)) rfl;rotate_left;exact zT32;rw[h1,qan] at hr;obtain⟨rfl,rfl,t,ht,_,_⟩:=qdP h1;have:=qjN ht;refine gad ?_;refine oS (sA λb3=>?_) rfl;refine gac ?_;refine oS (sP [_,_] rfl zp1 (qcp sb T (i+1) op1 [40] hl zo zo) (λv i2 op2 h2=>?_) (λl er i2 op2 h2 e9 he9=>?_)) rfl;rotate_left;rw[h2,qat] at hr;refine gae ?_;exact panP zb0 (by cases hr;rfl) zhp;rw[h2,qan] at hr;obtain⟨rfl,rfl,ho1,hi1⟩:=qbC h2;refine gag ?_;refine zQ2 ?_;refine oS (sH [_,_] rfl pH (qck sb T (i+1+1) (op1+1) [[41]] hl zo (by simp)) ?_) rfl;refine gad ?_;obtain⟨r3,hr3⟩:=qaR hr
 refine qah.mid (A:=List (List UInt8)×Nat) (λ_=>[(0,ptr sb 0),(2,ptr b2 0),(3,ptr b3 0)]) (λa=>(b3,.cells 89 [str s,.list (a.1.map str),qab,qab])::srcH sb T a.2 (op1+1)::[(b2,.cells 89 [str [],qab,qab,qab])])
  (λa=>i+1+1<=a.2/\a.2<=T.length/\r3=.ok a.1 a.2 (op1+1)) ?_ ?_
 refine oC rfl (λhc=>?_) (λhc=>?_);have hc':qbb T (i+1+1) [[41]]=false:=by simpa using hc
 rw[zn (by rw[hc'];decide)] at hr3;refine gah ?_;refine oS (sP [_] rfl pH (qjb sb T hT f (i+1+1) (op1+1) r3 zo hr3) (λns i3 op3 h3=>?_) (λl er i3 op3 h3 e9 he9=>?_)) rfl;obtain⟨g1,g2,g3,rfl⟩:=qcG T f _ _ _ (hr3.trans (congrArg some h3));have g5:=g3 zo;refine gad ?_;exact⟨(ns,i3),⟨by omega,g5,h3⟩,⟨rfl,rfl,rfl,trivial⟩,rfl,rfl⟩;rw[zn (by rw[hc'];decide),hr3,h3,qat] at hr;refine gak ?_;exact panP (he9.trans rfl) (by cases hr;rfl) zhp;have hc':qbb T (i+1+1) [[41]]=true:=by simpa using hc
 rw[zp hc'] at hr3;cases hr3;refine qah.cellSub zp1 (cs':=[str s,.list [],qab,qab]) ⟨vR _,vN,vR _,vR _,trivial⟩ ?_;refine gab ?_;exact⟨([],i+1+1),⟨zNr _,by omega,rfl⟩,⟨rfl,rfl,rfl,trivial⟩,rfl,rfl⟩;rintro⟨ps,i3⟩ ⟨hi3,hi3T,rfl⟩ j hj;rw[hr3,qan] at hr;refine gah ?_;refine oS (sP [_,_] rfl zp1 (qfg sb T i3 (op1+1) [41] hl zo zo zo) (λu i4 op4 h4=>?_) (λl er i4 op4 h4 e9 he9=>?_)) rfl;rotate_left;rw[h4,qat] at hr;refine gae ?_;exact panP zb0 (by cases hr;rfl) zhp;rw[h4,qan] at hr;obtain⟨rfl,rfl,hi4⟩:=qgD h4;refine gag ?_;refine oS (sP [_,_] rfl pH (qcp sb T (i3+1) op4 [123] hl zo zo) (λu2 i5 op5 h5=>?_) (λl er i5 op5 h5 e9 he9=>?_)) rfl;rotate_left;rw[h5,qat] at hr;refine gae ?_;exact panP zb0 (by cases hr;rfl) zhp;rw[h5,qan] at hr;obtain⟨rfl,rfl,ho5,hi5⟩:=qbC h5;refine gag ?_;obtain⟨r6,hr6⟩:=qaR hr;refine oS (sP [_] rfl pH (qkk sb T hT f (i3+1+1) (op4+1) r6 zo hr6) (λvs i6 op6 h6=>?_) (λl er i6 op6 h6 e9 he9=>?_)) rfl;rotate_left;rw[hr6,h6,qat] at hr;refine gae ?_;exact panP zb0 (by cases hr;rfl) zhp;rw[hr6,h6,qan] at hr;obtain⟨g1,g2,g3,rfl⟩:=qcL T f _ _ _ _ (hr6.trans (congrArg some h6));have g4:=g3 zo;refine gac ?_;obtain⟨r7,hr7⟩:=qaR hr;refine oS (sP [_] rfl zp1 ((qx1 hG sb T hT f).2.1 i6 (op4+1) r7 zo zo hr7) (λss i7 op7 h7=>?_) (λl er i7 op7 h7 e9 he9=>?_)) rfl;rotate_left;rw[hr7,h7,qat] at hr;refine gae ?_;exact panP zb0 (by cases hr;rfl) zhp;rw[hr7,h7,qan] at hr;obtain⟨q1,q2,q3,rfl⟩:=(qe6 T f).2.1 _ _ _ _ (hr7.trans (congrArg some h7));have q4:=q3 zo;refine gac ?_;refine oS (sP [_,_] rfl zp1 (qfg sb T i7 (op4+1) [125] hl zo zo zo) (λu3 i8 op8 h8=>?_) (λl er i8 op8 h8 e9 he9=>?_)) rfl;rotate_left;rw[h8,qat] at hr;refine gae ?_;exact panP zb0 (by cases hr;rfl) zhp;rw[h8,qan] at hr;refine gac ?_;exact retP (v:=⟨s,ps,vs,ss⟩) hj (rC (rA (k:=4) rfl zm0 rfl zsr) rN) (by cases hr;rfl) rfl (zhP zp1 zhn)
end
theorem qx7{a b c:Nat×LObj}:(a::b::c::(X++(Y++Z))).Perm (X++(a::b::c::(Y++Z))):=List.perm_append_comm_assoc [a,b,c] X (Y++Z)
theorem qwt{a b c:Nat×LObj}:(a::b::c::(X++(Y++Z))).Perm (Y++(a::b::c::(X++Z))):=
 (((List.perm_append_comm_assoc X Y Z).cons c).cons b |>.cons a).trans (List.perm_append_comm_assoc [a,b,c] Y (X++Z))
theorem qwC{a b c:Nat×LObj}:(a::b::c::(X++(Y++Z))).Perm (Z++(a::b::c::(X++Y))):=
 ((((show(X++(Y++Z)).Perm (Z++(X++Y)) from by rw[<-zAs];exact zPc).cons c).cons b).cons a).trans (List.perm_append_comm_assoc [a,b,c] Z (X++Y))
theorem qxR{a b c:Nat×LObj}:HSub (a::b::c::(X++(Y++Z))) (b::a::c::((Y++Z)++X)):=
 ⟨[],by rw[zLz];exact(zRr _ _ _).trans ((((zPc).cons c).cons b).cons a)⟩
theorem qw6{a b c:Nat×LObj}:HSub (a::b::c::(X++(Y++Z))) (b::a::c::((X++Z)++Y)):=
 ⟨[],by rw[zLz];exact(zRr _ _ _).trans ((((show((X++Z)++Y).Perm (X++(Y++Z)) from by rw[zAs];exact zPc.append_left X).cons c).cons b).cons a)⟩
theorem qv7{a b c:Nat×LObj}:HSub (a::b::c::(X++(Y++Z))) (b::a::c::((X++Y)++Z)):=
 ⟨[],by rw[zLz,zAs];exact zRr _ _ _⟩
theorem Acc.cell{s:Nat}{v:LV}{es:List LV}(h:Acc s v es H F):v.cells? = some [v]/\[v].all qcP=true:=by
 cases h <;> exact⟨rfl,rfl⟩
section
variable{B0:Nat}{w0:World}
theorem qdo(hG:GW B0 w0)(sb:Nat)(T:List Tok)(hT:TOK T)(f:Nat)(r:Res Pr)(hr:qkv T f ⟨[],[],[]⟩ 0 0=some r) :
  LCalls (KC B0 w0) 21 [ptr sb 0] [srcH sb T 0 0] (qdv sb T qfk r):=by
 have hl:=hT.len;have hml:(T.map qdr).length=T.length:=zLm _;refine cJ Tryz.func21 (n:=47) ?_;refine gai ?_;refine oS (sA λb2=>?_) rfl;refine gaj ?_;refine oS (sA λb3=>?_) rfl;refine gab ?_
 refine oL (λk ls H=>∃ (p:Pr) (v1 v2 v3:LV) (i2:Nat) (H1 H2 H3:Heap),k<=f/\ls=[(0,ptr sb 0),(2,ptr b2 0),(3,ptr b3 0)]/\H=srcH sb T i2 0::(b3,.cells 28 [v1,v2,v3])::(b2,.cells 28 [qab,qab,qab])::(H1++(H2++H3)) /\
   Acc 1 v1 (p.vars.map str) H1 []/\Acc 2 v2 (p.arrays.map qgC) H2 []/\Acc 4 v3 (p.funcs.map qaM) H3 []/\i2<=T.length/\p.vars.length<=i2/\p.arrays.length<=i2/\p.funcs.length<=i2/\qkv T k p i2 0=some r)
  ⟨f,_,_,⟨⟨[],[],[]⟩,qab,qab,qab,0,[],[],[],zNr _,rfl,rfl,Acc.nil,Acc.nil,Acc.nil,zero_le _,zero_le _,zero_le _,zero_le _,hr⟩,⟨rfl,rfl,rfl,trivial⟩,zhP zp2 zhr⟩ ?_
 rintro k ls H ⟨p,v1,v2,v3,i2,H1,H2,H3,hkf,rfl,rfl,ha1,ha2,ha3,hi2,hl1,hl2,hl3,hI⟩ j hj
 obtain⟨k,rfl⟩:∃ k',k=k'+1:=by
  cases k with
  |zero=>rw[qkv] at hI;cases hI
  |succ k=>exact⟨k,rfl⟩
 rw[qkv] at hI;refine gab ?_;refine cC [(0,ptr sb 0),(2,ptr b2 0),(3,ptr b3 0),(13,bool (decide (i2<T.length)))] ?_ (λj2 hj2=>?_);refine zQ33 ?_;exact⟨⟨rfl,rfl,rfl,qau (by rw[decide_eq_decide];simp),trivial⟩,rfl,rfl⟩
 skip
 refine oC rfl (λhc=>?_) (λhc=>?_);have hlt:i2<T.length:=zt hc;rw[zn zo] at hI;refine gaa ?_;refine zQ2 ?_;refine oS (sH [_,_] rfl pH (qck sb T i2 0 [qrX] hl zo (by simp)) ?_) rfl;refine gaf ?_;refine oC rfl (λhv=>?_) (λhv=>?_);rw[zp hv] at hI;obtain⟨r2,hr2⟩:=qaR hI;refine cD (m:=7) rfl []<|aT 0 rfl rfl (pF rfl)<|zQ40 ?_;refine aL ?_ zhn;refine zl2 (i:=1) (j:=3) zk ?_ ?_;refine lH rfl rfl (pL (c:=v1) rfl zm1 rfl)<|lO 3 (lW rfl (.inl rfl) rfl (sP [_] rfl pH (qkk sb T hT k i2 0 r2 hi2 hr2) (λl i3 op3 h3=>?_) (λl er i3 op3 h3 e' he'=>?_)));obtain⟨g1,g2,g3,rfl⟩:=qcL T k _ _ _ _ (hr2.trans (congrArg some h3));have g4:=g3 hi2;have g5:=g2 hv;have g6:=ql1 T _ _ _ _ _ _ _ (hr2.trans (congrArg some h3));rw[hr2,h3,qan] at hI;rw[zLn] at g6;refine lO 4 (lW rfl (.inl rfl) rfl (sG qx7 rfl ha1 rfl (qdk l) (qe1 l) (by simp;omega) λv' H' ha'=>?_));refine zQ60 ?_;exact⟨k,_,_,by omega,⟨{ p with vars:=p.vars++l },v',v2,v3,i3,H',H2,H3,by omega,rfl,rfl,by rw[zMa];exact ha',ha2,ha3,g4,by rw[zLa];omega,zNt hl2 zo,zNt hl3 zo,hI⟩,⟨rfl,rfl,rfl,trivial⟩,qxR,hj2.trans hj⟩;exact zT7;refine lW rfl (.inl rfl) rfl (sP [_] rfl pH (qkk sb T hT k i2 0 r2 hi2 hr2) (λl i3 op3 h3=>?_) (λl er i3 op3 h3 e' he'=>?_));refine lO 1 (lH rfl rfl (pL (c:=v1) rfl zm1 rfl) ?_);obtain⟨g1,g2,g3,rfl⟩:=qcL T k _ _ _ _ (hr2.trans (congrArg some h3));have g4:=g3 hi2;have g5:=g2 hv;have g6:=ql1 T _ _ _ _ _ _ _ (hr2.trans (congrArg some h3));rw[hr2,h3,qan] at hI;rw[zLn] at g6;refine lO 4 (lW rfl (.inl rfl) rfl (sG qx7 rfl ha1 rfl (qdk l) (qe1 l) (by simp;omega) λv' H' ha'=>?_));refine zQ60 ?_;exact⟨k,_,_,by omega,⟨{ p with vars:=p.vars++l },v',v2,v3,i3,H',H2,H3,by omega,rfl,rfl,by rw[zMa];exact ha',ha2,ha3,g4,by rw[zLa];omega,zNt hl2 zo,zNt hl3 zo,hI⟩,⟨rfl,rfl,rfl,trivial⟩,qxR,hj2.trans hj⟩;exact zT7;rw[zn (by rw[hv];decide)] at hI;refine gah ?_;refine oS (sH [_,_] rfl pH (qcx sb T i2 0 qqR hl zo) ?_) rfl;refine gaf ?_;refine oC rfl (λhw=>?_) (λhw=>?_);have hlt2:=qaS hw;rw[zp hw] at hI;simp only[hw,if_true];obtain⟨r2,hr2⟩:=qaR hI;refine cD (m:=8) rfl []<|aT 0 rfl rfl (pF rfl)<|zQ40 ?_;refine aL ?_ zhn;refine zl2 (i:=1) (j:=3) zk ?_ ?_;refine lH rfl rfl (pL (c:=v2) rfl zm1 rfl)<|lO 3 (lW rfl (.inl rfl) rfl (sP [_] rfl pH (qeL hG sb T hT (i2+1) 0 r2 zo zo hr2) (λl i3 op3 h3=>?_) (λl er i3 op3 h3 e' he'=>?_)));obtain⟨g1,g2,g3,rfl⟩:=qe0 T _ _ _ (hr2.trans (congrArg some h3));have g4:=g3 zo;rw[hr2,h3,qan] at hI;refine zQ47 ?_;refine lO 5 (lW rfl (.inl rfl) rfl (sG qwt rfl ha2 rfl (by simp;rfl) rfl (by simp;omega) λv' H' ha'=>?_));refine zQ22 ?_;exact⟨k,_,_,by omega,⟨{ p with arrays:=p.arrays++[l] },v1,v',v3,i3,H1,H',H3,by omega,rfl,rfl,ha1,by rw[zMa];exact ha',ha3,g4,zNt hl1 zo,by rw[zLa,length_singleton];omega,zNt hl3 zo,hI⟩,⟨rfl,rfl,rfl,trivial⟩,qw6,hj2.trans hj⟩;exact zT7;refine lW rfl (.inl rfl) rfl (sP [_] rfl pH (qeL hG sb T hT (i2+1) 0 r2 zo zo hr2) (λl i3 op3 h3=>?_) (λl er i3 op3 h3 e' he'=>?_));refine zl2 (i:=1) (j:=4) zk ?_ ?_;refine lH rfl rfl (pL (c:=v2) rfl zm1 rfl) ?_;obtain⟨g1,g2,g3,rfl⟩:=qe0 T _ _ _ (hr2.trans (congrArg some h3));have g4:=g3 zo;rw[hr2,h3,qan] at hI;refine zQ47 ?_;refine lO 5 (lW rfl (.inl rfl) rfl (sG qwt rfl ha2 rfl (by simp;rfl) rfl (by simp;omega) λv' H' ha'=>?_));refine zQ22 ?_;exact⟨k,_,_,by omega,⟨{ p with arrays:=p.arrays++[l] },v1,v',v3,i3,H1,H',H3,by omega,rfl,rfl,ha1,by rw[zMa];exact ha',ha3,g4,zNt hl1 zo,by rw[zLa,length_singleton];omega,zNt hl3 zo,hI⟩,⟨rfl,rfl,rfl,trivial⟩,qw6,hj2.trans hj⟩;obtain⟨g1,g2,g3,rfl⟩:=qe0 T _ _ _ (hr2.trans (congrArg some h3));have g4:=g3 zo;rw[hr2,h3,qan] at hI;refine zQ37 ?_;refine lO 1 (lH rfl rfl (pL (c:=v2) rfl zm1 rfl) ?_);refine lO 5 (lW rfl (.inl rfl) rfl (sG qwt rfl ha2 rfl (by simp;rfl) rfl (by simp;omega) λv' H' ha'=>?_))
 refine zQ22 ?_;exact⟨k,_,_,by omega,⟨{ p with arrays:=p.arrays++[l] },v1,v',v3,i3,H1,H',H3,by omega,rfl,rfl,ha1,by rw[zMa];exact ha',ha3,g4,zNt hl1 zo,by rw[zLa,length_singleton];omega,zNt hl3 zo,hI⟩,⟨rfl,rfl,rfl,trivial⟩,qw6,hj2.trans hj⟩;exact zT7;rw[zn (by rw[hw];decide)] at hI;simp only[hw,zRn,if_false];refine gah ?_;refine oS (sH [_,_] rfl pH (qcx sb T i2 0 qva hl zo) ?_) rfl;refine gaf ?_;refine oC rfl (λhu=>?_) (λhu=>?_);have hlt2:=qaS hu;rw[zp hu] at hI;simp only[hu,if_true];obtain⟨r2,hr2⟩:=qaR hI;refine cD (m:=8) rfl []<|aT 0 rfl rfl (pF rfl)<|zQ40 ?_;refine aL ?_ zhn;refine zl2 (i:=1) (j:=3) zk ?_ ?_;refine lH rfl rfl (pL (c:=v3) rfl zm1 rfl)<|lO 3 (lW rfl (.inl rfl) rfl (sP [_] rfl pH (qm0 hG sb T hT k (i2+1) 0 r2 zo zo hr2) (λl i3 op3 h3=>?_) (λl er i3 op3 h3 e' he'=>?_)));obtain⟨g1,g2,g3,rfl⟩:=qf2 T k _ _ _ (hr2.trans (congrArg some h3));have g4:=g3 zo;rw[hr2,h3,qan] at hI;refine zQ47 ?_;refine lO 5 (lW rfl (.inl rfl) rfl (sG qwC rfl ha3 rfl (by simp;rfl) rfl (by simp;omega) λv' H' ha'=>?_));refine zQ23 ?_;exact⟨k,_,_,by omega,⟨{ p with funcs:=p.funcs++[l] },v1,v2,v',i3,H1,H2,H',by omega,rfl,rfl,ha1,ha2,by rw[zMa];exact ha',g4,zNt hl1 zo,zNt hl2 zo,by rw[zLa,length_singleton];omega,hI⟩,⟨rfl,rfl,rfl,trivial⟩,qv7,hj2.trans hj⟩;exact zT7;refine lW rfl (.inl rfl) rfl (sP [_] rfl pH (qm0 hG sb T hT k (i2+1) 0 r2 zo zo hr2) (λl i3 op3 h3=>?_) (λl er i3 op3 h3 e' he'=>?_));refine zl2 (i:=1) (j:=4) zk ?_ ?_;refine lH rfl rfl (pL (c:=v3) rfl zm1 rfl) ?_;obtain⟨g1,g2,g3,rfl⟩:=qf2 T k _ _ _ (hr2.trans (congrArg some h3));have g4:=g3 zo;rw[hr2,h3,qan] at hI;refine zQ47 ?_;refine lO 5 (lW rfl (.inl rfl) rfl (sG qwC rfl ha3 rfl (by simp;rfl) rfl (by simp;omega) λv' H' ha'=>?_));refine zQ23 ?_;exact⟨k,_,_,by omega,⟨{ p with funcs:=p.funcs++[l] },v1,v2,v',i3,H1,H2,H',by omega,rfl,rfl,ha1,ha2,by rw[zMa];exact ha',g4,zNt hl1 zo,zNt hl2 zo,by rw[zLa,length_singleton];omega,hI⟩,⟨rfl,rfl,rfl,trivial⟩,qv7,hj2.trans hj⟩;obtain⟨g1,g2,g3,rfl⟩:=qf2 T k _ _ _ (hr2.trans (congrArg some h3));have g4:=g3 zo;rw[hr2,h3,qan] at hI;refine zQ37 ?_;refine lO 1 (lH rfl rfl (pL (c:=v3) rfl zm1 rfl) ?_);refine lO 5 (lW rfl (.inl rfl) rfl (sG qwC rfl ha3 rfl (by simp;rfl) rfl (by simp;omega) λv' H' ha'=>?_));refine zQ23 ?_;exact⟨k,_,_,by omega,⟨{ p with funcs:=p.funcs++[l] },v1,v2,v',i3,H1,H2,H',by omega,rfl,rfl,ha1,ha2,by rw[zMa];exact ha',g4,zNt hl1 zo,zNt hl2 zo,by rw[zLa,length_singleton];omega,hI⟩,⟨rfl,rfl,rfl,trivial⟩,qv7,hj2.trans hj⟩;exact zT7;rw[zn (by rw[hu];decide)] at hI;simp only[hu,zRn,if_false];refine gah ?_;refine oS (sP [_,_] rfl pH (qfM qfk sb T i2 0 3 hl zo) (λ_ _ _ h=>by cases h) (λl er i' op' h e' he'=>?_)) rfl;cases h;refine gae ?_;exact panP (he'.trans (hj2.trans hj)) (by cases hI;rfl) zhp;have hge:T.length<=i2:=by have:=zf hc;omega
 rw[zp hge] at hI;refine qah.cellSub zp1 (cs':=[.list (p.vars.map str),.list (p.arrays.map qgC),.list (p.funcs.map qaM)]) ⟨ha1.sub,ha2.sub,ha3.sub,trivial⟩ ?_;refine gac ?_;exact retP (v:=p) (hj2.trans hj) (rC (rA (k:=3) rfl zm0 rfl zsr) rN) (by cases hI;rfl) rfl (zhP zp2 zhn)
end
theorem qwf{s:List UInt8}{T:List Tok}(h:qet s=.ok T):TOK T:=by
 unfold qet at h;split at h;cases h;obtain⟨h1,h2⟩:=qoc _ _ _ _ h
 exact⟨by omega,λt ht=>by have:=(h2 t ht).1;omega,λt ht hk=>by
  obtain⟨u,h3,h4,_⟩:=(h2 t ht).2 hk
  exact⟨u,h3,h4⟩⟩
instance:TIface zTp 20:=.of zk
def noPr:Pr:=⟨[],[],[]⟩
def qc3(s:List UInt8):Pr×Int×Int:=match qet s with
 |.error (l,e)=>(noPr,l,e)
 |.ok T=>match qkv T (10 * T.length+20) noPr 0 0 with
  |some (.ok p _ _)=>(p,0,0)
  |some (.err l e)=>(noPr,l,e)
  |none=>(noPr,0,0)
def qpu(r:Pr×Int×Int):LV:=.tuple [qfk r.1,int .i64 r.2.1,int .i64 r.2.2]
theorem qbN.ret1{H' H1 H2:Heap}{f:FuncId}{caps:Array Value} [hen:TEnter C.P f](hd:e.ds=[{ target:=.fn (.func f) caps,args:=#[] }])(hp:H.Perm (H1++F))
  (hc:qa9 C f (caps.toList.map .atom) .returning H1 (λu H'=>u=.returning/\H'=H2)) (h:qbQ C n e (H2++F) rs vs) (hH:HSub H' (H2++F)) (hR:R (.ret (qbE vs)) H'):qbN C n rs R .ret e H:=by
 unfold qbN;simp only[hd];refine⟨by simp,f,caps,H1,F,rfl,hen,hp,qa9.mono hc ?_⟩;rintro u H'' ⟨rfl,rfl⟩;exact⟨vs,H',h,hH,hR⟩
theorem qbN.panic1{H' H1 H2:Heap}{f:FuncId}{caps:Array Value}{ch:List PanicEntry} [hen:TEnter C.P f](hd:e.ds=[{ target:=.fn (.func f) caps,args:=#[] }])(hp:H.Perm (H1++F))
  (hc:qa9 C f (caps.toList.map .atom) (.panicking ch) H1 (λu H'=>settle u=.returning/\H'=H2)) (h:qbQ C n e (H2++F) rs vs) (hH:HSub H' (H2++F)) (hR:R (.ret (qbE vs)) H'):qbN C n rs R (.panic ch) e H:=by
 unfold qbN;simp only[hd];refine⟨by simp,f,caps,H1,F,rfl,hen,hp,qa9.mono hc ?_⟩;rintro u H'' ⟨hu,rfl⟩;rw[hu];exact⟨vs,H',h,hH,hR⟩
def resP:Res Pr->Pr×Int×Int
 |.ok p _ _=>(p,0,0)
 |.err l e=>(noPr,l,e)
theorem qml:∀ (f:Nat) (s:List UInt8) (line l e:Int),lexP f s line=.error (l,e)->¬ e=0
 |0,s,line,l,e,h=>by
  rw[lexP] at h
  cases h
 |f+1,s,line,l,e,h=>by
  rw[lexP] at h;split at h;cases h;split at h;split at h
  rename_i he
  cases h;exact he
  cases hx:lexP f (s.drop (qaN s).2.1) (line+((s.take (qaN s).2.1).count 10:Nat)) with
  |ok T=>rw[hx] at h;cases h
  |error p=>
   rw[hx] at h;cases h;exact qml f _ _ _ _ hx
  exact qml f _ _ _ _ h
theorem qou{s:List UInt8}{l e:Int}(h:qet s=.error (l,e)):¬ e=0:=by
 unfold qet at h;split at h;cases h;decide;exact qml _ _ _ _ _ h
theorem memA{A:Type}{p:A}{H:List A}(h:p∈H:=by first|exact zRm|exact List.Mem.tail _ zm0|exact List.Mem.tail _ zm1|exact List.Mem.tail _ zm2|exact List.Mem.tail _ zm3|exact List.Mem.tail _ zm4|exact List.Mem.tail _ zm5):p∈H:=h
attribute [local irreducible] qbX qaI qdz qa9
section
variable{B0:Nat}{w0:World}
theorem qlQ(b2 b3 b4:Nat)(cs:List LV)(c d:LV):qa9 (KC B0 w0) 20 [ptr b2 0,ptr b3 0,ptr b4 0] .returning [(b2,.cells 28 cs),(b3,.cells 3 [c]),(b4,.cells 29 [d])]
  (λu H=>u=.returning/\H=[(b2,.cells 28 cs),(b3,.cells 3 [c]),(b4,.cells 29 [d])]):=by
 refine qa9.intro Tryz.func20 rfl (n:=22) rfl rfl rfl ?_;refine zQ19 ?_;refine gac ?_;refine oC rfl (λhc=>?_) (λhc=>?_);cases hc;refine gab ?_;exact⟨rfl,_,zhR _,rfl,rfl⟩
theorem ql6(b2 b3 b4:Nat)(c1 c2 c3 c d:LV)(l er:Int):qa9 (KC B0 w0) 20 [ptr b2 0,ptr b3 0,ptr b4 0] (.panicking (pan l er)) [(b2,.cells 28 [c1,c2,c3]),(b3,.cells 3 [c]),(b4,.cells 29 [d])]
  (λu H=>settle u=.returning/\H=[(b2,.cells 28 [qab,qab,qab]),(b3,.cells 3 [int .i64 l]),(b4,.cells 29 [int .i64 er])]):=by
 refine qa9.intro Tryz.func20 rfl (n:=22) rfl rfl rfl ?_;refine zQ19 ?_;refine gac ?_;refine oC rfl (λhc=>?_) (λhc=>?_);refine gah ?_;refine oP (Pure.assertOk (vs:=[.int .i64 l,.int .i64 er]) rfl) rfl<|gad ?_;refine oS (sA λb5=>?_) rfl;refine gac ?_;refine oC rfl (λhd=>?_) (λhd=>?_);cases hd;refine gab ?_;refine cD (m:=8) rfl [(b5,.cells 56 [int .i64 l,int .i64 er])]<|aT 0 rfl rfl (pB _ (cs:=[_,_,_]) rfl)<|aT 1 rfl rfl (pF rfl)<|aT 2 rfl rfl (pL (c:=.atom _) rfl zm0 rfl)<|aT 3 rfl rfl (pF rfl)<|aT 4 rfl rfl (pL (c:=.atom _) rfl zm0 rfl)<|aL ?_ zhp;refine lO 5 (lS (H1:=[(b2,.cells 28 [c1,c2,c3])]) (F:=[(b5,.cells 56 [int .i64 l,int .i64 er]),(b3,.cells 3 [c]),(b4,.cells 29 [d])]) rfl (.inl rfl) rfl zp1 zhp (sS (cs':=[_,_,_]) rfl pH rfl rfl rfl rfl rfl ?_));refine lO 6 (lS (H1:=[(b3,.cells 3 [c])]) (F:=[(b2,.cells 28 [qab,qab,qab]),(b5,.cells 56 [int .i64 l,int .i64 er]),(b4,.cells 29 [d])]) rfl (.inl rfl) rfl zp2 (zhP zp1 zhn) (sS (cs':=[_]) rfl pH rfl rfl rfl rfl rfl ?_));refine lO 7 (lS (H1:=[(b4,.cells 29 [d])]) (F:=[(b3,.cells 3 [int .i64 l]),(b2,.cells 28 [qab,qab,qab]),(b5,.cells 56 [int .i64 l,int .i64 er])]) rfl (.inl rfl) rfl zp3 (zhP zp2 zhn) (sS (cs':=[_]) rfl pH rfl rfl rfl rfl rfl ?_));refine lD zk ?_;exact⟨rfl,_,zhP zp2 (zhP zp1 zhp),rfl,rfl⟩;cases hc
theorem qrA(hG:GW B0 w0)(s:List UInt8):LCalls (KC B0 w0) 7 [str s] [] (Ret (qpu (qc3 s))):=by
 refine LCalls.introD Tryz.func7 rfl (n:=24) rfl rfl rfl ?_;refine zQ34 ?_;refine gai ?_;refine oS (sA λb2=>oS (sA λb3=>?_) rfl) rfl;refine oS (sA λb4=>?_) rfl;refine gaf ?_;refine zQ34 ?_;refine gah ?_;refine oS (sF [_] rfl (qpY hG s) ?_) rfl
 cases hL:qet s with
 |error le=>
  obtain⟨l,er⟩:=le;have he0:¬ er=0:=qou hL;simp only[qpD];refine gad ?_;refine zQ34 ?_;refine gac ?_;refine oC rfl (λhc=>?_) (λhc=>?_);refine gab ?_;refine cD (m:=6) rfl []<|aT 0 rfl rfl (pB _ (cs:=[_,_,_]) rfl)<|aL ?_ zhn;refine qay.three (i:=1) (j:=2) (k:=3) zk ?_ ?_ ?_;refine zQ67 ?_;refine zl2 (i:=2) (j:=3) zk ?_ ?_;refine lH rfl rfl (pL (c:=.atom _) rfl zm0 rfl) ?_;exact zT10;refine zQ32 ?_;refine zl2 (i:=2) (j:=4) zk ?_ ?_;exact zT14;exact zT16;refine lH rfl rfl (pL (c:=.atom _) rfl zm0 rfl)<|zl2 (i:=1) (j:=3) zk ?_ ?_;refine zQ67 ?_;exact zT10;refine zQ32 ?_;exact zT8;refine zQ32 ?_;refine zl2 (i:=1) (j:=2) zk ?_ ?_;refine lH rfl rfl (pL (c:=.atom _) rfl zm2 rfl)<|zl2 (i:=2) (j:=4) zk ?_ ?_;exact zT14;exact zT16;refine zQ67 ?_;exact zT8;have:er=0:=by simpa using hc
  exact absurd this he0
 |ok T=>
  have hT:=qwf hL;simp only[qpD];refine gad ?_;refine zQ34 ?_;refine gac ?_;refine oC rfl (λhc=>?_) (λhc=>?_);cases hc;refine gab ?_;refine zQ24 ?_;refine zQ34 ?_;refine gac ?_;refine oS (sB rfl λsb=>?_) rfl;refine gaf ?_;refine zQ61 ?_;obtain⟨r,hr⟩:=qgd T (10 * T.length+20) noPr 0 0 (zero_le _) zo
  have hp:qc3 s=resP r:=by
   rw[qc3,hL];simp only[hr];cases r <;> rfl
  rw[hp];refine qbX.step (sP (T:=T) (i:=0) (op:=0) [_] rfl pH (qdo hG sb T hT _ r hr) (λv i1 op1 h1=>?_) (λl er i1 op1 h1=>?_)) rfl;subst h1;refine qbX.step (sS (cs':=[_,_,_]) rfl zp3 rfl rfl rfl rfl rfl ?_) rfl;refine qbX.step (sS (cs':=[_]) rfl zp3 rfl rfl rfl rfl rfl ?_) rfl;refine qbX.step (sS (cs':=[_]) rfl zp3 rfl rfl rfl rfl rfl ?_) rfl;refine zQ63 ?_;refine qaI.ret ?_
  exact qbN.ret1 (vs:=[qfk v,int .i64 0,int .i64 0]) (H2:=[(b2,.cells 28 [.list (v.vars.map str),.list (v.arrays.map qgC),.list (v.funcs.map qaM)]),(b3,.cells 3 [int .i64 0]),(b4,.cells 29 [int .i64 0])]) rfl (zp2.trans (zRq _ (zp1.trans (zRq _ zpr)))) (qlQ b2 b3 b4 _ _ _)
   (rC (rA (k:=3) rfl zm0 rfl zsr) (rC (qcU.cellOne rfl zm1 rfl zsr) (rC (qcU.cellOne rfl zm2 rfl zsr) rN))) zhn ⟨rfl,rfl⟩
  subst h1;refine qaw.panic ?_
  exact qbN.panic1 (vs:=[qfk noPr,int .i64 l,int .i64 er]) (H2:=[(b2,.cells 28 [qab,qab,qab]),(b3,.cells 3 [int .i64 l]),(b4,.cells 29 [int .i64 er])]) rfl (zp3.trans (zRq _ (zp2.trans (zRq _ (zp1.trans zpr))))) (ql6 b2 b3 b4 _ _ _ _ _ l er)
   (rC (rA (k:=3) rfl zm0 rfl (vA (bs:=[.list [],.list [],.list []]) ⟨vN,vN,vN,trivial⟩)) (rC (qcU.cellOne rfl zm1 rfl zsr) (rC (qcU.cellOne rfl zm2 rfl zsr) rN))) zhn ⟨rfl,rfl⟩
end
end Go.Proofs.YtegmklafpoldgaaGreatDoor
namespace Go.Proofs.YtegmklafpoldgaaGreatDoor.Chk
open Go.GL Go.RowKit Go.Stele
variable{H':Heap}{err:Int}{lv:LV}{rs:List ResultVar}
def vio(nm:List UInt8)(e:Int):List PanicEntry:=[{ v:=.iface 99 (.agg #[.string ⟨nm.toArray⟩,.int .i64 e]),recovered:=false }]
def chkN:Nat->List UInt8->Bool
 |_,[]=>true
 |i,c::r=>(if i=0 then qaV c else qaU c) && chkN (i+1) r
theorem qld:∀ (r:List UInt8) (i:Nat),i≠0->chkN i r=r.all qaU
 |[],_,_=>rfl
 |c::r,i,h=>by rw[chkN,zn h,qld r (i+1) zo];rfl
theorem qwR{s:List UInt8}(h0:s≠[])(h1:s.length<=24)(h2:qna.contains s=false):isNm s=chkN 0 s:=by
 unfold isNm;rw[zRp h1,h2]
 cases s with
 |nil=>exact absurd rfl h0
 |cons c r=>
  rw[chkN,zp rfl,qld r 1 zDd];rfl
theorem qr2(s:List UInt8):qna.contains s=(qdm.contains s || decide (s=[105,110]) || decide (s=[111,117,116])):=by
 have h:qna.contains s=(qdm.contains s || (decide (s=[105,110]) || decide (s=[111,117,116]))):=by
  unfold qna;rw[Bool.eq_iff_iff]
  simp
 rw[h,Bool.or_assoc]
instance:TMap zTp 64 3 (.int .i64 0) (int .i64 0):=⟨⟨9,zk,zk⟩,λw=>(Go.zero_of_info (P:=zTp) (n:=1) zk).1 w,λ_ _=>qai⟩
instance:TMap zTp 102 4 (.bool false) (bool false):=⟨⟨9,zk,zk⟩,λw=>(Go.zero_of_info (P:=zTp) (n:=1) zk).1 w,λ_ _=>qai⟩
instance:TMap zTp 103 176 (.agg [.int .i64 0,.int .i64 0,.int .i64 0].toArray) (.agg ([.int .i64 0,.int .i64 0,.int .i64 0].map .atom)):=⟨⟨9,zk,zk⟩,λw=>(Go.zero_of_info (P:=zTp) (n:=3) zk).1 w,λw L=>qpN w L _⟩
def opKV:KV:=[([110,117,109],int .i64 0),([118,97,114],int .i64 0),([101,108,101,109],int .i64 1),([110,101,103],int .i64 1),([110,111,116],int .i64 1),([99,97,108,108],int .i64 (-1)),([124,124],int .i64 2),([38,38],int .i64 2),([61,61],int .i64 2),([33,61],int .i64 2),([60],int .i64 2),([62],int .i64 2),([60,61],int .i64 2),([62,61],int .i64 2),([94],int .i64 2),([43],int .i64 2),([45],int .i64 2),([42],int .i64 2),([47],int .i64 2),([37],int .i64 2)]
theorem qu3(op:List UInt8):GL.kvGet opKV op=if qbk op = -2 then none else some (int .i64 (qbk op)):=by
 have key:∀ x∈[[110,117,109],[118,97,114],[101,108,101,109],[110,101,103],[110,111,116],[99,97,108,108],[124,124],[38,38],[61,61],[33,61],[60],[62],[60,61],[62,61],[94],[43],[45],[42],[47],[37]],GL.kvGet opKV x=if qbk x = -2 then none else some (int .i64 (qbk x)):=by
  intro x hx;simp only[zMi,not_mem_nil,or_false] at hx;rcases hx with rfl|rfl|rfl|rfl|rfl|rfl|rfl|rfl|rfl|rfl|rfl|rfl|rfl|rfl|rfl|rfl|rfl|rfl|rfl|rfl <;> rfl
 by_cases h:op∈[[110,117,109],[118,97,114],[101,108,101,109],[110,101,103],[110,111,116],[99,97,108,108],[124,124],[38,38],[61,61],[33,61],[60],[62],[60,61],[62,61],[94],[43],[45],[42],[47],[37]]
 exact key op h;simp only[zMi,not_mem_nil,or_false,not_or] at h
 have h2:qbk op = -2:=by
  obtain⟨a1,a2,a3,a4,a5,a6,a7,a8,a9,a10,a11,a12,a13,a14,a15,a16,a17,a18,a19,a20⟩:=h;unfold qbk;rw[zn (λh=>h.elim a1 a2),zn (λh=>h.elim a3 (λh=>h.elim a4 a5)),zn (show ¬ op=qch from a6),zn];unfold qc4;simp only[zMi,not_mem_nil,or_false,not_or];exact⟨a7,a8,a9,a10,a11,a12,a13,a14,a15,a16,a17,a18,a19,a20⟩
 rw[zp h2];obtain⟨a1,a2,a3,a4,a5,a6,a7,a8,a9,a10,a11,a12,a13,a14,a15,a16,a17,a18,a19,a20⟩:=h;unfold opKV;simp only[GL.kvGet];rw[zn (Ne.symm a1),zn (Ne.symm a2),zn (Ne.symm a3),zn (Ne.symm a4),zn (Ne.symm a5),zn (Ne.symm a6),zn (Ne.symm a7),zn (Ne.symm a8),zn (Ne.symm a9),zn (Ne.symm a10),zn (Ne.symm a11),zn (Ne.symm a12),zn (Ne.symm a13),zn (Ne.symm a14),zn (Ne.symm a15),zn (Ne.symm a16),zn (Ne.symm a17),zn (Ne.symm a18),zn (Ne.symm a19),zn (Ne.symm a20)]
attribute [local irreducible] LOps qah qae LCalls Go.GL.Pure qaw qam qad LQ LAny qay qal LS
section
variable{B0:Nat}{w0:World}{H:Heap}
theorem qnc(b:Bool)(nm:List UInt8)(e:Int):LCalls (KC B0 w0) 92 [bool b,str nm,int .i64 e] H (λr H'=>H'=H/\r=if b=true then .ret (.tuple []) else .panic (vio nm e)):=by
 refine cJ Tryz.func92 (n:=12) ?_;refine gac ?_;refine oC rfl (λhc=>?_) (λhc=>?_);have hb:b=false:=by simpa using hc
 subst hb;refine gac ?_;refine oS (qae.panic rfl λe' he'=>?_) rfl;exact qad.panic (he'.trans rfl) zhr ⟨rfl,rfl⟩;have hb:b=true:=by simpa using hc
 subst hb;refine gab ?_;exact rO rfl rN zhr ⟨rfl,rfl⟩
theorem qlN(op:List UInt8):LCalls (KC B0 w0) 235 [str op] [] (Ret (int .i64 (qbk op))):=by
 refine cJ Tryz.func235 (n:=15) ?_;refine gag ?_;refine oS (S.kvNew λom=>oS (S.kvInsE (m:=opKV.take 0) (k:=[110,117,109]) (lv:=int .i64 (0)) (opKV.take 1) rfl rfl rfl pH zk λc0=>?_) rfl) rfl;refine oS (S.kvInsE (m:=opKV.take 1) (k:=[118,97,114]) (lv:=int .i64 (0)) (opKV.take 2) rfl rfl rfl pH zk λc1=>oS (S.kvInsE (m:=opKV.take 2) (k:=[101,108,101,109]) (lv:=int .i64 (1)) (opKV.take 3) rfl rfl rfl pH zk λc2=>?_) rfl) rfl;refine oS (S.kvInsE (m:=opKV.take 3) (k:=[110,101,103]) (lv:=int .i64 (1)) (opKV.take 4) rfl rfl rfl pH zk λc3=>oS (S.kvInsE (m:=opKV.take 4) (k:=[110,111,116]) (lv:=int .i64 (1)) (opKV.take 5) rfl rfl rfl pH zk λc4=>?_) rfl) rfl;refine oS (S.kvInsE (m:=opKV.take 5) (k:=[99,97,108,108]) (lv:=int .i64 (-1)) (opKV.take 6) rfl rfl rfl pH zk λc5=>oS (S.kvInsE (m:=opKV.take 6) (k:=[124,124]) (lv:=int .i64 (2)) (opKV.take 7) rfl rfl rfl pH zk λc6=>?_) rfl) rfl;refine oS (S.kvInsE (m:=opKV.take 7) (k:=[38,38]) (lv:=int .i64 (2)) (opKV.take 8) rfl rfl rfl pH zk λc7=>oS (S.kvInsE (m:=opKV.take 8) (k:=[61,61]) (lv:=int .i64 (2)) (opKV.take 9) rfl rfl rfl pH zk λc8=>?_) rfl) rfl;refine oS (S.kvInsE (m:=opKV.take 9) (k:=[33,61]) (lv:=int .i64 (2)) (opKV.take 10) rfl rfl rfl pH zk λc9=>oS (S.kvInsE (m:=opKV.take 10) (k:=[60]) (lv:=int .i64 (2)) (opKV.take 11) rfl rfl rfl pH zk λc10=>?_) rfl) rfl;refine oS (S.kvInsE (m:=opKV.take 11) (k:=[62]) (lv:=int .i64 (2)) (opKV.take 12) rfl rfl rfl pH zk λc11=>oS (S.kvInsE (m:=opKV.take 12) (k:=[60,61]) (lv:=int .i64 (2)) (opKV.take 13) rfl rfl rfl pH zk λc12=>?_) rfl) rfl;refine oS (S.kvInsE (m:=opKV.take 13) (k:=[62,61]) (lv:=int .i64 (2)) (opKV.take 14) rfl rfl rfl pH zk λc13=>oS (S.kvInsE (m:=opKV.take 14) (k:=[94]) (lv:=int .i64 (2)) (opKV.take 15) rfl rfl rfl pH zk λc14=>?_) rfl) rfl;refine oS (S.kvInsE (m:=opKV.take 15) (k:=[43]) (lv:=int .i64 (2)) (opKV.take 16) rfl rfl rfl pH zk λc15=>oS (S.kvInsE (m:=opKV.take 16) (k:=[45]) (lv:=int .i64 (2)) (opKV.take 17) rfl rfl rfl pH zk λc16=>?_) rfl) rfl;refine oS (S.kvInsE (m:=opKV.take 17) (k:=[42]) (lv:=int .i64 (2)) (opKV.take 18) rfl rfl rfl pH zk λc17=>oS (S.kvInsE (m:=opKV.take 18) (k:=[47]) (lv:=int .i64 (2)) (opKV.take 19) rfl rfl rfl pH zk λc18=>?_) rfl) rfl;refine oS (S.kvInsE (m:=opKV.take 19) (k:=[37]) (lv:=int .i64 (2)) (opKV.take 20) rfl rfl rfl pH zk λc19=>?_) rfl;refine LOps.weak (H':=[(om,.map (kvs opKV) c19)]) zhr ?_;refine gab ?_;have hg:=qu3 op
 by_cases h0:qbk op = -2
 rw[zp h0] at hg;refine oP (Pure.kvMiss2 rfl rfl zm0 (show GL.kvGet opKV op=none from hg)) rfl<|gac ?_;refine oC rfl (λ_=>?_) (λhc=>by cases hc);refine gaa ?_;exact rR rfl (zra rfl) zhn ⟨by rw[h0];rfl,rfl⟩;rw[zn h0] at hg;refine oP (Pure.kvHit2 rfl rfl zm0 (show GL.kvGet opKV op=some (int .i64 (qbk op)) from hg)) rfl<|gac ?_;refine oC rfl (λhc=>by cases hc) (λ_=>?_);refine gaa ?_;exact rR rfl (zra rfl) zhn ⟨rfl,rfl⟩
theorem qe5(s:List UInt8):LCalls (KC B0 w0) 153 [str s] [] (Ret (bool (isNm s))):=by
 refine cJ Tryz.func153 (n:=65) ?_;refine gaa ?_
 have retF:∀ (h:isNm s=false) {e:Env} {C:Ctx} {n:Nat},e.ds=[]->e.s 2=bool false->qad C n [ResultVar.tmp 2] (Ret (bool (isNm s))) .ret e []:=λh {e C n} hd he=>by
  rw[h];exact qak hd (rC (rT he zsr) rN) rfl
 refine oB 7 rfl (λh1=>?_) (λh1=>?_);have h0:s=[]:=zt h1;refine gab ?_;refine oC rfl (λ_=>?_) (λhc=>by cases hc);refine gaa ?_;exact retF (by rw[h0];rfl) rfl rfl;have h0:s≠[]:=zf h1;refine gad ?_;refine oB 12 rfl (λh2=>?_) (λh2=>?_)
 have hl:24<s.length:=by
  have:=zt h2;omega
 refine gab ?_;refine oC rfl (λ_=>?_) (λhc=>by cases hc);refine gaa ?_;exact retF (by unfold isNm;rw[decide_eq_false zo];rfl) rfl rfl
 have hl:s.length<=24:=by
  have:=zf h2;omega
 refine gab ?_;refine oB 16 rfl (λh3=>?_) (λh3=>?_);have h4:s=[105,110]:=zt h3;refine gab ?_;refine oC rfl (λ_=>?_) (λhc=>by cases hc);refine gaa ?_;exact retF (by rw[h4];rfl) rfl rfl;refine gab ?_;refine oB 20 rfl (λh5=>?_) (λh5=>?_);have h4:s=[111,117,116]:=zt h5;refine gab ?_;refine oC rfl (λ_=>?_) (λhc=>by cases hc);refine gaa ?_;exact retF (by rw[h4];rfl) rfl rfl;refine gab ?_;refine oS (sF [] rfl qhl ?_) rfl;refine gab ?_;refine oS (sF [_,_] rfl (qdN qdm s zDd) ?_) rfl;refine gab ?_;have hnn:=qr2 s;rw[h3,h5,Bool.or_false,Bool.or_false] at hnn;refine oC rfl (λhk=>?_) (λhk=>?_);have hk':qdm.contains s=true:=hk;refine gaa ?_
 exact retF (by
  unfold isNm
  rw[hnn,hk',Bool.not_true,Bool.and_false,zRs]) rfl rfl
 have hk':qdm.contains s=false:=hk;rw[hk'] at hnn;have heq:=qwR h0 hl hnn;refine gac ?_
 refine oL (λk ls H'=>∃ pre l1,s=pre++l1/\k=l1.length/\ls=[(0,str s),(26,int .i64 (s.length:Int)),(27,int .i64 (pre.length:Int))]/\H'=[]/\isNm s=chkN pre.length l1)
  ⟨s.length,_,_,⟨[],s,rfl,rfl,rfl,rfl,heq⟩,⟨rfl,rfl,rfl,trivial⟩,zhR _⟩ ?_
 rintro k ls H' ⟨pre,l1,hLe,rfl,rfl,rfl,hI⟩ j hj
 have hb2:pre.length<=24:=by
  rw[hLe,zLa] at hl;omega
 refine gaj ?_;refine oC rfl (λhc=>?_) (λhc=>?_);rotate_left;have hlen:=zf hc;rw[hLe,zLa] at hlen
 obtain rfl:l1=[]:=by
  cases l1 with
  |nil=>rfl
  |cons a l2=>simp at hlen;omega
 refine gaa ?_;exact qak hj (zra rfl) (by rw[hI];rfl);have hlen:=zt hc;rw[hLe,zLa] at hlen
 obtain⟨a,l2,rfl⟩:∃ a l2,l1=a::l2:=by
  cases l1 with
  |nil=>simp at hlen
  |cons a l2=>exact⟨a,l2,rfl⟩
 have hget:s[((pre.length:Nat):Int).toNat]? = some a:=by
  rw[Int.toNat_natCast,hLe,List.getElem?_append_right (zNr _),sub_self];rfl
 rw[chkN] at hI
 have next:∀ {e:Env} {ds:List Deferred} (h:(if pre.length=0 then qaV a else qaU a)=true),e.ds=ds->e.s 0=str s->e.s 26=int .i64 (s.length:Int)->e.s 27=int .i64 ((pre.length:Int)+1)->qvV (λk ls H'=>∃ pre l1,s=pre++l1/\k=l1.length/\ls=[(0,str s),(26,int .i64 (s.length:Int)),(27,int .i64 (pre.length:Int))]/\H'=[]/\isNm s=chkN pre.length l1) (a::l2).length ds e []:=λ{e ds} h hd e0 e26 e27=>by
  rw[h,Bool.true_and] at hI;exact⟨l2.length,_,_,lt_succ_self _,⟨pre++[a],l2,by rw[hLe];simp,rfl,rfl,rfl,by rw[hI,zLa];rfl⟩,⟨e0,e26,e27.trans (qao (by simp)),trivial⟩,zhR _,hd⟩
 refine gaa ?_;refine oP (pI (c:=a) rfl rfl zo hget) rfl<|gad ?_;refine LOps.cut [(0,str s),(3,int .i64 (pre.length:Int)),(4,bool (qaV a)),(26,int .i64 (s.length:Int)),(27,int .i64 (pre.length:Int))] ?_ (λj2 hj2=>?_);refine oB 34 rfl (λh6=>?_) (λh6=>?_);refine zQ70 ?_;refine gan ?_;exact⟨⟨rfl,rfl,qau (by unfold qaV;rw[show decide (97<=cv a)=true from h6,Bool.true_and]),rfl,rfl,trivial⟩,rfl,rfl⟩;refine gab ?_;exact⟨⟨rfl,rfl,qau (by unfold qaV;rw[show decide (97<=cv a)=false from h6,zRs]),rfl,rfl,trivial⟩,rfl,rfl⟩;refine gac ?_;refine oB 42 rfl (λh7=>?_) (λh7=>?_);rotate_left
 ·have hl1:qaV a=true:=by simpa using h7
  refine gad ?_;refine oC rfl (λhc=>by cases hc) (λ_=>?_);refine gaa ?_;refine next ?_ ?_ ?_ ?_ ?_
  rw[hl1];unfold qaU;rw[hl1];split <;> rfl;exact hj2.trans hj;rfl;rfl;rfl
 have hl0:qaV a=false:=by simpa using h7
 refine gab ?_;refine oB 45 rfl (λh8=>?_) (λh8=>?_);have hp0:pre.length=0:=by have:=zt h8;omega
 refine gad ?_;refine oC rfl (λ_=>?_) (λhc=>by cases hc);refine gaa ?_;exact retF (by rw[hI,zp hp0,hl0,zRs]) (hj2.trans hj) rfl;have hp0:¬ pre.length=0:=by have:=zf h8;omega
 rw[zn hp0] at hI;refine zQ70 ?_;refine gad ?_;refine oB 50 rfl (λh9=>?_) (λh9=>?_);rotate_left
 ·have h95:decide (cv a=95)=true:=by simpa using h9
  refine gad ?_;refine oC rfl (λhc=>by cases hc) (λ_=>?_);refine gaa ?_;refine next ?_ ?_ ?_ ?_ ?_
  rw[zn hp0];unfold qaU;rw[h95,Bool.or_true];exact hj2.trans hj;rfl;rfl;rfl
 have h95:decide (cv a=95)=false:=by simpa using h9
 refine zQ70 ?_;refine gab ?_;refine oB 55 rfl (λh10=>?_) (λh10=>?_)
 have h48:decide (48<=cv a)=false:=by
  have:cv a<48:=zt h10;exact decide_eq_false zo
 refine gab ?_;refine oC rfl (λ_=>?_) (λhc=>by cases hc);refine gaa ?_;exact retF (by rw[hI];unfold qaU qar;rw[hl0,h95,h48];rfl) (hj2.trans hj) rfl
 have h48:decide (48<=cv a)=true:=by
  have:¬ cv a<48:=zf h10;exact zRp zo
 refine zQ70 ?_;refine gad ?_;refine oC rfl (λh11=>?_) (λh11=>?_)
 have h57:decide (cv a<=57)=false:=by
  have:57<cv a:=zt h11;exact decide_eq_false zo
 refine gaa ?_;exact retF (by rw[hI];unfold qaU qar;rw[hl0,h95,h57,Bool.and_false];rfl) (hj2.trans hj) rfl
 have h57:decide (cv a<=57)=true:=by
  have:¬ 57<cv a:=zf h11;exact zRp zo
 refine gaa ?_;refine next ?_ ?_ ?_ ?_ ?_
 rw[zn hp0];unfold qaU qar;rw[h48,h57];simp;exact hj2.trans hj;rfl;rfl;rfl
end
structure KB where
 cb:Nat
 gm:Nat
 vm:Nat
 am:Nat
 fm:Nat
 om:Nat
 G:KV
 V:KV
 A:KV
 F:KV
 O:KV
 g1:Nat
 g2:Nat
 g3:Nat
 g4:Nat
 g5:Nat
 name:List UInt8
def qjt(f:FSum):LV:=.agg [int .i64 (f.params:Int),int .i64 (f.need:Int),int .i64 (f.depth:Int)]
structure KBok(k:KB)(c:CEnv):Prop where
 G:qdO k.G c.globals
 V:qdO k.V c.vars
 A:qdO k.A c.arrays
 O:qdO k.O c.own
 F:∀ n,GL.kvGet k.F n=(c.fn n).map qjt
def ckH(k:KB)(d:Nat):Heap:=[(k.cb,.cells 105 [.atom (.map (some k.gm)),.atom (.map (some k.vm)),.atom (.map (some k.am)),.atom (.map (some k.fm)),str k.name,.atom (.map (some k.om)),int .i64 (d:Int)]),(k.gm,.map (kvs k.G) k.g1),(k.vm,.map (kvs k.V) k.g2),(k.am,.map (kvs k.A) k.g3),(k.fm,.map (kvs k.F) k.g4),(k.om,.map (kvs k.O) k.g5)]
def qh6(err:Int)(lv:LV)(H':Heap)(r:LRes)(H:Heap):Prop:=(err=0/\r=.ret lv/\H=H')∨(err≠0/\(∃ nm,r=.panic (vio nm err))/\H=[])
section
variable{C:Ctx}{n:Nat}{e:Env}{H:Heap}{dst:Option Nat}{ty:TypeId}{pos:String}{aft:Array Edge}{g:Option (Nat×Bool)}{K:LV->Heap->Prop}{X:List PanicEntry->Heap->Prop}
theorem sK{H1 F:Heap}{f:FuncId} [TEnter C.P f](args:List Operand){ats:Array TypeId}{av:List LV}(has:args.map e.ev=av)(hp:H.Perm (H1++F))
  (hc:LCalls C f av H1 (qh6 err lv H')) (hk:err=0->K lv (H'++F)) (hx:∀ nm,err≠0->X (vio nm err) F):qae C ⟨dst,.call { callee:=.value (.func f),args:=args.toArray,argTypes:=ats },ty,pos,aft,g⟩ e H K X:=by
 refine S.callH args has hp hc ?_ ?_;rintro v H2 (⟨h1,h2,rfl⟩|⟨_,⟨nm,h2⟩,_⟩);cases h2;exact hk h1;cases h2;rintro ch H2 (⟨_,h2,_⟩|⟨h1,⟨nm,h2⟩,rfl⟩);cases h2;cases h2;exact hx nm h1
theorem qae.callK{f:FuncId} [TEnter C.P f](args:List Operand){ats:Array TypeId}{av:List LV}(has:args.map e.ev=av)
  (hc:LCalls C f av H (qh6 err lv H')) (hk:err=0->K lv H') (hx:∀ nm,err≠0->X (vio nm err) []):qae C ⟨dst,.call { callee:=.value (.func f),args:=args.toArray,argTypes:=ats },ty,pos,aft,g⟩ e H K X:=by
 refine qae.conseq (sK (F:=[]) (K:=λlv H'=>K lv H') (X:=X) args has (by rw[zLz]) hc (λh=>by rw[zLz];exact hk h) hx) (λlv H' h=>⟨lv,H',vR _,zhR _,h⟩)
theorem retK{vs:List LV}(hd:e.ds=[])(h:qbQ C n e H rs vs)(he:err=0)(hv:qbE vs=lv)(hH:HSub H' H):qad C n rs (qh6 err lv H') .ret e H:=
 rR hd h hH (.inl ⟨he,by rw[hv],rfl⟩)
theorem qv0{vs:List LV}(hd:e.ds=[])(h:qbQ C n e H rs vs)(he:err=0)(hv:qbE vs=lv)(hH:HSub H' H):qad C n rs (qh6 err lv H') .normal e H:=
 rO hd h hH (.inl ⟨he,by rw[hv],rfl⟩)
theorem panK{er:Int}{nm:List UInt8}(hd:e.ds=[])(he:err=er)(h0:er≠0):qad C n rs (qh6 err lv H') (.panic (vio nm er)) e H:=
 qad.panic hd zhn (.inr ⟨by rw[he];exact h0,⟨nm,by rw[he]⟩,rfl⟩)
end
section
variable{B0:Nat}{w0:World}
theorem qav(b:Bool)(nm:List UInt8)(er:Int)(h0:er≠0):LCalls (KC B0 w0) 92 [bool b,str nm,int .i64 er] [] (qh6 (if b=true then 0 else er) (.tuple []) []):=
 LCalls.mono (qnc b nm er) λr H ⟨h1,h2⟩=>by
  cases b with
  |true=>exact .inl ⟨rfl,h2,h1⟩
  |false=>exact .inr ⟨h0,⟨nm,h2⟩,h1⟩
theorem qbT{k:KB}{c:CEnv}(hk:KBok k c)(d:Nat)(name:List UInt8):LCalls (KC B0 w0) 214 [ptr k.cb 0,str name] (ckH k d) (qh6 (qb9 c name) (.tuple []) (ckH k d)):=by
 generalize hI:qb9 c name=E;unfold qb9 at hI;refine cJ Tryz.func214 (n:=34) ?_;refine gaa ?_;refine oP (Pure.setHas rfl rfl zm2 hk.V) rfl ?_;have both:∀ {e:Env} {Q:Post} {ops:Array Oper} {rest:List Oper} {n:Nat},True:=λ{_ _ _ _ _}=>trivial;refine oB 10 rfl (λh1=>?_) (λh1=>?_);have hin:name∈c.vars∨name∈c.own:=.inl (zt h1);refine gaa ?_;refine oS (sK (H1:=[]) (F:=ckH k d) [_,_,_] rfl zpr (qav true name 10 zDd) (λ_=>?_) (λnm h=>absurd rfl h)) rfl;refine gag ?_;refine oS (sK (H1:=[]) (F:=ckH k d) [_,_,_] rfl zpr (qav true name 7 zDd) (λ_=>?_) (λnm h=>absurd rfl h)) rfl;refine gaf ?_;exact qv0 rfl rN (by rw[<-hI,zp hin]) rfl zhr;have hv:name ∉ c.vars:=zf h1;refine gab ?_;refine oP (Pure.setHas rfl rfl zm5 hk.O) rfl<|oB 17 rfl (λh2=>?_) (λh2=>?_);have hin:name∈c.vars∨name∈c.own:=.inr (zt h2);refine gaa ?_;refine oS (sK (H1:=[]) (F:=ckH k d) [_,_,_] rfl zpr (qav true name 10 zDd) (λ_=>?_) (λnm h=>absurd rfl h)) rfl;refine gag ?_;refine oS (sK (H1:=[]) (F:=ckH k d) [_,_,_] rfl zpr (qav true name 7 zDd) (λ_=>?_) (λnm h=>absurd rfl h)) rfl;refine gaf ?_;exact qv0 rfl rN (by rw[<-hI,zp hin]) rfl zhr;have ho:name ∉ c.own:=zf h2;rw[zn (λh=>h.elim hv ho)] at hI;refine gaa ?_;refine oP (Pure.setHas rfl rfl zm1 hk.G) rfl<|oB 26 rfl (λh3=>?_) (λh3=>?_);rw[zp (zt h3)] at hI;refine gad ?_;refine oS (sK (H1:=[]) (F:=ckH k d) [_,_,_] rfl zpr (qav false name 10 zDd) (λh=>absurd h zDd) (λnm _ e' he'=>?_)) rfl;refine gak ?_;exact panK (he'.trans rfl) (by rw[<-hI];rfl) zDd;rw[zn (zf h3)] at hI;refine gad ?_;refine oS (sK (H1:=[]) (F:=ckH k d) [_,_,_] rfl zpr (qav true name 10 zDd) (λ_=>?_) (λnm h=>absurd rfl h)) rfl;refine gag ?_;refine oS (sK (H1:=[]) (F:=ckH k d) [_,_,_] rfl zpr (qav false name 7 zDd) (λh=>absurd h zDd) (λnm _ e' he'=>?_)) rfl;exact panK (he'.trans rfl) (by rw[<-hI];rfl) zDd
theorem qeL{k:KB}{c:CEnv}(hk:KBok k c)(d:Nat)(name:List UInt8):LCalls (KC B0 w0) 215 [ptr k.cb 0,str name] (ckH k d) (qh6 (qdB c name) (.tuple []) (ckH k d)):=by
 generalize hI:qdB c name=E;unfold qdB at hI;refine cJ Tryz.func215 (n:=35) ?_;refine gaa ?_;refine oP (Pure.setHas rfl rfl zm3 hk.A) rfl<|oB 10 rfl (λh1=>?_) (λh1=>?_);refine gac ?_;refine oS (sK (H1:=[]) (F:=ckH k d) [_,_,_] rfl zpr (qav true name 10 zDd) (λ_=>?_) (λnm h=>absurd rfl h)) rfl;refine gag ?_;refine oS (sK (H1:=[]) (F:=ckH k d) [_,_,_] rfl zpr (qav true name 7 zDd) (λ_=>?_) (λnm h=>absurd rfl h)) rfl;refine gaf ?_;exact qv0 rfl rN (by rw[<-hI,zp (zt h1)]) rfl zhr;rw[zn (zf h1)] at hI;refine gaa ?_;refine oP (Pure.setHas rfl rfl zm1 hk.G) rfl<|oB 18 rfl (λh2=>?_) (λh2=>?_);have hin:name∈c.globals∨name∈c.own:=.inl (zt h2);refine gad ?_;refine oS (sK (H1:=[]) (F:=ckH k d) [_,_,_] rfl zpr (qav false name 10 zDd) (λh=>absurd h zDd) (λnm _ e' he'=>?_)) rfl;refine gak ?_;exact panK (he'.trans rfl) (by rw[<-hI,zp hin];rfl) zDd;refine gad ?_;refine oP (Pure.setHas rfl rfl zm5 hk.O) rfl<|oB 26 rfl (λh3=>?_) (λh3=>?_);have hin:name∈c.globals∨name∈c.own:=.inr (zt h3);refine gad ?_;refine oS (sK (H1:=[]) (F:=ckH k d) [_,_,_] rfl zpr (qav false name 10 zDd) (λh=>absurd h zDd) (λnm _ e' he'=>?_)) rfl;refine gak ?_;exact panK (he'.trans rfl) (by rw[<-hI,zp hin];rfl) zDd;rw[zn (λh=>h.elim (zf h2) (zf h3))] at hI;refine gad ?_;refine oS (sK (H1:=[]) (F:=ckH k d) [_,_,_] rfl zpr (qav true name 10 zDd) (λ_=>?_) (λnm h=>absurd rfl h)) rfl;refine gag ?_;refine oS (sK (H1:=[]) (F:=ckH k d) [_,_,_] rfl zpr (qav false name 7 zDd) (λh=>absurd h zDd) (λnm _ e' he'=>?_)) rfl;exact panK (he'.trans rfl) (by rw[<-hI];rfl) zDd
end
end Go.Proofs.YtegmklafpoldgaaGreatDoor.Chk
