/- Texts joined: RI1, RI2, RI3, RI4, RI5, RI6, Shelf, Lex2, FmtUint, Lex3, Lex4, Lex5, Lex6, ParP1, ParP2. -/
import Derived.Shelf.Strings.Builder1
import Derived.Shelf.Strings.Builder2
import Derived.Shelf.Strings.BuilderF
import Derived.Shelf.Strings.BuilderK
import Derived.Shelf.Utf8.RuneCount
import Derived.Shelf.Strings.Builder2Cap
import Derived.Shelf.Strconv.Itoa0
import Derived.Shelf.Strconv.Itoa1
import Derived.Shelf.LaysM
import Derived.Shelf.Strconv.Itoa2
import Derived.Shelf.Strconv.Itoa3
import Derived.Shelf.Strconv.Clone
import Derived.Shelf.Strconv.SyntaxError
import Derived.Shelf.LaysC
import Derived.Shelf.Strconv.ToError
import Derived.Shelf.Strconv.Lower
import Derived.Shelf.Strconv.ParseUint10
import Derived.Shelf.Strconv.ParseUint10Empty
import Derived.Shelf.Strconv.ParseUint10Any
import Derived.Shelf.Strconv.RangeError
import Derived.Shelf.Strconv.ToErrorRange
import Derived.Shelf.Strconv.ParseUintEmpty
import Derived.Shelf.Strconv.ParseUint10b64
import Derived.Shelf.Strconv.ParseUint10b32
import Derived.Shelf.Strconv.ParseUint10b16
import Derived.Shelf.Strconv.ParseUint10b8
import Derived.Shelf.Strconv.ParseUint10At
import Derived.Ground.MpProg
import Derived.Shelf.Pu.ParseUintPublic10
import Derived.Shelf.Pu.ErrVarParseUint
import Derived.Shelf.Strings.Search1
import Derived.Shelf.Strings.Search2
import Derived.Shelf.Strings.Search3
import Derived.Shelf.Strings.Count
import Derived.Shelf.Strings.Shaped
import Derived.Shelf.Strings.Prefix
import Derived.Shelf.Strings.Split
import Derived.Shelf.Strings.Replace
import Derived.Shelf.Strings.SplitShaped
import Derived.Shelf.Unicode.Decode
import Derived.Shelf.Strings.RuneCount
import Derived.Shelf.Unicode.DecodeSlow
import Derived.Shelf.Unicode.DecodeAny
import Derived.Shelf.Strings.BuilderCap
import Derived.Shelf.Slices.Turned
import Derived.Ground.Names2Prog
import Derived.Shelf.Slices.Clone
import Derived.Test.YtcbpcianefpniaaGreatDoorProg
import Derived.Lib.Walk
import Derived.Lib.ItoaMem
import Derived.Lib.AppendIntMem
import Derived.WalkKit
import Derived.BigCall
import Derived.BigGuard
import Derived.Below
import Derived.WalkSmall
import Derived.Test.YtcbpcianefpniaaGreatDoorBRowIR1
import Derived.Test.YtcbpcianefpniaaGreatDoorBRowIR3
set_option linter.unusedVariables false
set_option linter.unusedSimpArgs false
namespace Go.Proofs.YtcbpcianefpniaaGreatDoor.RI
open Go.GL Go.RowKit Go.Stele
open Go.Proofs.YtcbpcianefpniaaGreatDoor.Inp (u32 u32_eq wrapU b2n_dec b2n_not arKV arH Cfg CfgOk Good xor_u32 neg_u32)
open Go.Proofs.YtcbpcianefpniaaGreatDoor.RC (get_mid more none_left pre_le snoc mem_snoc)
set_option maxRecDepth 100000
set_option maxHeartbeats 4000000
def ScR (m:KV) (s:IS):Prop:=∀ k,GL.kvGet m k=some (u32 (s.sc k))∨(GL.kvGet m k=none∧s.sc k=0)
@[reducible] def runRC (c:Cfg) (s:IS) (v:LV):List LV:=[.list (c.p.vars.map str),.list (c.p.arrays.map encAr),.list (c.p.funcs.map encFn),.atom (.map (some c.sm)),.atom (.map (some c.am)),.list (s.inp.map u32),v,int .i64 ((c.lim-s.left:Nat):Int),int .i64 (c.lim:Int)]
@[reducible] def stRH (c:Cfg) (s:IS) (v:LV) (m:KV) (ck:Nat) (Ha:Heap):Heap:=(c.rb,.cells 79 (runRC c s v))::(c.sm,.map (kvs m) ck)::(c.am,.map (kvs (arKV c.ab)) c.ac)::(arH c.ab s++Ha)
def StR (c:Cfg) (s:IS) (H:Heap):Prop:=(∀ q∈c.ab,(s.ar q.1).length=q.2.2)∧s.left≤c.lim∧∃ v Ha m ck,Acc 1 v (byts s.out) Ha []∧ScR m s∧H=stRH c s v m ck Ha
@[reducible] def resV (v:Nat) (en er:Int):LV:=.agg [u32 v,int .i64 en,int .i64 er]
@[reducible] def resH (b:Nat) (v:Nat) (en er:Int):Nat×LObj:=(b,.cells 81 [u32 v,int .i64 en,int .i64 er])
@[reducible] def fnH (b:Nat) (f:FnD):Nat×LObj:=(b,.cells 63 [str f.name,.list (f.params.map str),.list (f.locals.map str),.list (f.body.map encS)])
@[reducible] def exH (b:Nat) (op:Nm) (num:Nat) (name:Nm) (args:List Ex):Nat×LObj:=(b,.cells 170 [str op,int .u32 (num:Int),str name,.list (args.map encE)])
@[reducible] def smH (b:Nat) (kind:Int) (name:Nm) (index value:List Ex) (thn els:List Sm):Nat×LObj:=(b,.cells 128 [int .i64 kind,str name,.list (index.map encE),.list (value.map encE),.list (thn.map encS),.list (els.map encS)])
def stopE (e:Int):Int:=if e=0 then 2 else 3
def encV (v:Nat):Nat×Int:=(v,0)
def encO:Option Nat→Nat×Int
 |none=>(0,0)
 |some v=>(v,1)
def PostR {A:Type} (c:Cfg) (enc:A→Nat×Int) (r:IR A) (res:LRes) (H:Heap):Prop:=match r with
 |.ok v s=>res=.ret (resV (enc v).1 (enc v).2 0)∧StR c s H
 |.stop e s=>res=.ret (resV 0 (stopE e) e)∧StR c s H
theorem resV_inj {v w:Nat} {a b x y:Int} (h:LRes.ret (resV v a x)=.ret (resV w b y)):v=w∧a=b∧x=y:=by
 simp only[resV,LRes.ret.injEq,LV.agg.injEq,List.cons.injEq,LV.atom.injEq,Value.int.injEq,and_true,true_and] at h
 exact ⟨by omega,h.2.1,h.2.2⟩
theorem PostR.ok {A:Type} {c:Cfg} {enc:A→Nat×Int} {w:A} {s:IS} {v:Nat} {en er:Int} {H:Heap} (h:PostR c enc (.ok w s) (.ret (resV v en er)) H):v=(enc w).1∧en=(enc w).2∧er=0∧StR c s H:=by
 obtain ⟨h1,h2⟩:=h
 obtain ⟨a,b,d⟩:=resV_inj h1
 exact ⟨a,b,d,h2⟩
theorem PostR.stop {A:Type} {c:Cfg} {enc:A→Nat×Int} {e:Int} {s:IS} {v:Nat} {en er:Int} {H:Heap} (h:PostR c enc (.stop e s) (.ret (resV v en er)) H):v=0∧en=stopE e∧er=e∧StR c s H:=by
 obtain ⟨h1,h2⟩:=h
 obtain ⟨a,b,d⟩:=resV_inj h1
 exact ⟨a,b,d,h2⟩
theorem stopE_ne (e:Int):stopE e≠0∧stopE e≠1:=by unfold stopE;split <;> decide
section steps
variable {C:Ctx} {n:Nat} {e:Env} {H:Heap} {dst:Option Nat} {ty:TypeId} {pos:String} {aft:Array Edge} {g:Option (Nat×Bool)} {K:LV→Heap→Prop} {X:List PanicEntry→Heap→Prop}
theorem S.callR {A:Type} {c:Cfg} {enc:A→Nat×Int} {r:IR A} {f:FuncId} [TEnter C.P f] (args:List Operand) {ats:Array TypeId} {av:List LV} {H1 F:Heap} (has:args.map e.ev=av) (hp:H.Perm (H1++F))
  (hc:LCalls C f av H1 (PostR c enc r)) (hk:∀ v en er H',PostR c enc r (.ret (resV v en er)) H'→K (resV v en er) (H'++F)) :
  LStep C ⟨dst,.call { callee:=.value (.func f),args:=args.toArray,argTypes:=ats },ty,pos,aft,g⟩ e H K X:=by
 refine S.callH args has hp hc ?_ ?_
 ·intro v H' h
  cases r with
  |ok w s=>
   have h0:=h
   obtain ⟨h1,_⟩:=h
   cases h1
   exact hk _ _ _ _ h0
  |stop er s=>
   have h0:=h
   obtain ⟨h1,_⟩:=h
   cases h1
   exact hk _ _ _ _ h0
 ·intro ch H' h
  cases r with
  |ok w s=>obtain ⟨h1,_⟩:=h;cases h1
  |stop er s=>obtain ⟨h1,_⟩:=h;cases h1
theorem LStep.callR {A:Type} {c:Cfg} {enc:A→Nat×Int} {r:IR A} {f:FuncId} [TEnter C.P f] (args:List Operand) {ats:Array TypeId} {av:List LV} (has:args.map e.ev=av)
  (hc:LCalls C f av H (PostR c enc r)) (hk:∀ v en er H',PostR c enc r (.ret (resV v en er)) H'→K (resV v en er) H') :
  LStep C ⟨dst,.call { callee:=.value (.func f),args:=args.toArray,argTypes:=ats },ty,pos,aft,g⟩ e H K X:=by
 refine LStep.conseq (S.callR (F:=[]) (K:=fun lv H'=>K lv H') (X:=X) args has (by rw[List.append_nil]) hc (fun v en er H' h=>by rw[List.append_nil];exact hk v en er H' h)) (fun lv H' h=>⟨lv,H',LV.Sub.refl _,HSub.refl _,h⟩)
theorem retR {A:Type} {c:Cfg} {enc:A→Nat×Int} {r:IR A} {rs:List ResultVar} {vs:List LV} {v:Nat} {en er:Int} {H':Heap} (hd:e.ds=[]) (h:AllRes C n e H rs vs) (hv:resLV vs=resV v en er) (hH:HSub H' H) (hp:PostR c enc r (.ret (resV v en er)) H') :
  RetPost C n rs (PostR c enc r) .ret e H:=rR hd h hH (by rw[hv];exact hp)
instance:TMap Tryz.prog 77 43 (.int .u32 0) (u32 0):=⟨⟨9,by kernel_rfl,by kernel_rfl⟩,fun w=>(Go.zero_of_info (P:=Tryz.prog) (n:=1) zk).1 w,fun _ _=>rep_atom⟩
theorem Pure.to {C:Ctx} {o:Oper} {lv lv':LV} (h:GL.Pure C o e H lv) (he:lv=lv'):GL.Pure C o e H lv':=he▸h
theorem Pure.scGet {B0:Nat} {w0:World} {x y:Operand} {b ck:Nat} {m:KV} {s:IS} {k:Nm} (hm:e.ev x=.atom (.map (some b))) (hx:e.ev y=str k) (hb:(b,.map (kvs m) ck)∈H) (hs:ScR m s):GL.Pure (KC B0 w0) ⟨dst,.lookup 77 x y false,ty,pos,aft,g⟩ e H (u32 (s.sc k)):=by
 rcases hs k with h|⟨h,h0⟩
 ·exact Pure.kvHit hm hx hb h
 ·rw[h0]
  exact Pure.kvMiss hm hx hb h
end steps
theorem ScR.put {m:KV} {s:IS} (h:ScR m s) (k:Nm) (v:Nat):ScR (GL.kvPut m k (u32 v)) (setSc s k v):=fun x=>by
 rw[kvGet_put]
 by_cases hx:k=x
 ·subst hx
  rw[if_pos rfl]
  exact .inl (by show some (u32 v)=some (u32 (if k=k then v else s.sc k));rw[if_pos rfl])
 ·rw[if_neg hx]
  have e:(setSc s k v).sc x=s.sc x:=by
   show (if x=k then v else s.sc x)=_
   rw[if_neg (Ne.symm hx)]
  rw[e]
  exact h x
theorem find_fn {P:Pr} {f:FnD} (h:(P.funcs.map (·.name)).Nodup) (hf:f∈P.funcs):P.funcs.find? (fun g=>decide (g.name=f.name))=some f:=by
 have:=fnI_mem h hf
 unfold fnI at this
 cases hg:P.funcs.find? fun g=>decide (g.name=f.name) with
 |none=>exact absurd (List.find?_eq_none.1 hg f hf) (by simp)
 |some g=>rw[hg] at this;exact congrArg some this
theorem quo_u32 {a b:Nat} (ha:a<4294967296):IntKind.u32.wrap ((a:Int).tdiv (b:Int))=((a / b:Nat):Int):=by
 have h2:a / b≤a:=Nat.div_le_self a b
 have h3:(a:Int).tdiv (b:Int)=((a / b:Nat):Int):=by
  rw[Int.tdiv_eq_ediv_of_nonneg zo]
  rfl
 rw[h3,wrapU]
 generalize a / b=q at h2 ⊢
 omega
theorem rem_u32 {a b:Nat}:(a:Int).tmod (b:Int)=((a % b:Nat):Int):=by
 rw[Int.tmod_eq_emod_of_nonneg zo]
 rfl
attribute [local irreducible] LOps LCode LStep LCalls Go.GL.Pure QThen QBlock RetPost LQ LAny LLate LLateOp LS
section
variable {B0:Nat} {w0:World} {H:Heap}
theorem fail_spec (er:Int):LCalls (KC B0 w0) 111 [int .i64 er] [] (Ret (resV 0 3 er)):=by
 refine cI Tryz.func111 rfl (n:=5) rfl rfl rfl ?_
 refine gai ?_
 refine oS (S.alloc fun b2=>?_) rfl
 refine gaa ?_
 exact retRet rfl (rC (rA (k:=3) rfl zm0 rfl zsr) rN) rfl
theorem one_spec (b:Bool):LCalls (KC B0 w0) 161 [bool b] [] (Ret (u32 (b2n b))):=by
 refine cI Tryz.func161 rfl (n:=4) rfl rfl rfl ?_
 refine gav ?_
 refine oC rfl (fun hc=>?_) (fun hc=>?_)
 ·refine gau ?_
  exact retRet rfl (zra rfl) (by rw[hc];rfl)
 ·refine gab ?_
  exact retRet rfl (zra rfl) (by rw[hc];rfl)
def PostT (c:Cfg) (s:IS) (r:LRes) (H':Heap):Prop:=match tick s with
 |.ok _ s'=>r=.ret (bool true)∧StR c s' H'
 |.stop _ s'=>r=.ret (bool false)∧StR c s' H'
theorem count_spec {c:Cfg} (hC:CfgOk c) {s:IS} (hs:StR c s H):LCalls (KC B0 w0) 110 [ptr c.rb 0] H (PostT c s):=by
 have hs0:=hs
 have hlim:=hC.lim
 obtain ⟨hl,hle,v,Ha,m,ck,hacc,hsc,rfl⟩:=hs
 refine cI Tryz.func110 rfl (n:=19) rfl rfl rfl ?_
 refine ga2 ?_
 refine LCode.quiet zk ?_
 refine gaf ?_
 refine oC rfl (fun hc=>?_) (fun hc=>?_)
 ·have h0:s.left=0:=by have:=zt hc;omega
  refine gau ?_
  refine rR rfl (zra rfl) zhr ?_
  unfold PostT
  rw[tick,if_pos h0]
  exact ⟨rfl,hs0⟩
 ·have h0:¬ s.left=0:=by have:=zf hc;omega
  refine gaa ?_
  have e2:((c.lim-s.left:Nat):Int)+1=((c.lim-(s.left-1):Nat):Int):=by omega
  rw[e2]
  refine rR rfl (zra rfl) zhr ?_
  unfold PostT
  rw[tick,if_neg h0]
  exact ⟨rfl,hl,by show s.left-1≤c.lim;omega,v,Ha,m,ck,hacc,hsc,rfl⟩
theorem key_spec {c:Cfg} (hC:CfgOk c) {f:FnD} (hf:f∈c.p.funcs) (name:Nm):LCalls (KC B0 w0) 113 [encFn f,str name] [] (Ret (str (keyI f name))):=by
 have hpl:f.params.length≤1000000:=(hC.small.each f hf).params
 have hll:f.locals.length≤1000000:=(hC.small.each f hf).locals
 have hfs:=hC.fshort f hf
 have own:name∈f.params++f.locals→name.length≤49:=fun h=>by
  have:=hC.short _ ((own_key hC.valid.names hf name).2 h)
  simp only[List.length_append,List.length_cons,List.length_nil] at this
  omega
 refine cI Tryz.func113 rfl (n:=46) rfl rfl rfl ?_
 refine gai ?_
 refine oS (S.box rfl fun b2=>?_) rfl
 refine gab ?_
 refine oL (fun k ls H'=>∃ pre l1,f.params=pre++l1∧k=l1.length∧ls=[(1,str name),(2,ptr b2 0),(5,int .i64 (pre.length:Int))]∧H'=[fnH b2 f]∧name ∉ pre)
  ⟨_,_,_,⟨[],f.params,rfl,rfl,rfl,rfl,List.not_mem_nil⟩,⟨rfl,rfl,rfl,trivial⟩,HSub.refl _⟩ ?_
 rintro k ls H' ⟨pre,l1,hL,rfl,rfl,rfl,hn⟩ j hj
 have hb:=pre_le hL hpl
 refine gaa ?_
 refine oC rfl (fun hc=>?_) (fun hc=>?_)
 ·obtain ⟨a,l2,rfl⟩:=more (g:=str) hL hc
  refine gaa ?_
  refine oP (xR (el':=str a) (cs:=[_]) rfl rfl zo (by rw[hL];exact get_mid str pre a l2) rfl rfl) rfl ?_
  refine gac ?_
  refine oC rfl (fun hd=>?_) (fun hd=>?_)
  ·have he:a=name:=zt hd
   have hm:name∈f.params:=by rw[hL,he];simp
   have:=own (List.mem_append_left _ hm)
   refine gaa ?_
   exact retRet hj (zra rfl) (str_eq (by unfold keyI;rw[if_pos (.inl hm)]))
  ·have he:¬ a=name:=zf hd
   refine gab ?_
   exact ⟨l2.length,_,_,Nat.lt_succ_self _,⟨pre++[a],l2,snoc hL,rfl,rfl,rfl,mem_snoc hn fun h=>he h.symm⟩,⟨rfl,rfl,int_eq (by simp),trivial⟩,HSub.refl _,hj⟩
 obtain rfl:=none_left (g:=str) hL hc
 rw[List.append_nil] at hL
 rw[←hL] at hn
 refine gab ?_
 refine oL (fun k ls H'=>∃ pre l1,f.locals=pre++l1∧k=l1.length∧ls=[(1,str name),(2,ptr b2 0),(6,int .i64 (pre.length:Int))]∧H'=[fnH b2 f]∧name ∉ pre)
  ⟨_,_,_,⟨[],f.locals,rfl,rfl,rfl,rfl,List.not_mem_nil⟩,⟨rfl,rfl,rfl,trivial⟩,HSub.refl _⟩ ?_
 rintro k ls H' ⟨pre2,l1,hL2,rfl,rfl,rfl,hn2⟩ j2 hj2
 have hb2:=pre_le hL2 hll
 refine gaa ?_
 refine oC rfl (fun hc2=>?_) (fun hc2=>?_)
 ·obtain ⟨a,l2,rfl⟩:=more (g:=str) hL2 hc2
  refine gaa ?_
  refine oP (xR (el':=str a) (cs:=[_]) rfl rfl zo (by rw[hL2];exact get_mid str pre2 a l2) rfl rfl) rfl ?_
  refine gac ?_
  refine oC rfl (fun hd=>?_) (fun hd=>?_)
  ·have he:a=name:=zt hd
   have hm:name∈f.locals:=by rw[hL2,he];simp
   have:=own (List.mem_append_right _ hm)
   refine gaa ?_
   exact retRet (hj2.trans hj) (zra rfl) (str_eq (by unfold keyI;rw[if_pos (.inr hm)]))
  ·have he:¬ a=name:=zf hd
   refine gab ?_
   exact ⟨l2.length,_,_,Nat.lt_succ_self _,⟨pre2++[a],l2,snoc hL2,rfl,rfl,rfl,mem_snoc hn2 fun h=>he h.symm⟩,⟨rfl,rfl,int_eq (by simp),trivial⟩,HSub.refl _,hj2⟩
 obtain rfl:=none_left (g:=str) hL2 hc2
 rw[List.append_nil] at hL2
 rw[←hL2] at hn2
 refine gab ?_
 exact retRet (hj2.trans hj) (zra rfl) (str_eq (by unfold keyI;rw[if_neg (fun h=>h.elim hn hn2)]))
theorem function_spec {p:Pr} {name:Nm} {f:FnD} (hfl:p.funcs.length≤1000000) (hfind:p.funcs.find? (fun g=>decide (g.name=name))=some f):LCalls (KC B0 w0) 188 [encPr p,str name] [] (Ret (encFn f)):=by
 unfold encPr
 refine cI Tryz.func188 rfl (n:=27) rfl rfl rfl ?_
 refine gai ?_
 refine oS (S.box rfl fun b2=>?_) rfl
 refine oS (S.alloc fun b4=>?_) rfl
 refine gab ?_
 refine oL (fun k ls H'=>∃ pre l1,p.funcs=pre++l1∧k=l1.length∧ls=[(1,str name),(2,ptr b2 0),(4,ptr b4 0),(5,int .i64 (pre.length:Int))]∧H'=[(b4,.cells 63 [str [],nilSlice,nilSlice,nilSlice]),(b2,.cells 33 [.list (p.vars.map str),.list (p.arrays.map encAr),.list (p.funcs.map encFn)])]∧l1.find? (fun g=>decide (g.name=name))=some f)
  ⟨_,_,_,⟨[],p.funcs,rfl,rfl,rfl,rfl,hfind⟩,⟨rfl,rfl,rfl,rfl,trivial⟩,HSub.refl _⟩ ?_
 rintro k ls H' ⟨pre,l1,hL,rfl,rfl,rfl,hfi⟩ j hj
 have hb:=pre_le hL hfl
 refine gaa ?_
 refine oC rfl (fun hc=>?_) (fun hc=>?_)
 rotate_left
 ·obtain rfl:=none_left (g:=encFn) hL hc
  cases hfi
 obtain ⟨a,l2,rfl⟩:=more (g:=encFn) hL hc
 rw[List.find?_cons] at hfi
 refine gaa ?_
 refine oP (xR (el':=encFn a) (cs:=[_,_,_,_]) rfl rfl zo (by rw[hL];exact get_mid encFn pre a l2) rfl rfl) rfl ?_
 refine gac ?_
 by_cases he:a.name=name
 ·rw[decide_eq_true he] at hfi
  have haf:a=f:=Option.some.inj hfi
  subst haf
  refine oC rfl (fun _=>?_) (fun hd=>absurd he (zf hd))
  refine gaa ?_
  refine oP (xR (el':=encFn a) (cs:=[_,_,_,_]) rfl rfl zo (by rw[hL];exact get_mid encFn pre a l2) rfl rfl) rfl ?_
  refine gaf ?_
  exact retRet hj (rC (rA rfl zm0 rfl zsr) rN) rfl
 ·rw[decide_eq_false he] at hfi
  refine oC rfl (fun hd=>absurd (zt hd) he) (fun _=>?_)
  refine gab ?_
  exact ⟨l2.length,_,_,Nat.lt_succ_self _,⟨pre++[a],l2,snoc hL,rfl,rfl,rfl,hfi⟩,⟨rfl,rfl,rfl,int_eq (by simp),trivial⟩,HSub.refl _,hj⟩
end
end Go.Proofs.YtcbpcianefpniaaGreatDoor.RI
namespace Go.Proofs.YtcbpcianefpniaaGreatDoor.RI
open Go.GL Go.RowKit Go.Stele
open Go.Proofs.YtcbpcianefpniaaGreatDoor.Inp (u32 u32_eq wrapU b2n_dec b2n_not xor_u32)
set_option maxRecDepth 100000
set_option maxHeartbeats 4000000
def resB:Option Nat→LV
 |some v=>.tuple [u32 v,bool true]
 |none=>.tuple [u32 0,bool false]
theorem resB_eq {o:Option Nat} {v:Nat} {x:LV} (h:o=some v) (hx:x=u32 v):LV.tuple [x,bool true]=resB o:=by rw[h,hx];rfl
attribute [local irreducible] LOps LCode LStep LCalls Go.GL.Pure QThen QBlock RetPost LQ LAny LLate LLateOp LS
section
variable {B0:Nat} {w0:World}
theorem binary_spec {op:Nm} (hop:op∈binOps) {a b:Nat} (ha:a<4294967296) (hb:b<4294967296):LCalls (KC B0 w0) 163 [str op,u32 a,u32 b] [] (Ret (resB (binI op a b))):=by
 refine cI Tryz.func163 rfl (n:=93) rfl rfl rfl ?_
 refine gab ?_
 by_cases h1:op=[43]
 ·subst h1
  refine oC rfl (fun _=>?_) (fun hc=>by cases hc)
  refine gae ?_
  refine oP (Pure.addW rfl rfl) rfl ?_
  refine gal ?_
  exact retRet rfl (rC (zrt rfl) (zra rfl)) (resB_eq (v:=(a+b) % 4294967296) rfl (u32_eq (by rw[wrapU];omega)))
 refine oC rfl (fun hc=>absurd (zt hc) h1) (fun _=>?_)
 refine gaj ?_
 by_cases h2:op=[45]
 ·subst h2
  refine oC rfl (fun _=>?_) (fun hc=>by cases hc)
  refine gae ?_
  refine oP (Pure.subW rfl rfl) rfl ?_
  refine gal ?_
  exact retRet rfl (rC (zrt rfl) (zra rfl)) (resB_eq (v:=(a+4294967296-b) % 4294967296) rfl (u32_eq (by rw[wrapU];omega)))
 refine oC rfl (fun hc=>absurd (zt hc) h2) (fun _=>?_)
 refine gaj ?_
 by_cases h3:op=[42]
 ·subst h3
  refine oC rfl (fun _=>?_) (fun hc=>by cases hc)
  refine gae ?_
  refine oP (Pure.mulW rfl rfl) rfl ?_
  refine gal ?_
  exact retRet rfl (rC (zrt rfl) (zra rfl)) (resB_eq (v:=a * b % 4294967296) rfl (u32_eq (by rw[wrapU,←Int.natCast_mul];generalize a * b=q;omega)))
 refine oC rfl (fun hc=>absurd (zt hc) h3) (fun _=>?_)
 refine gaj ?_
 by_cases h4:op=[94]
 ·subst h4
  refine oC rfl (fun _=>?_) (fun hc=>by cases hc)
  refine gae ?_
  refine oP (Pure.xorW rfl rfl) rfl ?_
  refine gal ?_
  exact retRet rfl (rC (zrt rfl) (zra rfl)) (resB_eq (v:=a ^^^ b) rfl (u32_eq (xor_u32 ha hb)))
 refine oC rfl (fun hc=>absurd (zt hc) h4) (fun _=>?_)
 refine gaj ?_
 by_cases h5:op=[61,61]
 ·subst h5
  refine oC rfl (fun _=>?_) (fun hc=>by cases hc)
  refine gab ?_
  refine oS (S.fn [_] rfl (one_spec _) ?_) rfl
  refine gal ?_
  exact retRet rfl (rC (zrt rfl) (zra rfl)) (resB_eq (v:=b2n (decide (a=b))) rfl (congrArg u32 (b2n_dec zo)))
 refine oC rfl (fun hc=>absurd (zt hc) h5) (fun _=>?_)
 refine gaj ?_
 by_cases h6:op=[33,61]
 ·subst h6
  refine oC rfl (fun _=>?_) (fun hc=>by cases hc)
  refine gab ?_
  refine oS (S.fn [_] rfl (one_spec _) ?_) rfl
  refine gal ?_
  exact retRet rfl (rC (zrt rfl) (zra rfl)) (resB_eq (v:=b2n (decide (a≠b))) rfl (congrArg u32 b2n_not))
 refine oC rfl (fun hc=>absurd (zt hc) h6) (fun _=>?_)
 refine gaj ?_
 by_cases h7:op=[60]
 ·subst h7
  refine oC rfl (fun _=>?_) (fun hc=>by cases hc)
  refine gab ?_
  refine oS (S.fn [_] rfl (one_spec _) ?_) rfl
  refine gal ?_
  exact retRet rfl (rC (zrt rfl) (zra rfl)) (resB_eq (v:=b2n (decide (a<b))) rfl (congrArg u32 (b2n_dec zo)))
 refine oC rfl (fun hc=>absurd (zt hc) h7) (fun _=>?_)
 refine gaj ?_
 by_cases h8:op=[62]
 ·subst h8
  refine oC rfl (fun _=>?_) (fun hc=>by cases hc)
  refine gaa ?_
  refine oS (S.fn [_] rfl (one_spec _) ?_) rfl
  refine gal ?_
  exact retRet rfl (rC (zrt rfl) (zra rfl)) (resB_eq (v:=b2n (decide (b<a))) rfl (congrArg u32 (b2n_dec zo)))
 refine oC rfl (fun hc=>absurd (zt hc) h8) (fun _=>?_)
 refine gaj ?_
 by_cases h9:op=[60,61]
 ·subst h9
  refine oC rfl (fun _=>?_) (fun hc=>by cases hc)
  refine gaa ?_
  refine oS (S.fn [_] rfl (one_spec _) ?_) rfl
  refine gal ?_
  exact retRet rfl (rC (zrt rfl) (zra rfl)) (resB_eq (v:=b2n (decide (a≤b))) rfl (congrArg u32 (b2n_dec zo)))
 refine oC rfl (fun hc=>absurd (zt hc) h9) (fun _=>?_)
 refine gaj ?_
 by_cases h10:op=[62,61]
 ·subst h10
  refine oC rfl (fun _=>?_) (fun hc=>by cases hc)
  refine gaa ?_
  refine oS (S.fn [_] rfl (one_spec _) ?_) rfl
  refine gal ?_
  exact retRet rfl (rC (zrt rfl) (zra rfl)) (resB_eq (v:=b2n (decide (b≤a))) rfl (congrArg u32 (b2n_dec zo)))
 refine oC rfl (fun hc=>absurd (zt hc) h10) (fun _=>?_)
 refine gaj ?_
 have ne0:∀ {x:Nat},(!decide ((x:Int)=0))=decide (x≠0):=fun {x}=>by rw[←decide_not];exact decide_eq_decide.2 zo
 by_cases h11:op=[38,38]
 ·subst h11
  refine oC rfl (fun _=>?_) (fun hc=>by cases hc)
  refine gab ?_
  refine oB 69 (b:=!decide ((a:Int)=0)) rfl (fun g=>?_) (fun g=>?_)
  ·rw[ne0] at g
   refine gad ?_
   refine oS (S.fn [_] rfl (one_spec _) ?_) rfl
   refine gal ?_
   exact retRet rfl (rC (zrt rfl) (zra rfl)) (resB_eq (v:=b2n (decide (a≠0∧b≠0))) rfl (congrArg u32 (by rw[ne0];exact b2n_dec ⟨fun h=>⟨zt g,h⟩,fun h=>h.2⟩)))
  ·rw[ne0] at g
   refine gag ?_
   refine oS (S.fn [_] rfl (one_spec _) ?_) rfl
   refine gal ?_
   exact retRet rfl (rC (zrt rfl) (zra rfl)) (resB_eq (v:=b2n (decide (a≠0∧b≠0))) rfl (congrArg u32 (by rw[decide_eq_false (fun h:a≠0∧b≠0=>zf g h.1)])))
 refine oC rfl (fun hc=>absurd (zt hc) h11) (fun _=>?_)
 refine gaj ?_
 by_cases h12:op=[124,124]
 ·subst h12
  refine oC rfl (fun _=>?_) (fun hc=>by cases hc)
  refine gab ?_
  refine oB 78 (b:=!decide ((a:Int)=0)) rfl (fun g=>?_) (fun g=>?_)
  ·rw[ne0] at g
   refine gad ?_
   refine oS (S.fn [_] rfl (one_spec _) ?_) rfl
   refine gal ?_
   exact retRet rfl (rC (zrt rfl) (zra rfl)) (resB_eq (v:=b2n (decide (a≠0∨b≠0))) rfl (congrArg u32 (by rw[decide_eq_true (show a≠0∨b≠0 from .inl (zt g))])))
  ·rw[ne0] at g
   refine gad ?_
   refine oS (S.fn [_] rfl (one_spec _) ?_) rfl
   refine gal ?_
   exact retRet rfl (rC (zrt rfl) (zra rfl)) (resB_eq (v:=b2n (decide (a≠0∨b≠0))) rfl (congrArg u32 (by rw[ne0];exact b2n_dec ⟨.inr,fun h=>h.elim (fun h=>absurd h (zf g)) id⟩)))
 refine oC rfl (fun hc=>absurd (zt hc) h12) (fun _=>?_)
 refine gab ?_
 have hlast:op=[47]∨op=[37]:=by
  simp only[binOps,List.mem_cons,List.not_mem_nil,or_false] at hop
  rcases hop with h|h|h|h|h|h|h|h|h|h|h|h|h|h
  all_goals first|exact .inl h|exact .inr h|contradiction
 refine oC rfl (fun hz=>?_) (fun hz=>?_)
 ·have hb0:b=0:=by have:=zt hz;omega
  refine gau ?_
  refine retRet rfl (rC (zrt rfl) (zra rfl)) ?_
  rcases hlast with rfl|rfl <;> rw[hb0] <;> rfl
 have hb0:¬ b=0:=by have:=zf hz;omega
 refine gab ?_
 rcases hlast with rfl|rfl
 ·refine oC rfl (fun _=>?_) (fun hc=>by cases hc)
  refine gae ?_
  refine oP (Pure.quoW rfl rfl zo) rfl ?_
  refine gal ?_
  exact retRet rfl (rC (zrt rfl) (zra rfl)) (resB_eq (v:=a / b) (by show (if b=0 then none else _)=_;rw[if_neg hb0];rfl) (u32_eq (quo_u32 ha)))
 ·refine oC rfl (fun hc=>by cases hc) (fun _=>?_)
  refine gax ?_
  refine oP (Pure.remW rfl rfl zo) rfl ?_
  refine gam ?_
  exact retRet rfl (rC (zrt rfl) (zra rfl)) (resB_eq (v:=a % b) (by show (if b=0 then none else _)=_;rw[if_neg hb0];rfl) (u32_eq rem_u32))
end
end Go.Proofs.YtcbpcianefpniaaGreatDoor.RI
namespace Go.Proofs.YtcbpcianefpniaaGreatDoor.RI
open Go.GL Go.RowKit Go.Stele
open Go.Proofs.YtcbpcianefpniaaGreatDoor.Inp (u32 u32_eq wrapU Cfg CfgOk Good cenv st_good ev_good blk_good bind_ok bind_stop)
open Go.Proofs.YtcbpcianefpniaaGreatDoor.RC (get_mid more none_left pre_le snoc)
set_option maxRecDepth 100000
set_option maxHeartbeats 4000000
def REvalH (B0:Nat) (w0:World) (c:Cfg) (n:Nat):Prop:=∀ (f:FnD) (kn:List FSum) (x:Ex) (s:IS) (H:Heap),f∈c.p.funcs→Known c.p.funcs kn→errE (cenv c kn f) x=0→numE x→smE x→Inp.Good c n s→StR c s H →
 LCalls (KC B0 w0) 112 [ptr c.rb 0,encFn f,encE x] H (PostR c encV (evI c.p n f x s))
def RStmtH (B0:Nat) (w0:World) (c:Cfg) (n:Nat):Prop:=∀ (f:FnD) (kn:List FSum) (x:Sm) (s:IS) (H:Heap),f∈c.p.funcs→Known c.p.funcs kn→errS (cenv c kn f) x=0→numS x→smS x→Inp.Good c n s→StR c s H →
 LCalls (KC B0 w0) 77 [ptr c.rb 0,encFn f,encS x] H (PostR c encO (stI c.p n f x s))
def RBlkH (B0:Nat) (w0:World) (c:Cfg) (n:Nat):Prop:=∀ (f:FnD) (kn:List FSum) (l:List Sm) (s:IS) (H:Heap),f∈c.p.funcs→Known c.p.funcs kn→errSs (cenv c kn f) l=0→numSs l→Few6 l.length→smSs l→Inp.Good c n s→StR c s H →
 LCalls (KC B0 w0) 32 [ptr c.rb 0,encFn f,.list (l.map encS)] H (PostR c encO (blkR (stI c.p n f) l s))
theorem hsub_left {H F:Heap}:HSub H (H++F):=⟨F,List.Perm.refl _⟩
theorem hsub_right {H F:Heap}:HSub F (H++F):=⟨H,List.perm_append_comm⟩
theorem hsubC {p:Nat×LObj} {A B:Heap}:HSub (p::(A++B)) (p::(B++A)):=⟨[],by simpa using List.Perm.cons p List.perm_append_comm⟩
theorem PostR.none {c:Cfg} {s:IS} {v:Nat} {en er:Int} {H:Heap} (h:PostR c encO (.ok none s) (.ret (resV v en er)) H):v=0∧en=0∧er=0∧StR c s H:=h.ok
theorem PostR.some {c:Cfg} {s:IS} {v w:Nat} {en er:Int} {H:Heap} (h:PostR c encO (.ok (some w) s) (.ret (resV v en er)) H):v=w∧en=1∧er=0∧StR c s H:=h.ok
theorem PostR.val {c:Cfg} {s:IS} {v w:Nat} {en er:Int} {H:Heap} (h:PostR c encV (.ok w s) (.ret (resV v en er)) H):v=w∧en=0∧er=0∧StR c s H:=h.ok
theorem post_stop {A:Type} {c:Cfg} {enc:A→Nat×Int} {R:IR A} {er:Int} {s:IS} {H:Heap} (hR:R=.stop er s) (hs:StR c s H):PostR c enc R (.ret (resV 0 (stopE er) er)) H:=by
 rw[hR]
 exact ⟨rfl,hs⟩
theorem post_none {c:Cfg} {R:IR (Option Nat)} {s:IS} {H:Heap} (hR:R=.ok none s) (hs:StR c s H):PostR c encO R (.ret (resV 0 0 0)) H:=by
 rw[hR]
 exact ⟨rfl,hs⟩
theorem post_some {c:Cfg} {R:IR (Option Nat)} {s:IS} {v:Nat} {H:Heap} (hR:R=.ok (some v) s) (hs:StR c s H):PostR c encO R (.ret (resV v 1 0)) H:=by
 rw[hR]
 exact ⟨rfl,hs⟩
theorem post_val {c:Cfg} {R:IR Nat} {s:IS} {v:Nat} {H:Heap} (hR:R=.ok v s) (hs:StR c s H):PostR c encV R (.ret (resV v 0 0)) H:=by
 rw[hR]
 exact ⟨rfl,hs⟩
theorem stop_cond {e:Int}:(!decide (stopE e=0))=true:=by
 rw[decide_eq_false (stopE_ne e).1]
 rfl
theorem LCode.midB {C:Ctx} {n:Nat} {e:Env} {H:Heap} {Q:Post} {c c2:Code} {Q2:Post} (l:Nat→List (Nat×LV)) (H1:Nat→Nat→Int→Int→Heap→Heap) (F:Nat→Int→Int→Heap→Prop)
  (hx:LCode C n c (QThen (fun e' H'=>∃ b v en er G,F v en er G∧AllSlots e' (l b)∧HSub (H1 b v en er G) H'∧e'.ds=e.ds) Q) e H) (hy:∀ b v en er G,F v en er G→∀ j:Env,j.ds=e.ds→LCode C n c2 Q2 (Env.slots j (l b)) (H1 b v en er G)):LCode C n c (QThen (fun e H=>LCode C n c2 Q2 e H) Q) e H:=by
 refine LCode.midC (A:=Nat×Nat×Int×Int×Heap) (fun a=>l a.1) (fun a=>H1 a.1 a.2.1 a.2.2.1 a.2.2.2.1 a.2.2.2.2) (fun a=>F a.2.1 a.2.2.1 a.2.2.2.1 a.2.2.2.2) ?_ (fun a hF j hj=>hy _ _ _ _ _ hF j hj)
 refine LCode.conseq hx ?_
 rintro ex e' H' hq
 cases ex with
 |normal=>
  obtain ⟨b,v,en,er,G,h⟩:=hq
  exact ⟨(b,v,en,er,G),h⟩
 |exit id=>exact hq
 |goto id=>exact hq
 |ret=>exact hq
 |panic ch=>exact hq
 |outgrown=>exact hq
attribute [local irreducible] LOps LCode LStep LCalls Go.GL.Pure QThen QBlock RetPost LQ LAny LLate LLateOp LS
section
variable {B0:Nat} {w0:World}
theorem rblock_spec {c:Cfg} (hC:CfgOk c) {n:Nat} (hX:RStmtH B0 w0 c n):RBlkH B0 w0 c n:=by
 intro f kn l s H hf hk hv hnum hlen6 hsm hg hs
 generalize hR:blkR (stI c.p n f) l s=R
 have hl6:l.length≤1000000:=hlen6
 refine cI Tryz.func32 rfl (n:=27) rfl rfl rfl ?_
 refine gai ?_
 refine oS (S.box rfl fun b4=>?_) rfl
 refine oS (S.alloc fun b6=>?_) rfl
 refine gab ?_
 refine oL (fun k ls H'=>∃ (pre l1:List Sm) (s1:IS) (Hs:Heap),l=pre++l1∧k=l1.length∧ls=[(0,ptr c.rb 0),(2,.list (l.map encS)),(4,ptr b4 0),(6,ptr b6 0),(7,int .i64 (pre.length:Int))]∧H'=resH b6 0 0 0::fnH b4 f::Hs∧StR c s1 Hs∧Inp.Good c n s1∧errSs (cenv c kn f) l1=0∧numSs l1∧smSs l1∧blkR (stI c.p n f) l1 s1=R)
  ⟨l.length,_,_,⟨[],l,s,H,rfl,rfl,rfl,rfl,hs,hg,hv,hnum,hsm,hR⟩,⟨rfl,rfl,rfl,rfl,rfl,trivial⟩,HSub.refl _⟩ ?_
 rintro k ls H' ⟨pre,l1,s1,Hs,hL,rfl,rfl,rfl,hs1,hg1,hv1,hn1,hm1,hI⟩ j hj
 have hb:=pre_le hL hl6
 refine gab ?_
 refine oC rfl (fun hc=>?_) (fun hc=>?_)
 rotate_left
 ·obtain rfl:=none_left (g:=encS) hL hc
  refine gaa ?_
  exact retR hj (rC (rA rfl zm0 rfl zsr) rN) rfl (zhD (zhD zhr)) (post_none hI.symm hs1)
 obtain ⟨a,l2,rfl⟩:=more (g:=encS) hL hc
 rw[errSs] at hv1
 obtain ⟨hva,hvl⟩:=orE_zero.1 hv1
 rw[blkR] at hI
 refine gad ?_
 refine LCode.midB (fun b9=>[(0,ptr c.rb 0),(2,.list (l.map encS)),(4,ptr b4 0),(6,ptr b6 0),(7,int .i64 (pre.length:Int)),(8,ptr b9 0)]) (fun b9 v1 en er G=>resH b9 v1 en er::([resH b6 0 0 0,fnH b4 f]++G)) (fun v1 en er G=>PostR c encO (stI c.p n f a s1) (.ret (resV v1 en er)) G) ?_ ?_
 ·refine LCode.draw (m:=9) rfl [resH b6 0 0 0,fnH b4 f] ?_
  refine aT 0 rfl rfl (Pure.mv (lv:=.atom _) rfl) ?_
  refine aT 1 rfl rfl (Pure.ldHAgg (cs':=[_,_,_,_]) rfl zm1 rfl rfl) ?_
  refine aT 2 rfl rfl (Pure.mv (lv:=.list _) rfl) ?_
  refine aT 3 rfl rfl (Pure.mv (lv:=.atom _) rfl) ?_
  refine LAny.take (i:=4) hsub_left rfl zk zk zk rfl (xR (el':=encS a) (cs:=[_,_,_,_,_,_]) rfl rfl zo (by rw[hL];exact get_mid encS pre a l2) rfl rfl) ?_
  refine aT 5 rfl rfl (Pure.ldRefAgg (cs':=[_,_,_,_,_,_]) rfl rfl rfl) ?_
  refine LAny.late ?_ hsub_left
  refine LLate.two (i:=6) (j:=7) zk ?_ ?_
  ·refine lS (H1:=Hs) (F:=[resH b6 0 0 0,fnH b4 f]) rfl (.inl rfl) rfl (List.perm_append_comm (l₁:=[_,_])) zhr (LStep.callR [_,_,_] rfl (hX f kn a s1 Hs hf hk hva hn1.1 hm1.1 hg1 hs1) (fun v en er H2 hP=>?_))
   refine lO 7 (lS (H1:=[]) rfl (.inl rfl) rfl zpr hsub_right (S.alloc fun b8=>?_))
   refine lO 8 (lS (H1:=[_]) rfl (.inl rfl) rfl zpr hsub_right (S.store (n:=3) (cs':=[_,_,_]) rfl pH rfl rfl rfl rfl rfl ?_))
   refine lD zk ?_
   refine QThen.normal ?_
   exact ⟨b8,v,en,er,H2,hP,⟨rfl,rfl,rfl,rfl,rfl,rfl,trivial⟩,hsubC,rfl⟩
  ·refine lS (H1:=[]) rfl (.inl rfl) rfl zpr hsub_left (S.alloc fun b8=>?_)
   refine lO 6 (lS (H1:=Hs) (F:=_::[resH b6 0 0 0,fnH b4 f]) rfl (.inl rfl) rfl (List.perm_append_comm (l₁:=_::[_,_])) (zhD zhr) (LStep.callR [_,_,_] rfl (hX f kn a s1 Hs hf hk hva hn1.1 hm1.1 hg1 hs1) (fun v en er H2 hP=>?_)))
   refine lO 8 (lS (H1:=[_]) (F:=H2++[_,_]) rfl (.inl rfl) rfl List.perm_middle hsub_right (S.store (n:=3) (cs':=[_,_,_]) rfl pH rfl rfl rfl rfl rfl ?_))
   refine lD zk ?_
   refine QThen.normal ?_
   exact ⟨b8,v,en,er,H2,hP,⟨rfl,rfl,rfl,rfl,rfl,rfl,trivial⟩,hsubC,rfl⟩
 rintro b8 v en er H2 hP j2 hj2
 cases hr:stI c.p n f a s1 with
 |ok r s2=>
  obtain ⟨hg2,_⟩:=st_good hC hn1.1 hg1 hr
  rw[hr] at hI hP
  cases r with
  |none=>
   obtain ⟨rfl,rfl,rfl,hs2⟩:=hP.none
   refine gab ?_
   refine oC rfl (fun hd=>by cases hd) (fun _=>?_)
   refine gab ?_
   exact ⟨l2.length,_,_,Nat.lt_succ_self _,⟨pre++[a],l2,s2,H2,snoc hL,rfl,rfl,rfl,hs2,hg2,hvl,hn1.2,hm1.2,hI⟩,⟨rfl,rfl,rfl,rfl,int_eq (by simp),trivial⟩,zhD zhr,hj2.trans hj⟩
  |some w=>
   obtain ⟨rfl,rfl,rfl,hs2⟩:=hP.some
   refine gab ?_
   refine oC rfl (fun _=>?_) (fun hd=>by cases hd)
   refine gaa ?_
   exact retR (hj2.trans hj) (rC (rA (k:=3) rfl zb0 rfl zsr) rN) rfl (zhD (zhD (zhD zhr))) (post_some hI.symm hs2)
 |stop e s2=>
  rw[hr] at hI hP
  obtain ⟨rfl,rfl,rfl,hs2⟩:=hP.stop
  refine gab ?_
  refine oC rfl (fun _=>?_) (fun hd=>absurd (hd.symm.trans stop_cond) (by decide))
  refine gaa ?_
  exact retR (hj2.trans hj) (rC (rA (k:=3) rfl zb0 rfl zsr) rN) rfl (zhD (zhD (zhD zhr))) (post_stop hI.symm hs2)
end
end Go.Proofs.YtcbpcianefpniaaGreatDoor.RI
namespace Go.Proofs.YtcbpcianefpniaaGreatDoor.RI
open Go.GL Go.RowKit Go.Stele
open Go.Proofs.YtcbpcianefpniaaGreatDoor.Inp (u32 u32_eq wrapU arKV arH Cfg CfgOk Good cenv st_good ev_good blk_good bind_ok bind_stop errS_parts form_value form_index whl_step ar_pick setAr setL_one fst_inj)
open Go.Proofs.YtcbpcianefpniaaGreatDoor.RC (get_mid more none_left pre_le snoc)
set_option maxRecDepth 100000
set_option maxHeartbeats 4000000
theorem str_ar {c:Cfg} (hC:CfgOk c) {s:IS} {v:LV} {Ha:Heap} {m:KV} {ck:Nat} {k:List UInt8} {b n:Nat} (hb:(k,b,n)∈c.ab) (hl:∀ q∈c.ab,(s.ar q.1).length=q.2.2) (hle:s.left≤c.lim) (hacc:Acc 1 v (byts s.out) Ha []) (hsc:ScR m s) :
  (s.ar k).length=n∧∃ G,(stRH c s v m ck Ha).Perm ((b,.cells 43 ((s.ar k).map u32))::G)∧∀ l,l.length=n→∃ H',StR c (setAr s k l) H'∧List.Perm ((b,.cells 43 (l.map u32))::G) H':=by
 have hn:=hl _ hb
 simp only at hn
 refine ⟨hn,?_⟩
 obtain ⟨F,h1,h2⟩:=ar_pick s hC.akeys hb
 have key:∀ (X S R:Heap) (p:Nat×LObj),S.Perm (p::F)→List.Perm (X++(S++R)) (p::(X++(F++R))):=fun X S R p h=>((h.append_right R).append_left X).trans List.perm_middle
 refine ⟨_,key [_,_,_] _ Ha _ h1,fun l hln=>⟨stRH c (setAr s k l) v m ck Ha,⟨fun q hq=>?_,hle,v,Ha,m,ck,hacc,hsc,rfl⟩,(key [_,_,_] _ Ha _ (h2 l)).symm⟩⟩
 show ((if q.1=k then l else s.ar q.1)).length=q.2.2
 split
 ·rename_i he
  have:q=(k,b,n):=fst_inj c.ab hC.akeys hq hb he
  rw[this]
  exact hln
 ·exact hl q hq
attribute [local irreducible] LOps LCode LStep LCalls Go.GL.Pure QThen QBlock RetPost LQ LAny LLate LLateOp LS
section
variable {B0:Nat} {w0:World}
theorem rstmt_spec {c:Cfg} (hC:CfgOk c) {n:Nat} (hE:REvalH B0 w0 c n) (hB:RBlkH B0 w0 c n):RStmtH B0 w0 c (n+1):=by
 intro f kn x s H hf hk hv hnum hsm hg hs
 obtain ⟨kind,name,index,value,thn,els⟩:=x
 obtain ⟨hform,hval,hidx,hname,hthn,hels⟩:=errS_parts hv
 obtain ⟨hn1,hn2,hn3,hn4⟩:=hnum
 obtain ⟨hm1,hm2,hm3,hm4,hm5,hm6,hm7,hm8⟩:=hsm
 generalize hI:stI c.p (n+1) f (Sm.mk kind name index value thn els) s=R
 rw[stI] at hI
 rw[encS_mk]
 refine cI Tryz.func77 rfl (n:=127) rfl rfl rfl ?_
 refine gai ?_
 refine oS (S.box rfl fun b4=>?_) rfl
 refine oS (S.box rfl fun b5=>?_) rfl
 refine oS (S.alloc fun b6=>?_) rfl
 refine gaq ?_
 refine oS (S.callH (H1:=H) (F:=[_,_,_]) [_] rfl (List.perm_append_comm (l₁:=[_,_,_])) (count_spec hC hs) ?_ ?_) rfl
 rotate_left
 ·intro ch H' h
  unfold PostT at h
  split at h <;> cases h.1
 intro lv H1 hT
 unfold PostT at hT
 cases hr:tick s with
 |stop e s1=>
  rw[hr] at hI hT
  obtain ⟨hlv,hs1⟩:=hT
  cases hlv
  have he13:e=13:=by
   unfold tick at hr
   split at hr
   ·cases hr;rfl
   ·cases hr
  subst he13
  refine LOps.perm (List.perm_append_comm (l₂:=[_,_,_])) ?_
  refine gac ?_
  refine oC rfl (fun _=>?_) (fun hd=>by cases hd)
  refine gai ?_
  refine oS (S.fn [_] rfl (fail_spec 13) ?_) rfl
  refine gac ?_
  exact retR rfl (rC (rA rfl zm0 rfl zsr) rN) rfl (zhD (zhD (zhD zhr))) (post_stop hI.symm hs1)
 |ok u s1=>
 rw[hr,bind_ok] at hI
 rw[hr] at hT
 obtain ⟨hlv,hs1⟩:=hT
 cases hlv
 have hg1:Inp.Good c n s1:=by
  have h1:=tick_less hr
  have h2:=tick_bd hg.1
  rw[hr] at h2
  have h3:s1.out=s.out:=by
   unfold tick at hr
   split at hr
   ·cases hr
   ·cases hr;rfl
  exact ⟨h2.2,by have:=hg.2.1;omega,by rw[h3];have:=hg.2.2;omega⟩
 refine LOps.perm (List.perm_append_comm (l₂:=[_,_,_])) ?_
 refine gac ?_
 refine oC rfl (fun hd=>by cases hd) (fun _=>?_)
 refine gaa ?_
 refine oC rfl (fun hc=>?_) (fun hc=>?_)
 ·have h7:kind=7:=zt hc
  rw[if_pos h7] at hI
  refine gaa ?_
  exact retR rfl (rC (rA rfl zm0 rfl zsr) rN) rfl (zhD (zhD (zhD zhr))) (post_stop hI.symm hs1)
 have h7:¬ kind=7:=zf hc
 rw[if_neg h7] at hI
 obtain ⟨x0,rfl⟩:=form_value hform h7
 rw[errEs] at hval
 obtain ⟨hv0,_⟩:=orE_zero.1 hval
 refine gad ?_
 refine LCode.midB (fun b9=>[(0,ptr c.rb 0),(4,ptr b4 0),(5,ptr b5 0),(6,ptr b6 0),(7,ptr b9 0)]) (fun b9 v1 en er G=>resH b9 v1 en er::([resH b6 0 0 0,smH b5 kind name index [x0] thn els,fnH b4 f]++G)) (fun v1 en er G=>PostR c encV (evI c.p n f x0 s1) (.ret (resV v1 en er)) G) ?_ ?_
 ·refine LCode.draw (m:=9) rfl [resH b6 0 0 0,smH b5 kind name index [x0] thn els,fnH b4 f] ?_
  refine aT 0 rfl rfl (Pure.mv (lv:=.atom _) rfl) ?_
  refine aT 1 rfl rfl (Pure.ldHAgg (cs':=[_,_,_,_]) rfl zm2 rfl rfl) ?_
  refine aT 2 rfl rfl (Pure.fieldH rfl) ?_
  refine aT 3 rfl rfl (Pure.loadH (c:=.list _) rfl zm1 rfl) ?_
  refine LAny.take (i:=4) hsub_left rfl zk zk zk rfl (xR (el':=encE x0) (cs:=[_,_,_,_]) rfl rfl zo rfl rfl rfl) ?_
  refine aT 5 rfl rfl (Pure.ldRefAgg (cs':=[_,_,_,_]) rfl rfl rfl) ?_
  refine LAny.late ?_ hsub_left
  refine LLate.two (i:=6) (j:=7) zk ?_ ?_
  ·refine lS (H1:=H1) (F:=[resH b6 0 0 0,smH b5 kind name index [x0] thn els,fnH b4 f]) rfl (.inl rfl) rfl (List.perm_append_comm (l₁:=[_,_,_])) zhr (LStep.callR [_,_,_] rfl (hE f kn x0 s1 H1 hf hk hv0 hn2.1 hm6.1 hg1 hs1) (fun v1 en er H9 hP=>?_))
   refine lO 7 (lS (H1:=[]) rfl (.inl rfl) rfl zpr hsub_right (S.alloc fun b7=>?_))
   refine lO 8 (lS (H1:=[_]) rfl (.inl rfl) rfl zpr hsub_right (S.store (n:=3) (cs':=[_,_,_]) rfl pH rfl rfl rfl rfl rfl ?_))
   refine lD zk ?_
   refine QThen.normal ?_
   exact ⟨b7,v1,en,er,H9,hP,⟨rfl,rfl,rfl,rfl,rfl,trivial⟩,hsubC,rfl⟩
  ·refine lS (H1:=[]) rfl (.inl rfl) rfl zpr hsub_left (S.alloc fun b7=>?_)
   refine lO 6 (lS (H1:=H1) (F:=_::[resH b6 0 0 0,smH b5 kind name index [x0] thn els,fnH b4 f]) rfl (.inl rfl) rfl (List.perm_append_comm (l₁:=_::[_,_,_])) (zhD zhr) (LStep.callR [_,_,_] rfl (hE f kn x0 s1 H1 hf hk hv0 hn2.1 hm6.1 hg1 hs1) (fun v1 en er H9 hP=>?_)))
   refine lO 8 (lS (H1:=[_]) (F:=H9++[_,_,_]) rfl (.inl rfl) rfl List.perm_middle hsub_right (S.store (n:=3) (cs':=[_,_,_]) rfl pH rfl rfl rfl rfl rfl ?_))
   refine lD zk ?_
   refine QThen.normal ?_
   exact ⟨b7,v1,en,er,H9,hP,⟨rfl,rfl,rfl,rfl,rfl,trivial⟩,hsubC,rfl⟩
 rintro b7 v en er H2 hP j2 hj2
 rw[show ([x0]:List Ex).headD default=x0 from rfl] at hI
 cases hr2:evI c.p n f x0 s1 with
 |stop e s2=>
  rw[hr2] at hI hP
  obtain ⟨rfl,rfl,rfl,hs2⟩:=hP.stop
  refine gab ?_
  refine oC rfl (fun _=>?_) (fun hd=>absurd (hd.symm.trans stop_cond) (by decide))
  refine gaa ?_
  exact retR hj2 (rC (rA (k:=3) rfl zb0 rfl zsr) rN) rfl (zhD (zhD (zhD (zhD zhr)))) (post_stop hI.symm hs2)
 |ok v2 s2=>
 obtain ⟨hg2,hv2,hlt2⟩:=ev_good hC hn2.1 hg1 hr2
 rw[hr2,bind_ok] at hI
 rw[hr2] at hP
 obtain ⟨rfl,rfl,rfl,hs2⟩:=hP.val
 refine gab ?_
 refine oC rfl (fun hd=>by cases hd) (fun _=>?_)
 refine gaa ?_
 by_cases hk1:kind=1
 ·rw[if_pos hk1] at hI
  obtain ⟨hl,hle,va,Ha,m,ck,hacc,hsc,rfl⟩:=hs2
  refine oC rfl (fun _=>?_) (fun hc=>absurd hk1 (zf hc))
  refine LCode.draw (m:=11) rfl [resH b7 v 0 0,resH b6 0 0 0,smH b5 kind name index [x0] thn els,fnH b4 f,(c.rb,.cells 79 (runRC c s2 va))] ?_
  refine aT 0 rfl rfl (Pure.mv (lv:=.atom _) rfl) ?_
  refine LAny.take (i:=1) hsub_left rfl zk zk zk rfl (Pure.nilCheckH rfl) ?_
  refine aT 2 rfl rfl (Pure.fieldH rfl) ?_
  refine aT 3 rfl rfl (Pure.loadH (c:=.atom _) rfl zm4 rfl) ?_
  refine aT 4 rfl rfl (Pure.ldHAgg (cs':=[_,_,_,_]) rfl zm3 rfl rfl) ?_
  refine aT 5 rfl rfl (Pure.fieldH rfl) ?_
  refine aT 6 rfl rfl (Pure.loadH (c:=.atom _) rfl zm2 rfl) ?_
  refine aT 8 rfl rfl (Pure.fieldH rfl) ?_
  refine aT 9 rfl rfl (Pure.loadH (c:=.atom _) rfl zm0 rfl) ?_
  refine LAny.late ?_ hsub_left
  refine lO 7 (lS (H1:=[]) rfl (.inl rfl) rfl zpr hsub_left (S.fn [_,_] rfl (key_spec hC hf name) ?_))
  refine lO 10 (lS (H1:=[(c.sm,.map (kvs m) ck)]) (F:=[resH b7 v 0 0,resH b6 0 0 0,smH b5 kind name index [x0] thn els,fnH b4 f,(c.rb,.cells 79 (runRC c s2 va))]++((c.am,.map (kvs (arKV c.ab)) c.ac)::(arH c.ab s2++Ha))) rfl (.inl rfl) rfl (List.perm_middle (l₁:=[_,_,_,_,_])) hsub_left (S.kvSet (k:=keyI f name) (lv:=u32 v) rfl rfl rfl pH fun ck2=>?_))
  refine lD zk ?_
  refine gad ?_
  refine LCode.perm (List.perm_middle (l₁:=[_,_,_,_,_])).symm ?_
  refine gaa ?_
  exact retR hj2 (rC (rA (k:=3) rfl zb0 rfl zsr) rN) rfl (zhD (zhD (zhD (zhD zhr)))) (post_none hI.symm ⟨hl,hle,va,Ha,_,ck2,hacc,hsc.put _ _,rfl⟩)
 refine oC rfl (fun hc=>absurd (zt hc) hk1) (fun _=>?_)
 rw[if_neg hk1] at hI hname
 refine gaw ?_
 by_cases hk2:kind=2
 ·subst hk2
  rw[if_pos rfl] at hI hname
  obtain ⟨i0,rfl⟩:=form_index hform
  rw[errEs] at hidx
  obtain ⟨hi0,_⟩:=orE_zero.1 hidx
  have hpl:name∈c.p.arrays.map (·.name):=by
   unfold arrayE at hname
   split at hname
   ·rename_i h
    exact h
   ·split at hname <;> cases hname
  obtain ⟨b,m,hb1,hb2⟩:=hC.arr hpl
  have hmz:=hC.asz _ hb1
  simp only at hmz
  refine oC rfl (fun hc=>?_) (fun hc=>by cases hc)
  refine gad ?_
  refine LCode.midB (fun b9=>[(0,ptr c.rb 0),(4,ptr b4 0),(5,ptr b5 0),(6,ptr b6 0),(7,ptr b7 0),(8,ptr b9 0)]) (fun b9 v1 en er G=>resH b9 v1 en er::([resH b7 v 0 0,resH b6 0 0 0,smH b5 2 name [i0] [x0] thn els,fnH b4 f]++G)) (fun v1 en er G=>PostR c encV (evI c.p n f i0 s2) (.ret (resV v1 en er)) G) ?_ ?_
  ·refine LCode.draw (m:=9) rfl [resH b7 v 0 0,resH b6 0 0 0,smH b5 2 name [i0] [x0] thn els,fnH b4 f] ?_
   refine aT 0 rfl rfl (Pure.mv (lv:=.atom _) rfl) ?_
   refine aT 1 rfl rfl (Pure.ldHAgg (cs':=[_,_,_,_]) rfl zm3 rfl rfl) ?_
   refine aT 2 rfl rfl (Pure.fieldH rfl) ?_
   refine aT 3 rfl rfl (Pure.loadH (c:=.list _) rfl zm2 rfl) ?_
   refine LAny.take (i:=4) hsub_left rfl zk zk zk rfl (xR (el':=encE i0) (cs:=[_,_,_,_]) rfl rfl zo rfl rfl rfl) ?_
   refine aT 5 rfl rfl (Pure.ldRefAgg (cs':=[_,_,_,_]) rfl rfl rfl) ?_
   refine LAny.late ?_ hsub_left
   refine LLate.two (i:=6) (j:=7) zk ?_ ?_
   ·refine lS (H1:=H2) (F:=[resH b7 v 0 0,resH b6 0 0 0,smH b5 2 name [i0] [x0] thn els,fnH b4 f]) rfl (.inl rfl) rfl (List.perm_append_comm (l₁:=[_,_,_,_])) zhr (LStep.callR [_,_,_] rfl (hE f kn i0 s2 H2 hf hk hi0 hn1.1 hm5.1 hg2 hs2) (fun v1 en er H9 hP=>?_))
    refine lO 7 (lS (H1:=[]) rfl (.inl rfl) rfl zpr hsub_right (S.alloc fun b8=>?_))
    refine lO 8 (lS (H1:=[_]) rfl (.inl rfl) rfl zpr hsub_right (S.store (n:=3) (cs':=[_,_,_]) rfl pH rfl rfl rfl rfl rfl ?_))
    refine lD zk ?_
    refine QThen.normal ?_
    exact ⟨b8,v1,en,er,H9,hP,⟨rfl,rfl,rfl,rfl,rfl,rfl,trivial⟩,hsubC,rfl⟩
   ·refine lS (H1:=[]) rfl (.inl rfl) rfl zpr hsub_left (S.alloc fun b8=>?_)
    refine lO 6 (lS (H1:=H2) (F:=_::[resH b7 v 0 0,resH b6 0 0 0,smH b5 2 name [i0] [x0] thn els,fnH b4 f]) rfl (.inl rfl) rfl (List.perm_append_comm (l₁:=_::[_,_,_,_])) (zhD zhr) (LStep.callR [_,_,_] rfl (hE f kn i0 s2 H2 hf hk hi0 hn1.1 hm5.1 hg2 hs2) (fun v1 en er H9 hP=>?_)))
    refine lO 8 (lS (H1:=[_]) (F:=H9++[_,_,_,_]) rfl (.inl rfl) rfl List.perm_middle hsub_right (S.store (n:=3) (cs':=[_,_,_]) rfl pH rfl rfl rfl rfl rfl ?_))
    refine lD zk ?_
    refine QThen.normal ?_
    exact ⟨b8,v1,en,er,H9,hP,⟨rfl,rfl,rfl,rfl,rfl,rfl,trivial⟩,hsubC,rfl⟩
  rintro b8 i en er H3 hP3 j3 hj3
  rw[show ([i0]:List Ex).headD default=i0 from rfl] at hI
  cases hr3:evI c.p n f i0 s2 with
  |stop e s3=>
   rw[hr3] at hI hP3
   obtain ⟨rfl,rfl,rfl,hs3⟩:=hP3.stop
   refine gab ?_
   refine oC rfl (fun _=>?_) (fun hd=>absurd (hd.symm.trans stop_cond) (by decide))
   refine gaa ?_
   exact retR (hj3.trans hj2) (rC (rA (k:=3) rfl zb0 rfl zsr) rN) rfl (zhD (zhD (zhD (zhD (zhD zhr))))) (post_stop hI.symm hs3)
  |ok i2 s3=>
  obtain ⟨hg3,hv3,_⟩:=ev_good hC hn1.1 hg2 hr3
  rw[hr3,bind_ok] at hI
  rw[hr3] at hP3
  obtain ⟨rfl,rfl,rfl,hs3⟩:=hP3.val
  obtain ⟨hl,hle,va,Ha,m1,ck,hacc,hsc,rfl⟩:=hs3
  obtain ⟨hlen,G,hG1,hG2⟩:=str_ar hC (ck:=ck) hb1 hl hle hacc hsc
  have hA:∀ {H:Heap},(c.am,LObj.map (kvs (arKV c.ab)) c.ac)∈H→(c.am,LObj.map (kvs (arKV c.ab)) c.ac)∈H:=id
  refine gab ?_
  refine oC rfl (fun hd=>by cases hd) (fun _=>?_)
  refine gad ?_
  refine LCode.quiet zk ?_
  refine gaf ?_
  refine LQ.pure (Pure.kvHit rfl rfl zm7 hb2) rfl ?_
  refine LQ.pure (Pure.rowLen rfl) rfl ?_
  refine gaf ?_
  have hwr:IntKind.i64.wrap (i:Int)=i:=wrap_i64 zo
  by_cases hin:i<m
  rotate_left
  ·have hget:(s3.ar name)[i]? = none:=List.getElem?_eq_none zo
   rw[hget] at hI
   refine oC rfl (fun _=>?_) (fun hd=>by have h2:=zf hd;rw[hwr] at h2;omega)
   refine gai ?_
   refine oS (S.fn [_] rfl (fail_spec 2) ?_) rfl
   refine gac ?_
   exact retR (hj3.trans hj2) (rC (rA (k:=3) rfl zb0 rfl zsr) rN) rfl (zhD (zhD (zhD (zhD (zhD zhr))))) (post_stop (er:=2) hI.symm ⟨hl,hle,va,Ha,m1,ck,hacc,hsc,rfl⟩)
  have hget:(s3.ar name)[i]? = some (s3.ar name)[i]:=List.getElem?_eq_getElem zo
  rw[hget] at hI
  refine oC rfl (fun hd=>by have h2:=zt hd;rw[hwr] at h2;omega) (fun _=>?_)
  refine gas ?_
  refine LCode.tail 12 zk ?_
  refine gac ?_
  refine LS.pure (Pure.kvHit rfl rfl zm7 hb2) rfl ?_
  refine gaf ?_
  refine LS.pure (Pure.indexRow rfl rfl zo zo) rfl ?_
  refine gaf ?_
  obtain ⟨H4,hs4,hp4⟩:=hG2 ((s3.ar name).set i v) (by rw[List.length_set];exact hlen)
  refine oS (S.store (cs':=((s3.ar name).set i v).map u32) rfl (show List.Perm _ (_::([_,_,_,_,_]++G)) from (hG1.append_left [_,_,_,_,_]).trans List.perm_middle) rfl rfl ?_ rfl ?_ ?_) rfl
  ·rw[List.length_map,hlen]
   simp
   omega
  ·rw[setL_one _ _ _ (by rw[List.length_map];simp;omega),List.map_set]
   simp
  refine LOps.perm (H':=[_,_,_,_,_]++H4) ((List.perm_middle (l₁:=[_,_,_,_,_])).symm.trans (hp4.append_left [_,_,_,_,_])) ?_
  refine gaa ?_
  exact retR (hj3.trans hj2) (rC (rA (k:=3) rfl zb0 rfl zsr) rN) rfl (zhD (zhD (zhD (zhD (zhD zhr))))) (post_none hI.symm hs4)
 refine oC rfl (fun hc=>absurd (zt hc) hk2) (fun _=>?_)
 rw[if_neg hk2] at hI
 refine gaw ?_
 have fin:∀ {r:IR (Option Nat)} {v en er:_} {H3:Heap},r=R→PostR c encO r (.ret (resV v en er)) H3→PostR c encO R (.ret (resV v en er)) H3:=fun h1 h2=>by rw[←h1];exact h2
 by_cases hk3:kind=3
 ·subst hk3
  rw[if_neg (by decide),if_pos rfl] at hI
  refine oC rfl (fun _=>?_) (fun hc=>by cases hc)
  refine gab ?_
  by_cases hv0':v≠0
  ·rw[if_pos hv0'] at hI
   refine oC rfl (fun _=>?_) (fun hd=>?_)
   rotate_left
   ·have h2:(!decide ((v:Int)=0))=false:=hd
    simp at h2
    omega
   refine gaa ?_
   refine oS (S.callR (F:=[_,_,_,_]) [_,_,_] rfl (List.perm_append_comm (l₁:=[_,_,_,_])) (hB f kn thn s2 H2 hf hk hthn hn3 hm3 hm7 hg2 hs2) (fun v1 en er H3 hP3=>?_)) rfl
   refine LOps.perm (List.perm_append_comm (l₂:=[_,_,_,_])) ?_
   refine gac ?_
   exact retR hj2 (rC (rA (k:=3) rfl zb0 rfl zsr) rN) rfl (zhD (zhD (zhD (zhD zhr)))) (fin hI hP3)
  ·rw[if_neg hv0'] at hI
   refine oC rfl (fun hd=>?_) (fun _=>?_)
   ·have h2:(!decide ((v:Int)=0))=true:=hd
    simp at h2
    omega
   refine gaa ?_
   refine oS (S.callR (F:=[_,_,_,_]) [_,_,_] rfl (List.perm_append_comm (l₁:=[_,_,_,_])) (hB f kn els s2 H2 hf hk hels hn4 hm4 hm8 hg2 hs2) (fun v1 en er H3 hP3=>?_)) rfl
   refine LOps.perm (List.perm_append_comm (l₂:=[_,_,_,_])) ?_
   refine gac ?_
   exact retR hj2 (rC (rA (k:=3) rfl zb0 rfl zsr) rN) rfl (zhD (zhD (zhD (zhD zhr)))) (fin hI hP3)
 refine oC rfl (fun hc=>absurd (zt hc) hk3) (fun _=>?_)
 refine gaw ?_
 by_cases hk4:kind=4
 ·subst hk4
  rw[if_neg (by decide),if_neg (by decide),if_pos rfl] at hI
  refine oC rfl (fun _=>?_) (fun hc=>by cases hc)
  refine gad ?_
  refine oL (fun k ls H'=>∃ (m:Nat) (v1:Nat) (s3:IS) (Hs:Heap),k=s3.left∧s3.left≤m∧v1<4294967296∧ls=[(0,ptr c.rb 0),(4,ptr b4 0),(5,ptr b5 0),(6,ptr b6 0),(7,ptr b7 0)]∧H'=resH b7 v1 0 0::resH b6 0 0 0::smH b5 4 name index [x0] thn els::fnH b4 f::Hs∧StR c s3 Hs∧Inp.Good c n s3∧whlR (evI c.p n f x0) (blkR (stI c.p n f) thn) m v1 s3=R)
   ⟨_,_,_,⟨n,v,s2,H2,rfl,hg2.2.1,hv2,rfl,rfl,hs2,hg2,hI⟩,⟨rfl,rfl,rfl,rfl,rfl,trivial⟩,HSub.refl _⟩ ?_
  rintro k ls H' ⟨m,v1,s3,Hs,rfl,hm,hv1,rfl,rfl,hs3,hg3,hI3⟩ j3 hj3
  refine gab ?_
  by_cases hv0':v1=0
  ·subst hv0'
   rw[whlR_zero] at hI3
   refine oC rfl (fun hc=>by cases hc) (fun _=>?_)
   refine gaa ?_
   exact retR (hj3.trans hj2) (rC (rA (k:=3) rfl zb0 rfl zsr) rN) rfl (zhD (zhD (zhD (zhD zhr)))) (post_none hI3.symm hs3)
  rw[whl_step hm hv0'] at hI3
  refine oC rfl (fun _=>?_) (fun hd=>?_)
  rotate_left
  ·have h2:(!decide ((v1:Int)=0))=false:=hd
   simp at h2
   omega
  refine gaa ?_
  refine oS (S.callR (F:=[_,_,_,_]) [_,_,_] rfl (List.perm_append_comm (l₁:=[_,_,_,_])) (hB f kn thn s3 Hs hf hk hthn hn3 hm3 hm7 hg3 hs3) (fun v4 en er H4 hP4=>?_)) rfl
  refine LOps.perm (List.perm_append_comm (l₂:=[_,_,_,_])) ?_
  refine oS (S.alloc fun b9=>?_) rfl
  refine gaa ?_
  cases hr4:blkR (stI c.p n f) thn s3 with
  |stop e s4=>
   rw[hr4] at hI3 hP4
   obtain ⟨rfl,rfl,rfl,hs4⟩:=hP4.stop
   refine oC rfl (fun _=>?_) (fun hd=>absurd (hd.symm.trans stop_cond) (by decide))
   refine gaa ?_
   exact retR (hj3.trans hj2) (rC (rA (k:=3) rfl zb0 rfl zsr) rN) rfl (zhD (zhD (zhD (zhD (zhD zhr))))) (post_stop hI3.symm hs4)
  |ok r s4=>
  obtain ⟨hg4,_⟩:=blk_good hC hn3 hg3 hr4
  have hlt4:=(blkR_grow ((grow_all c.p n).2 f) thn s3).2
  rw[hr4] at hlt4 hI3 hP4
  rw[bind_ok] at hI3
  cases r with
  |some y=>
   obtain ⟨rfl,rfl,rfl,hs4⟩:=hP4.some
   refine oC rfl (fun _=>?_) (fun hd=>by cases hd)
   refine gaa ?_
   exact retR (hj3.trans hj2) (rC (rA (k:=3) rfl zb0 rfl zsr) rN) rfl (zhD (zhD (zhD (zhD (zhD zhr))))) (post_some hI3.symm hs4)
  |none=>
  obtain ⟨rfl,rfl,rfl,hs4⟩:=hP4.none
  refine oC rfl (fun hd=>by cases hd) (fun _=>?_)
  refine gad ?_
  have hlt4':s4.left≤s3.left:=hlt4
  refine LCode.tail 6 zk ?_
  refine gac ?_
  refine LS.pure (xR (el':=encE x0) (cs:=[_,_,_,_]) rfl rfl zo rfl rfl rfl) rfl ?_
  refine gac ?_
  refine oS (S.callR (F:=[_,_,_,_,_]) [_,_,_] rfl (List.perm_append_comm (l₁:=[_,_,_,_,_])) (hE f kn x0 s4 H4 hf hk hv0 hn2.1 hm6.1 hg4 hs4) (fun v5 en er H5 hP5=>?_)) rfl
  refine LOps.perm (List.perm_append_comm (l₂:=[_,_,_,_,_])) ?_
  refine gaa ?_
  have hI4:(evI c.p n f x0 s4).bind (fun v s=>whlR (evI c.p n f x0) (blkR (stI c.p n f) thn) (m-1) v s)=R:=hI3
  cases hr5:evI c.p n f x0 s4 with
  |stop e s5=>
   rw[hr5] at hI4 hP5
   obtain ⟨rfl,rfl,rfl,hs5⟩:=hP5.stop
   refine oC rfl (fun _=>?_) (fun hd=>absurd (hd.symm.trans stop_cond) (by decide))
   refine gaa ?_
   exact retR (hj3.trans hj2) (rC (rA (k:=3) rfl zb0 rfl zsr) rN) rfl (zhD (zhD (zhD (zhD (zhD zhr))))) (post_stop hI4.symm hs5)
  |ok v6 s5=>
  obtain ⟨hg5,hv5,hlt5⟩:=ev_good hC hn2.1 hg4 hr5
  rw[hr5,bind_ok] at hI4
  rw[hr5] at hP5
  obtain ⟨rfl,rfl,rfl,hs5⟩:=hP5.val
  refine oC rfl (fun hd=>by cases hd) (fun _=>?_)
  refine gad ?_
  exact ⟨s5.left,_,_,by omega,⟨m-1,v5,s5,H5,rfl,by omega,hv5,rfl,rfl,hs5,hg5,hI4⟩,⟨rfl,rfl,rfl,rfl,rfl,trivial⟩,zhP pH (zhD zhr),hj3⟩
 refine oC rfl (fun hc=>absurd (zt hc) hk4) (fun _=>?_)
 refine gaw ?_
 by_cases hk5:kind=5
 ·subst hk5
  rw[if_pos rfl] at hI
  refine oC rfl (fun _=>?_) (fun hc=>by cases hc)
  refine gaa ?_
  exact retR hj2 (rC (rA (k:=3) rfl zb0 rfl zsr) rN) rfl (zhD (zhD (zhD (zhD zhr)))) (post_some hI.symm hs2)
 rw[if_neg hk5,if_neg hk3,if_neg hk4] at hI
 refine oC rfl (fun hc=>absurd (zt hc) hk5) (fun _=>?_)
 refine gaa ?_
 exact retR hj2 (rC (rA (k:=3) rfl zb0 rfl zsr) rN) rfl (zhD (zhD (zhD (zhD zhr)))) (post_none hI.symm hs2)
end
end Go.Proofs.YtcbpcianefpniaaGreatDoor.RI
namespace Go.Proofs.YtcbpcianefpniaaGreatDoor.RI
open Go.GL Go.RowKit Go.Stele
open Go.Proofs.YtcbpcianefpniaaGreatDoor.Inp (u32 u32_eq wrapU arKV arH Cfg CfgOk Good cenv blk_good bind_ok bind_stop Pure.ltail wrap_u8 acc_one u32_cells)
open Go.Proofs.YtcbpcianefpniaaGreatDoor.RC (get_mid more none_left pre_le snoc)
set_option maxRecDepth 100000
set_option maxHeartbeats 4000000
theorem out_permR (c:Cfg) (s:IS) (v:LV) (m:KV) (ck:Nat) (Ha:Heap) (p:Nat×LObj):(p::stRH c s v m ck Ha).Perm (Ha++(p::(c.rb,.cells 79 (runRC c s v))::(c.sm,.map (kvs m) ck)::(c.am,.map (kvs (arKV c.ab)) c.ac)::arH c.ab s)):=
 List.perm_append_comm (l₁:=p::(c.rb,.cells 79 (runRC c s v))::(c.sm,.map (kvs m) ck)::(c.am,.map (kvs (arKV c.ab)) c.ac)::arH c.ab s) (l₂:=Ha)
theorem byte_mod (a:Nat):int .u8 (IntKind.u8.wrap ((a % 256:Nat):Int))=int .u8 ((UInt8.ofNat a).toNat:Int):=by
 rw[wrap_u8]
 congr 2
 simp
attribute [local irreducible] LOps LCode LStep LCalls Go.GL.Pure QThen QBlock RetPost LQ LAny LLate LLateOp LS
section
variable {B0:Nat} {w0:World}
theorem rcall_spec {c:Cfg} (hC:CfgOk c) {n:Nat} (hB:RBlkH B0 w0 c n) {f0:FnD} {kn:List FSum} (hk0:Known c.p.funcs kn) {name:List UInt8} {vs:List Nat} {s:IS} {H:Heap} (hv:callE (cenv c kn f0) name vs.length=0) (hvs:∀ v∈vs,Lt v)
  (hbd:Bnd s) (hleft:s.left≤n) (hroom:s.out.length+s.left+1≤c.lim) (hs:StR c s H):LCalls (KC B0 w0) 162 [ptr c.rb 0,str name,.list (vs.map u32)] H (PostR c encV (callI c.p (stI c.p n) name vs s)):=by
 have hs0:=hs
 have hlim:=hC.lim
 generalize hI:callI c.p (stI c.p n) name vs s=R
 unfold callI at hI
 obtain ⟨hl,hle,v,Ha,m,ck,hacc,hsc,rfl⟩:=hs
 refine cI Tryz.func162 rfl (n:=99) rfl rfl rfl ?_
 refine gai ?_
 refine oS (S.alloc fun b6=>?_) rfl
 refine gab ?_
 by_cases hin:name=[105,110]
 ·subst hin
  rw[if_pos rfl] at hI
  refine oC rfl (fun hc=>?_) (fun hc=>by cases hc)
  refine gaa ?_
  have hcas:s.inp=[]∨∃ a r,s.inp=a::r:=by
   cases s.inp with
   |nil=>exact .inl rfl
   |cons a r=>exact .inr ⟨a,r,rfl⟩
  rcases hcas with hinp|⟨a,r,hinp⟩
  ·rw[hinp] at hI
   refine oC rfl (fun hc=>?_) (fun hc=>?_)
   ·refine gaa ?_
    exact retR rfl (rC (rA (k:=3) rfl zb0 rfl zsr) rN) rfl (zhD zhr) (post_val (v:=4294967295) hI.symm hs0)
   ·have h2:=zf hc
    exact absurd (by rw[hinp];rfl) h2
  ·rw[hinp] at hI
   refine oC rfl (fun hc=>?_) (fun hc=>?_)
   ·have h2:=zt hc
    rw[hinp] at h2
    simp at h2
    omega
   ·refine gaa ?_
    refine oP (xR (el':=u32 a) (cs:=[u32 a]) rfl rfl zo (by rw[hinp];rfl) rfl rfl) rfl ?_
    refine gaa ?_
    refine oP (Pure.ltail (a:=u32 a) (es:=r.map u32) (by rw[show elems _=some (s.inp.map u32) from rfl,hinp];rfl) rfl (u32_cells (a::r))) rfl ?_
    refine gaa ?_
    exact retR rfl (rC (rA (k:=3) rfl zb0 rfl zsr) rN) rfl (zhP zp1 (zhD zhr)) (post_val (v:=a) hI.symm ⟨hl,hle,v,Ha,m,ck,hacc,hsc,rfl⟩)
 refine oC rfl (fun hc=>absurd (zt hc) hin) (fun _=>?_)
 rw[if_neg hin] at hI
 unfold callE at hv
 rw[if_neg hin] at hv
 refine gaj ?_
 by_cases hout:name=[111,117,116]
 ·subst hout
  rw[if_pos rfl] at hI hv
  obtain ⟨a,rfl⟩:∃ a,vs=[a]:=by
   match vs,hv with
   |[],hv=>cases hv
   |[a],_=>exact ⟨a,rfl⟩
   |_::_::_,hv=>
    split at hv
    ·rename_i h
     simp at h
    ·cases hv
  have ha:a<4294967296:=hvs a (List.mem_cons_self ..)
  refine oC rfl (fun hc=>?_) (fun hc=>by cases hc)
  refine gad ?_
  refine LCode.draw (m:=15) rfl [] ?_
  refine aT 0 rfl rfl (Pure.mv (lv:=.atom _) rfl) ?_
  refine aT 1 rfl rfl (Pure.mv (lv:=.atom _) rfl) ?_
  refine aT 2 rfl rfl (Pure.nilCheckH rfl) ?_
  refine aT 3 rfl rfl (Pure.fieldH rfl) ?_
  refine aT 5 rfl rfl (Pure.mv (lv:=.list _) rfl) ?_
  refine aT 6 rfl rfl (xR (el':=u32 a) (cs:=[u32 a]) rfl rfl zo rfl rfl rfl) ?_
  refine aT 7 rfl rfl (Pure.loadRef (c:=.atom _) rfl rfl) ?_
  refine aT 8 rfl rfl (Pure.to (Pure.remW rfl rfl zo) (u32_eq (b:=a % 256) rem_u32)) ?_
  refine aT 9 rfl rfl (Pure.to (Pure.cvt rfl) (byte_mod a)) ?_
  refine LAny.late ?_ zhn
  have e1:byts s.out++[int .u8 ((UInt8.ofNat a).toNat:Int)]=byts (s.out++[UInt8.ofNat a]):=by
   rw[byts_app]
   rfl
  have hroom2:((byts s.out).length+[int .u8 ((UInt8.ofNat a).toNat:Int)].length) * 1≤140737488355328:=by
   simp only[byts_len,List.length_cons,List.length_nil]
   omega
  refine LLate.two (i:=4) (j:=10) zk ?_ ?_
  ·refine lH rfl rfl (Pure.loadH (c:=v) rfl zm1 rfl) ?_
   refine zl1 (i:=10) zk ?_
   refine lW rfl (.inl rfl) rfl (S.lit (es:=[int .u8 ((UInt8.ofNat a).toNat:Int)]) [_] rfl (eC rfl rfl eN) rfl rfl rfl ?_)
   refine zl1 (i:=11) zk ?_
   refine lW rfl (.inl rfl) rfl (S.accF (out_permR c s v m ck Ha _) rfl hacc rfl (fun v hv=>by rw[List.mem_singleton.1 hv];rfl) rfl hroom2 fun v' H' hacc'=>?_)
   rw[e1] at hacc'
   refine zl1 (i:=12) zk ?_
   refine lH rfl rfl (Pure.nilCheckH rfl) ?_
   refine zl1 (i:=13) zk ?_
   refine lH rfl rfl (Pure.fieldH rfl) ?_
   refine zl1 (i:=14) zk ?_
   refine lW rfl (.inl rfl) rfl (S.store (n:=1) (vs:=[v']) (cs':=[_,_,_,_,_,_,v',_,_]) rfl zp1 (acc_one hacc').1 rfl rfl (acc_one hacc').2 rfl ?_)
   refine lD zk ?_
   refine gaa ?_
   exact retR rfl (rC (rA (k:=3) rfl zb0 rfl zsr) rN) rfl (H':=stRH c { s with out:=s.out++[UInt8.ofNat a] } v' m ck H') (zhP zp1 (zhD zhr)) (post_val (v:=0) hI.symm ⟨hl,hle,v',H',m,ck,hacc',hsc,rfl⟩)
  ·refine lW rfl (.inl rfl) rfl (S.lit (es:=[int .u8 ((UInt8.ofNat a).toNat:Int)]) [_] rfl (eC rfl rfl eN) rfl rfl rfl ?_)
   refine zl1 (i:=4) zk ?_
   refine lH rfl rfl (Pure.loadH (c:=v) rfl zm1 rfl) ?_
   refine zl1 (i:=11) zk ?_
   refine lW rfl (.inl rfl) rfl (S.accF (out_permR c s v m ck Ha _) rfl hacc rfl (fun v hv=>by rw[List.mem_singleton.1 hv];rfl) rfl hroom2 fun v' H' hacc'=>?_)
   rw[e1] at hacc'
   refine zl1 (i:=12) zk ?_
   refine lH rfl rfl (Pure.nilCheckH rfl) ?_
   refine zl1 (i:=13) zk ?_
   refine lH rfl rfl (Pure.fieldH rfl) ?_
   refine zl1 (i:=14) zk ?_
   refine lW rfl (.inl rfl) rfl (S.store (n:=1) (vs:=[v']) (cs':=[_,_,_,_,_,_,v',_,_]) rfl zp1 (acc_one hacc').1 rfl rfl (acc_one hacc').2 rfl ?_)
   refine lD zk ?_
   refine gaa ?_
   exact retR rfl (rC (rA (k:=3) rfl zb0 rfl zsr) rN) rfl (H':=stRH c { s with out:=s.out++[UInt8.ofNat a] } v' m ck H') (zhP zp1 (zhD zhr)) (post_val (v:=0) hI.symm ⟨hl,hle,v',H',m,ck,hacc',hsc,rfl⟩)
 refine oC rfl (fun hc=>absurd (zt hc) hout) (fun _=>?_)
 rw[if_neg hout] at hI
 have hcv:=call_valid (p:=c.p) (f:=f0) (kn:=kn) hC.valid hk0 (name:=name) (n:=vs.length) (by unfold callE;rw[if_neg hin];exact hv) hin hout
 generalize fnI c.p name=gf at hI hcv
 obtain ⟨hgm,hgn,hgl⟩:=hcv
 subst hgn
 obtain ⟨kn2,hvb,hk2⟩:=hC.valid.bodies gf hgm
 have hsm:=hC.small.each gf hgm
 have hpl:gf.params.length≤1000000:=hsm.params
 have hfind:=find_fn (List.nodup_append.1 (fresh_zero _ _ hC.valid.names).1).2.1 hgm
 have hfun:LCalls (KC B0 w0) 188 [.agg [.list (c.p.vars.map str),.list (c.p.arrays.map encAr),.list (c.p.funcs.map encFn)],str gf.name] [] (Ret (encFn gf)):=function_spec hC.small.funcs hfind
 refine gaa ?_
 refine oS (S.fn [_,_] rfl hfun ?_) rfl
 refine oS (S.alloc fun b8=>?_) rfl
 refine gaa ?_
 refine oL (fun k ls H'=>∃ (pre ps:List (List UInt8)) (vpre vs1:List Nat) (s1:IS) (Hs:Heap),gf.params=pre++ps∧vs=vpre++vs1∧vpre.length=pre.length∧k=ps.length∧ls=[(0,ptr c.rb 0),(2,.list (vs.map u32)),(6,ptr b6 0),(8,ptr b8 0),(9,int .i64 (pre.length:Int))]∧H'=fnH b8 gf::resH b6 0 0 0::Hs∧StR c s1 Hs∧setPs gf gf.params vs s=setPs gf ps vs1 s1)
  ⟨_,_,_,⟨[],gf.params,[],vs,s,_,rfl,rfl,rfl,rfl,rfl,rfl,hs0,rfl⟩,⟨rfl,rfl,rfl,rfl,rfl,trivial⟩,HSub.refl _⟩ ?_
 rintro k ls H' ⟨pre,ps,vpre,vs1,s1,Hs,hps,hvs1,hvl,rfl,rfl,rfl,hst1,hset⟩ j hj
 have hb:=pre_le hps hpl
 have hpl2:ps.length=vs1.length:=by
  rw[hps,hvs1,List.length_append,List.length_append] at hgl
  omega
 refine gaa ?_
 refine oC rfl (fun hc=>?_) (fun hc=>?_)
 ·obtain ⟨p,ps,rfl⟩:=more (g:=str) hps hc
  obtain ⟨x,vs1,rfl⟩:∃ a l,vs1=a::l:=by
   cases vs1 with
   |nil=>simp at hpl2
   |cons a l2=>exact ⟨a,l2,rfl⟩
  rw[setPs] at hset
  obtain ⟨hl1,hle1,v1,Ha1,m1,ck1,hacc1,hsc1,rfl⟩:=hst1
  refine gad ?_
  refine LCode.draw (m:=16) rfl [fnH b8 gf,resH b6 0 0 0,(c.rb,.cells 79 (runRC c s1 v1))] ?_
  refine aT 0 rfl rfl (Pure.mv (lv:=.atom _) rfl) ?_
  refine aT 1 rfl rfl (Pure.nilCheckH rfl) ?_
  refine aT 2 rfl rfl (Pure.fieldH rfl) ?_
  refine aT 3 rfl rfl (Pure.loadH (c:=.atom _) rfl zm2 rfl) ?_
  refine aT 4 rfl rfl (Pure.ldHAgg (cs':=[_,_,_,_]) rfl zm0 rfl rfl) ?_
  refine aT 5 rfl rfl (Pure.fieldH rfl) ?_
  refine aT 6 rfl rfl (Pure.loadH (c:=.list _) rfl zm0 rfl) ?_
  refine aT 7 rfl rfl (Pure.mv (lv:=.atom _) rfl) ?_
  refine aT 8 rfl rfl (xR (el':=str p) (cs:=[str p]) rfl rfl zo (by rw[hps];exact get_mid str pre p ps) rfl rfl) ?_
  refine aT 9 rfl rfl (Pure.loadRef (c:=.atom _) rfl rfl) ?_
  refine aT 11 rfl rfl (Pure.mv (lv:=.list _) rfl) ?_
  refine aT 12 rfl rfl (Pure.mv (lv:=.atom _) rfl) ?_
  refine aT 13 rfl rfl (xR (el':=u32 x) (cs:=[u32 x]) rfl rfl zo (by rw[hvs1,←hvl];exact get_mid u32 vpre x vs1) rfl rfl) ?_
  refine aT 14 rfl rfl (Pure.loadRef (c:=.atom _) rfl rfl) ?_
  refine LAny.late ?_ hsub_left
  refine lO 10 (lS (H1:=[]) rfl (.inl rfl) rfl zpr hsub_left (S.fn [_,_] rfl (key_spec hC hgm p) ?_))
  refine lO 15 (lS (H1:=[(c.sm,.map (kvs m1) ck1)]) (F:=[fnH b8 gf,resH b6 0 0 0,(c.rb,.cells 79 (runRC c s1 v1))]++((c.am,.map (kvs (arKV c.ab)) c.ac)::(arH c.ab s1++Ha1))) rfl (.inl rfl) rfl (List.perm_middle (l₁:=[_,_,_])) hsub_left (S.kvSet (k:=keyI gf p) (lv:=u32 x) rfl rfl rfl pH fun ck2=>?_))
  refine lD zk ?_
  refine gad ?_
  refine LCode.perm (List.perm_middle (l₁:=[_,_,_])).symm ?_
  refine gab ?_
  exact ⟨ps.length,_,_,Nat.lt_succ_self _,⟨pre++[p],ps,vpre++[x],vs1,setSc s1 (keyI gf p) x,_,snoc hps,by rw[hvs1];simp,by simp[hvl],rfl,rfl,rfl,⟨hl1,hle1,v1,Ha1,_,ck2,hacc1,hsc1.put (keyI gf p) x,rfl⟩,hset⟩,⟨rfl,rfl,rfl,rfl,int_eq (by simp),trivial⟩,HSub.refl _,hj⟩
 obtain rfl:=none_left (g:=str) hps hc
 obtain rfl:vs1=[]:=List.length_eq_zero_iff.1 hpl2.symm
 replace hset:setPs gf gf.params vs s=s1:=hset.trans rfl
 have hb1:=setPs_bd gf gf.params vs s hvs hbd
 obtain ⟨ho,hlf,_⟩:=setPs_same gf gf.params vs s
 rw[hset] at hI hb1 ho hlf
 have hg1:Inp.Good c n s1:=⟨hb1,by rw[hlf];exact hleft,by rw[ho,hlf];omega⟩
 refine gaa ?_
 refine oS (S.callR (F:=[_,_]) [_,_,_] rfl (List.perm_append_comm (l₁:=[_,_])) (hB gf kn2 gf.body s1 Hs hgm hk2 hvb (hC.nums gf hgm) hsm.body hsm.stmts hg1 hst1) (fun v9 en er H3 hP=>?_)) rfl
 refine LOps.perm (List.perm_append_comm (l₂:=[_,_])) ?_
 refine oS (S.alloc fun b10=>?_) rfl
 refine gaa ?_
 cases hr:blkR (stI c.p n gf) gf.body s1 with
 |stop e s2=>
  rw[hr,bind_stop] at hI
  rw[hr] at hP
  obtain ⟨rfl,rfl,rfl,hs2⟩:=hP.stop
  refine oB 90 (b:=decide (stopE er=1)) rfl (fun h=>absurd (zt h) (stopE_ne er).2) (fun _=>?_)
  refine gad ?_
  refine oC rfl (fun h=>absurd (zt h) (stopE_ne er).1) (fun _=>?_)
  refine gaa ?_
  exact retR hj (rC (rA (k:=3) rfl zb0 rfl zsr) rN) rfl (zhD (zhD (zhD zhr))) (post_stop hI.symm hs2)
 |ok r s2=>
  rw[hr,bind_ok] at hI
  rw[hr] at hP
  cases r with
  |none=>
   obtain ⟨rfl,rfl,rfl,hs2⟩:=hP.none
   refine gad ?_
   refine oC rfl (fun _=>?_) (fun h=>by cases h)
   refine gaa ?_
   exact retR hj (rC (rA (k:=3) rfl zb0 rfl zsr) rN) rfl (zhD (zhD (zhD zhr))) (post_val (v:=0) hI.symm hs2)
  |some w=>
   obtain ⟨rfl,rfl,rfl,hs2⟩:=hP.some
   refine gad ?_
   refine oC rfl (fun _=>?_) (fun h=>by cases h)
   refine gaa ?_
   exact retR hj (rC (rA (k:=3) rfl zb0 rfl zsr) rN) rfl (zhD (zhD (zhD zhr))) (post_val (v:=v9) hI.symm hs2)
end
end Go.Proofs.YtcbpcianefpniaaGreatDoor.RI
namespace Go.Proofs.YtcbpcianefpniaaGreatDoor.RI
open Go.GL Go.RowKit Go.Stele
open Go.Proofs.YtcbpcianefpniaaGreatDoor.Inp (u32 u32_eq wrapU arKV arH Cfg CfgOk Good cenv ev_good bind_ok bind_stop errE_parts one_of two_of neg_u32 mapR_step b2n_dec u32_cells)
open Go.Proofs.YtcbpcianefpniaaGreatDoor.RC (get_mid more none_left pre_le snoc)
set_option maxRecDepth 100000
set_option maxHeartbeats 4000000
theorem perm_four {a b d e:Nat×LObj} {A B:Heap}:List.Perm (a::b::d::e::(A++B)) (A++(a::b::d::e::B)):=by
 have h:List.Perm (([a,b,d,e]++A)++B) ((A++[a,b,d,e])++B):=List.perm_append_comm.append_right B
 rw[List.append_assoc A] at h
 exact h
theorem resB_two (o:Option Nat):∃ y ok,resB o=.tuple [u32 y,bool ok]∧(ok=true→o=some y)∧(ok=false→o=none):=by
 cases o with
 |none=>exact ⟨0,false,rfl,fun h=>(by cases h),fun _=>rfl⟩
 |some y=>exact ⟨y,true,rfl,fun _=>rfl,fun h=>(by cases h)⟩
theorem u32_ok (l:List Nat):((l.map u32).flatMap LV.cells).all cellOk=true:=by
 induction l with
 |nil=>rfl
 |cons a l ih=>
  simp only[List.map_cons,List.flatMap_cons,List.all_append,ih,Bool.and_true]
  rfl
attribute [local irreducible] LOps LCode LStep LCalls Go.GL.Pure QThen QBlock RetPost LQ LAny LLate LLateOp LS
section
variable {B0:Nat} {w0:World}
theorem reval_spec {c:Cfg} (hC:CfgOk c) {n:Nat} (hE:REvalH B0 w0 c n) (hB:RBlkH B0 w0 c n):REvalH B0 w0 c (n+1):=by
 intro f kn x s H hf hk hv hnum hsm hg hs
 obtain ⟨op,num,name,args⟩:=x
 obtain ⟨hop,hargs,huse⟩:=errE_parts hv
 obtain ⟨hn1,hn2⟩:=hnum
 obtain ⟨hm1,hm2⟩:=hsm
 have hal:args.length≤1000000:=hm1
 generalize hI:evI c.p (n+1) f (Ex.mk op num name args) s=R
 rw[evI] at hI
 rw[encE_mk]
 refine cI Tryz.func112 rfl (n:=124) rfl rfl rfl ?_
 refine gai ?_
 refine oS (S.box rfl fun b4=>?_) rfl
 refine oS (S.box rfl fun b5=>?_) rfl
 refine oS (S.alloc fun b6=>?_) rfl
 refine gaq ?_
 refine oS (S.callH (H1:=H) (F:=[_,_,_]) [_] rfl (List.perm_append_comm (l₁:=[_,_,_])) (count_spec hC hs) ?_ ?_) rfl
 rotate_left
 ·intro ch H' h
  unfold PostT at h
  split at h <;> cases h.1
 intro lv H1 hT
 unfold PostT at hT
 cases hr:tick s with
 |stop e s1=>
  rw[hr] at hI hT
  obtain ⟨hlv,hs1⟩:=hT
  cases hlv
  have he13:e=13:=by
   unfold tick at hr
   split at hr
   ·cases hr;rfl
   ·cases hr
  subst he13
  refine LOps.perm (List.perm_append_comm (l₂:=[_,_,_])) ?_
  refine gac ?_
  refine oC rfl (fun _=>?_) (fun hd=>by cases hd)
  refine gai ?_
  refine oS (S.fn [_] rfl (fail_spec 13) ?_) rfl
  refine gac ?_
  exact retR rfl (rC (rA rfl zm0 rfl zsr) rN) rfl (zhD (zhD (zhD zhr))) (post_stop hI.symm hs1)
 |ok u s1=>
 rw[hr,bind_ok] at hI
 rw[hr] at hT
 obtain ⟨hlv,hs1⟩:=hT
 cases hlv
 have hg1:Inp.Good c n s1∧s1.out.length+s1.left+1≤c.lim:=by
  have h1:=tick_less hr
  have h2:=tick_bd hg.1
  rw[hr] at h2
  have h3:s1.out=s.out:=by
   unfold tick at hr
   split at hr
   ·cases hr
   ·cases hr;rfl
  have h4:=hg.2.1
  have h5:=hg.2.2
  exact ⟨⟨h2.2,by omega,by rw[h3];omega⟩,by rw[h3];omega⟩
 refine LOps.perm (List.perm_append_comm (l₂:=[_,_,_])) ?_
 refine gac ?_
 refine oC rfl (fun hd=>by cases hd) (fun _=>?_)
 refine gan ?_
 refine oS (S.litA (es:=[]) [] rfl eN rfl rfl rfl fun b7=>?_) rfl
 refine gaa ?_
 refine oL (fun k ls H'=>∃ (pre l1:List Ex) (vs:List Nat) (s2:IS) (Hs Ha:Heap) (v:LV),args=pre++l1∧vs.length=pre.length∧(∀ v∈vs,Lt v)∧k=l1.length∧ls=[(0,ptr c.rb 0),(4,ptr b4 0),(5,ptr b5 0),(6,ptr b6 0),(7,v),(8,int .i64 (pre.length:Int))] ∧
   H'=resH b6 0 0 0::exH b5 op num name args::fnH b4 f::(Ha++Hs)∧GL.Acc 1 v (vs.map u32) Ha [] ∧
   StR c s2 Hs∧Inp.Good c n s2∧s2.out.length+s2.left+1≤c.lim∧errEs (cenv c kn f) l1=0∧numEs l1∧smEs l1∧(mapR (evI c.p n f) l1 s2).bind (fun vs' s=>opI c.p (stI c.p n) f op num name (vs++vs') s)=R)
  ⟨args.length,_,_,⟨[],args,[],s1,H1,[(b7,.row 0)],.app b7 0 1 [],rfl,rfl,fun v hv=>(List.not_mem_nil hv).elim,rfl,rfl,rfl,Acc.row,hs1,hg1.1,hg1.2,hargs,hn2,hm2,hI⟩,⟨rfl,rfl,rfl,rfl,rfl,rfl,trivial⟩,⟨[],by rw[List.append_nil];exact (List.perm_middle (l₁:=[_,_,_])).symm⟩⟩ ?_
 rintro k ls H' ⟨pre,l1,vs,s2,Hs,Ha,v,hL,hvl,hvlt,rfl,rfl,rfl,hacc,hs2,hg2,hroom,he2,hnn2,hmm2,hI2⟩ j hj
 have hb:=pre_le hL hal
 refine gaa ?_
 refine oC rfl (fun hc=>?_) (fun hc=>?_)
 ·obtain ⟨a,l2,rfl⟩:=more (g:=encE) hL hc
  rw[errEs] at he2
  obtain ⟨hea,hel⟩:=orE_zero.1 he2
  rw[mapR_step] at hI2
  refine gad ?_
  refine LCode.midB (fun b9=>[(0,ptr c.rb 0),(4,ptr b4 0),(5,ptr b5 0),(6,ptr b6 0),(7,v),(8,int .i64 (pre.length:Int)),(9,ptr b9 0)]) (fun b9 v1 en er G=>resH b9 v1 en er::((resH b6 0 0 0::exH b5 op num name args::fnH b4 f::Ha)++G)) (fun v1 en er G=>PostR c encV (evI c.p n f a s2) (.ret (resV v1 en er)) G) ?_ ?_
  ·refine LCode.draw (m:=10) rfl (resH b6 0 0 0::exH b5 op num name args::fnH b4 f::Ha) ?_
   refine aT 0 rfl rfl (Pure.mv (lv:=.atom _) rfl) ?_
   refine aT 1 rfl rfl (Pure.ldHAgg (cs':=[_,_,_,_]) rfl zm2 rfl rfl) ?_
   refine aT 2 rfl rfl (Pure.fieldH rfl) ?_
   refine aT 3 rfl rfl (Pure.loadH (c:=.list _) rfl zm1 rfl) ?_
   refine aT 4 rfl rfl (Pure.mv (lv:=.atom _) rfl) ?_
   refine aT 5 rfl rfl (xR (el':=encE a) (cs:=[_,_,_,_]) rfl rfl zo (by rw[hL];exact get_mid encE pre a l2) rfl rfl) ?_
   refine aT 6 rfl rfl (Pure.ldRefAgg (cs':=[_,_,_,_]) rfl rfl rfl) ?_
   refine LAny.late ?_ hsub_left
   refine LLate.two (i:=7) (j:=8) zk ?_ ?_
   ·refine lS (H1:=Hs) (F:=(resH b6 0 0 0::exH b5 op num name args::fnH b4 f::Ha)) rfl (.inl rfl) rfl (List.perm_append_comm (l₁:=(resH b6 0 0 0::exH b5 op num name args::fnH b4 f::Ha))) zhr (LStep.callR [_,_,_] rfl (hE f kn a s2 Hs hf hk hea hnn2.1 hmm2.1 hg2 hs2) (fun v1 en er G hP=>?_))
    refine lO 8 (lS (H1:=[]) rfl (.inl rfl) rfl zpr hsub_right (S.alloc fun b9=>?_))
    refine lO 9 (lS (H1:=[_]) rfl (.inl rfl) rfl zpr hsub_right (S.store (n:=3) (cs':=[_,_,_]) rfl pH rfl rfl rfl rfl rfl ?_))
    refine lD zk ?_
    refine QThen.normal ?_
    exact ⟨b9,v1,en,er,G,hP,⟨rfl,rfl,rfl,rfl,rfl,rfl,rfl,trivial⟩,hsubC,rfl⟩
   ·refine lS (H1:=[]) rfl (.inl rfl) rfl zpr hsub_left (S.alloc fun b9=>?_)
    refine lO 7 (lS (H1:=Hs) (F:=_::(resH b6 0 0 0::exH b5 op num name args::fnH b4 f::Ha)) rfl (.inl rfl) rfl (List.perm_append_comm (l₁:=_::(resH b6 0 0 0::exH b5 op num name args::fnH b4 f::Ha))) (zhD zhr) (LStep.callR [_,_,_] rfl (hE f kn a s2 Hs hf hk hea hnn2.1 hmm2.1 hg2 hs2) (fun v1 en er G hP=>?_)))
    refine lO 9 (lS (H1:=[_]) (F:=G++(resH b6 0 0 0::exH b5 op num name args::fnH b4 f::Ha)) rfl (.inl rfl) rfl List.perm_middle hsub_right (S.store (n:=3) (cs':=[_,_,_]) rfl pH rfl rfl rfl rfl rfl ?_))
    refine lD zk ?_
    refine QThen.normal ?_
    exact ⟨b9,v1,en,er,G,hP,⟨rfl,rfl,rfl,rfl,rfl,rfl,rfl,trivial⟩,hsubC,rfl⟩
  rintro b9 w en er H3 hP j2 hj2
  cases hr3:evI c.p n f a s2 with
  |stop e s3=>
   rw[hr3,bind_stop] at hI2
   rw[hr3] at hP
   obtain ⟨rfl,rfl,rfl,hs3⟩:=hP.stop
   refine gab ?_
   refine oC rfl (fun _=>?_) (fun hd=>absurd (hd.symm.trans stop_cond) (by decide))
   refine gaa ?_
   exact retR (hj2.trans hj) (rC (rA (k:=3) rfl zb0 rfl zsr) rN) rfl (H':=H3) (zhD (zhD (zhD (zhD hsub_right)))) (post_stop hI2.symm hs3)
  |ok w2 s3=>
  obtain ⟨hg3,hv3,_⟩:=ev_good hC hnn2.1 hg2 hr3
  have hf3:=(few_all c.p n).1 f a s2
  rw[hr3] at hf3 hP
  have hf3':s3.out.length+s3.left≤s2.out.length+s2.left+0:=hf3
  rw[hr3,bind_ok] at hI2
  obtain ⟨rfl,rfl,rfl,hs3⟩:=hP.val
  refine gab ?_
  refine oC rfl (fun hd=>by cases hd) (fun _=>?_)
  refine gan ?_
  refine oP (Pure.mv (lv:=v) rfl) rfl ?_
  refine gad ?_
  refine oS (S.lit (es:=[w].map u32) [_] rfl (eC rfl rfl eN) rfl rfl rfl ?_) rfl
  refine oS (S.accF (A:=_::_::_::_::H3) (H1:=Ha) perm_four rfl hacc rfl (u32_cells _) (u32_ok _) (by rw[List.length_map,List.length_map,List.length_singleton];omega) fun v5 H5 hacc5=>?_) rfl
  refine oP (Pure.as (lv:=v5) rfl) rfl ?_
  refine gab ?_
  exact ⟨l2.length,_,_,Nat.lt_succ_self _,⟨pre++[a],l2,vs++[w],s3,H3,H5,v5,snoc hL,by simp[hvl],fun y hy=>by
   rcases List.mem_append.1 hy with h1|h1
   ·exact hvlt y h1
   ·rw[List.mem_singleton.1 h1];exact hv3,rfl,rfl,rfl,by rw[List.map_append];exact hacc5,hs3,hg3,by omega,hel,hnn2.2,hmm2.2,by
    rw[←hI2]
    simp only[List.append_assoc,List.singleton_append]⟩,⟨rfl,rfl,rfl,rfl,rfl,int_eq (by simp),trivial⟩,zhD ⟨[],by simpa using (List.perm_append_comm (l₁:=H3) (l₂:=H5))⟩,hj2.trans hj⟩
 obtain rfl:=none_left (g:=encE) hL hc
 rw[mapR,bind_ok,List.append_nil] at hI2
 have hvn:vs.length=args.length:=by rw[hvl,hL,List.append_nil]
 have hI:=hI2
 clear hI2
 refine gad ?_
 refine LCode.sub (d:=7) rfl hacc.sub ?_
 refine LCode.weak (H':=resH b6 0 0 0::exH b5 op num name args::fnH b4 f::Hs) ⟨Ha,(List.perm_append_comm (l₁:=Ha) (l₂:=Hs)).append_left [_,_,_]⟩ ?_
 rw[←hvn] at hop huse
 unfold opI at hI
 obtain ⟨hb2,hl2,_⟩:=hg2
 refine gaa ?_
 by_cases h1:op=[110,117,109]
 ·subst h1
  rw[if_pos rfl] at hI
  refine oC rfl (fun hc=>?_) (fun hc=>by cases hc)
  refine gaa ?_
  exact retR hj (rC (rA (k:=3) rfl zb0 rfl zsr) rN) rfl (zhD (zhD (zhD zhr))) (post_val (v:=num) hI.symm hs2)
 refine oC rfl (fun hc=>absurd (zt hc) h1) (fun _=>?_)
 rw[if_neg h1] at hI
 refine gaj ?_
 by_cases h2:op=[118,97,114]
 ·subst h2
  rw[if_pos rfl] at hI
  obtain ⟨hl,hle,va,Hb,m,ck,hacc2,hsc,rfl⟩:=hs2
  refine oC rfl (fun hc=>?_) (fun hc=>by cases hc)
  refine LCode.seq ?_
  refine LCode.perm (H':=exH b5 [118,97,114] num name args::fnH b4 f::(c.rb,.cells 79 (runRC c s2 va))::resH b6 0 0 0::(c.sm,.map (kvs m) ck)::(c.am,.map (kvs (arKV c.ab)) c.ac)::(arH c.ab s2++Hb)) ((List.perm_middle (l₁:=[_,_,_])).symm) ?_
  refine LCode.draw (m:=11) rfl [exH b5 [118,97,114] num name args,fnH b4 f,(c.rb,.cells 79 (runRC c s2 va))] ?_
  refine aT 0 rfl rfl (Pure.mv (lv:=.atom _) rfl) ?_
  refine aT 1 rfl rfl (Pure.nilCheckH rfl) ?_
  refine aT 2 rfl rfl (Pure.fieldH rfl) ?_
  refine aT 3 rfl rfl (Pure.loadH (c:=.atom _) rfl zm2 rfl) ?_
  refine aT 4 rfl rfl (Pure.ldHAgg (cs':=[_,_,_,_]) rfl zm1 rfl rfl) ?_
  refine aT 5 rfl rfl (Pure.fieldH rfl) ?_
  refine aT 6 rfl rfl (Pure.loadH (c:=.atom _) rfl zm0 rfl) ?_
  refine LAny.late ?_ hsub_left
  refine lO 7 (lS (H1:=[]) rfl (.inl rfl) rfl zpr hsub_left (S.fn [_,_] rfl (key_spec hC hf name) ?_))
  refine lO 8 (lH rfl rfl (Pure.scGet rfl rfl zm4 hsc) ?_)
  refine lO 9 (lH rfl rfl (Pure.bld _ (cs:=[_,_,_]) rfl) ?_)
  refine lO 10 (lS (H1:=[resH b6 0 0 0]) (F:=[exH b5 [118,97,114] num name args,fnH b4 f,(c.rb,.cells 79 (runRC c s2 va))]++((c.sm,.map (kvs m) ck)::(c.am,.map (kvs (arKV c.ab)) c.ac)::(arH c.ab s2++Hb))) rfl (.inl rfl) rfl (List.perm_middle (l₁:=[_,_,_])) hsub_left (S.store (n:=3) (cs':=[_,_,_]) rfl pH rfl rfl rfl rfl rfl ?_))
  refine lD zk ?_
  refine gal ?_
  exact retR hj (rC (rA (k:=3) rfl zb0 rfl zsr) rN) rfl (zhD (zhD (zhD zhr))) (post_val (v:=s2.sc (keyI f name)) hI.symm ⟨hl,hle,va,Hb,m,ck,hacc2,hsc,rfl⟩)
 refine oC rfl (fun hc=>absurd (zt hc) h2) (fun _=>?_)
 rw[if_neg h2] at hI
 refine gaj ?_
 by_cases h3:op=[101,108,101,109]
 ·subst h3
  rw[if_pos rfl] at hI
  unfold useE at huse
  rw[if_neg (by decide),if_pos (show ([101,108,101,109]:List UInt8)=nElem from rfl)] at huse
  have hpl:name∈c.p.arrays.map (·.name):=by
   unfold arrayE at huse
   split at huse
   ·rename_i h
    exact h
   ·split at huse <;> cases huse
  obtain ⟨b,m,hb1,hb3⟩:=hC.arr hpl
  have hmz:=hC.asz _ hb1
  simp only at hmz
  obtain ⟨hl,hle,va,Hb,m2,ck,hacc2,hsc,rfl⟩:=hs2
  obtain ⟨hlen2,G,hG1,_⟩:=str_ar hC (ck:=ck) hb1 hl hle hacc2 hsc
  obtain ⟨a,rfl⟩:∃ a,vs=[a]:=one_of (by
   rcases hop with h|h
   ·exact absurd h (by decide)
   ·have h9:(1:Int)=(vs.length:Int):=h
    omega)
  have ha:a<4294967296:=hvlt a (List.mem_cons_self ..)
  have hwr:IntKind.i64.wrap (a:Int)=a:=wrap_i64 zo
  refine oC rfl (fun hc=>?_) (fun hc=>by cases hc)
  refine gad ?_
  refine LCode.quiet zk ?_
  refine gac ?_
  refine LQ.pure (Pure.kvHit rfl rfl zm5 hb3) rfl ?_
  refine gaa ?_
  refine oP (xR (el':=u32 a) (cs:=[u32 a]) rfl rfl zo rfl rfl rfl) rfl ?_
  refine gac ?_
  refine oP (Pure.rowLen rfl) rfl ?_
  refine gac ?_
  have hI':(match (s2.ar name)[a]? with
   |some v=>IR.ok v s2
   |none=>.stop 2 s2)=R:=hI
  by_cases hin:a<m
  rotate_left
  ·have hget:(s2.ar name)[a]? = none:=List.getElem?_eq_none zo
   rw[hget] at hI'
   refine oC rfl (fun _=>?_) (fun hd=>by have h2:=zf hd;rw[hwr] at h2;omega)
   refine gai ?_
   refine oS (S.fn [_] rfl (fail_spec 2) ?_) rfl
   refine gac ?_
   exact retR hj (rC (rA (k:=3) rfl zb0 rfl zsr) rN) rfl (zhD (zhD (zhD zhr))) (post_stop (er:=2) hI'.symm ⟨hl,hle,va,Hb,m2,ck,hacc2,hsc,rfl⟩)
  have hget:(s2.ar name)[a]? = some (s2.ar name)[a]:=List.getElem?_eq_getElem zo
  rw[hget] at hI'
  refine oC rfl (fun hd=>by have h2:=zt hd;rw[hwr] at h2;omega) (fun _=>?_)
  refine gab ?_
  refine oP (xR (el':=u32 a) (cs:=[u32 a]) rfl rfl zo rfl rfl rfl) rfl ?_
  refine gac ?_
  refine oP (Pure.indexRow rfl rfl zo zo) rfl ?_
  refine oP (Pure.loadH (c:=u32 (s2.ar name)[a]) rfl (List.mem_append_right [_,_,_] (hG1.mem_iff.2 (List.mem_cons_self ..))) (by rw[List.getElem?_map];simp[hget])) rfl ?_
  refine gac ?_
  exact retR hj (rC (rA (k:=3) rfl zb0 rfl zsr) rN) rfl (zhD (zhD (zhD zhr))) (post_val (v:=(s2.ar name)[a]) hI'.symm ⟨hl,hle,va,Hb,m2,ck,hacc2,hsc,rfl⟩)
 refine oC rfl (fun hc=>absurd (zt hc) h3) (fun _=>?_)
 rw[if_neg h3] at hI
 refine gaj ?_
 by_cases h4:op=[110,101,103]
 ·subst h4
  rw[if_pos rfl] at hI
  obtain ⟨a,rfl⟩:∃ a,vs=[a]:=one_of (by
   rcases hop with h|h
   ·exact absurd h (by decide)
   ·have h9:(1:Int)=(vs.length:Int):=h
    omega)
  have ha:a<4294967296:=hvlt a (List.mem_cons_self ..)
  refine oC rfl (fun hc=>?_) (fun hc=>by cases hc)
  refine gab ?_
  refine oP (xR (el':=u32 a) (cs:=[u32 a]) rfl rfl zo rfl rfl rfl) rfl ?_
  refine gac ?_
  refine oP (Pure.to (Pure.negW rfl) (int_eq (neg_u32 ha))) rfl ?_
  refine gac ?_
  exact retR hj (rC (rA (k:=3) rfl zb0 rfl zsr) rN) rfl (zhD (zhD (zhD zhr))) (post_val (v:=(4294967296-a) % 4294967296) hI.symm hs2)
 refine oC rfl (fun hc=>absurd (zt hc) h4) (fun _=>?_)
 rw[if_neg h4] at hI
 refine gaj ?_
 by_cases h5:op=[110,111,116]
 ·subst h5
  rw[if_pos rfl] at hI
  obtain ⟨a,rfl⟩:∃ a,vs=[a]:=one_of (by
   rcases hop with h|h
   ·exact absurd h (by decide)
   ·have h9:(1:Int)=(vs.length:Int):=h
    omega)
  refine oC rfl (fun hc=>?_) (fun hc=>by cases hc)
  refine gab ?_
  refine oP (xR (el':=u32 a) (cs:=[u32 a]) rfl rfl zo rfl rfl rfl) rfl ?_
  refine gac ?_
  refine oS (S.fn [_] rfl (one_spec _) ?_) rfl
  rw[show b2n (decide ((a:Int)=0))=b2n (decide (a=0)) from b2n_dec zo]
  refine gac ?_
  exact retR hj (rC (rA (k:=3) rfl zb0 rfl zsr) rN) rfl (zhD (zhD (zhD zhr))) (post_val (v:=b2n (decide (a=0))) hI.symm hs2)
 refine oC rfl (fun hc=>absurd (zt hc) h5) (fun _=>?_)
 rw[if_neg h5] at hI
 refine gaj ?_
 by_cases h6:op=[99,97,108,108]
 ·subst h6
  rw[if_pos rfl] at hI
  unfold useE at huse
  rw[if_neg (by decide),if_neg (by decide),if_pos (show ([99,97,108,108]:List UInt8)=nCall from rfl)] at huse
  refine oC rfl (fun hc=>?_) (fun hc=>by cases hc)
  refine gaa ?_
  refine oS (S.callR (F:=[_,_,_]) [_,_,_] rfl (List.perm_append_comm (l₁:=[_,_,_])) (rcall_spec hC hB hk huse hvlt hb2 hl2 hroom hs2) (fun v9 en er H3 hP=>?_)) rfl
  refine LOps.perm (List.perm_append_comm (l₂:=[_,_,_])) ?_
  refine gac ?_
  exact retR hj (rC (rA (k:=3) rfl zb0 rfl zsr) rN) rfl (zhD (zhD (zhD zhr))) (by rw[←hI];exact hP)
 refine oC rfl (fun hc=>absurd (zt hc) h6) (fun _=>?_)
 rw[if_neg h6] at hI
 refine gad ?_
 have hbin:op∈binOps∧vs.length=2:=by
  unfold opnds at hop
  rw[if_neg (fun h=>h.elim h1 h2),if_neg (fun h=>h.elim h3 (fun h=>h.elim h4 h5)),if_neg (show ¬ op=nCall from h6)] at hop
  split at hop
  ·rename_i h
   refine ⟨h,?_⟩
   rcases hop with h|h <;> omega
  ·rcases hop with h|h <;> omega
 obtain ⟨hbo,hv2⟩:=hbin
 obtain ⟨a,b2,rfl⟩:=two_of hv2
 have ha:a<4294967296:=hvlt a (List.mem_cons_self ..)
 have hb:b2<4294967296:=hvlt b2 (List.mem_cons_of_mem _ (List.mem_cons_self ..))
 have hbs:=binary_spec (B0:=B0) (w0:=w0) hbo ha hb
 obtain ⟨y,ok,hyo,hy1,hy2⟩:=resB_two (binI op a b2)
 rw[hyo] at hbs
 have hI':(match binI op a b2 with
  |some v=>IR.ok v s2
  |none=>.stop 12 s2)=R:=hI
 refine LCode.midC (A:=Unit) (fun _=>[(4,ptr b4 0),(5,ptr b5 0),(6,ptr b6 0),(11,u32 y),(12,bool ok)]) (fun _=>resH b6 0 0 0::exH b5 op num name args::fnH b4 f::Hs) (fun _=>True) ?_ ?_
 ·refine LCode.draw (m:=14) rfl [resH b6 0 0 0,exH b5 op num name args] ?_
  refine aT 0 rfl rfl (Pure.fieldH rfl) ?_
  refine aT 1 rfl rfl (Pure.loadH (c:=.atom _) rfl zm1 rfl) ?_
  refine aT 2 rfl rfl (Pure.mv (lv:=.list _) rfl) ?_
  refine aT 3 rfl rfl (xR (el':=u32 a) (cs:=[u32 a]) rfl rfl zo rfl rfl rfl) ?_
  refine aT 4 rfl rfl (Pure.loadRef (c:=.atom _) rfl rfl) ?_
  refine aT 5 rfl rfl (Pure.mv (lv:=.list _) rfl) ?_
  refine aT 6 rfl rfl (xR (el':=u32 b2) (cs:=[u32 b2]) rfl rfl zo rfl rfl rfl) ?_
  refine aT 7 rfl rfl (Pure.loadRef (c:=.atom _) rfl rfl) ?_
  refine LAny.late ?_ hsub_left
  refine zl1 (i:=8) zk ?_
  refine lS (H1:=[]) rfl (.inl rfl) rfl zpr hsub_left (S.fn [_,_,_] rfl hbs ?_)
  refine zl1 (i:=9) zk ?_
  refine lH rfl rfl (Pure.mv (lv:=.tuple _) rfl) ?_
  refine LLate.two (i:=10) (j:=11) zk ?_ ?_
  ·refine lH rfl rfl (Pure.extract (c:=.atom _) rfl rfl) ?_
   refine LLate.two (i:=11) (j:=12) zk ?_ ?_
   ·refine lH rfl rfl (Pure.extract (c:=.atom _) rfl rfl) ?_
    refine zl1 (i:=12) zk ?_
    refine lH rfl rfl (Pure.as (lv:=.atom _) rfl) ?_
    refine zl1 (i:=13) zk ?_
    refine lH rfl rfl (Pure.as (lv:=.atom _) rfl) ?_
    refine lD zk ?_
    refine QThen.normal ?_
    exact ⟨(),trivial,⟨rfl,rfl,rfl,rfl,rfl,trivial⟩,HSub.refl _,rfl⟩
   ·refine lH rfl rfl (Pure.as (lv:=.atom _) rfl) ?_
    refine zl1 (i:=11) zk ?_
    refine lH rfl rfl (Pure.extract (c:=.atom _) rfl rfl) ?_
    refine zl1 (i:=13) zk ?_
    refine lH rfl rfl (Pure.as (lv:=.atom _) rfl) ?_
    refine lD zk ?_
    refine QThen.normal ?_
    exact ⟨(),trivial,⟨rfl,rfl,rfl,rfl,rfl,trivial⟩,HSub.refl _,rfl⟩
  ·refine lH rfl rfl (Pure.extract (c:=.atom _) rfl rfl) ?_
   refine zl1 (i:=10) zk ?_
   refine lH rfl rfl (Pure.extract (c:=.atom _) rfl rfl) ?_
   refine zl1 (i:=12) zk ?_
   refine lH rfl rfl (Pure.as (lv:=.atom _) rfl) ?_
   refine zl1 (i:=13) zk ?_
   refine lH rfl rfl (Pure.as (lv:=.atom _) rfl) ?_
   refine lD zk ?_
   refine QThen.normal ?_
   exact ⟨(),trivial,⟨rfl,rfl,rfl,rfl,rfl,trivial⟩,HSub.refl _,rfl⟩
 rintro _ _ j3 hj3
 refine gaa ?_
 cases ok with
 |true=>
  rw[hy1 rfl] at hI'
  refine oC rfl (fun hd=>by cases hd) (fun _=>?_)
  refine gaa ?_
  exact retR (hj3.trans hj) (rC (rA (k:=3) rfl zb0 rfl zsr) rN) rfl (zhD (zhD (zhD zhr))) (post_val (v:=y) hI'.symm hs2)
 |false=>
  rw[hy2 rfl] at hI'
  refine oC rfl (fun _=>?_) (fun hd=>by cases hd)
  refine gai ?_
  refine oS (S.fn [_] rfl (fail_spec 12) ?_) rfl
  refine gac ?_
  exact retR (hj3.trans hj) (rC (rA (k:=3) rfl zb0 rfl zsr) rN) rfl (zhD (zhD (zhD zhr))) (post_stop (er:=12) hI'.symm hs2)
theorem reval_zero {c:Cfg} (hC:CfgOk c):REvalH B0 w0 c 0:=by
 intro f kn x s H hf hk hv hnum hsm hg hs
 have ht:tick s=.stop 13 s:=by rw[tick,if_pos (Nat.le_zero.1 hg.2.1)]
 obtain ⟨op,num,name,args⟩:=x
 have h0:evI c.p 0 f (.mk op num name args) s=.stop 13 s:=by rw[evI]
 rw[encE_mk]
 refine cI Tryz.func112 rfl (n:=124) rfl rfl rfl ?_
 refine gai ?_
 refine oS (S.box rfl fun b4=>?_) rfl
 refine oS (S.box rfl fun b5=>?_) rfl
 refine oS (S.alloc fun b6=>?_) rfl
 refine gaq ?_
 refine oS (S.callH (H1:=H) (F:=[_,_,_]) [_] rfl (List.perm_append_comm (l₁:=[_,_,_])) (count_spec hC hs) ?_ ?_) rfl
 rotate_left
 ·intro ch H' h
  unfold PostT at h
  split at h <;> cases h.1
 intro lv H1 hT
 unfold PostT at hT
 rw[ht] at hT
 obtain ⟨hlv,hs1⟩:=hT
 cases hlv
 refine LOps.perm (List.perm_append_comm (l₂:=[_,_,_])) ?_
 refine gac ?_
 refine oC rfl (fun _=>?_) (fun hd=>by cases hd)
 refine gai ?_
 refine oS (S.fn [_] rfl (fail_spec 13) ?_) rfl
 refine gac ?_
 exact retR rfl (rC (rA rfl zm0 rfl zsr) rN) rfl (zhD (zhD (zhD zhr))) (post_stop h0 hs1)
theorem rstmt_zero {c:Cfg} (hC:CfgOk c):RStmtH B0 w0 c 0:=by
 intro f kn x s H hf hk hv hnum hsm hg hs
 have ht:tick s=.stop 13 s:=by rw[tick,if_pos (Nat.le_zero.1 hg.2.1)]
 obtain ⟨kind,name,index,value,thn,els⟩:=x
 have h0:stI c.p 0 f (.mk kind name index value thn els) s=.stop 13 s:=by rw[stI]
 rw[encS_mk]
 refine cI Tryz.func77 rfl (n:=127) rfl rfl rfl ?_
 refine gai ?_
 refine oS (S.box rfl fun b4=>?_) rfl
 refine oS (S.box rfl fun b5=>?_) rfl
 refine oS (S.alloc fun b6=>?_) rfl
 refine gaq ?_
 refine oS (S.callH (H1:=H) (F:=[_,_,_]) [_] rfl (List.perm_append_comm (l₁:=[_,_,_])) (count_spec hC hs) ?_ ?_) rfl
 rotate_left
 ·intro ch H' h
  unfold PostT at h
  split at h <;> cases h.1
 intro lv H1 hT
 unfold PostT at hT
 rw[ht] at hT
 obtain ⟨hlv,hs1⟩:=hT
 cases hlv
 refine LOps.perm (List.perm_append_comm (l₂:=[_,_,_])) ?_
 refine gac ?_
 refine oC rfl (fun _=>?_) (fun hd=>by cases hd)
 refine gai ?_
 refine oS (S.fn [_] rfl (fail_spec 13) ?_) rfl
 refine gac ?_
 exact retR rfl (rC (rA rfl zm0 rfl zsr) rN) rfl (zhD (zhD (zhD zhr))) (post_stop h0 hs1)
theorem rrun_all {c:Cfg} (hC:CfgOk c):∀ n:Nat,REvalH B0 w0 c n∧RStmtH B0 w0 c n
 |0=>⟨reval_zero hC,rstmt_zero hC⟩
 |n+1=>by
  obtain ⟨h1,h2⟩:=rrun_all hC n
  have hB:=rblock_spec hC h2
  exact ⟨reval_spec hC h1 hB,rstmt_spec hC h1 hB⟩
end
end Go.Proofs.YtcbpcianefpniaaGreatDoor.RI
namespace Go.Proofs
def Tryz.lays283_ren:Go.Shelf.Ren:=⟨fun|283=>114|n=>n,fun|3=>3|9=>9|4=>4|n=>n,fun|n=>n⟩
theorem Tryz.lays283:Go.Proofs.Lays.n283 Tryz.prog Tryz.lays283_ren:={
 mixed:=by kernel_rfl
 f283:=Tryz.func114.trans (congrArg some (by kernel_rfl))
 t3:=Tryz.underlying3
 a3:=Tryz.isAgg3
 z3:=Tryz.sizeOf3
 v3:=Tryz.zeroValue3
 t4:=Tryz.underlying4
 a4:=Tryz.isAgg4
 z4:=Tryz.sizeOf4
 v4:=Tryz.zeroValue4
 t9:=Tryz.underlying9
 a9:=Tryz.isAgg9
 z9:=Tryz.sizeOf9
 v9:=Tryz.zeroValue9 }
open Go.Lib in
theorem Tryz.internal_strconv_small (i:Nat) (h:i<100) (w:World) :
  Calls Tryz.prog 114 #[.int .i64 i] w fun e w'=>e=.returned (.string ⟨(Lib.decDigits i).toArray⟩)∧w'=w:=Any.internal_strconv_small Tryz.lays283 i h w
def Tryz.laysM284_ren:Go.Shelf.Ren:=⟨fun|284=>115|129=>165|317=>164|318=>166|n=>n,fun|53=>84|3=>3|212=>205|0=>0|4=>4|46=>46|5=>5|9=>9|n=>n,fun|17=>1|n=>n⟩
theorem Tryz.laysM284:Go.Proofs.LaysM.n284 Tryz.prog Tryz.laysM284_ren:={
 mixed:=by kernel_rfl
 f129:=Tryz.func165.trans (congrArg some (by kernel_rfl))
 f284:=Tryz.func115.trans (congrArg some (by kernel_rfl))
 f317:=Tryz.func164.trans (congrArg some (by kernel_rfl))
 f318:=Tryz.func166.trans (congrArg some (by kernel_rfl))
 t0:=Tryz.underlying0
 a0:=Tryz.isAgg0
 z0:=Tryz.sizeOf0
 v0:=Tryz.zeroValue0
 t3:=Tryz.underlying3
 a3:=Tryz.isAgg3
 z3:=Tryz.sizeOf3
 v3:=Tryz.zeroValue3
 t4:=Tryz.underlying4
 a4:=Tryz.isAgg4
 z4:=Tryz.sizeOf4
 v4:=Tryz.zeroValue4
 t5:=Tryz.underlying5
 a5:=Tryz.isAgg5
 z5:=Tryz.sizeOf5
 v5:=Tryz.zeroValue5
 t9:=Tryz.underlying9
 a9:=Tryz.isAgg9
 z9:=Tryz.sizeOf9
 v9:=Tryz.zeroValue9
 t46:=Tryz.underlying46
 a46:=Tryz.isAgg46
 z46:=Tryz.sizeOf46
 v46:=Tryz.zeroValue46
 t53:=Tryz.underlying84
 a53:=Tryz.isAgg84
 z53:=Tryz.sizeOf84
 v53:=Tryz.zeroValue84
 t212:=Tryz.underlying205
 a212:=Tryz.isAgg205
 z212:=Tryz.sizeOf205
 v212:=Tryz.zeroValue205
 g17:=by kernel_rfl
 i0:=by kernel_rfl
 i3:=by kernel_rfl
 i4:=by kernel_rfl
 i5:=by kernel_rfl
 i9:=by kernel_rfl
 i46:=by kernel_rfl
 i53:=by kernel_rfl
 i212:=by kernel_rfl
 m17:=by kernel_rfl }
open Go.Lib in
theorem Tryz.internal_strconv_numDigits (u : Nat) (h1 : 1 ≤ u) (h2 : u < 18446744073709551616) (w : World) (htab : Lib.TabIs Tryz.prog w "internal/strconv.uint64pow10" .u64 Lib.pow10Tab) :
  Calls Tryz.prog 115 #[.int .u64 u] w fun e w'=>e=.returned (.int .i64 (Lib.nDigits u))∧w'=w:=Any.internal_strconv_numDigits Tryz.laysM284 u h1 h2 w htab
def Tryz.lays285_ren:Go.Shelf.Ren:=⟨fun|285=>116|n=>n,fun|37=>42|53=>84|3=>3|4=>4|51=>43|9=>9|5=>5|0=>0|n=>n,fun|n=>n⟩
theorem Tryz.lays285:Go.Proofs.Lays.n285 Tryz.prog Tryz.lays285_ren:={
 mixed:=by kernel_rfl
 f285:=Tryz.func116.trans (congrArg some (by kernel_rfl))
 t0:=Tryz.underlying0
 a0:=Tryz.isAgg0
 z0:=Tryz.sizeOf0
 v0:=Tryz.zeroValue0
 t3:=Tryz.underlying3
 a3:=Tryz.isAgg3
 z3:=Tryz.sizeOf3
 v3:=Tryz.zeroValue3
 t4:=Tryz.underlying4
 a4:=Tryz.isAgg4
 z4:=Tryz.sizeOf4
 v4:=Tryz.zeroValue4
 t5:=Tryz.underlying5
 a5:=Tryz.isAgg5
 z5:=Tryz.sizeOf5
 v5:=Tryz.zeroValue5
 t9:=Tryz.underlying9
 a9:=Tryz.isAgg9
 z9:=Tryz.sizeOf9
 v9:=Tryz.zeroValue9
 t37:=Tryz.underlying42
 a37:=Tryz.isAgg42
 z37:=Tryz.sizeOf42
 v37:=Tryz.zeroValue42
 t51:=Tryz.underlying43
 a51:=Tryz.isAgg43
 z51:=Tryz.sizeOf43
 v51:=Tryz.zeroValue43
 t53:=Tryz.underlying84
 a53:=Tryz.isAgg84
 z53:=Tryz.sizeOf84
 v53:=Tryz.zeroValue84 }
open Go.RowKit Go.Sort Go.Lib in
theorem Tryz.internal_strconv_formatBase10 (blk off cap:Nat) (u:Nat) (d:Array UInt8) (w:World) (hH:Holds (fun (b:UInt8)=>Value.int .u8 (b.toNat:Int)) w blk off d) (hu:u<10 ^ d.size) (hu64:u<18446744073709551616) (hsz:d.size<4611686018427387904) :
  Calls Tryz.prog 116 #[.slice (some ⟨blk,off,none⟩) d.size cap,.int .u64 u] w fun e w'=>
   e=.returned (.tuple #[])∧∃ (n v':Nat) (dk:Array UInt8),w'=(putRow (fun (b:UInt8)=>Value.int .u8 (b.toNat:Int)) w blk off dk).drewN n∧FmtInv d.size u 0 v' dk:=Any.internal_strconv_formatBase10 Tryz.lays285 blk off cap u d w hH hu hu64 hsz
def Tryz.laysM171_ren:Go.Shelf.Ren:=⟨fun|171=>176|243=>193|246=>210|283=>114|284=>115|285=>116|286=>117|129=>165|317=>164|318=>166|319=>167|320=>168|337=>189|338=>190|n=>n,fun|3=>3|9=>9|2=>2|4=>4|171=>184|0=>0|53=>84|37=>42|5=>5|173=>187|212=>205|51=>43|20=>20|213=>206|46=>46|232=>231|233=>232|n=>n,fun|17=>1|18=>4|19=>5|n=>n⟩
theorem Tryz.laysM171:Go.Proofs.LaysM.n171 Tryz.prog Tryz.laysM171_ren:={
 mixed:=by kernel_rfl
 f129:=Tryz.func165.trans (congrArg some (by kernel_rfl))
 f171:=Tryz.func176.trans (congrArg some (by kernel_rfl))
 f243:=Tryz.func193.trans (congrArg some (by kernel_rfl))
 f246:=Tryz.func210.trans (congrArg some (by kernel_rfl))
 f283:=Tryz.func114.trans (congrArg some (by kernel_rfl))
 f284:=Tryz.func115.trans (congrArg some (by kernel_rfl))
 f285:=Tryz.func116.trans (congrArg some (by kernel_rfl))
 f286:=Tryz.func117.trans (congrArg some (by kernel_rfl))
 f317:=Tryz.func164.trans (congrArg some (by kernel_rfl))
 f318:=Tryz.func166.trans (congrArg some (by kernel_rfl))
 f319:=Tryz.func167.trans (congrArg some (by kernel_rfl))
 f320:=Tryz.func168.trans (congrArg some (by kernel_rfl))
 f337:=Tryz.func189.trans (congrArg some (by kernel_rfl))
 f338:=Tryz.func190.trans (congrArg some (by kernel_rfl))
 t0:=Tryz.underlying0
 a0:=Tryz.isAgg0
 z0:=Tryz.sizeOf0
 v0:=Tryz.zeroValue0
 t2:=Tryz.underlying2
 a2:=Tryz.isAgg2
 z2:=Tryz.sizeOf2
 v2:=Tryz.zeroValue2
 t3:=Tryz.underlying3
 a3:=Tryz.isAgg3
 z3:=Tryz.sizeOf3
 v3:=Tryz.zeroValue3
 t4:=Tryz.underlying4
 a4:=Tryz.isAgg4
 z4:=Tryz.sizeOf4
 v4:=Tryz.zeroValue4
 t5:=Tryz.underlying5
 a5:=Tryz.isAgg5
 z5:=Tryz.sizeOf5
 v5:=Tryz.zeroValue5
 t9:=Tryz.underlying9
 a9:=Tryz.isAgg9
 z9:=Tryz.sizeOf9
 v9:=Tryz.zeroValue9
 t20:=Tryz.underlying20
 a20:=Tryz.isAgg20
 z20:=Tryz.sizeOf20
 v20:=Tryz.zeroValue20
 t37:=Tryz.underlying42
 a37:=Tryz.isAgg42
 z37:=Tryz.sizeOf42
 v37:=Tryz.zeroValue42
 t46:=Tryz.underlying46
 a46:=Tryz.isAgg46
 z46:=Tryz.sizeOf46
 v46:=Tryz.zeroValue46
 t51:=Tryz.underlying43
 a51:=Tryz.isAgg43
 z51:=Tryz.sizeOf43
 v51:=Tryz.zeroValue43
 t53:=Tryz.underlying84
 a53:=Tryz.isAgg84
 z53:=Tryz.sizeOf84
 v53:=Tryz.zeroValue84
 t171:=Tryz.underlying184
 a171:=Tryz.isAgg184
 z171:=Tryz.sizeOf184
 v171:=Tryz.zeroValue184
 t173:=Tryz.underlying187
 a173:=Tryz.isAgg187
 z173:=Tryz.sizeOf187
 v173:=Tryz.zeroValue187
 t212:=Tryz.underlying205
 a212:=Tryz.isAgg205
 z212:=Tryz.sizeOf205
 v212:=Tryz.zeroValue205
 t213:=Tryz.underlying206
 a213:=Tryz.isAgg206
 z213:=Tryz.sizeOf206
 t232:=Tryz.underlying231
 a232:=Tryz.isAgg231
 z232:=Tryz.sizeOf231
 v232:=Tryz.zeroValue231
 t233:=Tryz.underlying232
 a233:=Tryz.isAgg232
 z233:=Tryz.sizeOf232
 v233:=Tryz.zeroValue232
 g17:=by kernel_rfl
 g18:=by kernel_rfl
 g19:=by kernel_rfl
 i0:=by kernel_rfl
 i2:=by kernel_rfl
 i3:=by kernel_rfl
 i4:=by kernel_rfl
 i5:=by kernel_rfl
 i9:=by kernel_rfl
 i20:=by kernel_rfl
 i37:=by kernel_rfl
 i46:=by kernel_rfl
 i51:=by kernel_rfl
 i53:=by kernel_rfl
 i171:=by kernel_rfl
 i173:=by kernel_rfl
 i212:=by kernel_rfl
 i232:=by kernel_rfl
 i233:=by kernel_rfl
 m17:=by kernel_rfl
 m18:=by kernel_rfl
 m19:=by kernel_rfl }
open Go.RowKit Go.Sort Go.Lib in
theorem Tryz.strconv_Itoa (n : Int) (h0 : -9223372036854775808 ≤ n) (h1 : n ≤ 9223372036854775807) (w : World) (htab : Lib.TabIs Tryz.prog w "internal/strconv.uint64pow10" .u64 Lib.pow10Tab) :
  Calls Tryz.prog 176 #[.int .i64 n] w fun e w'=>e=.returned (.string ⟨(Lib.itoa n).toArray⟩)∧∃ k os,w'=grow (w.drewN k) os:=Any.strconv_Itoa Tryz.laysM171 n h0 h1 w htab
def Tryz.laysPu14_ren:Go.Shelf.Ren:=⟨fun|14=>173|16=>191|17=>192|19=>204|20=>205|21=>206|22=>207|23=>208|24=>209|25=>221|27=>176|26=>222|28=>193|29=>210|30=>114|31=>115|32=>116|33=>117|35=>165|34=>164|36=>166|37=>167|38=>168|39=>189|40=>190|n=>n,fun|9=>9|3=>3|22=>84|24=>146|25=>217|4=>4|34=>233|5=>5|36=>46|37=>42|0=>0|39=>235|21=>21|44=>247|47=>191|50=>256|48=>254|2=>2|52=>184|55=>187|59=>205|60=>43|20=>20|61=>206|65=>231|66=>232|67=>112|n=>n,fun|0=>6|1=>7|2=>1|3=>4|4=>5|n=>n⟩
theorem Tryz.laysPu14:Go.Proofs.LaysPu.n14 Tryz.prog Tryz.laysPu14_ren:={
 mixed:=by kernel_rfl
 f14:=Tryz.func173.trans (congrArg some (by kernel_rfl))
 f16:=Tryz.func191.trans (congrArg some (by kernel_rfl))
 f17:=Tryz.func192.trans (congrArg some (by kernel_rfl))
 f19:=Tryz.func204.trans (congrArg some (by kernel_rfl))
 f20:=Tryz.func205.trans (congrArg some (by kernel_rfl))
 f21:=Tryz.func206.trans (congrArg some (by kernel_rfl))
 f22:=Tryz.func207.trans (congrArg some (by kernel_rfl))
 f23:=Tryz.func208.trans (congrArg some (by kernel_rfl))
 f24:=Tryz.func209.trans (congrArg some (by kernel_rfl))
 f25:=Tryz.func221.trans (congrArg some (by kernel_rfl))
 f26:=Tryz.func222.trans (congrArg some (by kernel_rfl))
 f27:=Tryz.func176.trans (congrArg some (by kernel_rfl))
 f28:=Tryz.func193.trans (congrArg some (by kernel_rfl))
 f29:=Tryz.func210.trans (congrArg some (by kernel_rfl))
 f30:=Tryz.func114.trans (congrArg some (by kernel_rfl))
 f31:=Tryz.func115.trans (congrArg some (by kernel_rfl))
 f32:=Tryz.func116.trans (congrArg some (by kernel_rfl))
 f33:=Tryz.func117.trans (congrArg some (by kernel_rfl))
 f34:=Tryz.func164.trans (congrArg some (by kernel_rfl))
 f35:=Tryz.func165.trans (congrArg some (by kernel_rfl))
 f36:=Tryz.func166.trans (congrArg some (by kernel_rfl))
 f37:=Tryz.func167.trans (congrArg some (by kernel_rfl))
 f38:=Tryz.func168.trans (congrArg some (by kernel_rfl))
 f39:=Tryz.func189.trans (congrArg some (by kernel_rfl))
 f40:=Tryz.func190.trans (congrArg some (by kernel_rfl))
 t0:=Tryz.underlying0
 a0:=Tryz.isAgg0
 z0:=Tryz.sizeOf0
 v0:=Tryz.zeroValue0
 i0:=by kernel_rfl
 t2:=Tryz.underlying2
 a2:=Tryz.isAgg2
 z2:=Tryz.sizeOf2
 v2:=Tryz.zeroValue2
 i2:=by kernel_rfl
 t3:=Tryz.underlying3
 a3:=Tryz.isAgg3
 z3:=Tryz.sizeOf3
 v3:=Tryz.zeroValue3
 i3:=by kernel_rfl
 t4:=Tryz.underlying4
 a4:=Tryz.isAgg4
 z4:=Tryz.sizeOf4
 v4:=Tryz.zeroValue4
 i4:=by kernel_rfl
 t5:=Tryz.underlying5
 a5:=Tryz.isAgg5
 z5:=Tryz.sizeOf5
 v5:=Tryz.zeroValue5
 i5:=by kernel_rfl
 t9:=Tryz.underlying9
 a9:=Tryz.isAgg9
 z9:=Tryz.sizeOf9
 v9:=Tryz.zeroValue9
 i9:=by kernel_rfl
 t20:=Tryz.underlying20
 a20:=Tryz.isAgg20
 z20:=Tryz.sizeOf20
 v20:=Tryz.zeroValue20
 i20:=by kernel_rfl
 t21:=Tryz.underlying21
 a21:=Tryz.isAgg21
 z21:=Tryz.sizeOf21
 v21:=Tryz.zeroValue21
 i21:=by kernel_rfl
 t22:=Tryz.underlying84
 a22:=Tryz.isAgg84
 z22:=Tryz.sizeOf84
 v22:=Tryz.zeroValue84
 i22:=by kernel_rfl
 t24:=Tryz.underlying146
 a24:=Tryz.isAgg146
 z24:=Tryz.sizeOf146
 v24:=Tryz.zeroValue146
 i24:=by kernel_rfl
 t25:=Tryz.underlying217
 a25:=Tryz.isAgg217
 z25:=Tryz.sizeOf217
 v25:=Tryz.zeroValue217
 i25:=by kernel_rfl
 t34:=Tryz.underlying233
 a34:=Tryz.isAgg233
 z34:=Tryz.sizeOf233
 v34:=Tryz.zeroValue233
 i34:=by kernel_rfl
 c34:=by kernel_rfl
 t36:=Tryz.underlying46
 a36:=Tryz.isAgg46
 z36:=Tryz.sizeOf46
 v36:=Tryz.zeroValue46
 i36:=by kernel_rfl
 t37:=Tryz.underlying42
 a37:=Tryz.isAgg42
 z37:=Tryz.sizeOf42
 v37:=Tryz.zeroValue42
 i37:=by kernel_rfl
 t39:=Tryz.underlying235
 a39:=Tryz.isAgg235
 z39:=Tryz.sizeOf235
 v39:=Tryz.zeroValue235
 i39:=by kernel_rfl
 t44:=Tryz.underlying247
 a44:=Tryz.isAgg247
 z44:=Tryz.sizeOf247
 v44:=Tryz.zeroValue247
 i44:=by kernel_rfl
 t47:=Tryz.underlying191
 a47:=Tryz.isAgg191
 z47:=Tryz.sizeOf191
 v47:=Tryz.zeroValue191
 i47:=by kernel_rfl
 t48:=Tryz.underlying254
 a48:=Tryz.isAgg254
 z48:=Tryz.sizeOf254
 v48:=Tryz.zeroValue254
 i48:=by kernel_rfl
 t50:=Tryz.underlying256
 a50:=Tryz.isAgg256
 z50:=Tryz.sizeOf256
 v50:=Tryz.zeroValue256
 i50:=by kernel_rfl
 t52:=Tryz.underlying184
 a52:=Tryz.isAgg184
 z52:=Tryz.sizeOf184
 v52:=Tryz.zeroValue184
 i52:=by kernel_rfl
 t55:=Tryz.underlying187
 a55:=Tryz.isAgg187
 z55:=Tryz.sizeOf187
 v55:=Tryz.zeroValue187
 i55:=by kernel_rfl
 t59:=Tryz.underlying205
 a59:=Tryz.isAgg205
 z59:=Tryz.sizeOf205
 v59:=Tryz.zeroValue205
 i59:=by kernel_rfl
 t60:=Tryz.underlying43
 a60:=Tryz.isAgg43
 z60:=Tryz.sizeOf43
 v60:=Tryz.zeroValue43
 i60:=by kernel_rfl
 t61:=Tryz.underlying206
 a61:=Tryz.isAgg206
 z61:=Tryz.sizeOf206
 t65:=Tryz.underlying231
 a65:=Tryz.isAgg231
 z65:=Tryz.sizeOf231
 v65:=Tryz.zeroValue231
 i65:=by kernel_rfl
 t66:=Tryz.underlying232
 a66:=Tryz.isAgg232
 z66:=Tryz.sizeOf232
 v66:=Tryz.zeroValue232
 i66:=by kernel_rfl
 t67:=Tryz.underlying112
 a67:=Tryz.isAgg112
 z67:=Tryz.sizeOf112
 v67:=Tryz.zeroValue112
 i67:=by kernel_rfl
 g0:=by kernel_rfl
 m0:=by kernel_rfl
 g1:=by kernel_rfl
 m1:=by kernel_rfl
 g2:=by kernel_rfl
 m2:=by kernel_rfl
 g3:=by kernel_rfl
 m3:=by kernel_rfl
 g4:=by kernel_rfl
 m4:=by kernel_rfl }
open Go.RowKit in
theorem Tryz.strconv_ParseUint_10_at32_ok (s:ByteArray) (hmax:s.size≤9223372036854775806) (u:Nat) (h:Lib.parseUintB 32 s.data.toList=.ok u) (w:World) :
  Calls Tryz.prog 173 #[.string s,.int .i64 10,.int .i64 32] w fun e w'=>e=.returned (.tuple #[.int .u64 u,.nilIface])∧(w'=w∨w'=Lib.bytesWorld w 5 s):=Any.strconv_ParseUint_10_at32_ok Tryz.laysPu14 s hmax u h w
open Go.RowKit in
theorem Tryz.strconv_ParseUint_10_at32_range_var (s : ByteArray) (hlim : s.size ≤ 281474976710656) (h : Lib.parseUintB 32 s.data.toList = .range) (tp : TypeId) (p : Value) (w : World) (hvar : w.var? Tryz.prog "strconv.ErrRange" = some #[.iface tp p]) :
  Calls Tryz.prog 173 #[.string s,.int .i64 10,.int .i64 32] w fun e w'=>∃ N,e=.returned (.tuple #[.int .u64 4294967295,.iface 235 (.pointer (some ⟨N,0,none⟩))])∧w.heap.size≤N∧w'.heap[N]? = some (.cells #[.string ⟨#[80,97,114,115,101,85,105,110,116]⟩,.string s,.iface tp p] 247 (0,0))∧Below w.heap.size w w':=Any.strconv_ParseUint_10_at32_range_var Tryz.laysPu14 s hlim h tp p w hvar
def Tryz.lays144_ren:Go.Shelf.Ren:=⟨fun|144=>22|143=>35|219=>79|217=>118|225=>119|224=>120|267=>121|266=>169|314=>170|n=>n,fun|9=>9|4=>4|3=>3|5=>5|46=>46|146=>208|51=>43|n=>n,fun|1=>0|n=>n⟩
def Tryz.lays138_ren:Go.Shelf.Ren:=⟨fun|138=>80|195=>122|218=>123|143=>35|219=>79|217=>118|225=>119|224=>120|267=>121|266=>169|314=>170|n=>n,fun|9=>9|3=>3|4=>4|5=>5|0=>0|46=>46|146=>208|51=>43|n=>n,fun|1=>0|n=>n⟩
theorem Tryz.lays138:Go.Proofs.Lays.n138 Tryz.prog Tryz.lays138_ren:={
 mixed:=by kernel_rfl
 f138:=Tryz.func80.trans (congrArg some (by kernel_rfl))
 f143:=Tryz.func35.trans (congrArg some (by kernel_rfl))
 f195:=Tryz.func122.trans (congrArg some (by kernel_rfl))
 f217:=Tryz.func118.trans (congrArg some (by kernel_rfl))
 f218:=Tryz.func123.trans (congrArg some (by kernel_rfl))
 f219:=Tryz.func79.trans (congrArg some (by kernel_rfl))
 f224:=Tryz.func120.trans (congrArg some (by kernel_rfl))
 f225:=Tryz.func119.trans (congrArg some (by kernel_rfl))
 f266:=Tryz.func169.trans (congrArg some (by kernel_rfl))
 f267:=Tryz.func121.trans (congrArg some (by kernel_rfl))
 f314:=Tryz.func170.trans (congrArg some (by kernel_rfl))
 t0:=Tryz.underlying0
 a0:=Tryz.isAgg0
 z0:=Tryz.sizeOf0
 v0:=Tryz.zeroValue0
 t3:=Tryz.underlying3
 a3:=Tryz.isAgg3
 z3:=Tryz.sizeOf3
 v3:=Tryz.zeroValue3
 t4:=Tryz.underlying4
 a4:=Tryz.isAgg4
 z4:=Tryz.sizeOf4
 v4:=Tryz.zeroValue4
 t5:=Tryz.underlying5
 a5:=Tryz.isAgg5
 z5:=Tryz.sizeOf5
 v5:=Tryz.zeroValue5
 t9:=Tryz.underlying9
 a9:=Tryz.isAgg9
 z9:=Tryz.sizeOf9
 v9:=Tryz.zeroValue9
 t46:=Tryz.underlying46
 a46:=Tryz.isAgg46
 z46:=Tryz.sizeOf46
 v46:=Tryz.zeroValue46
 t51:=Tryz.underlying43
 a51:=Tryz.isAgg43
 z51:=Tryz.sizeOf43
 v51:=Tryz.zeroValue43
 t146:=Tryz.underlying208
 a146:=Tryz.isAgg208
 z146:=Tryz.sizeOf208
 v146:=Tryz.zeroValue208
 g1:=by kernel_rfl }
open Go.RowKit Go.Lib in
theorem Tryz.strings_Count_one (s:ByteArray) (c:UInt8) (w:World) :
  Calls Tryz.prog 80 #[.string s,.string ⟨#[c]⟩] w fun e w'=>e=.returned (.int .i64 (Lib.countByte s.data.toList c))∧w'=w:=Any.strings_Count_one Tryz.lays138 s c w
def Tryz.lays99_ren:Go.Shelf.Ren:=⟨fun|99=>18|206=>33|n=>n,fun|9=>9|4=>4|3=>3|n=>n,fun|n=>n⟩
theorem Tryz.lays99:Go.Proofs.Lays.n99 Tryz.prog Tryz.lays99_ren:={
 mixed:=by kernel_rfl
 f99:=Tryz.func18.trans (congrArg some (by kernel_rfl))
 f206:=Tryz.func33.trans (congrArg some (by kernel_rfl))
 t3:=Tryz.underlying3
 a3:=Tryz.isAgg3
 z3:=Tryz.sizeOf3
 v3:=Tryz.zeroValue3
 t4:=Tryz.underlying4
 a4:=Tryz.isAgg4
 z4:=Tryz.sizeOf4
 v4:=Tryz.zeroValue4
 t9:=Tryz.underlying9
 a9:=Tryz.isAgg9
 z9:=Tryz.sizeOf9
 v9:=Tryz.zeroValue9 }
open Go.RowKit Go.Lib in
theorem Tryz.strings_HasPrefix (s p:ByteArray) (w:World) :
  Calls Tryz.prog 18 #[.string s,.string p] w fun e w'=>e=.returned (.bool (Lib.hasPrefix s.data.toList p.data.toList))∧w'=w:=Any.strings_HasPrefix Tryz.lays99 s p w
end Go.Proofs
namespace Go.Proofs.YtcbpcianefpniaaGreatDoor
open Go.GL Go.RowKit Go.Stele
set_option maxRecDepth 100000
set_option maxHeartbeats 4000000
attribute [local irreducible] LOps LCode LStep LCalls Go.GL.Pure QThen QBlock RetPost
section
variable {B0:Nat} {w0:World}
theorem run_spec {f:FuncId} [TEnter Tryz.prog f] (p:UInt8→Bool) (hp:∀ c:UInt8,LCalls (KC B0 w0) f [int .u8 c.toNat] [] (Ret (bool (p c)))) (s:List UInt8) (hs:s.length≤1000000000) :
  LCalls (KC B0 w0) 127 [str s,.atom (.func (.func f) #[] #[])] [] (Ret (str (s.takeWhile p))):=by
 refine cI Tryz.func127 rfl (n:=22) rfl rfl rfl ?_
 refine gab ?_
 refine oL (fun k l H=>∃ m:Nat,k=s.length-m∧l=[(0,str s),(1,.atom (.func (.func f) #[] #[])),(5,int .i64 m)]∧H=[]∧m≤s.length∧s.takeWhile p=s.take m++(s.drop m).takeWhile p)
  ⟨_,_,_,⟨0,rfl,rfl,rfl,by omega,by simp⟩,⟨rfl,rfl,rfl,trivial⟩,HSub.refl _⟩ ?_
 rintro k l H ⟨m,rfl,rfl,rfl,hm,hI⟩ j hj
 refine gaa ?_
 refine oB 10 rfl (fun ht=>?_) (fun ht=>?_)
 ·have hlt:m<s.length:=by simpa using ht
  refine gat ?_
  refine oP (Pure.sindex (c:=s[m]) rfl rfl zo (by simp)) rfl ?_
  refine LOps.want rfl rfl ?_
  refine oS (S.fnV [_] rfl rfl (hp s[m]) ?_) rfl
  refine gad ?_
  refine oC rfl (fun hc=>?_) (fun hc=>?_)
  ·refine gab ?_
   exact ⟨_,_,_,by omega,⟨m+1,rfl,rfl,rfl,by omega,(takeWhile_step hlt hI).1 (by simpa using hc)⟩,⟨rfl,rfl,int_eq zo,trivial⟩,HSub.refl _,hj⟩
  ·refine gab ?_
   refine oP (Pure.sslice (i:=0) (j:=m) rfl rfl ⟨_,rfl⟩ zo zo zo) rfl ?_
   refine gam ?_
   exact retRet hj (zra rfl) (by
    rw[(takeWhile_step hlt hI).2 (by simpa using hc)]
    simp[resLV])
 ·have hge:s.length≤m:=by simpa using ht
  refine gag ?_
  refine oC rfl (fun hc=>?_) (fun hc=>?_)
  ·cases hc
  ·refine gab ?_
   refine oP (Pure.sslice (i:=0) (j:=m) rfl rfl ⟨_,rfl⟩ zo zo zo) rfl ?_
   refine gam ?_
   exact retRet hj (zra rfl) (by
    rw[takeWhile_end hge hI]
    simp[resLV])
theorem hasPrefix_spec (s p:List UInt8):LCalls (KC B0 w0) 18 [str s,str p] [] (Ret (bool (p.isPrefixOf s))):=
 LCalls.ret_of (vs:=[.string ⟨s.toArray⟩,.string ⟨p.toArray⟩]) fun w _=>(Go.Proofs.Tryz.strings_HasPrefix _ _ w).mono fun e w' he=>by
  obtain ⟨h1,h2⟩:=he
  subst h2
  exact ⟨by simpa [Go.Lib.hasPrefix] using h1,Below.refl _ _⟩
theorem skip_spec (s:List UInt8) (hs:s.length≤1000000000):LCalls (KC B0 w0) 85 [str s] [] (Ret (int .i64 (skipLen s))):=by
 refine cI Tryz.func85 rfl (n:=11) rfl rfl rfl ?_
 refine gav ?_
 refine oS (S.fn [_,_] rfl (hasPrefix_spec s [47,47]) ?_) rfl
 refine gap ?_
 refine oC rfl (fun hc=>?_) (fun hc=>?_)
 ·refine gae ?_
  refine oS (S.fn [_,_] rfl (run_spec notNl notNl_spec s hs) ?_) rfl
  refine gac ?_
  exact retRet rfl (zra rfl) (by simp only[resLV,skipLen,hc,if_true])
 ·refine gax ?_
  refine oS (S.fn [_,_] rfl (run_spec isWhite white_spec s hs) ?_) rfl
  refine gac ?_
  exact retRet rfl (zra rfl) (by simp only[resLV,skipLen,hc,Bool.false_eq_true,if_false])
end
end Go.Proofs.YtcbpcianefpniaaGreatDoor
namespace Go.Proofs.YtcbpcianefpniaaGreatDoor
open Go Go.Shelf Go.RowKit Go.Sort Go.Lib
set_option maxHeartbeats 6400000
set_option maxRecDepth 100000
theorem formatUint_main (u : Nat) (hu64 : u < 18446744073709551616) (w : World) (htab : Lib.TabIs Tryz.prog w "internal/strconv.uint64pow10" .u64 Lib.pow10Tab) :
  Calls Tryz.prog 78 #[.int .u64 u,.int .i64 10] w fun e w'=>e=.returned (.string ⟨(Lib.decDigits u).toArray⟩)∧Below w.heap.size w w':=by
 have mixed:Tryz.prog.follows .mixedOrders=true:=by kernel_rfl
 have t3:=Tryz.underlying3;have a3:=Tryz.isAgg3;have z3:=Tryz.sizeOf3;have v3:=Tryz.zeroValue3
 have t9:=Tryz.underlying9;have a9:=Tryz.isAgg9;have z9:=Tryz.sizeOf9;have v9:=Tryz.zeroValue9
 have t4:=Tryz.underlying4;have a4:=Tryz.isAgg4;have z4:=Tryz.sizeOf4;have v4:=Tryz.zeroValue4
 have t142:=Tryz.underlying184;have a142:=Tryz.isAgg184;have z142:=Tryz.sizeOf184;have v142:=Tryz.zeroValue184
 have t0:=Tryz.underlying0;have a0:=Tryz.isAgg0;have z0:=Tryz.sizeOf0;have v0:=Tryz.zeroValue0
 have t119:=Tryz.underlying84;have a119:=Tryz.isAgg84;have z119:=Tryz.sizeOf84;have v119:=Tryz.zeroValue84
 have t85:=Tryz.underlying42;have a85:=Tryz.isAgg42;have z85:=Tryz.sizeOf42;have v85:=Tryz.zeroValue42
 have t5:=Tryz.underlying5;have a5:=Tryz.isAgg5;have z5:=Tryz.sizeOf5;have v5:=Tryz.zeroValue5
 have e137:∀ args w,(callFunc 114 args).run Tryz.prog w=.ok (.enter 114 args) w:=enters_of Tryz.func114 (by kernel_rfl) rfl
 have e138:∀ args w,(callFunc 115 args).run Tryz.prog w=.ok (.enter 115 args) w:=enters_of Tryz.func115 (by kernel_rfl) rfl
 have e139:∀ args w,(callFunc 116 args).run Tryz.prog w=.ok (.enter 116 args) w:=enters_of Tryz.func116 (by kernel_rfl) rfl
 by_cases hs:u<100
 ·go_enter Tryz.func78,Tryz.ntmps78
  go_wp2_with (go_at_fn (114);refine (Tryz.internal_strconv_small u hs _).mono ?_;rintro e w' ⟨rfl,rfl⟩)
  go_ret
  exact ⟨rfl,Below.refl _ _⟩
 ·have hu1:1≤u:=by omega
  have hnd20:Lib.nDigits u≤20:=by have:=Lib.numDigits_eq u hu1 hu64;split at this <;> omega
  have hal:Tryz.prog.arrayLen 184=24:=by simp[Program.arrayLen,Tryz.underlying184]
  have hsl:∀ W,(Instr.sliceAt 184 (.pointer (some ⟨w.heap.size,0,none⟩)) none (some (.int .i64 (Lib.nDigits u:Int))) none).run Tryz.prog W=.ok (.slice (some ⟨w.heap.size,0,none⟩) (Lib.nDigits u) 24) W:=fun W=>by
   rw[run_sliceAt_array_h W 184 ⟨w.heap.size,0,none⟩ (by simp[Program.arrayLen,Program.elem,Tryz.underlying184]) .i64 (Lib.nDigits u:Int) (by omega) (by rw[hal];omega)]
   go_simp
  have hH0:=Lib.holds_zero0 w 184 (Lib.nDigits u) (by omega)
  have hfmt:=Tryz.internal_strconv_formatBase10 w.heap.size 0 24 u (Array.replicate (Lib.nDigits u) 0) (w.alloc (.cells Lib.zeros24 184)) hH0 (by rw[Array.size_replicate];exact Lib.lt_pow_nDigits u) hu64 (by rw[Array.size_replicate];omega)
  rw[Array.size_replicate] at hfmt
  have HH0:=Lib.hid hH0
  clear hH0 hal
  go_enter Tryz.func78,Tryz.ntmps78
  go_wp2_with (first
   |(go_at_fn (115);refine (Tryz.internal_strconv_numDigits u hu1 hu64 _ (Lib.tabIs_alloc htab _)).mono ?_;rintro e w' ⟨rfl,rfl⟩))
  go_at_fn (116)
  refine hfmt.mono ?_
  rintro e w' ⟨rfl,k,v',dk,rfl,hF⟩
  have hcv:(convert 42 9 (.slice (some ⟨w.heap.size,0,none⟩) (Lib.nDigits u) 24)).run Tryz.prog ((putRow (fun (b:UInt8)=>Value.int .u8 (b.toNat:Int)) (w.alloc (.cells Lib.zeros24 184)) w.heap.size 0 dk).drewN k)=.ok (.string ⟨(Lib.decDigits u).toArray⟩) ((putRow (fun (b:UInt8)=>Value.int .u8 (b.toNat:Int)) (w.alloc (.cells Lib.zeros24 184)) w.heap.size 0 dk).drewN k):=by
   have h:=run_convert_bytes_back (P:=Tryz.prog) ((putRow (fun (b:UInt8)=>Value.int .u8 (b.toNat:Int)) (w.alloc (.cells Lib.zeros24 184)) w.heap.size 0 dk).drewN k) 42 9 5 ⟨w.heap.size,0,none⟩ 24 (Lib.decDigits u) Tryz.underlying42 Tryz.underlying5 Tryz.underlying9 (fun j hj=>by
    rw[Lib.row_is_numeral hF j hj,Lib.add_plain,World.cell?_drewN]
    exact cell?_putRow (fun (b:UInt8)=>Value.int .u8 (b.toNat:Int)) _ w.heap.size 0 _ dk HH0.out (by rw[hF.size,Array.size_replicate]) j (by rw[hF.size];rw[Lib.decDigits_length] at hj;exact hj))
   rw[Lib.decDigits_length] at h
   exact h
  go_wp2
  go_ret
  refine ⟨rfl,?_⟩
  obtain ⟨os,eo⟩:=Lib.fin_at w (.cells Lib.zeros24 184) dk k 0
  rw[eo]
  exact Lib.below_grow _ w (Nat.le_refl _) k os
end Go.Proofs.YtcbpcianefpniaaGreatDoor
namespace Go.Proofs.YtcbpcianefpniaaGreatDoor
open Go.GL Go.RowKit Go.Stele
set_option maxRecDepth 100000
set_option maxHeartbeats 4000000
attribute [local irreducible] LOps LCode LStep LCalls Go.GL.Pure QThen QBlock RetPost
structure GW (B0:Nat) (w0:World):Prop where
 pow10 : Go.Lib.TabIs Tryz.prog w0 "internal/strconv.uint64pow10" .u64 Go.Lib.pow10Tab
 errRange : ∃ tp p, w0.var? Tryz.prog "strconv.ErrRange" = some #[.iface tp p]
 big:8≤B0
section
variable {B0:Nat} {w0:World}
theorem GW.tab (h : GW B0 w0) {w : World} (hb : Below B0 w0 w) : Go.Lib.TabIs Tryz.prog w "internal/strconv.uint64pow10" .u64 Go.Lib.pow10Tab := by
 have hg : Tryz.prog.globalNamed "internal/strconv.uint64pow10" = some 1 := by kernel_rfl
 exact var?_below hb hg (Nat.lt_of_lt_of_le (by decide) h.big) h.pow10
theorem GW.err (h : GW B0 w0) {w : World} (hb : Below B0 w0 w) : ∃ tp p, w.var? Tryz.prog "strconv.ErrRange" = some #[.iface tp p] := by
 have hg : Tryz.prog.globalNamed "strconv.ErrRange" = some 7 := by kernel_rfl
 obtain ⟨tp,p,hv⟩:=h.errRange
 exact ⟨tp,p,var?_below hb hg (Nat.lt_of_lt_of_le (by decide) h.big) hv⟩
theorem itoa_spec (hG:GW B0 w0) (u:Nat) (hu:u≤9223372036854775807):LCalls (KC B0 w0) 176 [int .i64 u] [] (Ret (str (Go.Lib.decDigits u))):=
 LCalls.ret_of (vs:=[.int .i64 u]) fun w hw=>(Go.Proofs.Tryz.strconv_Itoa u zo zo w (hG.tab hw)).mono fun e w' he=>by
  obtain ⟨h1,k,os,h2⟩:=he
  rw[Go.Lib.itoa_nonneg] at h1
  exact ⟨h1,by rw[h2];exact Go.Lib.below_grow _ w (Nat.le_refl _) k os⟩
theorem fmtUint_spec (hG:GW B0 w0) (u:Nat) (hu:u<18446744073709551616):LCalls (KC B0 w0) 34 [int .u64 u,int .i64 10] [] (Ret (str (Go.Lib.decDigits u))):=by
 refine cI Tryz.func34 rfl (n:=8) rfl rfl rfl ?_
 refine gav ?_
 refine oS (S.fn [_,_] rfl (LCalls.ret_of (vs:=[.int .u64 u,.int .i64 10]) fun w hw=>formatUint_main u hu w (hG.tab hw)) ?_) rfl
 refine gam ?_
 exact retRet rfl (zra rfl) rfl
theorem parseUint_ok (s:List UInt8) (hs:s.length≤1000000000) (u:Nat) (h:Go.Lib.parseUintB 32 s=.ok u) :
  LCalls (KC B0 w0) 173 [str s,int .i64 10,int .i64 32] [] (Ret (.tuple [int .u64 u,.atom .nilIface])):=by
 refine LCalls.mono (LCalls.of_belowT (vs:=[.string ⟨s.toArray⟩,.int .i64 10,.int .i64 32]) (p:=fun us=>us=[.int .u64 u,.nilIface]) fun w hw=>?_) ?_
 ·refine (Go.Proofs.Tryz.strconv_ParseUint_10_at32_ok ⟨s.toArray⟩ ?_ u (by simpa using h) w).mono fun e w' he=>⟨_,he.1,rfl,?_⟩
  ·show s.toArray.size≤_
   simp
   omega
  ·rcases he.2 with h2|h2
   ·rw[h2];exact Below.refl _ _
   ·rw[h2]
    exact ⟨rfl,rfl,rfl,by rw[Go.Lib.bytesWorld_size];omega,fun k hk=>Go.Lib.bytesWorld_at_old w 5 _ k hk⟩
 ·rintro r H ⟨v,rfl,⟨us,rfl,rfl⟩,rfl⟩
  exact ⟨rfl,rfl⟩
theorem parseUint_range (hG:GW B0 w0) (s:List UInt8) (hs:s.length≤1000000000) (h:Go.Lib.parseUintB 32 s=.range) :
  LCalls (KC B0 w0) 173 [str s,int .i64 10,int .i64 32] [] (RetIf fun lv=>∃ v t p,lv=.tuple [int .u64 v,.atom (.iface t p)]):=by
 refine LCalls.mono (LCalls.of_belowT (vs:=[.string ⟨s.toArray⟩,.int .i64 10,.int .i64 32]) (p:=fun us=>∃ v t p,us=[.int .u64 v,.iface t p]) fun w hw=>?_) ?_
 ·obtain ⟨tp,p,hv⟩:=hG.err hw
  refine (Go.Proofs.Tryz.strconv_ParseUint_10_at32_range_var ⟨s.toArray⟩ ?_ (by simpa using h) tp p w hv).mono fun e w' he=>?_
  ·show s.toArray.size≤_
   simp
   omega
  ·obtain ⟨N,h1,_,_,h4⟩:=he
   exact ⟨_,h1,⟨_,_,_,rfl⟩,h4⟩
 ·rintro r H ⟨v,rfl,⟨us,⟨a,t,p,rfl⟩,rfl⟩,rfl⟩
  exact ⟨_,rfl,⟨a,t,p,rfl⟩,rfl⟩
theorem countNl_spec (s:List UInt8):LCalls (KC B0 w0) 80 [str s,str [10]] [] (Ret (int .i64 (s.count 10))):=
 LCalls.ret_of (vs:=[.string ⟨s.toArray⟩,.string ⟨#[10]⟩]) fun w _=>(Go.Proofs.Tryz.strings_Count_one _ _ w).mono fun e w' he=>by
  obtain ⟨h1,h2⟩:=he
  subst h2
  exact ⟨by simpa [Go.Lib.countByte] using h1,Below.refl _ _⟩
end
end Go.Proofs.YtcbpcianefpniaaGreatDoor
namespace Go.Proofs.YtcbpcianefpniaaGreatDoor
open Go.GL Go.RowKit Go.Stele
set_option maxRecDepth 100000
set_option maxHeartbeats 4000000
attribute [local irreducible] LOps LCode LStep LCalls Go.GL.Pure QThen QBlock RetPost
def encTok (t:Tok):LV:=.agg [int .i64 t.kind,str t.text,int .i64 t.line]
def encTokR (r:TokR):LV:=.tuple [encTok r.1,int .i64 r.2.1,int .i64 r.2.2]
theorem elemsOk_strs (l:List (List UInt8)):elemsOk 1 (l.map str):=fun v hv=>by
 obtain ⟨x,_,rfl⟩:=List.mem_map.1 hv
 exact ⟨rfl,rfl⟩
section
variable {B0:Nat} {w0:World}
theorem Keywords_spec:LCalls (KC B0 w0) 175 [] [] (Ret (.list (keywords.map str))):=by
 refine cI Tryz.func175 rfl (n:=2) rfl rfl rfl ?_
 refine ga2 ?_
 refine oS (S.lit [_,_,_,_,_,_,_,_] rfl (elemsOk_strs keywords) rfl rfl rfl ?_) rfl
 refine gaf ?_
 exact retRet rfl (rC (rT (v:=.list _) rfl zsr) rN) rfl
theorem signs_spec:LCalls (KC B0 w0) 135 [] [] (Ret (.list (signs.map str))):=by
 refine cI Tryz.func135 rfl (n:=2) rfl rfl rfl ?_
 refine ga2 ?_
 refine oS (S.lit [_,_,_,_,_,_,_,_,_,_,_,_,_,_,_,_,_,_,_,_,_,_,_,_] rfl (elemsOk_strs signs) rfl rfl rfl ?_) rfl
 refine gaf ?_
 exact retRet rfl (rC (rT (v:=.list _) rfl zsr) rN) rfl
theorem Index_spec (l:List (List UInt8)) (x:List UInt8) (hl:l.length≤1000000000):LCalls (KC B0 w0) 177 [.list (l.map str),str x] [] (RetIf fun lv=>∃ n:Int,lv=int .i64 n∧decide (0≤n)=l.contains x):=by
 refine cI Tryz.func177 rfl (n:=19) rfl rfl rfl ?_
 refine gab ?_
 refine oL (fun k ls H=>∃ m:Nat,k=l.length-m∧ls=[(0,.list (l.map str)),(1,str x),(7,int .i64 (l.map str).length),(8,int .i64 m)]∧H=[]∧m≤l.length∧l.contains x=(l.drop m).contains x)
  ⟨_,_,_,⟨0,rfl,rfl,rfl,by omega,by simp⟩,⟨rfl,rfl,rfl,rfl,trivial⟩,HSub.refl _⟩ ?_
 rintro k ls H ⟨m,rfl,rfl,rfl,hm,hI⟩ j hj
 refine gak ?_
 refine oC rfl (fun hc=>?_) (fun hc=>?_)
 ·have hlt:m<l.length:=by simpa using hc
  refine gab ?_
  refine oP (xR (el':=str l[m]) rfl rfl zo (by simp) rfl rfl) rfl ?_
  refine gac ?_
  refine oC rfl (fun he=>?_) (fun he=>?_)
  ·refine gab ?_
   have hx:x=l[m]:=by simpa using he
   exact retRetIf hj (zra rfl) ⟨m,rfl,by
    rw[hx,decide_eq_true zo]
    simp⟩
  ·refine gab ?_
   have hx:¬ x=l[m]:=by simpa using he
   exact ⟨_,_,_,by omega,⟨m+1,rfl,rfl,rfl,by omega,by
    rw[hI,List.drop_eq_getElem_cons hlt,List.contains_cons]
    simp[hx]⟩,⟨rfl,rfl,rfl,int_eq zo,trivial⟩,HSub.refl _,hj⟩
 ·have hge:l.length≤m:=by simpa using hc
  refine gab ?_
  exact retRetIf hj (zra rfl) ⟨-1,rfl,by
   rw[hI,List.drop_eq_nil_of_le hge]
   rfl⟩
theorem Contains_spec (l:List (List UInt8)) (x:List UInt8) (hl:l.length≤1000000000):LCalls (KC B0 w0) 136 [.list (l.map str),str x] [] (Ret (bool (l.contains x))):=by
 refine cI Tryz.func136 rfl (n:=9) rfl rfl rfl ?_
 refine gab ?_
 refine oS (S.fnIf [_,_] rfl (Index_spec l x hl) ?_) rfl
 rintro lv ⟨n,rfl,hn⟩
 refine gac ?_
 exact retRet rfl (zra rfl) (by rw[←hn];rfl)
theorem name_spec (s:List UInt8) (hs:s.length≤1000000000):LCalls (KC B0 w0) 133 [str s] [] (Ret (encTokR (lexName s))):=by
 refine cI Tryz.func133 rfl (n:=21) rfl rfl rfl ?_
 refine gai ?_
 refine oS (S.alloc fun b=>?_) rfl
 refine gav ?_
 refine oS (S.fn [_,_] rfl (run_spec isInner inner_spec s hs) ?_) rfl
 refine gaa ?_
 refine oC rfl (fun hc=>?_) (fun hc=>?_)
 ·refine gaa ?_
  exact retRet rfl (rC (rA rfl zm0 rfl zsr) (rC (zrt rfl) (zra rfl))) (by
   rw[lexName,if_pos (by have:=zt hc;omega)]
   rfl)
 ·refine gab ?_
  refine oS (S.fn [] rfl Keywords_spec ?_) rfl
  refine gaz ?_
  refine oS (S.fn [_,_] rfl (Contains_spec keywords (s.takeWhile isInner) (by decide)) ?_) rfl
  refine gap ?_
  refine oC rfl (fun hk=>?_) (fun hk=>?_)
  ·refine gaa ?_
   exact retRet rfl (rC (rA rfl zm0 rfl zsr) (rC (zrt rfl) (zra rfl))) (by
    rw[lexName,if_neg (by have:=zf hc;omega),if_pos hk]
    rfl)
  ·refine gaa ?_
   exact retRet rfl (rC (rA rfl zm0 rfl zsr) (rC (zrt rfl) (zra rfl))) (by
    rw[lexName,if_neg (by have:=zf hc;omega),if_neg (by rw[hk];decide)]
    rfl)
end
end Go.Proofs.YtcbpcianefpniaaGreatDoor
namespace Go.Proofs.YtcbpcianefpniaaGreatDoor
open Go.GL Go.RowKit Go.Stele
set_option maxRecDepth 100000
set_option maxHeartbeats 4000000
attribute [local irreducible] LOps LCode LStep LCalls Go.GL.Pure QThen QBlock RetPost
theorem parseUintM_digits (M:Nat) (acc:Nat) (l:List UInt8) (h:∀ c∈l,isDigit c=true):Go.Lib.parseUintM M acc l=.range∨∃ u,Go.Lib.parseUintM M acc l=.ok u:=by
 induction l generalizing acc with
 |nil=>exact .inr ⟨acc,rfl⟩
 |cons c r ih=>
  have hc:=h c List.mem_cons_self
  simp only[isDigit,Bool.and_eq_true,decide_eq_true_eq,cv] at hc
  rw[Go.Lib.parseUintM,if_pos zo]
  split
  ·exact .inl rfl
  ·split
   ·exact .inl rfl
   ·exact ih _ (fun c hc=>h c (List.mem_cons_of_mem _ hc))
theorem parseUintM_bound (M:Nat) (acc:Nat) (l:List UInt8) (ha:acc≤M) {u:Nat} (h:Go.Lib.parseUintM M acc l=.ok u):u≤M:=by
 induction l generalizing acc with
 |nil=>simp only[Go.Lib.parseUintM,Go.Lib.NumEnd.ok.injEq] at h;omega
 |cons c r ih=>
  rw[Go.Lib.parseUintM] at h
  split at h
  ·split at h
   ·cases h
   ·split at h
    ·cases h
    ·exact ih _ zo h
  ·cases h
theorem parseUint_digits (s:List UInt8) (hne:s.takeWhile isDigit≠[]):Go.Lib.parseUintB 32 (s.takeWhile isDigit)=.range∨∃ u,u<18446744073709551616∧Go.Lib.parseUintB 32 (s.takeWhile isDigit)=.ok u:=by
 unfold Go.Lib.parseUintB
 rw[if_neg hne]
 have hall:∀ (s:List UInt8),∀ c∈s.takeWhile isDigit,isDigit c=true:=fun s c hc=>by
  induction s with
  |nil=>cases hc
  |cons a r ih=>
   by_cases ha:isDigit a=true
   ·rw[List.takeWhile_cons_of_pos ha] at hc
    rcases List.mem_cons.1 hc with rfl|hc
    ·exact ha
    ·exact ih hc
   ·rw[List.takeWhile_cons_of_neg ha] at hc
    cases hc
 rcases parseUintM_digits (2 ^ 32-1) 0 (s.takeWhile isDigit) (hall s) with h|⟨u,h⟩
 ·exact .inl h
 ·have:=parseUintM_bound _ _ _ zo h
  exact .inr ⟨u,by omega,h⟩
instance:TIface Tryz.prog 146:=.of zk
section
variable {B0:Nat} {w0:World}
theorem number_spec (hG:GW B0 w0) (s:List UInt8) (hs:s.length≤1000000000) (hne:s.takeWhile isDigit≠[]):LCalls (KC B0 w0) 131 [str s] [] (Ret (encTokR (lexNumber s))):=by
 refine cI Tryz.func131 rfl (n:=43) rfl rfl rfl ?_
 refine gai ?_
 refine oS (S.alloc fun b=>?_) rfl
 refine gav ?_
 refine oS (S.fn [_,_] rfl (run_spec isDigit digit_spec s hs) ?_) rfl
 refine gaa ?_
 refine LOps.cut [(0,str s),(2,ptr b 0),(5,str (s.takeWhile isDigit)),(28,bool (wordNext s (s.takeWhile isDigit).length))] ?_ (fun j hj=>?_)
 ·refine oB 17 rfl (fun ht=>?_) (fun ht=>?_)
  ·have hlt:(s.takeWhile isDigit).length<s.length:=by simpa using ht
   have hw:wordNext s (s.takeWhile isDigit).length=(isLetter s[(s.takeWhile isDigit).length] || decide (cv s[(s.takeWhile isDigit).length]=95)):=by
    rw[wordNext,List.getElem?_eq_getElem hlt]
   refine gat ?_
   refine oP (Pure.sindex (c:=s[(s.takeWhile isDigit).length]) rfl rfl zo (by simp)) rfl ?_
   refine LOps.want rfl rfl ?_
   refine oS (S.fn [_] rfl (letter_spec _) ?_) rfl
   refine gat ?_
   refine oB 22 rfl (fun hl=>?_) (fun hl=>?_)
   ·refine gad ?_
    exact ⟨⟨rfl,rfl,rfl,bool_eq (by rw[hw,hl];rfl),trivial⟩,rfl,rfl⟩
   ·refine gat ?_
    refine oP (Pure.sindex (c:=s[(s.takeWhile isDigit).length]) rfl rfl zo (by simp)) rfl ?_
    refine gad ?_
    exact ⟨⟨rfl,rfl,rfl,bool_eq (by rw[hw,hl];rfl),trivial⟩,rfl,rfl⟩
  ·have hge:s.length≤(s.takeWhile isDigit).length:=by simpa using ht
   refine gac ?_
   exact ⟨⟨rfl,rfl,rfl,bool_eq (by rw[wordNext,List.getElem?_eq_none hge]),trivial⟩,rfl,rfl⟩
 ·skip
  refine oC rfl (fun hc=>?_) (fun hc=>?_)
  ·refine gaa ?_
   exact retRet hj (rC (rA rfl zm0 rfl zsr) (rC (zrt rfl) (zra rfl))) (by
    rw[lexNumber,if_pos hc]
    rfl)
  ·refine gax ?_
   rcases parseUint_digits s hne with hp|⟨u,hu,hp⟩
   ·refine oS (S.fnIf [_,_,_] rfl (parseUint_range hG (s.takeWhile isDigit) (Nat.le_trans (List.takeWhile_prefix isDigit).length_le hs) hp) ?_) rfl
    rintro lv ⟨v,t,p,rfl⟩
    refine gaa ?_
    refine oC rfl (fun hc=>?_) (fun hc=>?_)
    ·refine gaa ?_
     exact retRet hj (rC (rA rfl zm0 rfl zsr) (rC (zrt rfl) (zra rfl))) (by
      rw[lexNumber,if_neg (by rw[‹wordNext s _=false›];decide),hp]
      rfl)
    ·cases hc
   ·refine oS (S.fn [_,_,_] rfl (parseUint_ok (s.takeWhile isDigit) (Nat.le_trans (List.takeWhile_prefix isDigit).length_le hs) u hp) ?_) rfl
    refine gaa ?_
    refine oC rfl (fun hc=>?_) (fun hc=>?_)
    ·cases hc
    ·refine gax ?_
     refine oS (S.fn [_,_] rfl (fmtUint_spec hG u hu) ?_) rfl
     refine gac ?_
     exact retRet hj (rC (rA rfl zm0 rfl zsr) (rC (zrt rfl) (zra rfl))) (by
      rw[lexNumber,if_neg (by rw[‹wordNext s _=false›];decide),hp]
      rfl)
theorem literal_spec (hG:GW B0 w0) (s:List UInt8) (hs:s.length≤1000000000):LCalls (KC B0 w0) 134 [str s] [] (Ret (encTokR (lexLiteral s))):=by
 by_cases h3:s.length<3
 ·have hl:lexLiteral s=tokErr 3:=by
   match s,h3 with
   |[],_=>rfl
   |[_],_=>rfl
   |[_,_],_=>rfl
  refine cI Tryz.func134 rfl (n:=39) rfl rfl rfl ?_
  refine gai ?_
  refine oS (S.alloc fun b=>?_) rfl
  refine gaa ?_
  refine oB 8 rfl (fun ht=>?_) (fun ht=>?_)
  ·refine gad ?_
   refine oC rfl (fun hc=>?_) (fun hc=>?_)
   ·refine gaa ?_
    exact retRet rfl (rC (rA rfl zm0 rfl zsr) (rC (zrt rfl) (zra rfl))) (by rw[hl];rfl)
   ·cases hc
  ·exact absurd (zf ht) zo
 ·match s,h3 with
  |[],h=>exact absurd (by simp) h
  |[_],h=>exact absurd (by simp) h
  |[_,_],h=>exact absurd (by simp) h
  |x::c1::c2::r,h=>
   refine cI Tryz.func134 rfl (n:=39) rfl rfl rfl ?_
   refine gai ?_
   refine oS (S.alloc fun b=>?_) rfl
   refine gaa ?_
   refine LOps.cut [(0,str (x::c1::c2::r)),(2,ptr b 0),(32,bool ((!decide (cv c2=39)) || decide (cv c1<32) || decide (126<cv c1) || decide (cv c1=39) || decide (cv c1=92)))] ?_ (fun j hj=>?_)
   ·refine oB 8 rfl (fun ht=>?_) (fun ht0=>?_)
    ·exact absurd (zt ht) (by simp only[List.length_cons];omega)
    ·skip
     refine oP (Pure.sindex (c:=c2) rfl rfl (by decide) rfl) rfl ?_
     refine gad ?_
     refine oB 13 rfl (fun ht=>?_) (fun ht1=>?_)
     ·refine gad ?_
      exact ⟨⟨rfl,rfl,bool_eq (by rw[ht];rfl),trivial⟩,rfl,rfl⟩
     ·refine gat ?_
      refine oP (Pure.sindex (c:=c1) rfl rfl (by decide) rfl) rfl ?_
      refine gad ?_
      refine oB 18 rfl (fun ht=>?_) (fun ht2=>?_)
      ·refine gad ?_
       exact ⟨⟨rfl,rfl,bool_eq (by rw[ht1,ht];rfl),trivial⟩,rfl,rfl⟩
      ·refine gat ?_
       refine oP (Pure.sindex (c:=c1) rfl rfl (by decide) rfl) rfl ?_
       refine gac ?_
       refine oB 23 rfl (fun ht=>?_) (fun ht3=>?_)
       ·refine gad ?_
        exact ⟨⟨rfl,rfl,bool_eq (by rw[ht1,ht2,ht];rfl),trivial⟩,rfl,rfl⟩
       ·refine gat ?_
        refine oP (Pure.sindex (c:=c1) rfl rfl (by decide) rfl) rfl ?_
        refine gad ?_
        refine oB 28 rfl (fun ht=>?_) (fun ht4=>?_)
        ·refine gad ?_
         exact ⟨⟨rfl,rfl,bool_eq (by rw[ht1,ht2,ht3,ht];rfl),trivial⟩,rfl,rfl⟩
        ·refine gat ?_
         refine oP (Pure.sindex (c:=c1) rfl rfl (by decide) rfl) rfl ?_
         refine gad ?_
         exact ⟨⟨rfl,rfl,bool_eq (by rw[ht1,ht2,ht3,ht4];rfl),trivial⟩,rfl,rfl⟩
   ·skip
    refine oC rfl (fun hc=>?_) (fun hc=>?_)
    ·refine gaa ?_
     exact retRet hj (rC (rA rfl zm0 rfl zsr) (rC (zrt rfl) (zra rfl))) (by rw[lexLiteral,if_pos hc];rfl)
    ·refine gax ?_
     refine oP (Pure.sindex (c:=c1) rfl rfl (by decide) rfl) rfl ?_
     refine oP (Pure.cvt rfl) rfl ?_
     have hw:IntKind.i64.wrap (c1.toNat:Int)=((c1.toNat:Nat):Int):=wrap_i64 (by have:=c1.toNat_lt;omega)
     rw[hw]
     refine oS (S.fn [_] rfl (itoa_spec hG c1.toNat (by have:=c1.toNat_lt;omega)) ?_) rfl
     refine gac ?_
     exact retRet hj (rC (rA rfl zm0 rfl zsr) (rC (zrt rfl) (zra rfl))) (by rw[lexLiteral,if_neg (by rw[hc];decide)];rfl)
theorem token_spec (hG:GW B0 w0) (s:List UInt8) (hs:s.length≤1000000000) (hne:s≠[]):LCalls (KC B0 w0) 86 [str s] [] (Ret (encTokR (lexToken s))):=by
 match s,hne with
 |c::r,_=>
  refine cI Tryz.func86 rfl (n:=49) rfl rfl rfl ?_
  refine gai ?_
  refine oS (S.alloc fun b=>?_) rfl
  refine gab ?_
  refine oP (Pure.sindex (c:=c) rfl rfl (by decide) rfl) rfl ?_
  refine oS (S.fn [_] rfl (digit_spec c) ?_) rfl
  refine gay ?_
  refine oC rfl (fun hc=>?_) (fun hc=>?_)
  ·refine gae ?_
   refine oS (S.fn [_] rfl (number_spec hG (c::r) hs (by rw[List.takeWhile_cons_of_pos hc];simp)) ?_) rfl
   refine gac ?_
   exact retRet rfl (rC (rA rfl zm0 rfl zsr) (rC (zrt rfl) (zra rfl))) (by simp only[lexToken,hc,if_true];rfl)
  ·refine gae ?_
   refine oP (Pure.sindex (c:=c) rfl rfl (by decide) rfl) rfl ?_
   refine oS (S.fn [_] rfl (letter_spec c) ?_) rfl
   refine gay ?_
   refine oC rfl (fun hl=>?_) (fun hl=>?_)
   ·refine gae ?_
    refine oS (S.fn [_] rfl (name_spec (c::r) hs) ?_) rfl
    refine gac ?_
    exact retRet rfl (rC (rA rfl zm0 rfl zsr) (rC (zrt rfl) (zra rfl))) (by simp only[lexToken,hc,hl,if_true,Bool.false_eq_true,if_false];rfl)
   ·refine gae ?_
    refine oP (Pure.sindex (c:=c) rfl rfl (by decide) rfl) rfl ?_
    refine gad ?_
    refine oC rfl (fun hq=>?_) (fun hq=>?_)
    ·refine gae ?_
     refine oS (S.fn [_] rfl (literal_spec hG (c::r) hs) ?_) rfl
     refine gac ?_
     exact retRet rfl (rC (rA rfl zm0 rfl zsr) (rC (zrt rfl) (zra rfl))) (by simp only[lexToken,hc,hl,Bool.false_eq_true,if_false];rw[if_pos hq];rfl)
    ·have htok:lexToken (c::r)=lexSign (c::r):=by simp only[lexToken,hc,hl,Bool.false_eq_true,if_false];rw[if_neg (by rw[hq];decide)]
     refine gab ?_
     refine oS (S.fn [] rfl signs_spec ?_) rfl
     refine gad ?_
     refine oL (fun k ls H=>∃ m:Nat,k=signs.length-m∧ls=[(0,str (c::r)),(2,ptr b 0),(34,.list (signs.map str)),(35,int .i64 24),(36,int .i64 m)]∧H=[(b,.cells 153 [int .i64 0,str [],int .i64 0])]∧m≤24∧signs.find? (fun x=>x.isPrefixOf (c::r))=(signs.drop m).find? (fun x=>x.isPrefixOf (c::r)))
      ⟨_,_,_,⟨0,rfl,rfl,rfl,by omega,by simp⟩,⟨rfl,rfl,rfl,rfl,rfl,trivial⟩,HSub.refl _⟩ ?_
     rintro k ls H ⟨m,rfl,rfl,rfl,hm,hI⟩ j hj
     have h24:signs.length=24:=rfl
     refine gak ?_
     refine oC rfl (fun ht=>?_) (fun ht=>?_)
     ·have hlt:m<signs.length:=by have:=zt ht;omega
      refine gan ?_
      refine oP (xR (el':=str signs[m]) rfl rfl zo (by simp) rfl rfl) rfl ?_
      refine gaa ?_
      refine oS (S.fn [_,_] rfl (hasPrefix_spec (c::r) signs[m]) ?_) rfl
      refine gap ?_
      refine oC rfl (fun hp=>?_) (fun hp=>?_)
      ·refine gaa ?_
       exact retRet hj (rC (rA rfl zm0 rfl zsr) (rC (zrt rfl) (zra rfl))) (by
        rw[htok,lexSign,hI,List.drop_eq_getElem_cons hlt,List.find?_cons_of_pos (by simpa using hp)]
        rfl)
      ·refine gab ?_
       exact ⟨_,_,_,by omega,⟨m+1,rfl,rfl,rfl,by omega,by
        rw[hI,List.drop_eq_getElem_cons hlt,List.find?_cons_of_neg (by rw[hp];decide)]⟩,⟨rfl,rfl,rfl,rfl,int_eq zo,trivial⟩,HSub.refl _,hj⟩
     ·have hge:signs.length≤m:=by have:=zf ht;omega
      refine gaa ?_
      exact retRet hj (rC (rA rfl zm0 rfl zsr) (rC (zrt rfl) (zra rfl))) (by
       rw[htok,lexSign,hI,List.drop_eq_nil_of_le hge]
       rfl)
end
end Go.Proofs.YtcbpcianefpniaaGreatDoor
namespace Go.Proofs.YtcbpcianefpniaaGreatDoor
open Go.GL Go.RowKit Go.Stele
set_option maxRecDepth 100000
set_option maxHeartbeats 4000000
attribute [local irreducible] LOps LCode LStep LCalls Go.GL.Pure QThen QBlock RetPost
def lexAllP (s:List UInt8):Except (Int×Int) (List Tok):=if 60000<s.length then .error (0,6) else lexP s.length s 1
def encLex:Except (Int×Int) (List Tok)→LV
 |.ok T=>.tuple [.list (T.map encTok),int .i64 0,int .i64 0]
 |.error (l,e)=>.tuple [.list [],int .i64 l,int .i64 e]
theorem map_map_ex {A B D:Type} (f:A→B) (h:B→D) (r:Except (Int×Int) A):(r.map f).map h=r.map (fun x=>h (f x)):=by cases r <;> rfl
section
variable {B0:Nat} {w0:World}
theorem Tokens_spec (hG:GW B0 w0) (s:List UInt8) (hs:s.length≤1000000000):LCalls (KC B0 w0) 37 [str s] [] (Ret (encLex (lexAllP s))):=by
 refine cI Tryz.func37 rfl (n:=49) rfl rfl rfl ?_
 refine gaa ?_
 refine oC rfl (fun hc=>?_) (fun hc=>?_)
 ·refine gau ?_
  exact retRet rfl (rC (rT (v:=nilSlice) rfl LV.Sub.nil) (rC (zrt rfl) (zra rfl))) (by
   rw[lexAllP,if_pos (by have:=zt hc;omega)]
   rfl)
 ·have hlen:s.length≤60000:=by have:=zf hc;omega
  refine gab ?_
  refine oL (fun k ls H=>∃ (v:LV) (out:List Tok) (rest:List UInt8) (line:Int) (fuel:Nat),k=rest.length∧ls=[(5,v),(6,int .i64 line),(7,str rest)]∧Acc 3 v (out.map encTok) H [] ∧
    rest.length≤fuel∧0≤line∧line+rest.length≤60001∧out.length+rest.length≤60000∧lexP s.length s 1=(lexP fuel rest line).map (out++·))
   ⟨_,_,_,⟨nilSlice,[],s,1,s.length,rfl,rfl,Acc.nil,by omega,by omega,by omega,by simp;omega,by cases lexP s.length s 1 <;> rfl⟩,⟨rfl,rfl,rfl,trivial⟩,HSub.refl _⟩ ?_
  rintro k ls H ⟨v,out,rest,line,fuel,rfl,rfl,hacc,hf,hl0,hl1,ho,hI⟩ j hj
  refine gaa ?_
  refine oC rfl (fun hne=>?_) (fun hne=>?_)
  ·have hrest:rest≠[]:=by simpa using hne
   obtain ⟨f,rfl⟩:∃ f,fuel=f+1:=⟨fuel-1,by
    have:0<rest.length:=List.length_pos_iff.2 hrest
    omega⟩
   rw[lexP,if_neg hrest] at hI
   have hsk:=skipLen_le rest
   refine gab ?_
   refine oS (S.fn [_] rfl (skip_spec rest zo) ?_) rfl
   refine gab ?_
   refine oC rfl (fun hz=>?_) (fun hz=>?_)
   ·have hz':skipLen rest=0:=by have:=zt hz;omega
    rw[if_pos hz'] at hI
    refine gae ?_
    refine oS (S.fn [_] rfl (token_spec hG rest zo hrest) ?_) rfl
    refine gac ?_
    refine oS (S.alloc fun b=>?_) rfl
    refine gaa ?_
    refine oC rfl (fun he=>?_) (fun he=>?_)
    ·have he':(lexToken rest).2.2≠0:=by simpa using he
     rw[if_pos he'] at hI
     refine gab ?_
     exact retRet hj (rC (rT (v:=nilSlice) rfl LV.Sub.nil) (rC (zrt rfl) (zra rfl))) (by
      rw[lexAllP,if_neg zo,hI]
      rfl)
    ·have he':(lexToken rest).2.2=0:=by simpa using he
     rw[if_neg (by simpa using he')] at hI
     obtain ⟨hs0,hs1⟩:=lexToken_size rest he'
     refine gaa ?_
     refine oP (Pure.mv (lv:=v) rfl) rfl ?_
     refine gac ?_
     refine oS (S.lit [_] rfl (eC rfl rfl eN) rfl rfl rfl ?_) rfl
     refine LOps.weak (zhD zhr) ?_
     refine oS (S.acc rfl hacc rfl (by simp;rfl) rfl (by simp;omega) fun v' H' hacc'=>?_) rfl
     refine oP (Pure.as (lv:=v') rfl) rfl ?_
     refine gav ?_
     refine oP (Pure.sslice (i:=0) (j:=(lexToken rest).2.1) rfl rfl ⟨_,rfl⟩ zo zo zo) rfl ?_
     refine oS (S.fn [_,_] rfl (countNl_spec _) ?_) rfl
     have hcnt:(List.drop (Int.toNat 0) (List.take ((lexToken rest).2.1:Int).toNat rest)).count 10≤(lexToken rest).2.1:=Nat.le_trans List.count_le_length (by simp;omega)
     refine gab ?_
     refine oP (Pure.sslice (i:=(lexToken rest).2.1) (j:=rest.length) rfl ⟨_,rfl⟩ rfl zo zo zo) rfl ?_
     refine gad ?_
     have hacc2:Acc 3 v' ((out++[{ (lexToken rest).1 with line:=line }]).map encTok) H' []:=by
      rw[List.map_append]
      exact hacc'
     exact ⟨_,_,_,by simp only[List.length_drop];omega,⟨v',out++[{ (lexToken rest).1 with line:=line }],rest.drop (lexToken rest).2.1,line+((rest.take (lexToken rest).2.1).count 10:Nat),f,rfl,rfl,hacc2,
      by simp only[List.length_drop];omega,by omega,by simp only[List.length_drop];simp at hcnt;omega,by simp only[List.length_drop,List.length_append,List.length_singleton];omega,by
       rw[hI,map_map_ex]
       congr 1
       funext x
       simp⟩,⟨rfl,int_eq (by simp),str_eq (by simp),trivial⟩,HSub.refl _,hj⟩
   ·have hz':¬ skipLen rest=0:=by have:=zf hz;omega
    rw[if_neg hz'] at hI
    refine gax ?_
    refine oP (Pure.sslice (i:=0) (j:=skipLen rest) rfl rfl ⟨_,rfl⟩ zo zo zo) rfl ?_
    refine oS (S.fn [_,_] rfl (countNl_spec _) ?_) rfl
    have hcnt:(List.drop (Int.toNat 0) (List.take (skipLen rest:Int).toNat rest)).count 10≤skipLen rest:=Nat.le_trans List.count_le_length (by simp;omega)
    refine gab ?_
    refine oP (Pure.sslice (i:=skipLen rest) (j:=rest.length) rfl ⟨_,rfl⟩ rfl zo zo zo) rfl ?_
    refine gad ?_
    exact ⟨_,_,_,by simp only[List.length_drop];omega,⟨v,out,rest.drop (skipLen rest),line+((rest.take (skipLen rest)).count 10:Nat),f,rfl,rfl,hacc,
      by simp only[List.length_drop];omega,by omega,by simp only[List.length_drop];simp at hcnt;omega,by simp only[List.length_drop];omega,hI⟩,⟨rfl,int_eq (by simp),str_eq (by simp),trivial⟩,HSub.refl _,hj⟩
  ·have hrest:rest=[]:=by simpa using hne
   refine gab ?_
   refine oP (Pure.mv (lv:=v) rfl) rfl ?_
   refine oP (Pure.as (lv:=v) rfl) rfl ?_
   refine gam ?_
   exact retRet hj (rC (rT (v:=v) rfl hacc.sub) (rC (zrt rfl) (zra rfl))) (by
    rw[lexAllP,if_neg zo,hI,hrest]
    cases fuel <;> simp[lexP,Except.map,encLex,resLV])
end
end Go.Proofs.YtcbpcianefpniaaGreatDoor
namespace Go.Proofs.YtcbpcianefpniaaGreatDoor
open Go.GL Go.RowKit Go.Stele
set_option maxRecDepth 100000
set_option maxHeartbeats 4000000
attribute [local irreducible] LOps LCode LStep LCalls Go.GL.Pure QThen QBlock RetPost LQ LAny LLate LLateOp
@[reducible] def srcH (sb:Nat) (T:List Tok) (i op:Nat):Nat×LObj:=(sb,.cells 95 [.list (T.map encTok),int .i64 i,int .i64 op])
def pan (l e:Int):List PanicEntry:=[{ v:=.iface 91 (.agg #[.int .i64 l,.int .i64 e]),recovered:=false }]
def PostP {A:Type} (sb:Nat) (T:List Tok) (enc:A→LV) (res:Res A) (r:LRes) (H:Heap):Prop:=match res with
 |.ok v i op=>r=.ret (enc v)∧H=[srcH sb T i op]
 |.err l e=>r=.panic (pan l e)∧∃ i op:Nat,H=[srcH sb T i op]
def encU:Unit→LV:=fun _=>.tuple []
theorem map_get {A:Type} (f:A→LV) (l:List A) (i:Nat) (h:i<l.length):(l.map f)[((i:Nat):Int).toNat]? = some (f l[i]):=by
 rw[Int.toNat_natCast,List.getElem?_map,List.getElem?_eq_getElem h]
 rfl
section
variable {B0:Nat} {w0:World}
theorem is_spec (sb:Nat) (T:List Tok) (i op:Nat) (xs:List (List UInt8)) (hT:T.length≤100000) (hi:i≤1000000) (hx:xs.length≤1000) :
  LCalls (KC B0 w0) 87 [ptr sb 0,.list (xs.map str)] [srcH sb T i op] (fun r H=>r=.ret (bool (isTok T i xs))∧H=[srcH sb T i op]):=by
 refine cI Tryz.func87 rfl (n:=40) rfl rfl rfl ?_
 refine ga2 ?_
 refine LCode.cut [(0,ptr sb 0),(1,.list (xs.map str)),(15,bool (decide (T.length≤i)))] ?_ (fun j hj=>?_)
 ·refine LCode.quiet zk ?_
  refine gaf ?_
  exact ⟨⟨rfl,rfl,bool_eq (by rw[decide_eq_decide];simp),trivial⟩,rfl,rfl⟩
 ·skip
  refine oC rfl (fun hc=>?_) (fun hc=>?_)
  ·refine gau ?_
   exact rR hj (zra rfl) zhr ⟨by rw[isTok,List.getElem?_eq_none (zt hc)];rfl,rfl⟩
  ·have hlt:i<T.length:=by have:=zf hc;omega
   refine gad ?_
   refine LCode.draw (m:=12) rfl [srcH sb T i op] ?_
   refine aT 0 rfl rfl (Pure.mv (lv:=.atom _) rfl) ?_
   refine aT 1 rfl rfl (Pure.nilCheckH rfl) ?_
   refine aT 2 rfl rfl (Pure.fieldH rfl) ?_
   refine aT 3 rfl rfl (Pure.loadH (c:=.list _) rfl zm0 rfl) ?_
   refine aT 4 rfl rfl (Pure.mv (lv:=.atom _) rfl) ?_
   refine aT 5 rfl rfl (Pure.nilCheckH rfl) ?_
   refine aT 6 rfl rfl (Pure.fieldH rfl) ?_
   refine aT 7 rfl rfl (Pure.loadH (c:=.atom _) rfl zm0 rfl) ?_
   refine LAny.take (i:=8) zhr rfl zk zk zk rfl (xR (el':=encTok T[i]) (cs:=[_,_,_]) rfl rfl zo (map_get _ _ _ hlt) rfl rfl) ?_
   refine aT 9 rfl rfl (Pure.ldRefAgg (cs':=[_,_,_]) rfl rfl rfl) ?_
   refine LAny.late ?_ zhr
   refine lO 10 (lS (H1:=[]) (F:=[srcH sb T i op]) rfl (.inl rfl) rfl zpr zhr (S.alloc fun b=>?_))
   refine lO 11 (lS (H1:=[(b,_)]) (F:=[srcH sb T i op]) rfl (.inl rfl) rfl zpr zhr (S.store (cs':=[_,_,_]) rfl pH rfl rfl rfl rfl rfl ?_))
   refine lD zk ?_
   refine gab ?_
   have hsp:isTok T i xs=((decide (T[i].kind=3) || decide (T[i].kind=4)) && xs.contains T[i].text):=by rw[isTok,List.getElem?_eq_getElem hlt]
   rw[hsp]
   refine oB 29 rfl (fun h3=>?_) (fun h3=>?_)
   ·refine gad ?_
    refine oS (S.fn [_,_] rfl (Contains_spec xs T[i].text zo) ?_) rfl
    refine gad ?_
    exact rR hj (zra rfl) (zhD zhr) ⟨by rw[h3];rfl,rfl⟩
   ·refine gad ?_
    refine oB 34 rfl (fun h4=>?_) (fun h4=>?_)
    ·refine gad ?_
     refine oS (S.fn [_,_] rfl (Contains_spec xs T[i].text zo) ?_) rfl
     refine gad ?_
     exact rR hj (zra rfl) (zhD zhr) ⟨by rw[h3,h4];rfl,rfl⟩
    ·refine gag ?_
     exact rR hj (zra rfl) (zhD zhr) ⟨by rw[h3,h4];rfl,rfl⟩
end
end Go.Proofs.YtcbpcianefpniaaGreatDoor
namespace Go.Proofs.YtcbpcianefpniaaGreatDoor
open Go.GL Go.RowKit Go.Stele
set_option maxRecDepth 100000
set_option maxHeartbeats 4000000
section steps
variable {C:Ctx} {e:Env} {H:Heap} {dst:Option Nat} {ty:TypeId} {pos:String} {aft:Array Edge} {g:Option (Nat×Bool)} {K:LV→Heap→Prop} {X:List PanicEntry→Heap→Prop}
theorem S.fnH {f:FuncId} [TEnter C.P f] (args:List Operand) {ats:Array TypeId} {av:List LV} {lv:LV} {p p':Nat×LObj} {F:Heap} (has:args.map e.ev=av) (hp:Pick p H F) (hc:LCalls C f av [p] (fun r H=>r=.ret lv∧H=[p'])) (hk:K lv (p'::F)) :
  LStep C ⟨dst,.call { callee:=.value (.func f),args:=args.toArray,argTypes:=ats },ty,pos,aft,g⟩ e H K X:=
 S.call1 args has hp hc (by rintro v H' ⟨h,rfl⟩;cases h;exact hk) (by rintro ch H' ⟨h,_⟩;cases h)
theorem S.callP {A:Type} {enc:A→LV} {res:Res A} {sb i op:Nat} {T:List Tok} {f:FuncId} [TEnter C.P f] (args:List Operand) {ats:Array TypeId} {av:List LV} {F:Heap} (has:args.map e.ev=av) (hp:Pick (srcH sb T i op) H F)
  (hc:LCalls C f av [srcH sb T i op] (PostP sb T enc res)) (hk:∀ v i' op',res=.ok v i' op'→K (enc v) (srcH sb T i' op'::F)) (hx:∀ l er i' op',res=.err l er→X (pan l er) (srcH sb T i' op'::F)) :
  LStep C ⟨dst,.call { callee:=.value (.func f),args:=args.toArray,argTypes:=ats },ty,pos,aft,g⟩ e H K X:=by
 refine S.call1 args has hp hc ?_ ?_
 ·intro v H' h
  cases hr:res with
  |ok u i' op'=>
   rw[hr] at h
   obtain ⟨h1,rfl⟩:=h
   cases h1
   exact hk _ _ _ hr
  |err l er=>
   rw[hr] at h
   obtain ⟨h1,_⟩:=h
   cases h1
 ·intro ch H' h
  cases hr:res with
  |ok u i' op'=>
   rw[hr] at h
   obtain ⟨h1,_⟩:=h
   cases h1
  |err l er=>
   rw[hr] at h
   obtain ⟨h1,i',op',rfl⟩:=h
   cases h1
   exact hx _ _ _ _ hr
theorem retP {A:Type} {enc:A→LV} {res:Res A} {sb:Nat} {T:List Tok} {n:Nat} {rs:List ResultVar} {vs:List LV} {v:A} {i op:Nat} (hd:e.ds=[]) (h:AllRes C n e H rs vs) (hr:res=.ok v i op) (hv:resLV vs=enc v) (hH:HSub [srcH sb T i op] H) :
  RetPost C n rs (PostP sb T enc res) .ret e H:=rR hd h hH (by rw[hr];exact ⟨by rw[hv],rfl⟩)
theorem retPn {A:Type} {enc:A→LV} {res:Res A} {sb:Nat} {T:List Tok} {n:Nat} {rs:List ResultVar} {vs:List LV} {v:A} {i op:Nat} (hd:e.ds=[]) (h:AllRes C n e H rs vs) (hr:res=.ok v i op) (hv:resLV vs=enc v) (hH:HSub [srcH sb T i op] H) :
  RetPost C n rs (PostP sb T enc res) .normal e H:=RetPost.normal hd h hH (by rw[hr];exact ⟨by rw[hv],rfl⟩)
theorem panP {A:Type} {enc:A→LV} {res:Res A} {sb:Nat} {T:List Tok} {n:Nat} {rs:List ResultVar} {i op:Nat} {l er:Int} (hd:e.ds=[]) (hr:res=.err l er) (hH:HSub [srcH sb T i op] H) :
  RetPost C n rs (PostP sb T enc res) (.panic (pan l er)) e H:=RetPost.panic hd hH (by rw[hr];exact ⟨rfl,i,op,rfl⟩)
end steps
attribute [local irreducible] LOps LCode LStep LCalls Go.GL.Pure QThen QBlock RetPost LQ LAny LLate LLateOp
section
variable {B0:Nat} {w0:World}
theorem fail_spec {A:Type} (enc:A→LV) (sb:Nat) (T:List Tok) (i op:Nat) (er:Int) (hT:T.length≤100000) (hi:i≤1000000) :
  LCalls (KC B0 w0) 92 [ptr sb 0,int .i64 er] [srcH sb T i op] (PostP sb T enc (.err (failLine T i) er)):=by
 have hml:(T.map encTok).length=T.length:=List.length_map _
 refine cI Tryz.func92 rfl (n:=31) rfl rfl rfl ?_
 refine gaa ?_
 refine LCode.cut [(0,ptr sb 0),(1,int .i64 er),(4,int .i64 (failLine T i))] ?_ (fun j hj=>?_)
 ·refine oC rfl (fun hc=>?_) (fun hc=>?_)
  ·have hpos:0<T.length:=by have:=zt hc;simp at this;omega
   have hmin:min i (T.length-1)<T.length:=by omega
   have hmv:(if ((T.map encTok).length:Int)-1<(i:Int) then ((T.map encTok).length:Int)-1 else (i:Int))=((min i (T.length-1):Nat):Int):=by
    rw[List.length_map]
    split <;> omega
   refine LCode.quiet zk ?_
   refine gaf ?_
   refine LQ.pure (xR (n:=((min i (T.length-1):Nat):Int)) (el':=encTok T[min i (T.length-1)]) (cs:=[_,_,_]) rfl (congrArg (int .i64) hmv) zo (map_get _ _ _ hmin) rfl rfl) rfl ?_
   refine gaf ?_
   exact ⟨⟨rfl,rfl,int_eq (by rw[failLine,List.getElem?_eq_getElem hmin]),trivial⟩,rfl,rfl⟩
  ·have hz:T=[]:=by
    have:=zf hc
    exact List.length_eq_zero_iff.1 zo
   refine gas ?_
   exact ⟨⟨rfl,rfl,int_eq (by rw[failLine,hz];rfl),trivial⟩,rfl,rfl⟩
 ·refine gaa ?_
  refine oS (LStep.panic rfl fun e' he'=>?_) rfl
  exact panP (he'.trans hj) rfl zhr
theorem take_spec (sb:Nat) (T:List Tok) (i op:Nat) (x:List UInt8) (hT:T.length≤100000) (hi:i≤1000000) :
  LCalls (KC B0 w0) 89 [ptr sb 0,str x] [srcH sb T i op] (fun r H=>r=.ret (bool (isTok T i [x]))∧H=[srcH sb T (if isTok T i [x] then i+1 else i) op]):=by
 refine cI Tryz.func89 rfl (n:=17) rfl rfl rfl ?_
 refine gav ?_
 refine oS (S.lit [_] rfl (eC rfl rfl eN) rfl rfl rfl ?_) rfl
 refine oS (S.fnH [_,_] rfl pH (is_spec sb T i op [x] hT hi (by simp)) ?_) rfl
 refine gac ?_
 refine oC rfl (fun hc=>?_) (fun hc=>?_)
 ·have h:isTok T i [x]=false:=by simpa using hc
  refine gau ?_
  exact rR rfl (zra rfl) zhr ⟨by rw[h];rfl,by rw[h];rfl⟩
 ·have h:isTok T i [x]=true:=by simpa using hc
  refine gaa ?_
  exact rR rfl (zra rfl) zhr ⟨by rw[h];rfl,by rw[h];rfl⟩
theorem need_spec (sb:Nat) (T:List Tok) (i op:Nat) (x:List UInt8) (hT:T.length≤100000) (hi:i≤1000000) :
  LCalls (KC B0 w0) 138 [ptr sb 0,str x] [srcH sb T i op] (PostP sb T encU (sNeed T x i op)):=by
 refine cI Tryz.func138 rfl (n:=10) rfl rfl rfl ?_
 refine gae ?_
 refine oS (S.fnH [_,_] rfl pH (take_spec sb T i op x hT hi) ?_) rfl
 refine gac ?_
 refine oC rfl (fun hc=>?_) (fun hc=>?_)
 ·have h:isTok T i [x]=false:=by simpa using hc
  simp only[h,Bool.false_eq_true,if_false]
  refine gae ?_
  refine oS (S.callP [_,_] rfl pH (fail_spec encU sb T i op 3 hT hi) (fun _ _ _ h=>by cases h) (fun l er i' op' h e' he'=>?_)) rfl
  cases h
  exact panP (he'.trans rfl) (by rw[sNeed,h,if_neg (by decide)];rfl) zhr
 ·have h:isTok T i [x]=true:=by simpa using hc
  simp only[h,if_true]
  refine gas ?_
  exact retPn rfl rN (by rw[sNeed,h,if_pos rfl]) rfl zhr
theorem word_spec (sb:Nat) (T:List Tok) (i op:Nat) (k:Int) (hT:T.length≤100000) (hi:i≤1000000) :
  LCalls (KC B0 w0) 139 [ptr sb 0,int .i64 k] [srcH sb T i op] (PostP sb T str (sWord T k i op)):=by
 have hml:(T.map encTok).length=T.length:=List.length_map _
 refine cI Tryz.func139 rfl (n:=51) rfl rfl rfl ?_
 refine ga2 ?_
 refine LCode.cut [(0,ptr sb 0),(1,int .i64 k),(29,bool (match T[i]? with|some t=>!decide (t.kind=k)|none=>true))] ?_ (fun j hj=>?_)
 ·refine LCode.quiet zk ?_
  refine gaf ?_
  refine LQ.bcase 15 rfl (fun h=>?_) (fun h=>?_)
  ·have hge:T.length≤i:=by have:=zt h;omega
   refine gaf ?_
   exact ⟨⟨rfl,rfl,bool_eq (by rw[List.getElem?_eq_none hge]),trivial⟩,rfl,rfl⟩
  ·have hlt:i<T.length:=by have:=zf h;omega
   refine gaf ?_
   refine LQ.pure (xR (el':=encTok T[i]) (cs:=[_,_,_]) rfl rfl zo (map_get _ _ _ hlt) rfl rfl) rfl ?_
   refine gaf ?_
   exact ⟨⟨rfl,rfl,bool_eq (by rw[List.getElem?_eq_getElem hlt]),trivial⟩,rfl,rfl⟩
 ·skip
  refine oC rfl (fun hc=>?_) (fun hc=>?_)
  ·have hs:sWord T k i op=synErr T i:=by
    unfold sWord
    cases hg:T[i]? with
    |none=>rfl
    |some t=>
     rw[hg] at hc
     have:¬ t.kind=k:=by simpa using hc
     simp only
     rw[if_neg this]
   refine gae ?_
   refine oS (S.callP [_,_] rfl pH (fail_spec str sb T i op 3 hT hi) (fun _ _ _ h=>by cases h) (fun l er i' op' h e' he'=>?_)) rfl
   cases h
   refine gao ?_
   exact panP (he'.trans hj) hs zhr
  ·have hlt:i<T.length:=by
    rcases Nat.lt_or_ge i T.length with h|h
    ·exact h
    ·rw[List.getElem?_eq_none h] at hc;cases hc
   rw[List.getElem?_eq_getElem hlt] at hc
   have hk:T[i].kind=k:=by simpa using hc
   have hs:sWord T k i op=.ok T[i].text (i+1) op:=by rw[sWord,List.getElem?_eq_getElem hlt];simp only;rw[if_pos hk]
   refine gaa ?_
   refine LCode.cut [(0,ptr sb 0),(4,str T[i].text)] ?_ (fun j2 hj2=>?_)
   ·refine LCode.quiet zk ?_
    refine gaf ?_
    refine LQ.pure (xR (n:=((i:Nat):Int)) (el':=encTok T[i]) (cs:=[_,_,_]) rfl (int_eq zo) zo (map_get _ _ _ hlt) rfl rfl) rfl ?_
    refine gaf ?_
    exact ⟨⟨rfl,rfl,trivial⟩,rfl,rfl⟩
   ·refine gam ?_
    exact retP (hj2.trans hj) (zra rfl) hs rfl zhr
theorem begin_spec (sb:Nat) (T:List Tok) (i op:Nat) (x:List UInt8) (hT:T.length≤100000) (hi:i≤1000000) (ho:op≤1000000) :
  LCalls (KC B0 w0) 140 [ptr sb 0,str x] [srcH sb T i op] (PostP sb T encU (sBegin T x i op)):=by
 refine cI Tryz.func140 rfl (n:=32) rfl rfl rfl ?_
 refine gae ?_
 refine oS (S.lit [_] rfl (eC rfl rfl eN) rfl rfl rfl ?_) rfl
 refine oS (S.fnH [_,_] rfl pH (is_spec sb T i op [x] hT hi (by simp)) ?_) rfl
 refine gac ?_
 refine oC rfl (fun hc=>?_) (fun hc=>?_)
 ·have h:isTok T i [x]=false:=by simpa using hc
  refine gae ?_
  refine oS (S.callP [_,_] rfl pH (fail_spec encU sb T i op 3 hT hi) (fun _ _ _ h=>by cases h) (fun l er i' op' h' e' he'=>?_)) rfl
  cases h'
  refine gao ?_
  exact panP (he'.trans rfl) (by rw[sBegin,h,if_neg (by decide)];rfl) zhr
 ·have h:isTok T i [x]=true:=by simpa using hc
  refine gaa ?_
  refine oC rfl (fun hd=>?_) (fun hd=>?_)
  ·have hd':100≤op:=by have:=zt hd;omega
   refine gae ?_
   refine oS (S.callP [_,_] rfl pH (fail_spec encU sb T i op 6 hT hi) (fun _ _ _ h=>by cases h) (fun l er i' op' h' e' he'=>?_)) rfl
   cases h'
   refine gao ?_
   exact panP (he'.trans rfl) (by rw[sBegin,h,if_pos rfl,if_pos hd']) zhr
  ·have hd':¬ 100≤op:=by have:=zf hd;omega
   refine gaa ?_
   exact retPn rfl rN (by rw[sBegin,h,if_pos rfl,if_neg hd']) rfl zhr
theorem end_spec (sb:Nat) (T:List Tok) (i op:Nat) (x:List UInt8) (hT:T.length≤100000) (hi:i≤1000000) (ho:op≤1000000) (h1:1≤op) :
  LCalls (KC B0 w0) 142 [ptr sb 0,str x] [srcH sb T i op] (PostP sb T encU (sEnd T x i op)):=by
 refine cI Tryz.func142 rfl (n:=14) rfl rfl rfl ?_
 refine gae ?_
 refine oS (S.callP [_,_] rfl pH (need_spec sb T i op x hT hi) (fun v i' op' h=>?_) (fun l er i' op' h e' he'=>?_)) rfl
 ·have hop:op'=op:=by
   unfold sNeed at h
   split at h
   ·cases h;rfl
   ·cases h
  subst hop
  refine gaa ?_
  rw[show ((op':Int)-1)=((op'-1:Nat):Int) by omega]
  exact retPn rfl rN (by rw[sEnd,h];rfl) rfl zhr
 ·refine gao ?_
  exact panP (he'.trans rfl) (by rw[sEnd,h];rfl) zhr
end
end Go.Proofs.YtcbpcianefpniaaGreatDoor
