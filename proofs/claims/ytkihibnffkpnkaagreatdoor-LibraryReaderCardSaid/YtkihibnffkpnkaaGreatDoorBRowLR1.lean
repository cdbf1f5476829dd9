import Derived.Laws.Strings
import Derived.KernelRfl
import Derived.Laws.AppendOwn
import Derived.Test.YtkihibnffkpnkaaGreatDoorBRowLR0
set_option linter.unusedVariables false
set_option linter.unusedSimpArgs false
set_option maxRecDepth 100000
set_option maxHeartbeats 4000000
open List (cons_append map_toArray mem_singleton size_toArray flatMap_cons map_nil)
open Nat (add_mul add_zero zero_add)
open Option (map_some isSome_none)
namespace Go.GL
open Go.RowKit
variable{C:Ctx}{F H:Heap}{L:Live}{P:Program}{ats:Array TypeId}{b bytes cap el k n off s sT t ty' xT:Nat}{cs es:List LV}{f:FuncId}{lv:LV}{v:Value}{w w':World}{zs:List Value}
class TOne (P:Program) (t:TypeId):Prop where
 und:∃ d,P.underlying t=some d/\(match d with|.struct _|.array _ _=>False|_=>True)
 size:∃ i,P.info? t=some i/\i.size=1
def qve(P:Program)(t:TypeId):Bool:=
 (match P.underlying t with|some (.struct _)|some (.array _ _)|none=>false|_=>true) && (match P.info? t with|some i=>i.size == 1|none=>false)
theorem TOne.of{t:TypeId}(h:qve P t=true):TOne P t:=by
 unfold qve at h;simp only[zBa] at h;obtain⟨h1,h2⟩:=h;refine⟨?_,?_⟩
 cases hu:P.underlying t with
 |none=>rw[hu] at h1;simp at h1
 |some d=>rw[hu] at h1;refine⟨d,rfl,?_⟩;cases d <;> simp_all
 cases hi:P.info? t with
 |none=>rw[hi] at h2;simp at h2
 |some i=>rw[hi] at h2;exact⟨i,rfl,by simpa using h2⟩
class TAgg (P:Program) (t:TypeId) (k:outParam Nat):Prop where
 und:∃ d,P.underlying t=some d/\(match d with|.struct _|.array _ _=>True|_=>False)
 size:∃ i,P.info? t=some i/\i.size=k
def qvh(P:Program)(t k:Nat):Bool:=
 (match P.underlying t with|some (.struct _)|some (.array _ _)=>true|_=>false) && (match P.info? t with|some i=>i.size == k|none=>false)
theorem TAgg.of{t:TypeId}(h:qvh P t k=true):TAgg P t k:=by
 unfold qvh at h;simp only[zBa] at h;obtain⟨h1,h2⟩:=h;refine⟨?_,?_⟩
 cases hu:P.underlying t with
 |none=>rw[hu] at h1;simp at h1
 |some d=>rw[hu] at h1;refine⟨d,rfl,?_⟩;cases d <;> simp_all
 cases hi:P.info? t with
 |none=>rw[hi] at h2;simp at h2
 |some i=>rw[hi] at h2;exact⟨i,rfl,by simpa using h2⟩
class TSlice (P:Program) (t:TypeId) (e s:outParam Nat):Prop where
 und:P.underlying t=some (.slice e)
 size:∃ i,P.info? e=some i/\i.size=s
def qoN(P:Program)(t e s:Nat):Bool:=
 (match P.underlying t with|some (.slice e')=>e' == e|_=>false) && (match P.info? e with|some i=>i.size == s|none=>false)
theorem TSlice.of{e:Nat}(h:qoN P t e s=true):TSlice P t e s:=by
 unfold qoN at h;simp only[zBa] at h;obtain⟨h1,h2⟩:=h;refine⟨?_,?_⟩
 cases hu:P.underlying t with
 |none=>rw[hu] at h1;simp at h1
 |some d=>rw[hu] at h1;cases d <;> simp_all
 cases hi:P.info? e with
 |none=>rw[hi] at h2;simp at h2
 |some i=>rw[hi] at h2;exact⟨i,rfl,by simpa using h2⟩
class TField (P:Program) (s f:Nat) (k:outParam Nat):Prop where
 out:∃ fs fld,P.underlying s=some (.struct fs)/\fs[f]? = some fld/\fld.offset=k/\∃ i,P.info? fld.type=some i/\i.size≠0
def qo3(P:Program)(s f k:Nat):Bool:=
 match P.underlying s with
 |some (.struct fs)=>(match fs[f]? with|some fld=>fld.offset == k && (match P.info? fld.type with|some i=>i.size != 0|none=>false)|none=>false)
 |_=>false
theorem TField.of{f:Nat}(h:qo3 P s f k=true):TField P s f k:=by
 unfold qo3 at h
 cases hu:P.underlying s with
 |none=>rw[hu] at h;simp at h
 |some d=>
  rw[hu] at h;cases d <;> simp only[Bool.false_eq_true] at h
  rename_i fs
  cases hf:fs[f]? with
  |none=>rw[hf] at h;simp at h
  |some fld=>
   rw[hf] at h;simp only[zBa,beq_iff_eq] at h
   cases hi:P.info? fld.type with
   |none=>rw[hi] at h;simp at h
   |some i=>rw[hi] at h;exact⟨fs,fld,hu,hf,h.1,i,hi,by simpa using h.2⟩
class TStr (P:Program) (t:TypeId):Prop where
 und:P.underlying t=some .string
def qvb(P:Program)(t:Nat):Bool:=match P.underlying t with|some .string=>true|_=>false
theorem TStr.of(h:qvb P t=true):TStr P t:=by
 unfold qvb at h;refine⟨?_⟩
 cases hu:P.underlying t with
 |none=>rw[hu] at h;simp at h
 |some d=>rw[hu] at h;cases d <;> simp_all
class TKind (P:Program) (t:TypeId) (k:outParam IntKind):Prop where
 und:P.underlying t=some (.int k)
def qsZ(P:Program)(t:Nat)(k:IntKind):Bool:=match P.underlying t with|some (.int k')=>k' == k|_=>false
theorem TKind.of{k:IntKind}(h:qsZ P t k=true):TKind P t k:=by
 unfold qsZ at h;refine⟨?_⟩
 cases hu:P.underlying t with
 |none=>rw[hu] at h;simp at h
 |some d=>rw[hu] at h;cases d <;> simp_all
class TZero (P:Program) (t:TypeId) (zs:outParam (List Value)):Prop where
 out:∃ i v,P.info? t=some i/\i.zero=some v/\v.cells=zs.toArray/\i.size=zs.length
theorem TZero.of{t:TypeId}(h:(P.info? t).map (λi=>(i.zero,i.size))=some (some v,n))(hc:v.cells=zs.toArray)(hn:n=zs.length):TZero P t zs:=by
 cases hi:P.info? t with
 |none=>rw[hi] at h;cases h
 |some i=>
  rw[hi] at h;simp only[map_some,Option.some.injEq,Prod.mk.injEq] at h;exact⟨i,v,hi,h.1,hc,h.2.trans hn⟩
class TStruct (P:Program) (t:TypeId) (pl:outParam (List (Nat×Nat))):Prop where
 out:∃ fs,P.underlying t=some (.struct fs)/\(fs.toList.map λf=>(f.offset,P.cellsOf f.type))=pl/\∀ f∈fs,(P.info? f.type).isSome
def qmm(P:Program)(t:Nat)(pl:List (Nat×Nat)):Bool:=
 match P.underlying t with
 |some (.struct fs)=>(fs.toList.map λf=>(f.offset,P.cellsOf f.type)) == pl && fs.toList.all λf=>(P.info? f.type).isSome
 |_=>false
theorem TStruct.of{pl:List (Nat×Nat)}(h:qmm P t pl=true):TStruct P t pl:=by
 unfold qmm at h
 cases hu:P.underlying t with
 |none=>rw[hu] at h;simp at h
 |some d=>
  rw[hu] at h;cases d <;> simp only[Bool.false_eq_true] at h
  rename_i fs
  simp only[zBa,beq_iff_eq,List.all_eq_true] at h;exact⟨fs,hu,h.1,λf hf=>h.2 f (by simpa using hf)⟩
class TConcrete (P:Program) (t:TypeId):Prop where
 out:∃ d,P.underlying t=some d/\(match d with|.interface _=>False|_=>True)
def qjk(P:Program)(t:Nat):Bool:=match P.underlying t with|some (.interface _)|none=>false|_=>true
theorem TConcrete.of(h:qjk P t=true):TConcrete P t:=by
 unfold qjk at h
 cases hu:P.underlying t with
 |none=>rw[hu] at h;simp at h
 |some d=>rw[hu] at h;exact⟨d,hu,by cases d <;> simp_all⟩
theorem qaa{t:TypeId}{d:TypeDesc}(h:P.underlying t=some d)(w:World):(underlying t).run P w=.ok d w:=by simp[underlying,program,Sem.run,h,bind,Sem.bind,Pure.pure]
theorem qdK{t:TypeId}{i:TypeInfo}(h:P.info? t=some i)(w:World):(typeInfo t).run P w=.ok i w:=by simp[typeInfo,program,Sem.run,h,bind,Sem.bind,Pure.pure]
theorem qbF{t:TypeId}{i:TypeInfo}(h:P.info? t=some i)(w:World):(sizeOf t).run P w=.ok i.size w:=by simp[sizeOf,qdK h]
theorem TOne.isAgg{P:Program}{t:TypeId} [h:TOne P t](w:World):(isAgg t).run P w=.ok false w:=by
 obtain⟨d,hd,hm⟩:=h.und;simp only[Go.isAgg,zRB,qaa hd,zRO];cases d <;> simp_all
theorem TAgg.isAgg{P:Program}{t k:Nat} [h:TAgg P t k](w:World):(isAgg t).run P w=.ok true w:=by
 obtain⟨d,hd,hm⟩:=h.und;simp only[Go.isAgg,zRB,qaa hd,zRO];cases d <;> simp_all
theorem qaj:Rep w L (.atom v) v:=by simp only[Rep]
theorem qhM(l:List UInt8):(ByteArray.mk l.toArray).size=l.length:=by simp[ByteArray.size]
section pure
variable{C:Ctx}{e:Env}{H:Heap}{dst:Option Nat}{ty:TypeId}{pos:String}{aft:Array Edge}{g:Option (Nat×Bool)}
theorem Pure.of_any{o:Oper}(h:∀ (ρ:Operand->Value) w L,(∀ x,Rep w L (e.ev x) (ρ x))->∃ v,Rep w L lv v/\∀ w',(execOp ρ o).run C.P w'=.ok (.value v) w'):Pure C o e H lv:=
 λρ w L h1 _=>
  let ⟨v,h2,h3⟩:=h ρ w L h1
  ⟨v,h2,λw' _=>h3 w'⟩
theorem qaf{ρ:Operand->Value}(h:∀ x,Rep w L (e.ev x) (ρ x)){x:Operand}(hx:e.ev x=.atom v):ρ x=v:=by
 have:=h x;rw[hx] at this;simpa only[Rep] using this
theorem Pure.move{x:Operand}:Pure C ⟨dst,.move x,ty,pos,aft,g⟩ e H (e.ev x):=.of_any λρ _ _ h=>⟨ρ x,h x,λ_=>rfl⟩
theorem Pure.assign{x:Operand}:Pure C ⟨dst,.assign x,ty,pos,aft,g⟩ e H (e.ev x):=.of_any λρ _ _ h=>⟨ρ x,h x,λ_=>rfl⟩
theorem Pure.pick{c a b:Operand}{t:Bool}(hc:e.ev c=bool t):Pure C ⟨dst,.pick c a b,ty,pos,aft,g⟩ e H (if t then e.ev a else e.ev b):=.of_any λρ w L h=>by
 have h1:=qaf h hc;refine⟨if t then ρ a else ρ b,by cases t <;> simp[h],λw'=>?_⟩;cases t <;> simp[execOp,h1,asBool]
theorem qe6{op:BinOp}{xT yT:TypeId}{x y:Operand}{k:IntKind}{a b:Int}{ρ:Operand->Value}(hx:ρ x=.int k a)(hy:ρ y=.int k b)(hs:op≠.shl)(hr:op≠.shr){s:Sem Value}
  (h:(binOp op xT (.int k a) (.int k b))=s) {v:Value} (hv:∀ w,s.run P w=.ok v w) (w:World):(execOp ρ ⟨dst,.binOp op xT x y yT,ty,pos,aft,g⟩).run P w=.ok (.value v) w:=by
 subst h
 have he:eqGuard op xT x y (.int k a) (.int k b)=Pure.pure ():=by
  unfold eqGuard;cases op <;> rfl
 simp only[execOp,hx,hy,he,zRB,zRP,zRO,hv]
variable{xT yT:TypeId}{x y:Operand}{k:IntKind}{a b:Int}
theorem Pure.addW(hx:e.ev x=int k a)(hy:e.ev y=int k b):Pure C ⟨dst,.binOp .add xT x y yT,ty,pos,aft,g⟩ e H (int k (k.wrap (a+b))):=
 .of_any λ_ _ _ h=>⟨_,qaj,qe6 (qaf h hx) (qaf h hy) (by simp) (by simp) (s:=Op.intArith .add k a b) (by simp only[binOp,ne_eq,not_true_eq_false,if_false]) (λ_=>rfl)⟩
theorem Pure.subW(hx:e.ev x=int k a)(hy:e.ev y=int k b):Pure C ⟨dst,.binOp .sub xT x y yT,ty,pos,aft,g⟩ e H (int k (k.wrap (a-b))):=
 .of_any λ_ _ _ h=>⟨_,qaj,qe6 (qaf h hx) (qaf h hy) (by simp) (by simp) (s:=Op.intArith .sub k a b) (by simp only[binOp,ne_eq,not_true_eq_false,if_false]) (λ_=>rfl)⟩
theorem Pure.mulW(hx:e.ev x=int k a)(hy:e.ev y=int k b):Pure C ⟨dst,.binOp .mul xT x y yT,ty,pos,aft,g⟩ e H (int k (k.wrap (a * b))):=
 .of_any λ_ _ _ h=>⟨_,qaj,qe6 (qaf h hx) (qaf h hy) (by simp) (by simp) (s:=Op.intArith .mul k a b) (by simp only[binOp,ne_eq,not_true_eq_false,if_false]) (λ_=>rfl)⟩
theorem qff{n:Int}(h : -9223372036854775808<=n/\n<=9223372036854775807):IntKind.i64.wrap n=n:=by
 simp only[IntKind.wrap,IntKind.bits,IntKind.signed,Bool.true_and];split <;> rename_i h <;> simp at h <;> omega
theorem Pure.add(hx:e.ev x=int .i64 a)(hy:e.ev y=int .i64 b)(h : -9223372036854775808<=a+b/\a+b<=9223372036854775807):Pure C ⟨dst,.binOp .add xT x y yT,ty,pos,aft,g⟩ e H (int .i64 (a+b)):=by
 have:=Pure.addW (C:=C) (H:=H) (dst:=dst) (ty:=ty) (pos:=pos) (aft:=aft) (g:=g) (xT:=xT) (yT:=yT) hx hy
 rwa [qff h] at this
theorem Pure.sub(hx:e.ev x=int .i64 a)(hy:e.ev y=int .i64 b)(h : -9223372036854775808<=a-b/\a-b<=9223372036854775807):Pure C ⟨dst,.binOp .sub xT x y yT,ty,pos,aft,g⟩ e H (int .i64 (a-b)):=by
 have:=Pure.subW (C:=C) (H:=H) (dst:=dst) (ty:=ty) (pos:=pos) (aft:=aft) (g:=g) (xT:=xT) (yT:=yT) hx hy
 rwa [qff h] at this
theorem Pure.eql(hx:e.ev x=int k a)(hy:e.ev y=int k b):Pure C ⟨dst,.binOp .eql xT x y yT,ty,pos,aft,g⟩ e H (bool (decide (a=b))):=
 .of_any λ_ _ _ h=>⟨_,qaj,qe6 (qaf h hx) (qaf h hy) (by simp) (by simp) (s:=Op.intCmp .eql a b) (by simp only[binOp,ne_eq,not_true_eq_false,if_false]) (λ_=>rfl)⟩
theorem Pure.neq(hx:e.ev x=int k a)(hy:e.ev y=int k b):Pure C ⟨dst,.binOp .neq xT x y yT,ty,pos,aft,g⟩ e H (bool (!decide (a=b))):=
 .of_any λ_ _ _ h=>⟨_,qaj,qe6 (qaf h hx) (qaf h hy) (by simp) (by simp) (s:=Op.intCmp .neq a b) (by simp only[binOp,ne_eq,not_true_eq_false,if_false]) (λ_=>rfl)⟩
theorem Pure.lss(hx:e.ev x=int k a)(hy:e.ev y=int k b):Pure C ⟨dst,.binOp .lss xT x y yT,ty,pos,aft,g⟩ e H (bool (decide (a<b))):=
 .of_any λ_ _ _ h=>⟨_,qaj,qe6 (qaf h hx) (qaf h hy) (by simp) (by simp) (s:=Op.intCmp .lss a b) (by simp only[binOp,ne_eq,not_true_eq_false,if_false]) (λ_=>rfl)⟩
theorem Pure.leq(hx:e.ev x=int k a)(hy:e.ev y=int k b):Pure C ⟨dst,.binOp .leq xT x y yT,ty,pos,aft,g⟩ e H (bool (decide (a<=b))):=
 .of_any λ_ _ _ h=>⟨_,qaj,qe6 (qaf h hx) (qaf h hy) (by simp) (by simp) (s:=Op.intCmp .leq a b) (by simp only[binOp,ne_eq,not_true_eq_false,if_false]) (λ_=>rfl)⟩
theorem Pure.gtr(hx:e.ev x=int k a)(hy:e.ev y=int k b):Pure C ⟨dst,.binOp .gtr xT x y yT,ty,pos,aft,g⟩ e H (bool (decide (b<a))):=
 .of_any λ_ _ _ h=>⟨_,qaj,qe6 (qaf h hx) (qaf h hy) (by simp) (by simp) (s:=Op.intCmp .gtr a b) (by simp only[binOp,ne_eq,not_true_eq_false,if_false]) (λ_=>rfl)⟩
theorem Pure.geq(hx:e.ev x=int k a)(hy:e.ev y=int k b):Pure C ⟨dst,.binOp .geq xT x y yT,ty,pos,aft,g⟩ e H (bool (decide (b<=a))):=
 .of_any λ_ _ _ h=>⟨_,qaj,qe6 (qaf h hx) (qaf h hy) (by simp) (by simp) (s:=Op.intCmp .geq a b) (by simp only[binOp,ne_eq,not_true_eq_false,if_false]) (λ_=>rfl)⟩
theorem Pure.not{t:Bool}(hx:e.ev x=bool t):Pure C ⟨dst,.unOp .not xT x,ty,pos,aft,g⟩ e H (bool (!t)):=
 .of_any λρ _ _ h=>⟨_,qaj,λw'=>by simp only[execOp,qaf h hx,Op.unary];rfl⟩
theorem qax(ρ:Operand->Value)(b:Builtin)(xs:Array Operand)(ats:Array TypeId) :
  execOp ρ ⟨dst,.call { callee:=.builtin b,args:=xs,argTypes:=ats },ty,pos,aft,g⟩=builtin b ats ty (xs.map fun|.const _=>true|_=>false) (xs.map ρ):=rfl
theorem qez(ats:Array TypeId)(cs:Array Bool)(args:Array Value):builtin .len ats ty cs args=(do Pure.pure (.value (<-Builtin.len_ ats ty args))):=rfl
theorem qof{op:BinOp}{xT yT:TypeId}{x y:Operand}{a b:ByteArray}{ρ:Operand->Value}(hx:ρ x=.string a)(hy:ρ y=.string b)
  {v:Value} (hv:∀ w,(Op.stringOp op a b).run P w=.ok v w) (w:World):(execOp ρ ⟨dst,.binOp op xT x y yT,ty,pos,aft,g⟩).run P w=.ok (.value v) w:=by
 have he:eqGuard op xT x y (.string a) (.string b)=Pure.pure ():=by
  unfold eqGuard;cases op <;> rfl
 have hb:binOp op xT (.string a) (.string b)=Op.stringOp op a b:=by cases op <;> rfl
 simp only[execOp,hx,hy,he,hb,zRB,zRP,zRO,hv]
variable{l m:List UInt8}
theorem Pure.seq(hx:e.ev x=str l)(hy:e.ev y=str m):Pure C ⟨dst,.binOp .eql xT x y yT,ty,pos,aft,g⟩ e H (bool (decide (l=m))):=
 .of_any λ_ _ _ h=>⟨_,qaj,qof (qaf h hx) (qaf h hy) λw=>by
  simp only[Op.stringOp,ByteArray.toList_mk,zRP];congr 2
  rw[Bool.eq_iff_iff];simp⟩
theorem Pure.sneq(hx:e.ev x=str l)(hy:e.ev y=str m):Pure C ⟨dst,.binOp .neq xT x y yT,ty,pos,aft,g⟩ e H (bool (!decide (l=m))):=
 .of_any λ_ _ _ h=>⟨_,qaj,qof (qaf h hx) (qaf h hy) λw=>by
  simp only[Op.stringOp,ByteArray.toList_mk,zRP];congr 3
  rw[Bool.eq_iff_iff];simp⟩
theorem qru(l m:List UInt8):(ByteArray.mk l.toArray++ByteArray.mk m.toArray)=ByteArray.mk (l++m).toArray:=by
 apply ByteArray.ext
 simp
theorem Pure.sadd(hx:e.ev x=str l)(hy:e.ev y=str m)(hl:l.length+m.length<=9223372036854775807):Pure C ⟨dst,.binOp .add xT x y yT,ty,pos,aft,g⟩ e H (str (l++m)):=
 .of_any λ_ _ _ h=>⟨_,qaj,qof (qaf h hx) (qaf h hy) λw=>by
  have h1:¬ ((((ByteArray.mk l.toArray).size+(ByteArray.mk m.toArray).size:Nat):Int) > IntKind.i64.max):=by
   rw[qhM,qhM];simp only[IntKind.max,IntKind.signed,IntKind.bits];omega
  simp only[Op.stringOp,zn h1,zRP,qru]⟩
theorem pI{n:Int}{c:UInt8} [TStr C.P xT](hx:e.ev x=str l)(hy:e.ev y=int k n)(h0:0<=n)(hc:l[n.toNat]? = some c):Pure C ⟨dst,.index xT x y,ty,pos,aft,g⟩ e H (int .u8 c.toNat):=
 .of_any λρ _ _ h=>⟨_,qaj,λw'=>by
  have hu:=qaa (P:=C.P) (TStr.und (t:=xT)) w'
  have hg:(ByteArray.mk l.toArray)[n.toNat]? = some c:=by
   have hlt:n.toNat<l.length:=(List.getElem?_eq_some_iff.1 hc).1;have hsz:n.toNat<(ByteArray.mk l.toArray).size:=by simp[ByteArray.size];exact hlt
   have:=(List.getElem?_eq_some_iff.1 hc).2;rw[getElem?_pos (ByteArray.mk l.toArray) n.toNat hsz];exact congrArg some this
  simp only[execOp,qaf h hx,qaf h hy,Instr.index,asIntOf,zRB,zRP,zRO,hu,zp h0,hg]⟩
theorem Pure.slen(hx:e.ev x=str l) [TStr C.P xT]:Pure C ⟨dst,.call { callee:=.builtin .len,args:=#[x],argTypes:=#[xT] },ty,pos,aft,g⟩ e H (int .i64 l.length):=
 .of_any λρ _ _ h=>⟨_,qaj,λw'=>by
  have hu:=qaa (P:=C.P) (TStr.und (t:=xT)) w';rw[qax,qez];simp[Builtin.len_,hu,goInt,qaf h hx]
  rw[qhM]⟩
end pure
theorem add_mk(b off i:Nat):(Addr.mk b off none).add i=⟨b,off+i,none⟩:=by
 unfold Addr.add;split
 rename_i h;subst h;rfl
 rfl
theorem RepC.get{w:World}{L:Live}{b:Nat}:∀ {off:Nat} {cs:List LV},RepC w L b off cs->∀ {i:Nat} {c:LV},cs[i]? = some c->off+i<L b/\∃ x,w.cell? ⟨b,off+i,none⟩=some x/\Rep w L c x
 |_,[],_,i,c,hc=>by simp at hc
 |off,c::cs,h,i,c',hc=>by
  simp only[RepC] at h;obtain⟨h1,⟨x,h2,h3⟩,h4⟩:=h
  cases i with
  |zero=>simp at hc;subst hc;exact⟨h1,x,h2,h3⟩
  |succ i=>
   have:=RepC.get h4 (i:=i) (by simpa using hc)
   rwa [show off+1+i=off+(i+1) by omega] at this
theorem RepC.drop{w:World}{L:Live}{b:Nat}:∀ {off:Nat} {cs:List LV} (n:Nat),RepC w L b off cs->RepC w L b (off+n) (cs.drop n)
 |_,cs,0,h=>by simpa using h
 |_,[],n+1,_=>by simp[RepC]
 |off,c::cs,n+1,h=>by
  simp only[RepC] at h;have:=RepC.drop n h.2.2
  rwa [show off+1+n=off+(n+1) by omega] at this
theorem qak.cell{e:LV}(h:qak w L b k off (e::es)):e.cells.length=k/\RepC w L b off e.cells:=by
 cases e <;> simp only[qak] at h <;> first
  |exact h.1
  |(obtain⟨⟨r1,r2,r3⟩,_⟩:=h;exact⟨r1,by simp only[LV.cells,RepC];exact⟨r2,r3,trivial⟩⟩)
theorem qak.tail{e:LV}(h:qak w L b k off (e::es)):qak w L b k (off+k) es:=by
 cases e <;> simp only[qak] at h <;> exact h.2
theorem qak.cons{e:LV}(h1:e.cells.length=k)(h2:RepC w L b off e.cells)(h3:qak w L b k (off+k) es):qak w L b k off (e::es):=by
 cases e <;> simp only[qak] <;> refine⟨?_,h3⟩ <;> first
  |exact⟨h1,h2⟩
  |(simp only[LV.cells,RepC] at h1 h2;exact⟨h1,h2.1,h2.2.1⟩)
theorem qak.get{w:World}{L:Live}{b k:Nat}:∀ {off:Nat} {es:List LV},qak w L b k off es->∀ {i:Nat} {e:LV},es[i]? = some e->e.cells.length=k/\RepC w L b (off+i * k) e.cells
 |_,[],_,i,c,hc=>by simp at hc
 |off,e::es,h,i,e',hc=>by
  cases i with
  |zero=>simp at hc;subst hc;simpa using h.cell
  |succ i=>
   have:=qak.get h.tail (i:=i) (by simpa using hc)
   rwa [show off+k+i * k=off+(i+1) * k by rw[add_mul];omega] at this
theorem qak.drop{w:World}{L:Live}{b k:Nat}:∀ {off:Nat} {es:List LV} (n:Nat),qak w L b k off es->qak w L b k (off+n * k) (es.drop n)
 |_,es,0,h=>by simpa using h
 |_,[],n+1,_=>by simp[qak]
 |off,c::cs,n+1,h=>by
  have:=qak.drop n h.tail
  rwa [show off+k+n * k=off+(n+1) * k by rw[add_mul];omega] at this
theorem qak.take{w:World}{L:Live}{b k:Nat}:∀ {off:Nat} {es:List LV} (n:Nat),qak w L b k off es->qak w L b k off (es.take n)
 |_,es,0,_=>by simp[qak]
 |_,[],n+1,_=>by simp[qak]
 |off,c::cs,n+1,h=>.cons h.cell.1 h.cell.2 (qak.take n h.tail)
theorem qbz{P:Program}{w:World}{b off:Nat}:∀ (n i:Nat) (acc:Array Value) (xs:List Value),xs.length=n->(∀ j x,xs[j]? = some x->w.cell? ⟨b,off+i+j,none⟩=some x) ->
  (loadCellsFrom ⟨b,off,none⟩ i n acc).run P w=.ok (acc++xs.toArray) w
 |0,i,acc,xs,hl,_=>by
  have:xs=[]:=List.eq_nil_of_length_eq_zero hl;subst this
  simp[loadCellsFrom]
 |n+1,i,acc,[],hl,_=>by simp at hl
 |n+1,i,acc,x::xs,hl,h=>by
  have h0:=h 0 x rfl
  have ih:=qbz (P:=P) (w:=w) (b:=b) (off:=off) n (i+1) (acc.push x) xs (by simpa using hl) (λj y hy=>by
   have:=h (j+1) y (by simpa using hy)
   rwa [show off+i+(j+1)=off+(i+1)+j by omega] at this)
  simp only[loadCellsFrom,zRB,run_load,add_mk];rw[show off+i=off+i+0 by omega,h0];simp only[zRO];rw[ih]
  simp
theorem RepC.values{w:World}{L:Live}{b:Nat}:∀ {off:Nat} {cs:List LV},RepC w L b off cs->∃ xs:List Value,RepL w L cs xs/\∀ j x,xs[j]? = some x->off+j<L b/\w.cell? ⟨b,off+j,none⟩=some x
 |_,[],_=>⟨[],by simp only[RepL],by simp⟩
 |off,c::cs,h=>by
  simp only[RepC] at h;obtain⟨h1,⟨x,h2,h3⟩,h4⟩:=h;obtain⟨xs,h5,h6⟩:=RepC.values h4;refine⟨x::xs,by simp only[RepL];exact⟨x,xs,rfl,h3,h5⟩,λj y hy=>?_⟩
  cases j with
  |zero=>simp at hy;subst hy;exact⟨h1,h2⟩
  |succ j=>
   have:=h6 j y (by simpa using hy)
   rwa [show off+1+j=off+(j+1) by omega] at this
theorem RepC.take{w:World}{L:Live}{b:Nat}:∀ {off:Nat} {cs:List LV} (n:Nat),RepC w L b off cs->RepC w L b off (cs.take n)
 |_,cs,0,_=>by simp[RepC]
 |_,[],n+1,_=>by simp[RepC]
 |off,c::cs,n+1,h=>by
  simp only[RepC,List.take_succ_cons] at h ⊢;exact⟨h.1,h.2.1,RepC.take n h.2.2⟩
theorem qgu{t:TypeId} [TOne P t]{a:Addr}{x:Value}(h:w.cell? a=some x):(loadVar t a).run P w=.ok x w:=by
 simp[loadVar,TOne.isAgg,h]
theorem qgE [ht:TAgg P t k]{xs:List Value}(hl:xs.length=k)(h:∀ j x,xs[j]? = some x->w.cell? ⟨b,off+j,none⟩=some x) :
  (loadVar t ⟨b,off,none⟩).run P w=.ok (.agg xs.toArray) w:=by
 obtain⟨i,hi,hk⟩:=ht.size;have:=qbz (P:=P) (w:=w) (b:=b) (off:=off) k 0 #[] xs hl (by simpa using h);simp only[loadVar,zRB,TAgg.isAgg,zRO,if_true,qbF hi,hk,loadCells,this]
 simp
section reading
variable{C:Ctx}{e:Env}{H:Heap}{dst:Option Nat}{ty:TypeId}{pos:String}{aft:Array Edge}{g:Option (Nat×Bool)}{x y:Operand}{xT:TypeId}{k:IntKind}
theorem pO{t:TypeId} [TOne C.P t]{c:LV}(hx:e.ev x=.ref cs)(hc:cs[0]? = some c):Pure C ⟨dst,.load t x,ty,pos,aft,g⟩ e H c:=λρ w L h _=>by
 have hv:=h x;rw[hx] at hv;simp only[Rep] at hv;obtain⟨b,off,hv,hr⟩:=hv;obtain⟨h1,v,h2,h3⟩:=hr.get hc;refine⟨v,h3,λw' ha=>?_⟩;have h2':w'.cell? ⟨b,off,none⟩=some v:=by rw[ha.2 b off h1];exact h2
 have h0:execOp ρ ⟨dst,.load t x,ty,pos,aft,g⟩=(do Pure.pure (.value (<-Instr.loadAt t (ρ x)))):=rfl;rw[h0,hv];simp[Instr.loadAt,Instr.sureAddr,qgu h2']
theorem Pure.loadRefAgg [TAgg C.P t n](hx:e.ev x=.ref cs)(hn:n<=cs.length):Pure C ⟨dst,.load t x,ty,pos,aft,g⟩ e H (.agg (cs.take n)):=λρ w L h _=>by
 have hv:=h x;rw[hx] at hv;simp only[Rep] at hv;obtain⟨b,off,hv,hr⟩:=hv;obtain⟨xs,h1,h2⟩:=(hr.take n).values;refine⟨.agg xs.toArray,by simp only[Rep];exact⟨xs,rfl,h1⟩,λw' ha=>?_⟩;have h0:execOp ρ ⟨dst,.load t x,ty,pos,aft,g⟩=(do Pure.pure (.value (<-Instr.loadAt t (ρ x)))):=rfl;rw[h0,hv];have hlen:xs.length=n:=by rw[h1.length];simp;omega
 simp[Instr.loadAt,Instr.sureAddr,qgE (t:=t) hlen (λj y hy=>by rw[ha.2 b _ (h2 j y hy).1];exact(h2 j y hy).2)]
theorem RelH.cells{w:World}{L:Live}{b ty':Nat}{cs:List LV}(h:RelH C w L H)(hm:(b,LObj.cells ty' cs)∈H):∃ xs:List Value,w.heap[b]? = some (.cells xs.toArray ty' (0,0))/\RepL w L cs xs:=
 (h.objs _ hm).2.2.2
theorem pL{t:TypeId} [TOne C.P t]{c:LV}(hx:e.ev x=ptr b off)(hm:(b,LObj.cells ty' cs)∈H)(hc:cs[off]? = some c) :
  Pure C ⟨dst,.load t x,ty,pos,aft,g⟩ e H c:=λρ w L h hH=>by
 obtain⟨xs,h1,h2⟩:=hH.cells hm;obtain⟨v,h3,h4⟩:=h2.get hc;refine⟨v,h4,λw' ha=>?_⟩;have hb:w'.heap[b]? = some (.cells xs.toArray ty' (0,0)):=(ha.1 _ hm).trans h1;have hc':w'.cell? ⟨b,off,none⟩=some v:=by simp[World.cell?,hb,h3]
 have h0:execOp ρ ⟨dst,.load t x,ty,pos,aft,g⟩=(do Pure.pure (.value (<-Instr.loadAt t (ρ x)))):=rfl;rw[h0,qaf h hx];simp[Instr.loadAt,Instr.sureAddr,qgu hc']
theorem RepL.drop{w:World}{L:Live}:∀ (n:Nat) {cs:List LV} {xs:List Value},RepL w L cs xs->RepL w L (cs.drop n) (xs.drop n)
 |0,_,_,h=>by simpa using h
 |n+1,[],xs,h=>by simp only[RepL] at h;subst h;simp[RepL]
 |n+1,c::cs,xs,h=>by
  simp only[RepL] at h;obtain⟨y,ys,rfl,_,h⟩:=h;simpa using RepL.drop n h
theorem RepL.take{w:World}{L:Live}:∀ (n:Nat) {cs:List LV} {xs:List Value},RepL w L cs xs->RepL w L (cs.take n) (xs.take n)
 |0,_,_,_=>by simp[RepL]
 |n+1,[],xs,h=>by simp only[RepL] at h;subst h;simp[RepL]
 |n+1,c::cs,xs,h=>by
  simp only[RepL] at h;obtain⟨y,ys,rfl,h1,h⟩:=h;simp only[List.take_succ_cons,RepL];exact⟨y,_,rfl,h1,RepL.take n h⟩
theorem Pure.loadHAgg [TAgg C.P t n](hx:e.ev x=ptr b off)(hm:(b,LObj.cells ty' cs)∈H)(hn:off+n<=cs.length) :
  Pure C ⟨dst,.load t x,ty,pos,aft,g⟩ e H (.agg ((cs.drop off).take n)):=λρ w L h hH=>by
 obtain⟨xs,h1,h2⟩:=hH.cells hm;have hl:=h2.length;refine⟨.agg ((xs.drop off).take n).toArray,by simp only[Rep];exact⟨_,rfl,(h2.drop off).take n⟩,λw' ha=>?_⟩;have hb:w'.heap[b]? = some (.cells xs.toArray ty' (0,0)):=(ha.1 _ hm).trans h1;have h0:execOp ρ ⟨dst,.load t x,ty,pos,aft,g⟩=(do Pure.pure (.value (<-Instr.loadAt t (ρ x)))):=rfl;rw[h0,qaf h hx];have hlen:((xs.drop off).take n).length=n:=by simp;omega
 simp[Instr.loadAt,Instr.sureAddr,qgE (t:=t) (w:=w') (b:=b) (off:=off) hlen (λj y hy=>by
  rw[List.getElem?_take] at hy;split at hy;simpa [World.cell?,hb,List.getElem?_drop] using hy
  cases hy)]
theorem qkm{fld:Field}{i:TypeInfo}(hi:P.info? fld.type=some i)(h0:i.size≠0)(b off:Nat)(w:World):(fieldPlace ⟨b,off,none⟩ fld).run P w=.ok ⟨b,off+fld.offset,none⟩ w:=by
 simp[fieldPlace,qbF hi,h0,add_mk]
theorem qjU{f:Nat} [hf:TField P s f n](b off:Nat)(w:World):(Instr.fieldAt s (.pointer (some ⟨b,off,none⟩)) f).run P w=.ok (.pointer (some ⟨b,off+n,none⟩)) w:=by
 obtain⟨fs,fld,hu,hg,rfl,i,hi,h0⟩:=hf.out;simp[Instr.fieldAt,qaa hu,hg,Instr.sureAddr,qkm hi h0]
theorem pF{f:Nat} [TField C.P s f n](hx:e.ev x=ptr b off):Pure C ⟨dst,.fieldAddr s x f,ty,pos,aft,g⟩ e H (ptr b (off+n)):=
 .of_any λρ _ _ h=>⟨_,qaj,λw'=>by
  have h0:execOp ρ ⟨dst,.fieldAddr s x f,ty,pos,aft,g⟩=(do Pure.pure (.value (<-Instr.fieldAt s (ρ x) f))):=rfl;rw[h0,qaf h hx]
  simp[qjU]⟩
theorem Pure.fieldRef{f:Nat} [TField C.P s f n](hx:e.ev x=.ref cs):Pure C ⟨dst,.fieldAddr s x f,ty,pos,aft,g⟩ e H (.ref (cs.drop n)):=
 .of_any λρ w L h=>by
  have hv:=h x;rw[hx] at hv;simp only[Rep] at hv;obtain⟨b,off,hv,hr⟩:=hv;refine⟨.pointer (some ⟨b,off+n,none⟩),by simp only[Rep];exact⟨b,off+n,rfl,hr.drop n⟩,λw'=>?_⟩;have h0:execOp ρ ⟨dst,.fieldAddr s x f,ty,pos,aft,g⟩=(do Pure.pure (.value (<-Instr.fieldAt s (ρ x) f))):=rfl;rw[h0,hv];simp[qjU]
def elems:LV->Option (List LV)
 |.list es=>some es
 |.app _ _ _ es=>some es
 |.atom (.slice none 0 0)=>some []
 |_=>none
theorem Rep.elems{w:World}{L:Live}:∀ {lv:LV} {v:Value} {es:List LV},Rep w L lv v->GL.elems lv=some es ->
  ∃ a cap,v=.slice a es.length cap/\es.length<=cap/\(es≠[]->∃ b off k,a=some ⟨b,off,none⟩/\qak w L b k off es)
 |.list es,v,es',h,he=>by simp only[GL.elems,Option.some.injEq] at he;subst he;simpa only[Rep] using h
 |.app b cap k es,v,es',h,he=>by
  simp only[GL.elems,Option.some.injEq] at he;subst he;simp only[Rep] at h;obtain⟨rfl,hl,h,_⟩:=h
  exact⟨_,_,rfl,hl,λ_=>⟨b,0,k,rfl,h⟩⟩
 |.atom u,v,es,h,he=>by
  simp only[Rep] at h;subst h;unfold GL.elems at he
  split at he <;> simp_all
 |.agg _,_,_,_,he=>by simp[GL.elems] at he
 |.tuple _,_,_,_,he=>by simp[GL.elems] at he
 |.ref _,_,_,_,he=>by simp[GL.elems] at he
theorem Pure.llen [TSlice C.P t el s](hx:elems (e.ev x)=some es):Pure C ⟨dst,.call { callee:=.builtin .len,args:=#[x],argTypes:=#[t] },ty,pos,aft,g⟩ e H (int .i64 es.length):=
 .of_any λρ _ _ h=>⟨_,qaj,λw'=>by
  obtain⟨a,cap,hv,_⟩:=(h x).elems hx;have hu:=qaa (P:=C.P) (TSlice.und (t:=t)) w';rw[qax,qez]
  simp[Builtin.len_,hu,goInt,hv]⟩
theorem Pure.indexAddr{t el s:Nat} [ht:TSlice C.P t el s]{es:List LV}{n:Int}{el':LV}(hx:elems (e.ev x)=some es)(hy:e.ev y=int k n)(h0:0<=n)(hn:es[n.toNat]? = some el')(hs:el'.cells.length=s) :
  Pure C ⟨dst,.indexAddr t x y,ty,pos,aft,g⟩ e H (.ref el'.cells):=.of_any λρ w L h=>by
 obtain⟨a,cap,hv,hcap,hr⟩:=(h x).elems hx;have hlt:n.toNat<es.length:=(List.getElem?_eq_some_iff.1 hn).1;obtain⟨b,off,k',rfl,hrr⟩:=hr (by intro h;subst h;simp at hlt);obtain⟨h1,h2⟩:=hrr.get hn;obtain⟨i,hi,hsz⟩:=ht.size;refine⟨.pointer (some ⟨b,off+n.toNat * k',none⟩),by simp only[Rep];exact⟨b,_,rfl,h2⟩,λw'=>?_⟩;have h3:execOp ρ ⟨dst,.indexAddr t x y,ty,pos,aft,g⟩=(do Pure.pure (.value (<-Instr.indexAt t (ρ x) (ρ y)))):=rfl;rw[h3,hv,qaf h hy];have hk:k'=i.size:=by omega
 have hc:0<=n/\n<(es.length:Int):=⟨h0,by omega⟩;simp[Instr.indexAt,asIntOf,qaa ht.und,hc,qbF hi,add_mk,hk]
def qd2(e:Env)(o:Option Operand)(dflt n:Int):Prop:=
 match o with
 |some x=>∃ k,e.ev x=int k n
 |none=>n=dflt
theorem qd8{ρ:Operand->Value}(h:∀ x,Rep w L (e.ev x) (ρ x)){lo hi:Option Operand}{i j:Int}{len:Nat}(sl:Bool)
  (hlo:qd2 e lo 0 i) (hhi:qd2 e hi len j) (h0:0<=i) (h1:i<=j) (h2:j<=cap) :
  (Instr.sliceBounds sl len cap (lo.map ρ) (hi.map ρ) none).run P w'=.ok (i.toNat,j.toNat,cap) w':=by
 have hj:0<=j:=by omega
 have hm:i<=max j 0:=by omega
 cases lo <;> cases hi <;> simp only[qd2] at hlo hhi;subst hlo hhi;simp[Instr.sliceBounds];obtain⟨k2,hk2⟩:=hhi;subst hlo;simp[Instr.sliceBounds,Instr.sliceBound,qaf h hk2,asIntOf,hj,h2];obtain⟨k1,hk1⟩:=hlo;subst hhi;simp[Instr.sliceBounds,Instr.sliceBound,qaf h hk1,asIntOf,h0,h1];obtain⟨k1,hk1⟩:=hlo;obtain⟨k2,hk2⟩:=hhi;simp[Instr.sliceBounds,Instr.sliceBound,qaf h hk1,qaf h hk2,asIntOf,h0,hj,h2,hm]
theorem qqD(l:List UInt8)(i j:Nat):(ByteArray.mk l.toArray).extract i j=ByteArray.mk ((l.take j).drop i).toArray:=by
 apply ByteArray.ext;simp[List.extract_eq_take_drop,List.drop_take]
theorem Pure.sslice{lo hi:Option Operand}{l:List UInt8}{i j:Int} [hT:TStr C.P xT](hx:e.ev x=str l)
  (hlo:qd2 e lo 0 i) (hhi:qd2 e hi l.length j) (h0:0<=i) (h1:i<=j) (h2:j<=l.length) :
  Pure C ⟨dst,.slice xT x lo hi none,ty,pos,aft,g⟩ e H (str ((l.take j.toNat).drop i.toNat)):=.of_any λρ w L h=>by
 refine⟨_,qaj,λw'=>?_⟩;have h3:execOp ρ ⟨dst,.slice xT x lo hi none,ty,pos,aft,g⟩=(do Pure.pure (.value (<-Instr.sliceAt xT (ρ x) (lo.map ρ) (hi.map ρ) none))):=rfl;rw[h3,qaf h hx]
 simp only[Instr.sliceAt,Instr.slice,zRB,qaa (P:=C.P) hT.und w',zRO,isSome_none,Bool.false_eq_true,if_false,zRP,qhM,
  qd8 h false hlo hhi h0 h1 h2,qqD]
theorem Pure.lslice{lo hi:Option Operand}{es:List LV}{i j:Int} [ht:TSlice C.P t el s](hx:elems (e.ev x)=some es)
  (hlo:qd2 e lo 0 i) (hhi:qd2 e hi es.length j) (h0:0<=i) (h1:i<=j) (h2:j<=es.length) (hs:∀ v∈es,v.cells.length=s) :
  Pure C ⟨dst,.slice t x lo hi none,ty,pos,aft,g⟩ e H (.list ((es.take j.toNat).drop i.toNat)):=.of_any λρ w L h=>by
 obtain⟨a,cap,hv,hcap,hr⟩:=(h x).elems hx;obtain⟨ti,hti,hsz⟩:=ht.size;have hb:=λw'=>qd8 (P:=C.P) (w':=w') (cap:=cap) h true hlo hhi h0 h1 (by omega);have h3:execOp ρ ⟨dst,.slice t x lo hi none,ty,pos,aft,g⟩=(do Pure.pure (.value (<-Instr.sliceAt t (ρ x) (lo.map ρ) (hi.map ρ) none))):=rfl;have hlen:((es.take j.toNat).drop i.toNat).length=j.toNat-i.toNat:=by simp;omega
 refine⟨.slice (if cap=i.toNat then a else a.map (·.add (i.toNat * s))) (j.toNat-i.toNat) (cap-i.toNat),?_,λw'=>?_⟩;simp only[Rep];refine⟨_,cap-i.toNat,by rw[hlen],by omega,λhne=>?_⟩;have hne':es≠[]:=by intro h;subst h;simp at hne
 obtain⟨b,off,k,rfl,hrr⟩:=hr hne'
 have hlt:i.toNat<j.toNat:=by
  rcases Nat.lt_or_ge i.toNat j.toNat with hh|hh;exact hh;exact absurd (List.eq_nil_of_length_eq_zero (by omega)) hne
 have hk:k=s:=by
  obtain⟨e0,rest,he⟩:=List.exists_cons_of_ne_nil hne';subst he;exact hrr.cell.1.symm.trans (hs e0 (by simp))
 subst hk;refine⟨b,off+i.toNat * k,k,?_,(hrr.take j.toNat).drop i.toNat⟩;rw[zn (by omega)];simp[add_mk];rw[h3,hv];simp only[Instr.sliceAt,Instr.slice,zRB,qaa (P:=C.P) ht.und w',zRO,zRP,hb,qbF hti,hsz]
theorem Pure.extract{vs:List LV}{i:Nat}{c:LV}(hx:e.ev x=.tuple vs)(hc:vs[i]? = some c):Pure C ⟨dst,.extract x i,ty,pos,aft,g⟩ e H c:=.of_any λρ w L h=>by
 have hv:=h x;rw[hx] at hv;simp only[Rep] at hv;obtain⟨xs,hv,hr⟩:=hv;obtain⟨v,h1,h2⟩:=hr.get hc;refine⟨v,h2,λw'=>?_⟩;have h3:execOp ρ ⟨dst,.extract x i,ty,pos,aft,g⟩=(do Pure.pure (.value (<-Instr.extract (ρ x) i))):=rfl;rw[h3,hv];simp[Instr.extract,h1]
theorem pN(hx:e.ev x=ptr b off):Pure C ⟨dst,.nilCheck x,ty,pos,aft,g⟩ e H (ptr b off):=.of_any λρ _ _ h=>⟨_,qaj,λw'=>by
 simp[execOp,qaf h hx]⟩
theorem Pure.minI{a b:Int}(hx:e.ev x=int k a)(hy:e.ev y=int k b){t u:TypeId}:Pure C ⟨dst,.call { callee:=.builtin .min,args:=#[x,y],argTypes:=#[t,u] },ty,pos,aft,g⟩ e H (int k (if b<a then b else a)):=
 .of_any λρ _ _ h=>⟨_,qaj,λw'=>by
  have h0:∀ (cs:Array Bool) (args:Array Value),builtin .min #[t,u] ty cs args=(do Pure.pure (.value (<-Builtin.min_ #[t,u] ty args))):=λ_ _=>rfl;rw[qax,h0]
  simp[Builtin.min_,Builtin.min2,qaf h hx,qaf h hy]⟩
theorem Pure.convInt{k':IntKind}{s d:TypeId}{n:Int}(hs:∃ ds,C.P.underlying s=some ds) [hd:TKind C.P d k'](hx:e.ev x=int k n):Pure C ⟨dst,.convert s d x,ty,pos,aft,g⟩ e H (int k' (k'.wrap n)):=
 .of_any λρ _ _ h=>⟨_,qaj,λw'=>by
  obtain⟨ds,hs⟩:=hs;have h3:execOp ρ ⟨dst,.convert s d x,ty,pos,aft,g⟩=(do Pure.pure (.value (<-convert s d (ρ x)))):=rfl;rw[h3,qaf h hx]
  simp[convert,qaa hs,qaa hd.und,Conv.intToInt]⟩
theorem RepL.atoms{w:World}{L:Live}:∀ {vs xs:List Value},RepL w L (vs.map .atom) xs->xs=vs
 |[],xs,h=>by simpa [RepL] using h
 |v::vs,xs,h=>by
  simp only[zMc,RepL,Rep] at h;obtain⟨y,ys,rfl,rfl,h⟩:=h;rw[RepL.atoms h]
theorem Pure.makeInterfaceAgg{t:TypeId} [ht:TConcrete C.P t]{vs:List Value}(hx:e.ev x=.agg (vs.map .atom)):Pure C ⟨dst,.makeInterface t x,ty,pos,aft,g⟩ e H (.atom (.iface t (.agg vs.toArray))):=
 .of_any λρ w L h=>⟨_,qaj,λw'=>by
  obtain⟨d,hd,hm⟩:=ht.out;have hv:=h x;rw[hx] at hv;simp only[Rep] at hv;obtain⟨xs,hv,hr⟩:=hv;rw[hr.atoms] at hv;have h3:execOp ρ ⟨dst,.makeInterface t x,ty,pos,aft,g⟩=(do Pure.pure (.value (<-Instr.makeInterface t (ρ x)))):=rfl;rw[h3,hv];simp only[Instr.makeInterface,zRB,qaa hd,zRO]
  cases d <;> simp_all⟩
def qh2(e:Env):List Operand->Option (List Value)
 |[]=>some []
 |x::xs=>match e.ev x,qh2 e xs with
  |.atom v,some vs=>some (v::vs)
  |_,_=>none
theorem qgI{ρ:Operand->Value}{w:World}{L:Live}(h:∀ x,Rep w L (e.ev x) (ρ x)):∀ {xs:List Operand} {vs:List Value},qh2 e xs=some vs->xs.map ρ=vs
 |[],vs,hv=>by simpa [qh2] using hv
 |x::xs,vs,hv=>by
  simp only[qh2] at hv;split at hv
  rename_i v vs' h1 h2
  simp only[Option.some.injEq] at hv;subst hv;rw[zMc,qaf h h1,qgI h h2];cases hv
theorem Pure.makeFunc{fn:Fn}{first captured:List Operand}{fs cs:List Value}(h1:qh2 e first=some fs)(h2:qh2 e captured=some cs) :
  Pure C ⟨dst,.makeFunc fn first.toArray captured.toArray,ty,pos,aft,g⟩ e H (.atom (.func fn fs.toArray cs.toArray)):=.of_any λρ _ _ h=>⟨_,qaj,λw'=>by
 have h3:execOp ρ ⟨dst,.makeFunc fn first.toArray captured.toArray,ty,pos,aft,g⟩=(do Pure.pure (.value (<-Instr.makeFunc fn (first.toArray.map ρ) (captured.toArray.map ρ)))):=rfl;rw[h3]
 simp[Instr.makeFunc,qgI h h1,qgI h h2]⟩
def LV.cells? : LV->Option (List LV)
 |.agg cs=>some cs
 |.atom (.agg _)=>none
 |v=>some [v]
theorem Rep.cells{w:World}{L:Live}:∀ {lv:LV} {v:Value} {cs:List LV},Rep w L lv v->lv.cells? = some cs->RepL w L cs v.cells.toList
 |.agg cs,v,cs',h,hc=>by
  simp only[LV.cells?,Option.some.injEq] at hc;subst hc;simp only[Rep] at h;obtain⟨xs,rfl,h⟩:=h
  simpa [Value.cells] using h
 |.atom u,v,cs,h,hc=>by
  simp only[Rep] at h;subst h
  cases v <;> simp only[LV.cells?,Option.some.injEq,reduceCtorEq] at hc <;> subst hc <;> simp[Value.cells,RepL,Rep]
 |.list es,v,cs,h,hc=>by
  simp only[LV.cells?,Option.some.injEq] at hc;subst hc;have h':=h;simp only[Rep] at h;obtain⟨a,cap,rfl,_⟩:=h
  simpa [Value.cells,RepL] using h'
 |.app b cap k es,v,cs,h,hc=>by
  simp only[LV.cells?,Option.some.injEq] at hc;subst hc;have h':=h;simp only[Rep] at h;obtain⟨rfl,_⟩:=h
  simpa [Value.cells,RepL] using h'
 |.tuple vs,v,cs,h,hc=>by
  simp only[LV.cells?,Option.some.injEq] at hc;subst hc;have h':=h;simp only[Rep] at h;obtain⟨xs,rfl,_⟩:=h
  simpa [Value.cells,RepL] using h'
 |.ref vs,v,cs,h,hc=>by
  simp only[LV.cells?,Option.some.injEq] at hc;subst hc;have h':=h;simp only[Rep] at h;obtain⟨b,off,rfl,_⟩:=h;simpa [Value.cells,RepL] using h'
def setL:List LV->Nat->List LV->List LV
 |xs,0,[]=>xs
 |[],_,_=>[]
 |_::xs,0,v::vs=>v::setL xs 0 vs
 |x::xs,n+1,vs=>x::setL xs n vs
def qp2(pl:List (Nat×Nat))(cells:List LV):List (Nat×LV)->Option (List LV)
 |[]=>some cells
 |(i,v)::rest=>
  match pl[i]?,v.cells? with
  |some (off,size),some cs=>if cs.length=size/\off+cs.length<=cells.length then qp2 pl (setL cells off cs) rest else none
  |_,_=>none
theorem RepL.append{w:World}{L:Live}:∀ {avs bs:List LV} {xs ys:List Value},RepL w L avs xs->RepL w L bs ys->RepL w L (avs++bs) (xs++ys)
 |[],_,xs,_,h,k=>by simp only[RepL] at h;subst h;simpa using k
 |a::avs,_,xs,_,h,k=>by
  simp only[RepL] at h;obtain⟨y,ys',rfl,h1,h2⟩:=h;simp only[cons_append,RepL];exact⟨y,_,rfl,h1,RepL.append h2 k⟩
theorem qlS:∀ (cells:List LV) (off:Nat) (vs:List LV),off+vs.length<=cells.length->setL cells off vs=cells.take off++vs++cells.drop (off+vs.length)
 |xs,0,[],_=>by cases xs <;> simp[setL]
 |[],n+1,vs,h=>by simp at h
 |[],0,v::vs,h=>by simp at h
 |x::xs,0,v::vs,h=>by
  have:=qlS xs 0 vs (by simpa using h)
  simp[setL,this]
 |x::xs,n+1,vs,h=>by
  have:=qlS xs n vs (by simp at h;omega);simp[setL,this,show n+1+vs.length=(n+vs.length)+1 by omega]
theorem qjD(off:Nat):∀ (ys:List Value) (j:Nat) (xs:List Value),off+j+ys.length<=xs.length ->
  ((ys.zipIdx j).foldl (λcs p=>cs.setIfInBounds (off+p.2) p.1) xs.toArray)=(xs.take (off+j)++ys++xs.drop (off+j+ys.length)).toArray
 |[],j,xs,_=>by simp
 |y::ys,j,xs,h=>by
  simp only[zLc] at h;simp only[List.zipIdx_cons,List.foldl_cons,List.setIfInBounds_toArray];rw[qjD off ys (j+1) (xs.set (off+j) y) (by simp;omega)];congr 1
  have h1:(xs.set (off+j) y).take (off+(j+1))=xs.take (off+j)++[y]:=by
   rw[show off+(j+1)=off+j+1 by omega,List.take_succ_eq_append_getElem (by simp;omega)];simp[List.take_set_of_le]
  have h2:(xs.set (off+j) y).drop (off+(j+1)+ys.length)=xs.drop (off+j+(ys.length+1)):=by
   rw[List.drop_set_of_lt (by omega),show off+(j+1)+ys.length=off+j+(ys.length+1) by omega]
  rw[h1,h2]
  simp
theorem qpf{w:World}{L:Live}{pl:List (Nat×Nat)}{place:Nat->Option (Nat×Nat)}(hp:∀ i,place i=pl[i]?):∀ {parts:List (Nat×LV)} {vs:List (Nat×Value)} {cells:List LV} {xs:List Value} {cs:List LV},
  RepL w L cells xs->parts.map (·.1)=vs.map (·.1)->RepL w L (parts.map (·.2)) (vs.map (·.2))->qp2 pl cells parts=some cs->∃ ys:List Value,Instr.fill place xs.toArray vs=some ys.toArray/\RepL w L cs ys
 |[],[],cells,xs,cs,h,_,_,hf=>by
  simp only[qp2,Option.some.injEq] at hf;subst hf
  exact⟨xs,rfl,h⟩
 |[],_::_,_,_,_,_,h,_,_=>by simp at h
 |_::_,[],_,_,_,_,h,_,_=>by simp at h
 |(i,lv)::parts,(i',v)::vs,cells,xs,cs,h,h1,h2,hf=>by
  simp only[zMc,List.cons.injEq] at h1;obtain⟨rfl,h1⟩:=h1;simp only[zMc,RepL] at h2;obtain⟨y,ys,he,h2,h3⟩:=h2;simp only[List.cons.injEq] at he;obtain⟨rfl,rfl⟩:=he;simp only[qp2] at hf;split at hf
  rename_i off size vcs hpl hvc
  split at hf
  rename_i hc
  have hr:=h2.cells hvc;have hl:=hr.length;have hlx:=h.length;simp only[Instr.fill,hp,hpl];have hsz:v.cells.size=vcs.length:=by simpa using hl
  rw[zn (by simp[hsz,hlx];omega)]
  have he:(v.cells.zipIdx.foldl (λcs (c,j)=>cs.setIfInBounds (off+j) c) xs.toArray)=(xs.take off++v.cells.toList++xs.drop (off+vcs.length)).toArray:=by
   rw[<-Array.foldl_toList,Array.toList_zipIdx];have:=qjD off v.cells.toList 0 xs (by simp[hsz,hlx];omega);rw[add_zero] at this;rw[this];simp[hsz]
  rw[he];refine qpf hp ?_ h1 h3 hf;rw[qlS _ _ _ hc.2];exact((h.take off).append hr).append (h.drop _);cases hf;cases hf
theorem qfC{P:Program}{w:World}:∀ {fs:List Field},(∀ f∈fs,(P.info? f.type).isSome) ->
  (fs.mapM (λf=>(do Pure.pure (f.offset,<-sizeOf f.type):Sem (Nat×Nat)))).run P w=.ok (fs.map λf=>(f.offset,P.cellsOf f.type)) w
 |[],_=>by simp
 |f::fs,h=>by
  obtain⟨i,hi⟩:=Option.isSome_iff_exists.1 (h f (by simp));have ih:=qfC (P:=P) (w:=w) (fs:=fs) (λg hg=>h g (zMo _ hg));simp only[List.mapM_cons,zRB,qbF hi,zRO,zRP,ih,zMc,Program.cellsOf,hi,map_some,Option.getD_some]
theorem ql6{t:TypeId} [h:TZero P t zs](w:World):∃ v,(zeroValue t).run P w=.ok v w/\v.cells=zs.toArray:=by
 obtain⟨i,v,hi,hz,hc,_⟩:=h.out;exact⟨v,by simp[zeroValue,qdK hi,hz],hc⟩
theorem qa4{w:World}{L:Live}:∀ (zs:List Value),RepL w L (zs.map .atom) zs
 |[]=>by simp[RepL]
 |z::zs=>by simp only[zMc,RepL,Rep];exact⟨z,zs,rfl,rfl,qa4 zs⟩
theorem qjA{ρ:Operand->Value}{w:World}{L:Live}(h:∀ x,Rep w L (e.ev x) (ρ x)):∀ (xs:List Operand),RepL w L (xs.map e.ev) (xs.map ρ)
 |[]=>by simp[RepL]
 |x::xs=>by simp only[zMc,RepL];exact⟨_,_,rfl,h x,qjA h xs⟩
theorem Pure.build{t:TypeId}{pl:List (Nat×Nat)}{zs:List Value} [hs:TStruct C.P t pl] [hz:TZero C.P t zs]{parts:List (Nat×Operand)}{cs:List LV}
  (h:qp2 pl (zs.map .atom) (parts.map λp=>(p.1,e.ev p.2))=some cs):Pure C ⟨dst,.build t parts.toArray,ty,pos,aft,g⟩ e H (.agg cs):=.of_any λρ w L hρ=>by
 obtain⟨fs,hu,hpl,hall⟩:=hs.out;have hp:∀ i:Nat,((fs.toList.map λf=>(f.offset,C.P.cellsOf f.type)).toArray)[i]? = pl[i]? := λi=>by rw[hpl];simp
 have hre:=qjA hρ (parts.map (·.2));have:=qpf hp (w:=w) (L:=L) (parts:=parts.map λp=>(p.1,e.ev p.2)) (vs:=parts.map λp=>(p.1,ρ p.2)) (qa4 zs) (by simp[Function.comp_def]) (by simpa [Function.comp_def] using hre) h;obtain⟨ys,h1,h2⟩:=this;refine⟨.agg ys.toArray,by simp only[Rep];exact⟨ys,rfl,h2⟩,λw'=>?_⟩;obtain⟨v,hv,hc⟩:=ql6 (P:=C.P) (t:=t) w';have h3:execOp ρ ⟨dst,.build t parts.toArray,ty,pos,aft,g⟩=(do Pure.pure (.value (<-Instr.build t (parts.toArray.map λ(i,x)=>(i,ρ x))))):=rfl
 have hm:(fs.mapM (λf=>(do Pure.pure (f.offset,<-sizeOf f.type):Sem (Nat×Nat)))).run C.P w'=.ok (fs.toList.map λf=>(f.offset,C.P.cellsOf f.type)).toArray w':=by
  rw[Array.mapM_eq_mapM_toList];rw[Sem.run_map,qfC (P:=C.P) (w:=w') (fs:=fs.toList) (λf hf=>hall f (by simpa using hf))]
  try rfl
 rw[h3];simp only[Instr.build,zRB,hv,zRO,qaa hu w',hm,hc,map_toArray];rw[h1]
 try rfl
end reading
def Live.upd(L:Live)(b n:Nat):Live:=λx=>if x=b then n else L x
theorem qj2{o:Obj}(hb:b<w.heap.size):(w.heap.push o)[b]? = w.heap[b]? := by
 rw[Array.getElem?_push,zn (by omega)]
theorem qaE{o:Obj}:(w.heap.push o)[w.heap.size]? = some o:=by simp
def World.push(w:World)(o:Obj):World:={ w with heap:=w.heap.push o }
theorem qev(hwf:∀ b,w.heap.size<=b->L b=0)(o:Obj)(n:Nat):Ext w L (World.push w o) (L.upd w.heap.size n):=by
 refine⟨by simp[World.push],λb hb=>?_,λb i hi=>?_,λb=>?_⟩;exact qbL (qj2 hb);rcases Nat.lt_or_ge b w.heap.size with hb|hb;exact cell_of_heap (qj2 hb) i;rw[hwf b hb] at hi;omega;unfold Live.upd;split
 rename_i h;subst h;rw[hwf _ (zNr _)];omega
 exact zNr _
theorem qeA(hH:RelH C w L [])(o:Obj)(n:Nat)(H':Heap)(hk:∀ p∈H',p.1=w.heap.size/\qm1 (World.push w o) (L.upd w.heap.size n) w.heap.size p.2)(hn:(H'.map (·.1)).Nodup) :
  Fr (keys []) w L (World.push w o) (L.upd w.heap.size n) H'/\RelH C (World.push w o) (L.upd w.heap.size n) H':=by
 have hx:=qev hH.wf o n;refine⟨⟨rfl,rfl,rfl,hx,λb hb _=>qj2 hb,λb hb _=>?_,λp hp=>.inr (by rw[(hk p hp).1];exact zNr _)⟩,⟨?_,trivial,?_,λb hb=>?_,hn,λp hp=>?_⟩⟩;simp only[Live.upd];rw[zn (by omega)];exact hH.base.alloc hH.b0 o;exact zNt hH.b0 hx.size;simp only[World.push,Array.size_push] at hb;simp only[Live.upd];rw[zn (by omega)];exact hH.wf b (by omega);obtain⟨h1,h2⟩:=hk p hp;rw[h1];exact⟨hH.b0,by simp[World.push],h2⟩
section steps
variable{C:Ctx}{e:Env}{H:Heap}{dst:Option Nat}{ty:TypeId}{pos:String}{aft:Array Edge}{g:Option (Nat×Bool)}{x y:Operand}{xT:TypeId}{k:IntKind}
 {K:LV->Heap->Prop} {X:List PanicEntry->Heap->Prop}
theorem qps(hH:RelH C w L []){t:TypeId}{xs:List Value}(hr:RepL w L cs xs)(hk:∀ b,K (ptr b 0) [(b,.cells t cs)]) :
  Left C w L [] (World.push w (.cells xs.toArray t)) (.pointer (some ⟨w.heap.size,0,none⟩)) K:=by
 have hx:=qev hH.wf (.cells xs.toArray t) 0
 have:=qeA hH (.cells xs.toArray t) 0 [(w.heap.size,.cells t cs)] (λp hp=>by
  simp only[mem_singleton] at hp;subst hp
  exact⟨rfl,by simp[Live.upd],xs,qaE,hr.mono hx _ _⟩) (by simp)
 exact⟨_,_,_,this.1,this.2,qaj,hk _⟩
theorem qae.alloc{t:TypeId}{zs:List Value} [hz:TZero C.P t zs](hk:∀ b,K (ptr b 0) [(b,.cells t (zs.map .atom))]):qae C ⟨dst,.alloc t,ty,pos,aft,g⟩ e [] K X:=λρ w L _ hH=>by
 obtain⟨v,hv,hc⟩:=ql6 (P:=C.P) (t:=t) w;have h3:execOp ρ ⟨dst,.alloc t,ty,pos,aft,g⟩=(do Pure.pure (.value (<-Instr.alloc t true (.tuple #[])))):=rfl
 have h4:(Instr.alloc t true (.tuple #[])).run C.P w=.ok (.pointer (some ⟨w.heap.size,0,none⟩)) (World.push w (.cells zs.toArray t)):=by
  simp only[Instr.alloc,zRB,hv,zRO,newVar,newRow,hc];rfl
 rw[h3,zRB,h4];exact qps hH (qa4 zs) hk
theorem qae.box{t:TypeId}{cs:List LV}(hx:(e.ev x).cells? = some cs)(hk:∀ b,K (ptr b 0) [(b,.cells t cs)]):qae C ⟨dst,.box t x,ty,pos,aft,g⟩ e [] K X:=λρ w L h hH=>by
 have hr:=(h x).cells hx;have h3:execOp ρ ⟨dst,.box t x,ty,pos,aft,g⟩=(do Pure.pure (.value (<-Instr.box t (ρ x)))):=rfl
 have h4:(Instr.box t (ρ x)).run C.P w=.ok (.pointer (some ⟨w.heap.size,0,none⟩)) (World.push w (.cells (ρ x).cells t)):=by
  simp only[Instr.box,zRB,newVar,newRow];rfl
 rw[h3,zRB,h4];have:=qps (K:=K) hH (t:=t) hr hk;rw[Array.toArray_toList] at this;exact this
def qc4:LV->Bool
 |.agg _|.tuple _|.atom (.agg _)|.atom (.tuple _)=>false
 |_=>true
theorem Rep.flat{c:LV}{x:Value}(h:Rep w L c x)(hc:qc4 c=true):(∀ cs,x≠.agg cs)/\(∀ cs,x≠.tuple cs):=by
 cases c <;> simp only[Rep] at h <;> simp only[qc4,Bool.false_eq_true] at hc
 case atom v=>subst h;cases x <;> simp_all
 case list es=>obtain⟨a,cap,rfl,_⟩:=h;simp
 case app b cap k es=>obtain⟨rfl,_⟩:=h;simp
 case ref cs=>obtain⟨b,off,rfl,_⟩:=h;simp
theorem qjm{a:Addr}{old:Value}(hc:w.cell? a=some old)(hf:w.frozen? a=false)(h1:∀ cs,v≠.agg cs)(h2:∀ cs,v≠.tuple cs):(store a v).run P w=.ok () (w.setCell a v):=by
 cases v <;> simp_all [store,Sem.run]
theorem qil{xs:List Value}{t:TypeId}{fr:Nat×Nat}(h:w.heap[b]? = some (.cells xs.toArray t fr)) :
  (w.setCell ⟨b,off,none⟩ v).heap[b]? = some (.cells (xs.set off v).toArray t fr):=by
 simp[World.setCell,Array.getElem?_modify,h]
theorem qce{P:Program}{b off:Nat}{t:TypeId}{fr:Nat×Nat}:∀ (vs:List Value) (i:Nat) (w:World) (xs:List Value),w.heap[b]? = some (.cells xs.toArray t fr)->off+i+vs.length<=xs.length ->
  (∀ j,off+i<=j->j<off+i+vs.length->¬ (fr.1<=j/\j<fr.2)) ->
  (∀ v∈vs,(∀ cs,v≠.agg cs)/\(∀ cs,v≠.tuple cs)) ->
  ∃ w',(storeCells ⟨b,off,none⟩ vs i).run P w=.ok () w'/\w'.os=w.os/\w'.tape=w.tape/\w'.output=w.output/\w'.heap.size=w.heap.size/\(∀ c,c≠b->w'.heap[c]? = w.heap[c]?) /\
   w'.heap[b]? = some (.cells (xs.take (off+i)++vs++xs.drop (off+i+vs.length)).toArray t fr)
 |[],i,w,xs,hb,_,_,_=>⟨w,by simp[storeCells],rfl,rfl,rfl,rfl,λ_ _=>rfl,by simpa using hb⟩
 |v::vs,i,w,xs,hb,hl,hfr,hv=>by
  simp only[zLc] at hl hfr
  have hc:∃ old,w.cell? ⟨b,off+i,none⟩=some old:=by
   refine⟨xs[off+i]'(by omega),?_⟩;simp[World.cell?,hb]
  obtain⟨old,hc⟩:=hc
  have hf:w.frozen? ⟨b,off+i,none⟩=false:=by
   obtain⟨lo,hi⟩:=fr;have:=hfr (off+i) (by omega) (by omega);simp only[World.frozen?,hb];simp only[Bool.and_eq_false_iff,decide_eq_false_iff_not];simp only at this;omega
  have hs:=qjm (P:=P) hc hf (hv v (by simp)).1 (hv v (by simp)).2;obtain⟨w',h1,h2,h3,h4,h5,h6,h7⟩:=qce (P:=P) (off:=off) vs (i+1) (w.setCell ⟨b,off+i,none⟩ v) (xs.set (off+i) v) (qil hb) (by simp;omega) (λj h1 h2=>hfr j (by omega) (by omega)) (λu hu=>hv u (zMo _ hu));refine⟨w',?_,h2,h3,h4,?_,λc hc=>?_,?_⟩;simp only[storeCells,add_mk,zRB,hs,zRO,h1];rw[h5];simp[World.setCell];rw[h6 c hc];simp only[World.setCell,Array.getElem?_modify];rw[zn (by simpa using Ne.symm hc)];rw[h7];congr 2
  have e1:(xs.set (off+i) v).take (off+(i+1))=xs.take (off+i)++[v]:=by
   rw[show off+(i+1)=off+i+1 by omega,List.take_succ_eq_append_getElem (by simp;omega)];simp[List.take_set_of_le]
  have e2:(xs.set (off+i) v).drop (off+(i+1)+vs.length)=xs.drop (off+i+(vs.length+1)):=by
   rw[List.drop_set_of_lt (by omega),show off+(i+1)+vs.length=off+i+(vs.length+1) by omega]
  rw[e1,e2]
  simp
theorem qiT{w:World}{L:Live}:∀ {cs:List LV} {xs:List Value},RepL w L cs xs->(cs.all qc4)=true->∀ v∈xs,(∀ cs,v≠.agg cs)/\(∀ cs,v≠.tuple cs)
 |[],_,h,_=>by simp only[RepL] at h;subst h;simp
 |c::cs,_,h,hc=>by
  simp only[RepL] at h;obtain⟨y,ys,rfl,h1,h2⟩:=h;simp only[List.all_cons,zBa] at hc;intro v hv;rcases zMi.1 hv with rfl|hv;exact h1.flat hc.1;exact qiT h2 hc.2 v hv
class TSize (P:Program) (t:TypeId) (n:outParam Nat):Prop where
 size:∃ i,P.info? t=some i/\i.size=n
def qrU(P:Program)(t n:Nat):Bool:=match P.info? t with|some i=>i.size == n|none=>false
theorem TSize.of(h:qrU P t n=true):TSize P t n:=by
 unfold qrU at h
 cases hi:P.info? t with
 |none=>rw[hi] at h;simp at h
 |some i=>rw[hi] at h;exact⟨i,hi,by simpa using h⟩
theorem qeT{t:TypeId}{cs':List LV}{xs':List Value}(hH:RelH C w L [(b,.cells t cs)])(h1:w'.os=w.os)(h2:w'.tape=w.tape)(h3:w'.output=w.output)
  (h4:w'.heap.size=w.heap.size) (h5:∀ c,c≠b->w'.heap[c]? = w.heap[c]?) (h6:w'.heap[b]? = some (.cells xs'.toArray t (0,0))) (h7:xs'.length=cs.length)
  (h8:RepL w L cs' xs') {v:Value} {lv:LV} (hv:Rep w L lv v) (hk:K lv [(b,.cells t cs')]):Left C w L [(b,.cells t cs)] w' v K:=by
 obtain⟨hb0,hbs,hl,xs,hx1,hx2⟩:=hH.objs _ (List.mem_singleton.2 rfl);simp only at hb0 hbs hl hx1 hx2
 have hx:Ext w L w' L:=by
  refine⟨by rw[h4];exact zNr _,λc hc=>?_,λc i hi=>?_,λ_=>zNr _⟩
  by_cases he:c=b
  subst he;simp only[World.shape?,hx1,h6];rw[size_toArray,size_toArray,h7,hx2.length];exact qbL (h5 c he)
  by_cases he:c=b
  subst he;rw[hl] at hi;omega;exact cell_of_heap (h5 c he) i
 refine⟨lv,[(b,.cells t cs')],L,⟨h1,h2,h3,hx,λc hc hn=>h5 c (by simpa using hn),λ_ _ _=>rfl,λp hp=>.inl (by simp only[mem_singleton] at hp;subst hp;simp)⟩,
  ⟨?_,hH.lbase,by rw[h4];exact hH.b0,by rw[h4];exact hH.wf,by simp,λp hp=>?_⟩,hv.mono hx _ _,hk⟩
 exact hH.base.trans ⟨h1,h2,h3,by rw[h4];exact zNr _,λc hc=>h5 c (by omega)⟩;simp only[mem_singleton] at hp;subst hp;exact⟨hb0,by rw[h4];exact hbs,hl,xs',h6,h8.mono hx _ _⟩
theorem qae.store{t n:Nat} [ht:TSize C.P t n]{b off ty':Nat}{cs vs:List LV}(hx:e.ev x=ptr b off)(hy:(e.ev y).cells? = some vs)(hn:vs.length=n)(hl:off+n<=cs.length)(hok:vs.all qc4=true)
  (hk:K (.atom undef) [(b,.cells ty' (setL cs off vs))]):qae C ⟨dst,.store t x y,ty,pos,aft,g⟩ e [(b,.cells ty' cs)] K X:=λρ w L h hH=>by
 obtain⟨hb0,hbs,hlv,xs,hx1,hx2⟩:=hH.objs _ (List.mem_singleton.2 rfl);simp only at hb0 hbs hlv hx1 hx2;have hr:=(h y).cells hy;have hrl:=hr.length;have hxl:=hx2.length;obtain⟨i,hi,hsz⟩:=ht.size;obtain⟨w',r1,r2,r3,r4,r5,r6,r7⟩:=qce (P:=C.P) (off:=off) (ρ y).cells.toList 0 w xs hx1 (by omega) (λj _ _=>by simp) (qiT hr hok);have h3:execOp ρ ⟨dst,.store t x y,ty,pos,aft,g⟩=(do Instr.storeAt t (ρ x) (ρ y);Pure.pure .skip):=rfl;have hs:(ρ y).cells.size=n:=by rw[<-hn,<-hrl];simp
 rw[h3,qaf h hx];simp only[Instr.storeAt,Instr.sureAddr,zRB,zRP,zRO,storeVar,qbF hi,hsz,hs,ne_eq,not_true_eq_false,if_false];rw[r1];refine qeT hH r2 r3 r4 r5 r6 r7 ?_ ?_ qaj hk
 simp;omega
 rw[qlS cs off vs (by omega)];rw[hrl,add_zero];exact((hx2.take off).append hr).append (hx2.drop _)
class TEnter (P:Program) (f:FuncId):Prop where
 out : ∃ fn, P.funcs[f]? = some fn ∧ (fn.name == "runtime.NumGoroutine") = false ∧ fn.body.isNone = false
def qpp (P : Program) (f : FuncId) : Bool := match P.funcs[f]? with | some fn => !(fn.name == "runtime.NumGoroutine") && fn.body.isSome | none => false
theorem TEnter.of(h:qpp P f=true):TEnter P f:=by
 unfold qpp at h
 cases hf:P.funcs[f]? with
 |none=>rw[hf] at h;cases h
 |some fn=>
  rw[hf] at h;simp only[zBa,Bool.not_eq_true'] at h;exact⟨fn,hf,h.1,by cases hb:fn.body <;> simp_all⟩
theorem qfw [h:TEnter P f](args:Array Value)(w:World):(callFunc f args).run P w=.ok (.enter f args) w:=by
 obtain⟨fn,h1,h2,h3⟩:=h.out;have h0:(program).run P w=.ok P w:=rfl;simp only[callFunc,zRB,h0,zRO,h1,h2,h3,Bool.false_eq_true,if_false,zRP]
theorem qae.callV{fo:Operand}{f:FuncId} [TEnter C.P f]{first caps:Array Value}{args:List Operand}{R:LRes->Heap->Prop}(hf:e.ev fo=.atom (.func (.func f) first caps))
  (hc:LCalls C f (first.toList.map .atom++args.map e.ev++caps.toList.map .atom) H R) (hk:∀ v H,R (.ret v) H->K v H) (hx:∀ ch H,R (.panic ch) H->X ch H) :
  qae C ⟨dst,.call { callee:=.value fo,args:=args.toArray,argTypes:=ats },ty,pos,aft,g⟩ e H K X:=λρ w L h hH=>by
 have h3:execOp ρ ⟨dst,.call { callee:=.value fo,args:=args.toArray,argTypes:=ats },ty,pos,aft,g⟩=(do let d <-Deferred.ofValue (ρ fo) (args.toArray.map ρ);invoke d.target d.args):=rfl;rw[h3,qaf h hf];simp only[Deferred.ofValue,zRB,zRP,zRO,invoke,qfw];refine⟨rfl,?_⟩;have:=hc (first.toList++args.map ρ++caps.toList) w L ((((qa4 _).append (qjA h _))).append (qa4 _)) hH;simp only[<-List.append_toArray,Array.toArray_toList] at this;simp only[map_toArray];exact this.mono (qcG.mono (λv H hv=>hk v H hv) (λch H hv=>hx ch H hv))
theorem qae.call{f:FuncId} [TEnter C.P f]{args:List Operand}{ats:Array TypeId}{R:LRes->Heap->Prop}
  (hc:LCalls C f (args.map e.ev) H R) (hk:∀ v H,R (.ret v) H->K v H) (hx:∀ ch H,R (.panic ch) H->X ch H) :
  qae C ⟨dst,.call { callee:=.value (.func f),args:=args.toArray,argTypes:=ats },ty,pos,aft,g⟩ e H K X:=
 qae.callV (f:=f) (first:=#[]) (caps:=#[]) rfl (by simpa using hc) hk hx
theorem qae.panic{t:TypeId}{v:Value}(hx:e.ev x=.atom (.iface t v))(hk:X [{ v:=.iface t v,recovered:=false }] H):qae C ⟨dst,.panic x,ty,pos,aft,g⟩ e H K X:=λρ w L h hH=>by
 have h3:execOp ρ ⟨dst,.panic x,ty,pos,aft,g⟩=(do Pure.pure (.value (<-Instr.panic (ρ x)))):=rfl;rw[h3,qaf h hx];simp only[Instr.panic,goPanic,zRB,Sem.run_halt,Result.andThen_halt];exact⟨H,L,Fr.refl _ _ _,hH,hk⟩
theorem qpq{size:Nat}:∀ (vs:List Value) (i:Nat) (xs:List Value),(∀ v∈vs,v.cells.size=size)->(i+vs.length) * size<=xs.length ->
  Instr.fill (λi=>some (i * size,size)) xs.toArray ((List.range' i vs.length).zip vs)=some (xs.take (i * size)++vs.flatMap (λv=>v.cells.toList)++xs.drop ((i+vs.length) * size)).toArray
 |[],i,xs,_,_=>by simp[Instr.fill]
 |v::vs,i,xs,h,hl=>by
  have hv:=h v (by simp);simp only[zLc] at hl
  have hl':i * size+size+vs.length * size<=xs.length:=by
   have:(i+(vs.length+1)) * size=i * size+size+vs.length * size:=by rw[add_mul,add_mul];omega
   omega
  simp only[zLc,List.range'_succ,List.zip_cons_cons,Instr.fill];rw[zn (by simp[hv];omega)]
  have he:(v.cells.zipIdx.foldl (λcs (c,j)=>cs.setIfInBounds (i * size+j) c) xs.toArray)=(xs.take (i * size)++v.cells.toList++xs.drop (i * size+size)).toArray:=by
   rw[<-Array.foldl_toList,Array.toList_zipIdx];have:=qjD (i * size) v.cells.toList 0 xs (by simp[hv];omega);rw[add_zero] at this;rw[this];simp[hv]
  rw[he];have ha:(i+1) * size=i * size+size:=by rw[add_mul];omega
  have hb:(i+1+vs.length) * size=i * size+size+vs.length * size:=by rw[add_mul,add_mul];omega
  have hc:(i+(vs.length+1)) * size=i * size+size+vs.length * size:=by rw[add_mul,add_mul];omega
  have hlen:(xs.take (i * size)++v.cells.toList++xs.drop (i * size+size)).length=xs.length:=by simp[hv];omega
  rw[qpq vs (i+1) _ (λu hu=>h u (zMo _ hu)) (by rw[hlen,hb];omega)];congr 2
  have e1:(xs.take (i * size)++v.cells.toList++xs.drop (i * size+size)).take ((i+1) * size)=xs.take (i * size)++v.cells.toList:=by
   rw[ha,List.take_append_of_le_length (by simp[hv];omega),List.take_of_length_le (by simp[hv];omega)]
  have e2:(xs.take (i * size)++v.cells.toList++xs.drop (i * size+size)).drop ((i+1+vs.length) * size)=xs.drop ((i+(vs.length+1)) * size):=by
   rw[hb,hc,List.drop_append,List.drop_eq_nil_of_le (by simp[hv];omega)];simp[hv,List.drop_drop];congr 1;omega
  rw[e1,e2]
  simp
theorem RepC.of_heap{w:World}{L:Live}{b:Nat}{t:TypeId}{fr:Nat×Nat}:∀ {cs:List LV} {off:Nat} {ys:List Value} (pre post:List Value),w.heap[b]? = some (.cells (pre++ys++post).toArray t fr)->pre.length=off->off+ys.length<=L b ->
  RepL w L cs ys->RepC w L b off cs
 |[],_,_,_,_,_,_,_,_=>by simp[RepC]
 |c::cs,off,ys,pre,post,hb,hp,hl,h=>by
  simp only[RepL] at h;obtain⟨y,ys',rfl,h1,h2⟩:=h;simp only[zLc] at hl;simp only[RepC];refine⟨by omega,⟨y,?_,h1⟩,RepC.of_heap (pre++[y]) post (by simpa using hb) (by simp[hp]) (by omega) h2⟩;simp only[World.cell?,hb];subst hp
  simp
theorem qak.of_heap{w:World}{L:Live}{b k:Nat}{t:TypeId}{fr:Nat×Nat}:∀ {es:List LV} {off:Nat} {vs:List Value} (pre post:List Value),w.heap[b]? = some (.cells (pre++vs.flatMap (λv=>v.cells.toList)++post).toArray t fr)->pre.length=off ->
  off+es.length * k<=L b->(∀ v∈es,v.cells? = some v.cells/\v.cells.length=k)->RepL w L es vs->qak w L b k off es
 |[],_,_,_,_,_,_,_,_,_=>by simp[qak]
 |c::cs,off,vs,pre,post,hb,hp,hl,hk,h=>by
  simp only[RepL] at h;obtain⟨y,ys',rfl,h1,h2⟩:=h;have hc:=hk c (by simp);have hr:=h1.cells hc.1;have hyl:y.cells.size=k:=by rw[<-hc.2,<-hr.length];simp
  simp only[zLc,add_mul,Nat.one_mul] at hl;refine qak.cons hc.2 (RepC.of_heap (t:=t) (fr:=fr) pre (ys'.flatMap (λv=>v.cells.toList)++post) (by simpa using hb) hp (by simp[hyl];omega) hr) ?_;exact qak.of_heap (t:=t) (fr:=fr) (pre++y.cells.toList) post (by simpa using hb) (by simp[hp,hyl]) (by omega) (λv hv=>hk v (zMo _ hv)) h2
def qdA(s:Nat)(es:List LV):Prop:=∀ v∈es,v.cells? = some v.cells/\v.cells.length=s
theorem eN:qdA s []:=by simp[qdA]
theorem eC{e:LV}(h1:e.cells? = some e.cells)(h2:e.cells.length=s)(h:qdA s es):qdA s (e::es):=λv hv=>by
 rcases zMi.1 hv with rfl|hv;exact⟨h1,h2⟩;exact h v hv
theorem qgs{s:Nat}:∀ (vs:List Value),(∀ v∈vs,v.cells.size=s)->(vs.flatMap (λv=>v.cells.toList)).length=vs.length * s
 |[],_=>by simp
 |v::vs,h=>by
  have ih:=qgs vs (λu hu=>h u (zMo _ hu));have hv:=h v (by simp);simp only[flatMap_cons,zLa,ih,zLc,Array.length_toList,hv,add_mul];omega
theorem qhI{w:World}{L:Live}{s:Nat}:∀ {es:List LV} {vs:List Value},RepL w L es vs->qdA s es->∀ v∈vs,v.cells.size=s
 |[],_,h,_=>by simp only[RepL] at h;subst h;simp
 |c::cs,_,h,hc=>by
  simp only[RepL] at h;obtain⟨y,ys,rfl,h1,h2⟩:=h;intro v hv;rcases zMi.1 hv with rfl|hv;have:=hc c (by simp);rw[<-this.2,<-(h1.cells this.1).length]
  simp
  exact qhI h2 (λu hu=>hc u (zMo _ hu)) v hv
theorem qjB(hH:RelH C w L []){vs rest:List Value}(hr:RepL w L es vs)(hok:qdA s es)(hcap:es.length<=cap)(hsz:cap * s<=es.length * s+rest.length)
  (hk:∀ b,K (.app b cap s es) [(b,.row (es.length * s))]) :
  Left C w L [] (World.push w (.cells (vs.flatMap (λv=>v.cells.toList)++rest).toArray t)) (.slice (some ⟨w.heap.size,0,none⟩) es.length cap) K:=by
 have hl:=hr.length;have hfl:=qgs vs (qhI hr hok);rw[hl] at hfl;have hx:=qev hH.wf (.cells (vs.flatMap (λv=>v.cells.toList)++rest).toArray t) (es.length * s)
 have:=qeA hH (.cells (vs.flatMap (λv=>v.cells.toList)++rest).toArray t) (es.length * s) [(w.heap.size,.row (es.length * s))] (λp hp=>by
  simp only[mem_singleton] at hp;subst hp
  exact⟨rfl,by simp[Live.upd],_,t,(0,0),qaE,by simp only[size_toArray,zLa,hfl];omega,Nat.zero_le _⟩) (by simp)
 refine⟨.app w.heap.size cap s es,_,_,this.1,this.2,?_,hk _⟩;simp only[Rep];refine⟨trivial,hcap,?_,t,_,by simp only[World.shape?,World.push];rw[qaE],by simp only[size_toArray,zLa,hfl];exact hsz⟩;exact qak.of_heap (t:=t) (fr:=(0,0)) [] rest (by simp only[World.push,List.nil_append];exact qaE) rfl (by simp[Live.upd]) hok (hr.mono hx _ _)
theorem qae.buildSlice{t el s:Nat}{zs:List Value} [ht:TSlice C.P t el s] [hz:TZero C.P el zs]{xs:List Operand}(hok:qdA s (xs.map e.ev))(hsz:xs.length * s<=16777216){parts:List (Nat×Operand)}(hp:parts=(List.range xs.length).zip xs)
  {len:Nat} (hlen:len=xs.length) (hk:∀ b,K (.app b len s (xs.map e.ev)) [(b,.row (len * s))]):qae C ⟨dst,.buildSlice t len parts.toArray,ty,pos,aft,g⟩ e [] K X:=λρ w L h hH=>by
 subst hlen hp;obtain⟨i,hi,his⟩:=ht.size;obtain⟨v0,hv0,hc0⟩:=ql6 (P:=C.P) (t:=el) w;have hr:=qjA h xs;have hvs:=qhI hr hok;have h3:execOp ρ ⟨dst,.buildSlice t xs.length ((List.range xs.length).zip xs).toArray,ty,pos,aft,g⟩=(do Pure.pure (.value (<-Instr.buildSlice t xs.length (((List.range xs.length).zip xs).toArray.map λ(i,x)=>(i,ρ x))))):=rfl
 have hmap:(((List.range xs.length).zip xs).map λp=>(p.1,ρ p.2))=(List.range' 0 (xs.map ρ).length).zip (xs.map ρ):=by
  rw[zLm,<-List.range_eq_range',List.zip_map_right]
  try rfl
 have key:∀ (zarr:Array Value),Instr.fill (λi=>some (i * s,s)) ((Array.range (xs.length * s)).map (zarr[· % zarr.size]!)) (((List.range xs.length).zip xs).toArray.map λ(i,x)=>(i,ρ x)).toList =
   some ((xs.map ρ).flatMap (λv=>Value.cells v |>.toList)).toArray:=λzarr=>by
  have hfs:=qpq (size:=s) (xs.map ρ) 0 ((Array.range (xs.length * s)).map (zarr[· % zarr.size]!)).toList hvs (by simp);rw[Array.toArray_toList] at hfs
  have hm2:(((List.range xs.length).zip xs).toArray.map λ(i,x)=>(i,ρ x)).toList=(List.range' 0 (xs.map ρ).length).zip (xs.map ρ):=by
   rw[<-hmap]
   simp
  rw[hm2,hfs]
  simp
 have hbuild:(Instr.buildSlice t xs.length (((List.range xs.length).zip xs).toArray.map λ(i,x)=>(i,ρ x))).run C.P w =
   .ok (.slice (some ⟨w.heap.size,0,none⟩) xs.length xs.length) (World.push w (.cells ((xs.map ρ).flatMap (λv=>Value.cells v |>.toList)).toArray el)):=by
  have hg:¬ (xs.length * s > 2 ^ 24):=by simp;omega
  simp only[Instr.buildSlice,zRB,qaa ht.und,zRO,qbF hi,his];rw[zn hg]
  by_cases h0:xs.length * s=0
  rw[zp h0];simp only[zRB,zRP,zRO,key #[]];rfl;rw[zn h0];simp only[zRB,zRP,zRO,hv0,key v0.cells];rfl
 rw[h3,zRB,hbuild];have:=qjB (K:=K) (t:=el) (cap:=xs.length) (rest:=[]) hH hr hok (by simp) (by simp) (by simpa using hk);simp only[zLz,zLm] at this;exact this
theorem RepC.append{w:World}{L:Live}{b:Nat}:∀ {avs bs:List LV} {off:Nat},RepC w L b off avs->RepC w L b (off+avs.length) bs->RepC w L b off (avs++bs)
 |[],_,_,_,h=>by simpa using h
 |a::avs,bs,off,h1,h2=>by
  simp only[RepC,cons_append] at h1 ⊢;refine⟨h1.1,h1.2.1,RepC.append h1.2.2 ?_⟩;simpa [show off+1+avs.length=off+(avs.length+1) by omega] using h2
theorem RepC.left{avs bs:List LV}(h:RepC w L b off (avs++bs)):RepC w L b off avs:=by
 have:=h.take avs.length;simpa using this
theorem RepC.right{avs bs:List LV}(h:RepC w L b off (avs++bs)):RepC w L b (off+avs.length) bs:=by
 have:=h.drop avs.length;simpa using this
theorem qak.toC{w:World}{L:Live}{b k:Nat}:∀ {es:List LV} {off:Nat},qak w L b k off es->RepC w L b off (es.flatMap LV.cells)
 |[],_,_=>by simp[RepC]
 |e::es,off,h=>by
  have h1:=h.cell;rw[flatMap_cons];refine RepC.append h1.2 ?_;rw[h1.1];exact qak.toC h.tail
theorem qak.ofC{w:World}{L:Live}{b k:Nat}:∀ {es:List LV} {off:Nat},(∀ e∈es,e.cells.length=k)->RepC w L b off (es.flatMap LV.cells)->qak w L b k off es
 |[],_,_,_=>by simp[qak]
 |e::es,off,hk,h=>by
  rw[flatMap_cons] at h;have h1:=hk e (by simp);refine qak.cons h1 h.left (qak.ofC (λv hv=>hk v (zMo _ hv)) ?_);rw[<-h1];exact h.right
theorem qak.sizes{w:World}{L:Live}{b k:Nat}:∀ {es:List LV} {off:Nat},qak w L b k off es->∀ e∈es,e.cells.length=k
 |[],_,_=>by simp
 |e::es,_,h=>λv hv=>by
  rcases zMi.1 hv with rfl|hv;exact h.cell.1;exact qak.sizes h.tail v hv
theorem qdc{k:Nat}:∀ {es:List LV},(∀ e∈es,e.cells.length=k)->(es.flatMap LV.cells).length=es.length * k
 |[],_=>by simp
 |e::es,h=>by
  rw[flatMap_cons,zLa,h e (by simp),qdc (λv hv=>h v (zMo _ hv)),zLc,add_mul];omega
theorem RepC.of_cells{w:World}{L:Live}{b:Nat}:∀ {cs:List LV} {off:Nat} {ys:List Value},RepL w L cs ys->off+ys.length<=L b->(∀ j x,ys[j]? = some x->w.cell? ⟨b,off+j,none⟩=some x)->RepC w L b off cs
 |[],_,_,_,_,_=>by simp[RepC]
 |c::cs,off,_,h,hl,hc=>by
  simp only[RepL] at h;obtain⟨y,ys,rfl,h1,h2⟩:=h;simp only[zLc] at hl;simp only[RepC];refine⟨by omega,⟨y,hc 0 y rfl,h1⟩,RepC.of_cells h2 (by omega) λj x hx=>?_⟩;have:=hc (j+1) x (by simpa using hx)
  rwa [show off+(j+1)=off+1+j by omega] at this
class TRow (P:Program) (el:TypeId) (s bytes:outParam Nat):Prop where
 out:∃ i v,P.info? el=some i/\i.size=s/\i.bytes=bytes/\0<bytes/\i.zero=some v/\v.cells.size=s
def qvD(P:Program)(el s bytes:Nat):Bool:=
 match P.info? el with
 |some i=>i.size == s && i.bytes == bytes && Nat.blt 0 bytes && (match i.zero with|some v=>v.cells.size == s|none=>false)
 |none=>false
theorem TRow.of(h:qvD P el s bytes=true):TRow P el s bytes:=by
 unfold qvD at h
 cases hi:P.info? el with
 |none=>rw[hi] at h;simp at h
 |some i=>
  rw[hi] at h;simp only[zBa,beq_iff_eq] at h;obtain⟨⟨⟨h1,h2⟩,h3⟩,h4⟩:=h
  cases hz:i.zero with
  |none=>rw[hz] at h4;simp at h4
  |some v=>rw[hz] at h4;exact⟨i,v,hi,h1,h2,by simpa using h3,hz,by simpa using h4⟩
theorem qdH{xT:Nat} [ht:TSlice P sT el s] [hr:TRow P el s bytes]{a:Option Addr}{len:Nat}{xv:Value}{new:List Value}
  (hxT:P.underlying xT=some .string∨∃ e2,P.underlying xT=some (.slice e2)) (hlen:∀ w':World,(Builtin.lenOf xv).run P w'=.ok n w')
  (hnew:∀ w':World,w'.heap=w.heap->(Builtin.firstCells s n xv).run P w'=.ok new.toArray w') (hc:len+n<=cap) :
  (Builtin.append_ #[sT,xT] ty #[.slice a len cap,xv]).run P w =
   ((match a with|some a=>storeCells (a.add (len * s)) new|none=>Pure.pure ()).run P w).andThen λ_ w'=>.ok (.slice a (len+n) cap) w':=by
 obtain⟨i,z,hi,hs,hb,hb0,hz,hzs⟩:=hr.out;subst hs;have hn:=hnew w rfl;rcases hxT with hd|⟨e2,hd⟩ <;> cases a <;> simp[Builtin.append_,qaa ht.und,qaa hd,sizeOf,typeInfo,hi,hlen,hc,hn]
theorem qbx{xT:Nat} [ht:TSlice P sT el s] [hr:TRow P el s bytes]{a:Option Addr}{len:Nat}{xv:Value}{old new:List Value}
  (hxT:P.underlying xT=some .string∨∃ e2,P.underlying xT=some (.slice e2)) (hlen:∀ w':World,(Builtin.lenOf xv).run P w'=.ok n w')
  (hnew:∀ w':World,w'.heap=w.heap->(Builtin.firstCells s n xv).run P w'=.ok new.toArray w') (hold:∀ w':World,w'.heap=w.heap->(Builtin.firstCells s len (.slice a len cap)).run P w'=.ok old.toArray w')
  (hroom:(len+n) * bytes<=140737488355328) (hc:cap<len+n) :
  ∃ cap' rest,len+n<=cap'/\rest.length=(cap'-(len+n)) * s/\(Builtin.append_ #[sT,xT] ty #[.slice a len cap,xv]).run P w =
   .ok (.slice (some ⟨w.heap.size,0,none⟩) (len+n) cap') (World.push w.drew (.cells (old++new++rest).toArray el)):=by
 obtain⟨i,z,hi,hs,hb,hb0,hz,hzs⟩:=hr.out;subst hs;have hn':¬ (len+n<=cap):=by omega
 have hmul:len+n<=(len+n) * bytes:=Nat.le_mul_of_pos_right _ hb0;have h63':¬ (9223372036854775807<((len:Int)+(n:Int))):=by omega
 have hfit:=growslice_fits (bytes:=bytes) hc hroom;have h48':¬ (281474976710656<Builtin.nextslicecap (len+n) cap * i.bytes):=by rw[hb];omega
 have hf:=hnew w.drew rfl;have hfo:=hold w.drew rfl;refine⟨grownCap w (len+n) cap el,(Builtin.zeroCells z.cells (grownCap w (len+n) cap el-(len+n))).toList,?_,?_,?_⟩;simp[grownCap,Question.cut];simp[Builtin.zeroCells,hzs];rcases hxT with hd|⟨e2,hd⟩
 all_goals
  simp[Builtin.append_,qaa ht.und,qaa hd,sizeOf,typeInfo,zeroValue,hi,hz,hlen,hn',h63',h48',Question.forced,hf,hfo,newRow,grownCap];show World.push w.drew _=World.push w.drew _;congr 2;apply Array.ext'
  simp
theorem Fr.wide{K K':List Nat}{L':Live}{H':Heap}(h:Fr K w L w' L' H')(hk:∀ b∈K,b∈K'):Fr K' w L w' L' H':=
 ⟨h.os,h.tape,h.output,h.ext,λb hb hn=>h.block b hb (λk=>hn (hk b k)),λb hb hn=>h.lsame b hb (λk=>hn (hk b k)),λp hp=>(h.kin p hp).imp (hk _) id⟩
theorem Fr.of_drew{K:List Nat}{L':Live}{H':Heap}(h:Fr K w.drew L w' L' H'):Fr K w L w' L' H':=
 ⟨h.os,h.tape,h.output,⟨h.ext.size,h.ext.shape,h.ext.live,h.ext.mono⟩,h.block,h.lsame,h.kin⟩
theorem qem(w:World)(L:Live):Ext w L w.drew L:=⟨zNr _,λ_ _=>rfl,λ_ _ _=>rfl,λ_=>zNr _⟩
theorem RelH.drew{w:World}{L:Live}(h:RelH C w L H):RelH C w.drew L H:=
 ⟨h.base.drew,h.lbase,h.b0,h.wf,h.nodup,λp hp=>⟨(h.objs p hp).1,(h.objs p hp).2.1,(h.objs p hp).2.2.keep (qem w L) rfl rfl⟩⟩
theorem qiA(hH:RelH C w L []){es:List LV}{xs rest:List Value}(hr:RepL w L (es.flatMap LV.cells) xs)(hok:∀ v∈es,v.cells.length=s)(hcap:es.length<=cap)(hsz:cap * s<=es.length * s+rest.length)
  (hk:∀ b,K (.app b cap s es) [(b,.row (es.length * s))]) :
  Left C w L [] (World.push w (.cells (xs++rest).toArray t)) (.slice (some ⟨w.heap.size,0,none⟩) es.length cap) K:=by
 have hl:xs.length=es.length * s:=by rw[hr.length,qdc hok]
 have hx:=qev hH.wf (.cells (xs++rest).toArray t) (es.length * s)
 have:=qeA hH (.cells (xs++rest).toArray t) (es.length * s) [(w.heap.size,.row (es.length * s))] (λp hp=>by
  simp only[mem_singleton] at hp;subst hp
  exact⟨rfl,by simp[Live.upd],_,t,(0,0),qaE,by simp only[size_toArray,zLa,hl];omega,Nat.zero_le _⟩) (by simp)
 refine⟨.app w.heap.size cap s es,_,_,this.1,this.2,?_,hk _⟩;simp only[Rep];refine⟨trivial,hcap,?_,t,_,by simp only[World.shape?,World.push];rw[qaE],by simp only[size_toArray,zLa,hl];exact hsz⟩;refine qak.ofC hok (RepC.of_cells (hr.mono hx _ _) (by simp[Live.upd,hl]) λj x hj=>?_);have hb:(World.push w (.cells (xs++rest).toArray t)).heap[w.heap.size]? = some (.cells (xs++rest).toArray t (0,0)):=qaE;simp only[World.cell?,hb];simp only[isSome_none,Bool.false_eq_true,if_false,zero_add,List.getElem?_toArray];rw[List.getElem?_append_left (List.getElem?_eq_some_iff.1 hj).1];exact hj
theorem qcK{v:Value}{es:List LV}(h:Rep w L lv v)(he:elems lv=some es)(hs:∀ v∈es,v.cells.length=s) :
  ∃ a cap xs,v=.slice a es.length cap/\es.length<=cap/\RepL w L (es.flatMap LV.cells) xs/\xs.length=es.length * s /\
   ∀ (P:Program) (w':World),w'.heap=w.heap->(Builtin.firstCells s es.length v).run P w'=.ok xs.toArray w':=by
 obtain⟨a,cap,rfl,hc,hr⟩:=h.elems he
 by_cases hne:es=[]
 subst hne;refine⟨a,cap,[],rfl,hc,by simp[RepL],by simp,λP w' _=>?_⟩;cases a <;> simp[Builtin.firstCells,loadCells,loadCellsFrom];obtain⟨b,off,k,rfl,hrr⟩:=hr hne
 have hk:k=s:=by
  obtain⟨e0,rest,he⟩:=List.exists_cons_of_ne_nil hne;subst he;exact hrr.cell.1.symm.trans (hs e0 (by simp))
 subst hk;obtain⟨xs,h1,h2⟩:=hrr.toC.values;have hl:xs.length=es.length * k:=by rw[h1.length,qdc hs]
 refine⟨_,cap,xs,rfl,hc,h1,hl,λP w' hw=>?_⟩
 have:=qbz (P:=P) (w:=w') (b:=b) (off:=off) (es.length * k) 0 #[] xs hl (λj x hj=>by
  have:=(h2 j x hj).2;simp only[World.cell?] at this ⊢;rw[hw]
  simpa using this)
 simp only[Builtin.firstCells,loadCells,this]
 simp
theorem qae.appendNil{xT:Nat} [ht:TSlice C.P sT el s] [hr:TRow C.P el s bytes](hats:ats=#[sT,xT])(hxT:∃ e2,C.P.underlying xT=some (.slice e2)){ms:List LV}
  (hx:e.ev x=qab) (hy:elems (e.ev y)=some ms) (hne:ms≠[]) (hs:∀ v∈ms,v.cells.length=s) (hroom:ms.length * bytes<=140737488355328)
  (hk:∀ b cap,K (.app b cap s ms) [(b,.row (ms.length * s))]) :
  qae C ⟨dst,.call { callee:=.builtin .append,args:=#[x,y],argTypes:=ats },ty,pos,aft,g⟩ e [] K X:=λρ w L h hH=>by
 subst hats;obtain⟨a,cap,xs,hv,hc,h1,h2,h3⟩:=qcK (h y) hy hs;have h0:∀ (cs:Array Bool) (args:Array Value),builtin .append #[sT,xT] ty cs args=(do Pure.pure (.value (<-Builtin.append_ #[sT,xT] ty args))):=λ_ _=>rfl;have hpos:0<ms.length:=List.length_pos_iff.2 hne
 obtain⟨cap',rest,r1,r2,r3⟩:=qbx (ty:=ty) (P:=C.P) (w:=w) (sT:=sT) (xT:=xT) (a:=none) (len:=0) (cap:=0) (n:=ms.length) (xv:=ρ y) (old:=[]) (new:=xs) (.inr hxT) (λw'=>by rw[hv];try rfl) (λw' hw=>h3 C.P w' hw)
  (λw' _=>by simp[Builtin.firstCells]) (by simpa using hroom) (by omega)
 rw[qax,h0];simp only[map_toArray,zMc,map_nil,zRB,qaf h hx,r3,zRO,zRP,List.nil_append,zero_add]
 obtain⟨lv,H',L',g1,g2,g3,g4⟩:=qiA (K:=K) (t:=el) (cap:=cap') (rest:=rest) hH.drew (h1.mono (qem w L) _ _) hs (by omega) (by
  rw[r2,<-add_mul]
  exact Nat.mul_le_mul_right _ (by omega)) (λb=>hk b cap')
 exact⟨lv,H',L',g1.of_drew,g2,g3,g4⟩
theorem qak.append{w:World}{L:Live}{b k:Nat}:∀ {avs bs:List LV} {off:Nat},qak w L b k off avs->qak w L b k (off+avs.length * k) bs->qak w L b k off (avs++bs)
 |[],_,_,_,h=>by simpa using h
 |a::avs,bs,off,h1,h2=>by
  rw[cons_append];refine qak.cons h1.cell.1 h1.cell.2 (qak.append h1.tail ?_);simpa [add_mul,Nat.add_assoc,Nat.add_comm,Nat.add_left_comm] using h2
theorem qss{m:Nat}{ms:List LV}{xs:Array Value}{t:TypeId}{fr:Nat×Nat}{news:List Value}(hH:RelH C w L [(b,.row n)])(hn:n=es.length * s)(hm:m=ms.length * s)
  (hb:w.heap[b]? = some (.cells xs t fr)) (hsz:cap * s<=xs.size) (hcap:es.length+ms.length<=cap) (hrow:qak w L b s 0 es) (hs:∀ v∈ms,v.cells.length=s) (hnews:RepL w L (ms.flatMap LV.cells) news)
  (h1:w'.os=w.os) (h2:w'.tape=w.tape) (h3:w'.output=w.output) (h4:w'.heap.size=w.heap.size) (h5:∀ c,c≠b->w'.heap[c]? = w.heap[c]?)
  (h6:w'.heap[b]? = some (.cells (xs.toList.take n++news++xs.toList.drop (n+news.length)).toArray t fr)) (hk:K (.app b cap s (es++ms)) [(b,.row ((es++ms).length * s))]) :
  Left C w L [(b,.row n)] w' (.slice (some ⟨b,0,none⟩) (es.length+ms.length) cap) K:=by
 obtain⟨hb0,hbs,hl,xs2,t2,fr2,hx1,hx2,hx3⟩:=hH.objs _ (List.mem_singleton.2 rfl);simp only at hb0 hbs hl hx1 hx2 hx3;rw[hb] at hx1;simp only[Option.some.injEq,Obj.cells.injEq] at hx1;obtain⟨rfl,rfl,rfl⟩:=hx1;have hnl:news.length=m:=by rw[hnews.length,qdc hs,hm]
 have htot:n+m<=cap * s:=by rw[hn,hm,<-add_mul];exact Nat.mul_le_mul_right _ hcap
 have hsize:(xs.toList.take n++news++xs.toList.drop (n+news.length)).toArray.size=xs.size:=by simp[hnl];omega
 have hx:Ext w L w' (L.upd b (n+m)):=by
  refine⟨by rw[h4];exact zNr _,λc hc=>?_,λc i hi=>?_,λc=>?_⟩
  by_cases he:c=b
  subst he;simp only[World.shape?,hb,h6,hsize];exact qbL (h5 c he)
  by_cases he:c=b
  subst he;rw[hl] at hi;simp only[World.cell?,hb,h6,isSome_none,Bool.false_eq_true,if_false,List.getElem?_toArray];rw[zAs,List.getElem?_append_left (by simp;omega),List.getElem?_take,zp hi]
  simp
  exact cell_of_heap (h5 c he) i;unfold Live.upd;split
  rename_i h;subst h;omega
  exact zNr _
 have htl:(es++ms).length * s=n+m:=by rw[zLa,add_mul,<-hn,<-hm]
 refine⟨.app b cap s (es++ms),[(b,.row ((es++ms).length * s))],L.upd b (n+m),⟨h1,h2,h3,hx,λc hc hn=>h5 c (by simpa using hn),λc hc hn=>?_,λp hp=>.inl (by simp only[mem_singleton] at hp;subst hp;simp)⟩,
  ⟨?_,trivial,by rw[h4];exact hH.b0,λc hc=>?_,by simp,λp hp=>?_⟩,?_,hk⟩
 have hne:c≠b:=by simpa using hn
 simp only[Live.upd,zn hne];exact hH.base.trans ⟨h1,h2,h3,by rw[h4];exact zNr _,λc hc=>h5 c (by omega)⟩;rw[h4] at hc;have hne:c≠b:=by omega
 simp only[Live.upd,zn hne];exact hH.wf c hc;simp only[mem_singleton] at hp;subst hp;refine⟨hb0,by rw[h4];exact hbs,by simp only[Live.upd,if_true];exact htl.symm,_,t,fr,h6,by rw[hsize,htl];omega,by omega⟩;simp only[Rep];refine⟨by simp,by simp;exact hcap,qak.append (hrow.mono hx _ _ _ _) (qak.ofC hs (RepC.of_cells (hnews.mono hx _ _) ?_ λj x hj=>?_)),t,_,by simp only[World.shape?,h6];rfl,by rw[hsize];exact hsz⟩;simp[Live.upd,<-hn,hnl];have hjl:=(List.getElem?_eq_some_iff.1 hj).1;simp only[World.cell?,h6,isSome_none,Bool.false_eq_true,if_false,List.getElem?_toArray,zero_add,<-hn];rw[zAs,List.getElem?_append_right (by simp;omega),List.getElem?_append_left (by simp;omega)]
 simp
 rw[show n+j-min n xs.size=j by omega];exact hj
theorem qox{xT:Nat} [ht:TSlice C.P sT el s] [hr:TRow C.P el s bytes](hxT:C.P.underlying xT=some .string∨∃ e2,C.P.underlying xT=some (.slice e2)){ms:List LV}{xv:Value}{new:List Value}
  (hH:RelH C w L [(b,.row (es.length * s))]) (hsv:Rep w L (.app b cap s es) (.slice (some ⟨b,0,none⟩) es.length cap)) (hlen:∀ w':World,(Builtin.lenOf xv).run C.P w'=.ok ms.length w')
  (hnew:∀ w':World,w'.heap=w.heap->(Builtin.firstCells s ms.length xv).run C.P w'=.ok new.toArray w') (hrep:RepL w L (ms.flatMap LV.cells) new) (hs:∀ v∈ms,v.cells.length=s)
  (hflat:∀ v∈new,(∀ cs,v≠.agg cs)/\(∀ cs,v≠.tuple cs)) (hroom:(es.length+ms.length) * bytes<=140737488355328)
  (hk:∀ b' cap',K (.app b' cap' s (es++ms)) [(b',.row ((es++ms).length * s))]) :
  ∃ v w',(Builtin.append_ #[sT,xT] ty #[.slice (some ⟨b,0,none⟩) es.length cap,xv]).run C.P w=.ok v w'/\Left C w L [(b,.row (es.length * s))] w' v K:=by
 have hsv':=hsv;simp only[Rep] at hsv;obtain⟨_,hcl,hrow,te,ts,hshape,hcs⟩:=hsv;obtain⟨hb0,hbs,hl,xs,t,fr,hx1,hx2,hx3⟩:=hH.objs _ (List.mem_singleton.2 rfl);simp only at hb0 hbs hl hx1 hx2 hx3;simp only[World.shape?,hx1,Option.some.injEq,Prod.mk.injEq] at hshape;obtain⟨rfl,rfl⟩:=hshape;have hnl:new.length=ms.length * s:=by rw[hrep.length,qdc hs]
 by_cases hc:es.length+ms.length<=cap
 have hrun:=qdH (ty:=ty) (P:=C.P) (w:=w) (sT:=sT) (xT:=xT) (a:=some ⟨b,0,none⟩) (len:=es.length) (cap:=cap) hxT hlen hnew hc;have htot:es.length * s+ms.length * s<=cap * s:=by rw[<-add_mul];exact Nat.mul_le_mul_right _ hc
 obtain⟨w',r1,r2,r3,r4,r5,r6,r7⟩:=qce (P:=C.P) (b:=b) (off:=0+es.length * s) (t:=t) (fr:=fr) new 0 w xs.toList (by simpa using hx1) (by simp;omega) (λj h1 h2 h3=>by omega) hflat;refine⟨_,w',?_,qss (cap:=cap) (news:=new) (xs:=xs) hH rfl rfl hx1 hcs hc hrow hs hrep r2 r3 r4 r5 r6 (by simpa using r7) (hk b cap)⟩;rw[hrun];simp only[add_mk,r1,zRO];obtain⟨a2,cap2,old,hv,hc2,h1,h2,h3⟩:=qcK hsv' (es:=es) (s:=s) rfl hrow.sizes;simp only[Value.slice.injEq] at hv;obtain⟨rfl,_,rfl⟩:=hv;obtain⟨cap',rest,r1,r2,r3⟩:=qbx (ty:=ty) (P:=C.P) (w:=w) (sT:=sT) (xT:=xT) (a:=some ⟨b,0,none⟩) (len:=es.length) (cap:=cap) hxT hlen hnew (λw' hw=>h3 C.P w' hw) hroom (by omega);refine⟨_,_,r3,?_⟩;have hH0:RelH C w L []:=hH.sub (List.nil_sublist _)
 obtain⟨lv,H',L',g1,g2,g3,g4⟩:=qiA (K:=K) (t:=el) (s:=s) (cap:=cap') (es:=es++ms) (rest:=rest) hH0.drew (by
   rw[List.flatMap_append];exact(h1.append hrep).mono (qem w L) _ _) (λv hv=>by
   rcases List.mem_append.1 hv with hv|hv;exact hrow.sizes v hv;exact hs v hv) (by simp;omega) (by
   rw[r2,<-add_mul,zLa]
   exact Nat.mul_le_mul_right _ (by omega)) (λb'=>hk b' cap')
 rw[zLa] at g3;exact⟨lv,H',L',g1.of_drew.wide (by simp),g2,g3,g4⟩
theorem qae.appendApp{xT:Nat} [ht:TSlice C.P sT el s] [hr:TRow C.P el s bytes](hats:ats=#[sT,xT])(hxT:∃ e2,C.P.underlying xT=some (.slice e2)){ms:List LV}
  (hx:e.ev x=.app b cap s es) (hn:n=es.length * s) (hy:elems (e.ev y)=some ms) (hs:∀ v∈ms,v.cells.length=s) (hok:(ms.flatMap LV.cells).all qc4=true) (hroom:(es.length+ms.length) * bytes<=140737488355328)
  (hk:∀ b' cap',K (.app b' cap' s (es++ms)) [(b',.row ((es++ms).length * s))]) :
  qae C ⟨dst,.call { callee:=.builtin .append,args:=#[x,y],argTypes:=ats },ty,pos,aft,g⟩ e [(b,.row n)] K X:=λρ w L h hH=>by
 subst hats hn;obtain⟨a,cap2,xs,hv,hc,h1,h2,h3⟩:=qcK (h y) hy hs;have hsv:=h x;rw[hx] at hsv
 have hxv:ρ x=.slice (some ⟨b,0,none⟩) es.length cap:=by
  have h':=hsv;simp only[Rep] at h';exact h'.1
 rw[hxv] at hsv;have h0:∀ (cs:Array Bool) (args:Array Value),builtin .append #[sT,xT] ty cs args=(do Pure.pure (.value (<-Builtin.append_ #[sT,xT] ty args))):=λ_ _=>rfl;obtain⟨v,w',r1,r2⟩:=qox (ty:=ty) (K:=K) (sT:=sT) (xT:=xT) (.inr hxT) hH hsv (xv:=ρ y) (ms:=ms) (λw'=>by rw[hv];try rfl) (λw' hw=>h3 C.P w' hw) h1 hs (qiT h1 hok) hroom hk;rw[qax,h0];simp only[map_toArray,zMc,map_nil,zRB,hxv,r1,zRO,zRP];exact r2
theorem qae.appendNilNil{xT:Nat} [ht:TSlice C.P sT el s](hats:ats=#[sT,xT])(hxT:∃ e2,C.P.underlying xT=some (.slice e2))(hx:e.ev x=qab)(hy:elems (e.ev y)=some [])(hk:K qab H) :
  qae C ⟨dst,.call { callee:=.builtin .append,args:=#[x,y],argTypes:=ats },ty,pos,aft,g⟩ e H K X:=λρ w L h hH=>by
 subst hats;obtain⟨a,cap,hv,_⟩:=(h y).elems hy;obtain⟨i,hi,his⟩:=ht.size;obtain⟨e2,hxT⟩:=hxT;have h0:∀ (cs:Array Bool) (args:Array Value),builtin .append #[sT,xT] ty cs args=(do Pure.pure (.value (<-Builtin.append_ #[sT,xT] ty args))):=λ_ _=>rfl
 have hr:(Builtin.append_ #[sT,xT] ty #[.slice none 0 0,.slice a 0 cap]).run C.P w=.ok (.slice none 0 0) w:=by
  cases a <;> simp[Builtin.append_,qaa ht.und,qaa hxT,sizeOf,typeInfo,hi,Builtin.lenOf,Builtin.firstCells,loadCells,loadCellsFrom]
 rw[qax,h0];simp only[map_toArray,zMc,map_nil,zRB,qaf h hx,hv,zLn,hr,zRO,zRP];exact⟨_,H,L,Fr.refl _ _ _,hH,qaj,hk⟩
end steps
class TMixed (P:Program):Prop where
 out:P.follows .mixedOrders=true
def QC(C:Ctx)(w:World)(L:Live)(w':World):Prop:=∃ L',Fr (keys []) w L w' L' []/\RelH C w' L' []
theorem QC.agree(h:QC C w L w')(hH:RelH C w L H):qe7 w L H w':=
 let ⟨_,f,_⟩:=h
 ⟨λp hp=>f.block p.1 (hH.objs p hp).2.1 (by simp),f.ext.live⟩
theorem RelH.empty(h:RelH C w L H):RelH C w L []:=h.sub (List.nil_sublist _)
def LQ(C:Ctx)(n:Nat)(ops:Array Oper)(K:Env->Prop)(rest:List Oper)(e:Env)(H:Heap):Prop:=
 ∀ a w L,RelE n a e w L->RelH C w L H->wpQuiet C.P ops (QC C w L) (λa'=>∃ e',RelE n a' e' w L/\K e') rest a
section quiet
variable{C:Ctx}{n:Nat}{ops:Array Oper}{K:Env->Prop}{e:Env}{H:Heap}{dst:Option Nat}{op:Op}{ty:TypeId}{pos:String}{aft:Array Edge}{rest:List Oper}
theorem LQ.nil(h:K e):LQ C n ops K [] e H:=λ_ _ _ hE _=>⟨e,hE,h⟩
theorem qn3{C:World->Prop}{Q:Act->Prop}{a:Act}{o:Oper}(hg:Region.wanted o (yielded ops a.tmps)=true)(h:∀ w',C w'->o.quietAt P a C w' v)(k:wpQuiet P ops C Q rest (a.put o.dst v)):wpQuiet P ops C Q (o::rest) a:=by
 unfold wpQuiet;rw[zp hg];exact⟨v,h,k⟩
theorem qP(h:Pure C ⟨dst,op,ty,pos,aft,none⟩ e H lv)(hd:qdp n dst)(k:LQ C n ops K rest (e.put dst lv) H):LQ C n ops K (⟨dst,op,ty,pos,aft,none⟩::rest) e H:=λa w L hE hH=>by
 obtain⟨v,hv,hr⟩:=h a.eval w L hE.ev hH;refine qn3 (by simp[Region.wanted]) (v:=v) (λw' hw'=>?_) (k _ w L (hE.put hd hv) hH);unfold Oper.quietAt;rw[hr w' (hw'.agree hH)];exact⟨rfl,rfl⟩
theorem LQ.want{j d:Nat}{b:Bool}(hj:(ops[j]?).bind (·.dst)=some d)(hb:e.s d=.atom (.bool b))
  (k:LQ C n ops K (⟨dst,op,ty,pos,aft,none⟩::rest) e H):LQ C n ops K (⟨dst,op,ty,pos,aft,some (j,b)⟩::rest) e H:=λa w L hE hH=>by
 have:=k a w L hE hH;unfold wpQuiet at this ⊢;rw[zp (by simp[Region.wanted])] at this;rw[zp (by simp[Region.wanted,qcI hE hj hb])];exact this
theorem LQ.skip{j d:Nat}{b c:Bool}(hj:(ops[j]?).bind (·.dst)=some d)(hb:e.s d=.atom (.bool b))(hne:b=!c)(hd:qdp n dst)
  (k:LQ C n ops K rest (e.put dst (.atom undef)) H):LQ C n ops K (⟨dst,op,ty,pos,aft,some (j,c)⟩::rest) e H:=λa w L hE hH=>by
 unfold wpQuiet;rw[zn (by subst hne;cases c <;> simp[Region.wanted,qcI hE hj hb])];exact k _ w L (hE.put hd qaj) hH
theorem qag.quiet [hm:TMixed C.P] {id:Nat} {l:List Oper} {Q:Post} (hB:Region.lexB .any l.toArray=true) (h:LQ C n l.toArray (λe'=>Q .normal e' H) l e H):qag C n (.region id l.toArray true) Q e H:=λa w L hE hH=>by
 refine wp_region_quiet (C:=QC C w L) hm.out hB ⟨L,⟨rfl,rfl,rfl,qem w L,λ_ _ _=>rfl,λ_ _ _=>rfl,by simp⟩,hH.empty.drew⟩ ?_
 have hq:∀ a' w',QC C w L w'->(∃ e',RelE n a' e' w L/\Q .normal e' H)->lift C n w L (keys H) Q .normal a' w':=by
  rintro a' w' ⟨L',f1,f2⟩ ⟨e',h1,h2⟩;have:=RelH.frame (H:=[]) (F:=H) (by simpa using hH) f1 f2;exact⟨e',H,L',by simpa using this.2,by simpa using this.1,h1.mono f1.ext,h2⟩
 have mono:∀ (l2:List Oper) (a:Act),wpQuiet C.P l.toArray (QC C w L) (λa'=>∃ e',RelE n a' e' w L/\Q .normal e' H) l2 a->wpQuiet C.P l.toArray (QC C w L) (λa'=>∀ w',QC C w L w'->lift C n w L (keys H) Q .normal a' w') l2 a:=by
  intro l2
  induction l2 with
  |nil=>exact λa h w' hw'=>hq a w' hw' h
  |cons o l2 ih=>
   intro a h;unfold wpQuiet at h ⊢;split at h
   rename_i hw;rw[zp hw];exact Oper.quiet_mono ih h
   rename_i hw;rw[zn hw];exact ih _ h
 exact mono _ a (by simpa using h a w L hE hH)
end quiet
def LAny(C:Ctx)(n:Nat)(ops:Array Oper)(Q:Post)(HF:Heap)(fuel:Nat)(listed:Array Bool)(e:Env)(H:Heap):Prop:=
 ∀ a w L,RelE n a e w L->RelH C w L H->wpAnyH C.P .any ops (lift C n w L (keys H) Q) (qe7 w L HF) fuel listed a w
def qaI(C:Ctx)(n:Nat)(ops:Array Oper)(Q:Post)(HF:Heap)(fuel:Nat)(listed:Array Bool)(e:Env)(H:Heap):Prop:=
 ∀ w0 L0 a w L,(∀ b,L0 b<=L b)->qe7 w0 L0 HF w->(∀ p∈HF,p.1<w.heap.size)->RelE n a e w L->RelH C w L H->wpAnyH C.P .any ops (lift C n w L (keys H) Q) (qe7 w0 L0 HF) fuel listed a w
theorem qe7.refl(w:World)(L:Live)(H:Heap):qe7 w L H w:=⟨λ_ _=>rfl,λ_ _ _=>rfl⟩
theorem HSub.mem{H':Heap}(h:HSub H' H):∀ p∈H',p∈H:=λ_ hp=>
 let ⟨_,hG⟩:=h
 hG.mem_iff.2 (List.mem_append_left _ hp)
theorem qcL{P:Program}{md:Region.Mode}{ops:Array Oper}{Q Q':Exit->Act->World->Prop}{S:World->Prop}(h:∀ e a w,Q e a w->Q' e a w):∀ (fuel:Nat) (listed:Array Bool) (a:Act) (w:World),
  wpAnyH P md ops Q S fuel listed a w->wpAnyH P md ops Q' S fuel listed a w
 |0,_,_,_,k=>⟨k.1,h _ _ _ k.2⟩
 |fuel+1,listed,a,w,k=>by
  refine⟨λh0=>h _ _ _ (k.1 h0),λi hi=>?_⟩;have ki:=k.2 i hi;unfold wpOp at ki ⊢;split at ki;exact⟨ki.1,qcL h fuel _ _ _ ki.2⟩;split at ki
  rename_i hw
  rw[zp hw];rcases ki with ki|⟨k1,a0,w0,k2⟩;refine .inl ?_;unfold Oper.wp at ki ⊢;generalize (execOp _ _).run P w=r at ki ⊢
  cases r with
  |ok x w'=>
   cases x <;> simp only[Oper.upon] at ki ⊢ <;> first
    |exact⟨ki.1,qcL h fuel _ _ _ ki.2⟩
    |(refine Calls.mono ki λe w'' he=>?_;cases e with
      |returned v=>exact⟨he.1,qcL h fuel _ _ _ he.2⟩
      |panicked ch=>exact h _ _ _ he
      |outgrown=>obtain⟨a0,w0,he⟩:=he;exact⟨a0,w0,h _ _ _ he⟩)
    |exact Rows.mono ki λ_ _ he=>⟨he.1,qcL h fuel _ _ _ he.2⟩
  |halt x w'=>cases x <;> simp only[Oper.upon] at ki ⊢ <;> exact h _ _ _ ki
  exact .inr ⟨k1,a0,w0,h _ _ _ k2⟩
  rename_i hw
  rw[zn hw];exact⟨ki.1,qcL h fuel _ _ _ ki.2⟩
section any
variable{C:Ctx}{n:Nat}{ops:Array Oper}{Q:Post}{HF:Heap}{fuel:Nat}{listed:Array Bool}{e:Env}{H:Heap}
theorem qoT{K:List Nat}(dst:Option Nat)(v:Value):∀ c a w',lift C n w L K Q (.panic c) (a.put dst v) w'->lift C n w L K Q (.panic c) a w':=by
 rintro c a w' ⟨e',H',L',h1,h2,h3,h4⟩;refine⟨e',H',L',h1,h2,?_,h4⟩;cases dst <;> exact h3
theorem qsC{i:Nat}{dst:Option Nat}{op:Op}{ty:TypeId}{pos:String}{aft:Array Edge}{g:Option (Nat×Bool)}{a:Act}(hE:RelE n a e w L)(hH:RelH C w L H)(hHF:HSub HF H)
  (hi:ops[i]? = some ⟨dst,op,ty,pos,aft,g⟩) (hs:Region.noSelect ops=true) (hf:Region.free .any ops listed i=true) (hr:(Region.ready .any ops listed).contains i=true) (hd:qdp n dst)
  (hp:Pure C ⟨dst,op,ty,pos,aft,g⟩ e HF lv) (hw:Region.wanted ⟨dst,op,ty,pos,aft,g⟩ (yielded ops a.tmps)=true)
  (k:LAny C n ops Q HF fuel (listed.setIfInBounds i true) (e.put dst lv) H):wpAnyH C.P .any ops (lift C n w L (keys H) Q) (qe7 w L HF) (fuel+1) listed a w:=by
 obtain⟨v,hv,hrun⟩:=hp a.eval w L hE.ev (hH.weak hHF);exact wpAnyH_take hi hs hf hr (qoT _ _) (.inl ⟨hw,hrun⟩) (qe7.refl _ _ _) (k _ w L (hE.put hd hv) hH)
theorem LAny.take{i:Nat}{dst:Option Nat}{op:Op}{ty:TypeId}{pos:String}{aft:Array Edge}(hHF:HSub HF H)
  (hi:ops[i]? = some ⟨dst,op,ty,pos,aft,none⟩) (hs:Region.noSelect ops=true) (hf:Region.free .any ops listed i=true) (hr:(Region.ready .any ops listed).contains i=true) (hd:qdp n dst)
  (hp:Pure C ⟨dst,op,ty,pos,aft,none⟩ e HF lv) (k:LAny C n ops Q HF fuel (listed.setIfInBounds i true) (e.put dst lv) H):LAny C n ops Q HF (fuel+1) listed e H:=λ_ _ _ hE hH=>
 qsC hE hH hHF hi hs hf hr hd hp (by simp[Region.wanted]) k
theorem LAny.takeWant{i j d:Nat}{b:Bool}{dst:Option Nat}{op:Op}{ty:TypeId}{pos:String}{aft:Array Edge}(hHF:HSub HF H)
  (hi:ops[i]? = some ⟨dst,op,ty,pos,aft,some (j,b)⟩) (hj:(ops[j]?).bind (·.dst)=some d) (hb:e.s d=.atom (.bool b)) (hs:Region.noSelect ops=true) (hf:Region.free .any ops listed i=true) (hr:(Region.ready .any ops listed).contains i=true) (hd:qdp n dst)
  (hp:Pure C ⟨dst,op,ty,pos,aft,some (j,b)⟩ e HF lv) (k:LAny C n ops Q HF fuel (listed.setIfInBounds i true) (e.put dst lv) H):LAny C n ops Q HF (fuel+1) listed e H:=λ_ _ _ hE hH=>
 qsC hE hH hHF hi hs hf hr hd hp (by simp[Region.wanted,qcI hE hj hb]) k
theorem LAny.takeSkip{i j d:Nat}{b c:Bool}{dst:Option Nat}{op:Op}{ty:TypeId}{pos:String}{aft:Array Edge}
  (hi:ops[i]? = some ⟨dst,op,ty,pos,aft,some (j,c)⟩) (hj:(ops[j]?).bind (·.dst)=some d) (hb:e.s d=.atom (.bool b)) (hne:b=!c) (hs:Region.noSelect ops=true) (hf:Region.free .any ops listed i=true) (hr:(Region.ready .any ops listed).contains i=true) (hd:qdp n dst)
  (k:LAny C n ops Q HF fuel (listed.setIfInBounds i true) (e.put dst (.atom undef)) H):LAny C n ops Q HF (fuel+1) listed e H:=λa w L hE hH=>
 wpAnyH_take hi hs hf hr (qoT _ _) (.inr ⟨by subst hne;cases c <;> simp[Region.wanted,qcI hE hj hb],rfl⟩) (qe7.refl _ _ _) (k _ w L (hE.put hd qaj) hH)
theorem aL(h:qaI C n ops Q HF fuel listed e H)(hHF:HSub HF H):LAny C n ops Q HF fuel listed e H:=λa w L hE hH=>
 h w L a w L (λ_=>zNr _) (qe7.refl _ _ _) (λp hp=>(hH.objs p (hHF.mem p hp)).2.1) hE hH
theorem lD(hr:Region.ready .any ops listed=[])(h:Q .normal e H):qaI C n ops Q HF fuel listed e H:=λ_ _ _ _ L _ _ _ hE hH=>
 wpAnyH_done hr ⟨e,H,L,Fr.refl _ _ _,hH,hE,h⟩ fuel
theorem cD [hm:TMixed C.P] {id:Nat} {l:List Oper} {m:Nat} (hl:m=l.length) (HF:Heap) (h:LAny C n l.toArray Q HF m (Array.replicate m false) e H):qag C n (.region id l.toArray true) Q e H:=λa w L hE hH=>by
 subst hl;have:=h a w.drew L (hE.mono (qem w L)) hH.drew;refine wp_region_held (S:=qe7 w.drew L HF) hm.out ?_;refine qcL (λx a' w' hq=>?_) _ _ _ _ (by simpa using this);obtain⟨e',H',L',h1,h2,h3,h4⟩:=hq;exact⟨e',H',L',h1.of_drew,h2,h3,h4⟩
end any
section pure
variable{C:Ctx}{e:Env}{H:Heap}{dst:Option Nat}{ty:TypeId}{pos:String}{aft:Array Edge}{g:Option (Nat×Bool)}{x y c a b:Operand}{xT:TypeId}{k:IntKind}{lv:LV}
theorem pM(hx:e.ev x=lv):Pure C ⟨dst,.move x,ty,pos,aft,g⟩ e H lv:=hx▸Pure.move
theorem pA(hx:e.ev x=lv):Pure C ⟨dst,.assign x,ty,pos,aft,g⟩ e H lv:=hx▸Pure.assign
theorem Pure.pickT(hc:e.ev c=bool true)(ha:e.ev a=lv):Pure C ⟨dst,.pick c a b,ty,pos,aft,g⟩ e H lv:=by
 have:=Pure.pick (C:=C) (H:=H) (dst:=dst) (ty:=ty) (pos:=pos) (aft:=aft) (g:=g) (a:=a) (b:=b) hc;simp only[if_true] at this;exact ha▸this
theorem Pure.pickF(hc:e.ev c=bool false)(hb:e.ev b=lv):Pure C ⟨dst,.pick c a b,ty,pos,aft,g⟩ e H lv:=by
 have:=Pure.pick (C:=C) (H:=H) (dst:=dst) (ty:=ty) (pos:=pos) (aft:=aft) (g:=g) (a:=a) (b:=b) hc;simp only[Bool.false_eq_true,if_false] at this;exact hb▸this
theorem pR [TAgg C.P t n]{cs':List LV}(hx:e.ev x=.ref cs)(hn:Nat.ble n cs.length=true)(hc:cs.take n=cs'):Pure C ⟨dst,.load t x,ty,pos,aft,g⟩ e H (.agg cs'):=by
 subst hc;exact Pure.loadRefAgg hx (by simpa using hn)
theorem pG [TAgg C.P t n]{b:Nat}{cs':List LV}(hx:e.ev x=ptr b off)(hm:(b,LObj.cells ty' cs)∈H)(hn:Nat.ble (off+n) cs.length=true)(hc:(cs.drop off).take n=cs') :
  Pure C ⟨dst,.load t x,ty,pos,aft,g⟩ e H (.agg cs'):=by
 subst hc;exact Pure.loadHAgg hx hm (by simpa using hn)
theorem xR [ht:TSlice C.P t el s]{n:Int}{el':LV}(hx:elems (e.ev x)=some es)(hy:e.ev y=int k n)(h0:0<=n)(hn:es[n.toNat]? = some el')(hc:el'.cells=cs)(hs:cs.length=s) :
  Pure C ⟨dst,.indexAddr t x y,ty,pos,aft,g⟩ e H (.ref cs):=by
 subst hc;exact Pure.indexAddr hx hy h0 hn hs
theorem Pure.field1{f:Nat} [TField C.P s f n]{cs':List LV}(hx:e.ev x=.ref cs)(hc:cs.drop n=cs'):Pure C ⟨dst,.fieldAddr s x f,ty,pos,aft,g⟩ e H (.ref cs'):=by
 subst hc;exact Pure.fieldRef hx
theorem pB{t:TypeId}{pl:List (Nat×Nat)} [hs:TStruct C.P t pl] [hz:TZero C.P t zs](parts:List (Nat×Operand))
  (h:qp2 pl (zs.map .atom) (parts.map λp=>(p.1,e.ev p.2))=some cs):Pure C ⟨dst,.build t parts.toArray,ty,pos,aft,g⟩ e H (.agg cs):=Pure.build h
end pure
section steps
variable{C:Ctx}{e:Env}{H H':Heap}{dst:Option Nat}{op:Op}{ty:TypeId}{pos:String}{aft:Array Edge}{g:Option (Nat×Bool)}{x y:Operand}{K K':LV->Heap->Prop}{X:List PanicEntry->Heap->Prop}
theorem qae.conseq{o:Oper}(h:qae C o e H K X)(hk:∀ lv H',K lv H'->∃ lv' H'',lv.Sub lv'/\HSub H'' H'/\K' lv' H''):qae C o e H K' X:=λρ w L h1 h2=>by
 have:=h ρ w L h1 h2
 have lf:∀ {w' v},Left C w L H w' v K->Left C w L H w' v K':=λh=>by
  obtain⟨lv,H',L',r1,r2,r3,r4⟩:=h;obtain⟨lv',H'',s1,s2,s3⟩:=hk _ _ r4;exact⟨lv',H'',L',r1.weak s2,r2.weak s2,s1 _ _ _ r3,s3⟩
 unfold qe3 at this ⊢;split at this;exact lf this;exact lf this;refine⟨this.1,this.2.mono λe w' he=>?_⟩
 cases e with
 |returned v=>exact lf he
 |panicked ch=>exact he
 |outgrown=>exact he
 exact this;exact this.elim
theorem qae.at1{o:Oper}{p:Nat×LObj}(hp:Pick p H F)(h:qae C o e [p] (λlv H'=>K lv (H'++F)) (λch H'=>X ch (H'++F))):qae C o e H K X:=qae.frame (H:=[p]) hp h
theorem qae.at0{o:Oper}(h:qae C o e [] (λlv H'=>K lv (H'++H)) (λch H'=>X ch (H'++H))):qae C o e H K X:=qae.frame (H:=[]) (List.Perm.refl _) h
theorem zsA{t:TypeId} [hz:TZero C.P t zs](hk:∀ b,K (ptr b 0) ((b,.cells t (zs.map .atom))::H)):qae C ⟨dst,.alloc t,ty,pos,aft,g⟩ e H K X:=qae.at0 (qae.alloc hk)
theorem zsB{t:TypeId}(hx:(e.ev x).cells? = some cs)(hk:∀ b,K (ptr b 0) ((b,.cells t cs)::H)):qae C ⟨dst,.box t x,ty,pos,aft,g⟩ e H K X:=qae.at0 (qae.box hx hk)
theorem sL [ht:TSlice C.P t el s] [hz:TZero C.P el zs](xs:List Operand)(hes:xs.map e.ev=es)(hok:qdA s es){len:Nat}{parts:List (Nat×Operand)}(hp:parts=(List.range xs.length).zip xs)(hlen:len=xs.length)
  (hsz:Nat.ble (len * s) 16777216=true) (hk:K (.list es) H):qae C ⟨dst,.buildSlice t len parts.toArray,ty,pos,aft,g⟩ e H K X:=by
 subst hes;refine qae.at0 (qae.conseq (K:=λlv H'=>∃ b,lv=.app b len s (xs.map e.ev)) (qae.buildSlice hok (by subst hlen;simpa using hsz) hp hlen λb=>⟨b,rfl⟩) ?_);rintro lv H' ⟨b,rfl⟩;exact⟨_,[],LV.Sub.app _ _ _ _,HSub.nil _,hk⟩
theorem S.litA [ht:TSlice C.P t el s] [hz:TZero C.P el zs](xs:List Operand)(hes:xs.map e.ev=es)(hok:qdA s es){len:Nat}{parts:List (Nat×Operand)}(hp:parts=(List.range xs.length).zip xs)(hlen:len=xs.length)
  (hsz:Nat.ble (len * s) 16777216=true) (hk:∀ b,K (.app b len s es) ((b,.row (len * s))::H)):qae C ⟨dst,.buildSlice t len parts.toArray,ty,pos,aft,g⟩ e H K X:=by
 subst hes;exact qae.at0 (qae.buildSlice hok (by subst hlen;simpa using hsz) hp hlen λb=>hk b)
theorem sS [ht:TSize C.P t n]{vs cs':List LV}(hx:e.ev x=ptr b off)(hp:Pick (b,.cells ty' cs) H F)(hy:(e.ev y).cells? = some vs)(hn:vs.length=n)(hl:Nat.ble (off+n) cs.length=true)(hok:vs.all qc4=true)
  (hc:setL cs off vs=cs') (hk:K (.atom undef) ((b,.cells ty' cs')::F)):qae C ⟨dst,.store t x y,ty,pos,aft,g⟩ e H K X:=by
 subst hc;exact qae.at1 hp (qae.store hx hy hn (by simpa using hl) hok hk)
theorem S.appNil [ht:TSlice C.P sT el s] [hr:TRow C.P el s bytes]{e2 s2:Nat} [hx2:TSlice C.P xT e2 s2]{ms:List LV}
  (hx:e.ev x=qab) (hy:elems (e.ev y)=some ms) (hne:ms≠[]) (hs:∀ v∈ms,v.cells.length=s) (hroom:ms.length * bytes<=140737488355328)
  (hk:∀ b cap,K (.app b cap s ms) ((b,.row (ms.length * s))::H)):qae C ⟨dst,.call { callee:=.builtin .append,args:=#[x,y],argTypes:=#[sT,xT] },ty,pos,aft,g⟩ e H K X:=
 qae.at0 (qae.appendNil rfl ⟨e2,hx2.und⟩ hx hy hne hs hroom λb cap=>hk b cap)
theorem S.app{sT xT el s bytes:Nat} [ht:TSlice C.P sT el s] [hr:TRow C.P el s bytes]{e2 s2:Nat} [hx2:TSlice C.P xT e2 s2]{b cap n:Nat}{es ms:List LV}{F:Heap}
  (hx:e.ev x=.app b cap s es) (hp:Pick (b,.row n) H F) (hn:n=es.length * s) (hy:elems (e.ev y)=some ms) (hs:∀ v∈ms,v.cells.length=s) (hok:(ms.flatMap LV.cells).all qc4=true) (hroom:(es.length+ms.length) * bytes<=140737488355328)
  (hk:∀ b' cap',K (.app b' cap' s (es++ms)) ((b',.row ((es++ms).length * s))::F)):qae C ⟨dst,.call { callee:=.builtin .append,args:=#[x,y],argTypes:=#[sT,xT] },ty,pos,aft,g⟩ e H K X:=
 qae.at1 hp (qae.appendApp rfl ⟨e2,hx2.und⟩ hx hn hy hs hok hroom λb' cap'=>hk b' cap')
theorem S.appNilNil [ht:TSlice C.P sT el s]{e2 s2:Nat} [hx2:TSlice C.P xT e2 s2](hx:e.ev x=qab)(hy:elems (e.ev y)=some [])(hk:K qab H) :
  qae C ⟨dst,.call { callee:=.builtin .append,args:=#[x,y],argTypes:=#[sT,xT] },ty,pos,aft,g⟩ e H K X:=qae.appendNilNil rfl ⟨e2,hx2.und⟩ hx hy hk
inductive Acc (s:Nat):LV->List LV->Heap->Heap->Prop
 |nil {F:Heap}:Acc s qab [] F F
 |row {b cap:Nat} {es:List LV} {F:Heap}:Acc s (.app b cap s es) es ((b,.row (es.length * s))::F) F
theorem Acc.sub(h:Acc s lv es H F):lv.Sub (.list es):=by
 cases h with
 |nil=>exact vN
 |row=>exact LV.Sub.app _ _ _ _
theorem Acc.hsub(h:Acc s lv es H F):HSub F H:=by
 cases h with
 |nil=>exact zhR _
 |row=>exact zhD (zhR _)
theorem Acc.elems{s:Nat}{lv:LV}{es:List LV}{H F:Heap}(h:Acc s lv es H F):GL.elems lv=some es:=by
 cases h <;> rfl
theorem S.acc [ht:TSlice C.P sT el s] [hr:TRow C.P el s bytes]{e2 s2:Nat} [hx2:TSlice C.P xT e2 s2]{v:LV}{ms:List LV}
  (hx:e.ev x=v) (ha:Acc s v es H F) (hy:GL.elems (e.ev y)=some ms) (hs:∀ v∈ms,v.cells.length=s) (hok:(ms.flatMap LV.cells).all qc4=true) (hroom:(es.length+ms.length) * bytes<=140737488355328)
  (hk:∀ v' H',Acc s v' (es++ms) H' F->K v' H'):qae C ⟨dst,.call { callee:=.builtin .append,args:=#[x,y],argTypes:=#[sT,xT] },ty,pos,aft,g⟩ e H K X:=by
 cases ha with
 |nil=>
  by_cases hne:ms=[]
  subst hne;exact S.appNilNil hx hy (hk _ _ (by simpa using Acc.nil));refine S.appNil hx hy hne hs (by simpa using hroom) λb cap=>hk _ _ ?_
  exact Acc.row
 |row=>exact S.app hx pH rfl hy hs hok hroom λb' cap'=>hk _ _ Acc.row
theorem S.call0{f:FuncId} [TEnter C.P f](args:List Operand){avs:List LV}{R:LRes->Heap->Prop}(has:args.map e.ev=avs)
  (hc:LCalls C f avs [] R) (hk:∀ v H',R (.ret v) H'->K v (H'++H)) (hx:∀ ch H',R (.panic ch) H'->X ch (H'++H)) :
  qae C ⟨dst,.call { callee:=.value (.func f),args:=args.toArray,argTypes:=ats },ty,pos,aft,g⟩ e H K X:=by
 subst has;exact qae.at0 (qae.call hc hk hx)
theorem S.call1{f:FuncId} [TEnter C.P f](args:List Operand){avs:List LV}{R:LRes->Heap->Prop}{p:Nat×LObj}(has:args.map e.ev=avs)(hp:Pick p H F)
  (hc:LCalls C f avs [p] R) (hk:∀ v H',R (.ret v) H'->K v (H'++F)) (hx:∀ ch H',R (.panic ch) H'->X ch (H'++F)) :
  qae C ⟨dst,.call { callee:=.value (.func f),args:=args.toArray,argTypes:=ats },ty,pos,aft,g⟩ e H K X:=by
 subst has;exact qae.at1 hp (qae.call hc hk hx)
theorem S.callH{f:FuncId} [TEnter C.P f](args:List Operand){avs:List LV}{R:LRes->Heap->Prop}{H1:Heap}(has:args.map e.ev=avs)(hp:H.Perm (H1++F))
  (hc:LCalls C f avs H1 R) (hk:∀ v H',R (.ret v) H'->K v (H'++F)) (hx:∀ ch H',R (.panic ch) H'->X ch (H'++F)) :
  qae C ⟨dst,.call { callee:=.value (.func f),args:=args.toArray,argTypes:=ats },ty,pos,aft,g⟩ e H K X:=by
 subst has;exact qae.frame hp (qae.call hc hk hx)
theorem S.callV{fo:Operand}{f:FuncId} [TEnter C.P f]{first caps:Array Value}(args:List Operand){ats:Array TypeId}{avs:List LV}{R:LRes->Heap->Prop}{H1 F:Heap}(hf:e.ev fo=.atom (.func (.func f) first caps))
  (has:first.toList.map .atom++args.map e.ev++caps.toList.map .atom=avs) (hp:H.Perm (H1++F)) (hc:LCalls C f avs H1 R) (hk:∀ v H',R (.ret v) H'->K v (H'++F)) (hx:∀ ch H',R (.panic ch) H'->X ch (H'++F)) :
  qae C ⟨dst,.call { callee:=.value fo,args:=args.toArray,argTypes:=ats },ty,pos,aft,g⟩ e H K X:=by
 subst has;exact qae.frame hp (qae.callV hf hc hk hx)
end steps
section ret
variable{C:Ctx}{n:Nat}{e:Env}{H H':Heap}{R:LRes->Heap->Prop}
theorem rN:qbX C n e H [] []:=trivial
theorem rC{r:ResultVar}{rs:List ResultVar}{v:LV}{vs:List LV}(h:qdb C n e H r v)(k:qbX C n e H rs vs):qbX C n e H (r::rs) (v::vs):=⟨h,k⟩
theorem rR{rs:List ResultVar}{vs:List LV}(hd:e.ds=[])(h:qbX C n e H rs vs)(hH:HSub H' H)(hR:R (.ret (qbJ vs)) H'):qad C n rs R .ret e H:=⟨hd,vs,H',h,hH,hR⟩
theorem rO{rs:List ResultVar}{vs:List LV}(hd:e.ds=[])(h:qbX C n e H rs vs)(hH:HSub H' H)(hR:R (.ret (qbJ vs)) H'):qad C n rs R .normal e H:=⟨hd,vs,H',h,hH,hR⟩
theorem qad.panic{rs:List ResultVar}{ch:List PanicEntry}(hd:e.ds=[])(hH:HSub H' H)(hR:R (.panic ch) H'):qad C n rs R (.panic ch) e H:=⟨hd,H',hH,hR⟩
theorem rA{a:Nat} [TAgg C.P t k](hx:e.s a=ptr b off)(hm:(b,LObj.cells ty' cs)∈H)(hn:Nat.ble (off+k) cs.length=true)(hs:(LV.agg ((cs.drop off).take k)).Sub lv):qdb C n e H (.cell a t) lv:=λac w L hE hH=>by
 obtain⟨xs,h1,h2⟩:=hH.cells hm;have hl:=h2.length;have hn':off+k<=cs.length:=by simpa using hn
 have hv:=hE.vals a;rw[hx] at hv;simp only[Rep] at hv;refine⟨.agg ((xs.drop off).take k).toArray,?_,hs _ _ _ (by simp only[Rep];exact⟨_,rfl,(h2.drop off).take k⟩)⟩;have hlen:((xs.drop off).take k).length=k:=by simp;omega
 simp only[qbh,hv,asAddr,zRB,zRP,zRO]
 exact qgE (t:=t) (w:=w) (b:=b) (off:=off) hlen (λj y hy=>by
  rw[List.getElem?_take] at hy;split at hy;simpa [World.cell?,h1,List.getElem?_drop] using hy
  cases hy)
theorem qdb.cellOne{a:Nat} [TOne C.P t]{c:LV}(hx:e.s a=ptr b off)(hm:(b,LObj.cells ty' cs)∈H)(hc:cs[off]? = some c)(hs:c.Sub lv):qdb C n e H (.cell a t) lv:=λac w L hE hH=>by
 obtain⟨xs,h1,h2⟩:=hH.cells hm;obtain⟨v,h3,h4⟩:=h2.get hc;have hv:=hE.vals a;rw[hx] at hv;simp only[Rep] at hv;refine⟨v,?_,hs _ _ _ h4⟩;have hc':w.cell? ⟨b,off,none⟩=some v:=by simp[World.cell?,h1,h3]
 simp only[qbh,hv,asAddr,zRB,zRP,zRO];exact qgu hc'
end ret
theorem cJ{fn:Func}{c:Code}{args:List LV}{R:LRes->Heap->Prop}(hf:C.P.funcs[f]? = some fn)(h:qag C n c (qad C n fn.results.toList R) (qfE args) H)(hb:fn.body=some c:=by exact rfl)(hn:fn.ntmps=n:=by exact rfl)(h3:Nat.ble fn.results.size 3=true:=by exact rfl)(hl:Nat.ble args.length n=true:=by exact rfl):LCalls C f args H R:=zcI hf hb hn h3 hl h
theorem zhr:HSub H H:=zhR _
theorem zhn:HSub [] H:=HSub.nil _
theorem zhp{p:Nat×LObj}:HSub [p] (p::H):=zhP pH (HSub.nil _)
theorem zsr{v:LV}:v.Sub v:=vR _
theorem zp1{p a:Nat×LObj}:Pick p (a::p::F) (a::F):=(pT pH)
theorem zp2{p a b:Nat×LObj}:Pick p (a::b::p::F) (a::b::F):=(pT (pT pH))
theorem zp3{p a b c:Nat×LObj}:Pick p (a::b::c::p::F) (a::b::c::F):=(pT (pT (pT pH)))
theorem zp4{p a b c d:Nat×LObj}:Pick p (a::b::c::d::p::F) (a::b::c::d::F):=(pT (pT (pT (pT pH))))
theorem zp5{p a b c d e:Nat×LObj}:Pick p (a::b::c::d::e::p::F) (a::b::c::d::e::F):=(pT (pT (pT (pT (pT pH)))))
theorem zp6{p a b c d e f:Nat×LObj}:Pick p (a::b::c::d::e::f::p::F) (a::b::c::d::e::f::F):=(pT (pT (pT (pT (pT (pT pH))))))
theorem zp7{p a b c d e f g:Nat×LObj}:Pick p (a::b::c::d::e::f::g::p::F) (a::b::c::d::e::f::g::F):=(pT (pT (pT (pT (pT (pT (pT pH)))))))
theorem zp8{p a b c d e f g h:Nat×LObj}:Pick p (a::b::c::d::e::f::g::h::p::F) (a::b::c::d::e::f::g::h::F):=(pT (pT (pT (pT (pT (pT (pT (pT pH))))))))
theorem zrt{e:Env}(h:e.s t=.atom v):qdb C n e H (.tmp t) (.atom v):=rT h (vR _)
theorem zra{e:Env}(h:e.s t=.atom v):qbX C n e H [.tmp t] [.atom v]:=rC (rT h (vR _)) rN
end Go.GL
