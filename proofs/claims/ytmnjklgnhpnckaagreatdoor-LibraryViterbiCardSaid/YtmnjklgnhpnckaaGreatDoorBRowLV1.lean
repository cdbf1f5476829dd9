import Derived.Laws.Strings
import Derived.KernelRfl
import Derived.Laws.AppendOwn
import Derived.Test.YtmnjklgnhpnckaaGreatDoorBRowLV0
set_option linter.unusedVariables false
set_option linter.unusedSimpArgs false
set_option maxRecDepth 100000
set_option maxHeartbeats 4000000
open List (cons_append map_toArray mem_singleton size_toArray flatMap_cons map_nil)
open Nat (add_mul add_zero zero_add)
open Option (map_some isSome_none)
namespace Go.GL
open Go.RowKit
variable{C:Ctx}{F H H':Heap}{K:List Nat}{L:Live}{P:Program}{R:Ie->Heap->Prop}{ua:Array Edge}{Rd:Array TypeId}{Mc cs Ob es vs:List LV}{b bytes cap d e2 el i j k len n off s s2 sT t Oo xT:Nat}{c e lv:LV}{dst:Option Nat}{f:FuncId}{hi lo:Option Operand}{new xs zs:List Value}{o:Oper}{ra:String}{rs:List ResultVar}{ty:TypeId}{v xv:Value}{w w':World}{x:Operand}{ρ:Operand->Value}
class rq (P:Program) (t:TypeId):Prop where
 De:∃ d,P.underlying t=some d/\(match d with|.struct _|.array _ _=>False|_=>True)
 size:∃ i,P.info? t=some i/\i.size=1
def k9(P:Program)(t:TypeId):Bool:=
 (match P.underlying t with|some (.struct _)|some (.array _ _)|none=>false|_=>true) && (match P.info? t with|some i=>i.size == 1|none=>false)
theorem rq.of{t:TypeId}(h:k9 P t=true):rq P t:=by
 unfold k9 at h;simp only[sd] at h;obtain⟨h1,h2⟩:=h;refine⟨?_,?_⟩;cases hu:P.underlying t with
 |none=>rw[hu] at h1;simp at h1
 |some d=>rw[hu] at h1;refine⟨d,rfl,?_⟩;cases d <;> simp_all
 cases hi:P.info? t with
 |none=>rw[hi] at h2;simp at h2
 |some i=>rw[hi] at h2;exact⟨i,rfl,by simpa using h2⟩
class ko (P:Program) (t:TypeId) (k:outParam Nat):Prop where
 De:∃ d,P.underlying t=some d/\(match d with|.struct _|.array _ _=>True|_=>False)
 size:∃ i,P.info? t=some i/\i.size=k
def X8(P:Program)(t k:Nat):Bool:=
 (match P.underlying t with|some (.struct _)|some (.array _ _)=>true|_=>false) && (match P.info? t with|some i=>i.size == k|none=>false)
theorem ko.of{t:TypeId}(h:X8 P t k=true):ko P t k:=by
 unfold X8 at h;simp only[sd] at h;obtain⟨h1,h2⟩:=h;refine⟨?_,?_⟩;cases hu:P.underlying t with
 |none=>rw[hu] at h1;simp at h1
 |some d=>rw[hu] at h1;refine⟨d,rfl,?_⟩;cases d <;> simp_all
 cases hi:P.info? t with
 |none=>rw[hi] at h2;simp at h2
 |some i=>rw[hi] at h2;exact⟨i,rfl,by simpa using h2⟩
class Oa (P:Program) (t:TypeId) (e s:outParam Nat):Prop where
 De:P.underlying t=some (.slice e)
 size:∃ i,P.info? e=some i/\i.size=s
def qp1(P:Program)(t e s:Nat):Bool:=
 (match P.underlying t with|some (.slice e')=>e' == e|_=>false) && (match P.info? e with|some i=>i.size == s|none=>false)
theorem Oa.of{e:Nat}(h:qp1 P t e s=true):Oa P t e s:=by
 unfold qp1 at h;simp only[sd] at h;obtain⟨h1,h2⟩:=h;refine⟨?_,?_⟩;cases hu:P.underlying t with
 |none=>rw[hu] at h1;simp at h1
 |some d=>rw[hu] at h1;cases d <;> simp_all
 cases hi:P.info? e with
 |none=>rw[hi] at h2;simp at h2
 |some i=>rw[hi] at h2;exact⟨i,rfl,by simpa using h2⟩
class Rk (P:Program) (s f:Nat) (k:outParam Nat):Prop where
 out:∃ fs dy,P.underlying s=some (.struct fs)/\fs[f]? = some dy/\dy.offset=k/\∃ i,P.info? dy.type=some i/\i.size≠0
def qqi(P:Program)(s f k:Nat):Bool:=
 match P.underlying s with
 |some (.struct fs)=>(match fs[f]? with|some dy=>dy.offset == k && (match P.info? dy.type with|some i=>i.size != 0|none=>false)|none=>false)
 |_=>false
theorem Rk.of{f:Nat}(h:qqi P s f k=true):Rk P s f k:=by
 unfold qqi at h;cases hu:P.underlying s with
 |none=>rw[hu] at h;simp at h
 |some d=>
  rw[hu] at h;cases d <;> simp only[Uk] at h
  rename_i fs;cases hf:fs[f]? with
  |none=>rw[hf] at h;simp at h
  |some dy=>
   rw[hf] at h;simp only[sd,beq_iff_eq] at h;cases hi:P.info? dy.type with
   |none=>rw[hi] at h;simp at h
   |some i=>rw[hi] at h;exact⟨fs,dy,hu,hf,h.1,i,hi,by simpa using h.2⟩
class Um (P:Program) (t:TypeId):Prop where
 De:P.underlying t=some .string
def H8(P:Program)(t:Nat):Bool:=match P.underlying t with|some .string=>true|_=>false
theorem Um.of(h:H8 P t=true):Um P t:=by
 unfold H8 at h;refine⟨?_⟩;cases hu:P.underlying t with
 |none=>rw[hu] at h;simp at h
 |some d=>rw[hu] at h;cases d <;> simp_all
class Nh (P:Program) (t:TypeId) (k:outParam IntKind):Prop where
 De:P.underlying t=some (.int k)
def x9(P:Program)(t:Nat)(k:IntKind):Bool:=match P.underlying t with|some (.int k')=>k' == k|_=>false
theorem Nh.of{k:IntKind}(h:x9 P t k=true):Nh P t k:=by
 unfold x9 at h;refine⟨?_⟩;cases hu:P.underlying t with
 |none=>rw[hu] at h;simp at h
 |some d=>rw[hu] at h;cases d <;> simp_all
class Og (P:Program) (t:TypeId) (zs:outParam (List Value)):Prop where
 out:∃ i v,P.info? t=some i/\i.zero=some v/\v.cells=zs.toArray/\i.size=zs.length
theorem Og.of{t:TypeId}(h:(P.info? t).map (λi=>(i.zero,i.size))=some (some v,n))(hc:v.cells=zs.toArray)(hn:n=zs.length):Og P t zs:=by
 cases hi:P.info? t with
 |none=>rw[hi] at h;cases h
 |some i=>rw[hi] at h;simp only[map_some,jm,Prod.mk.injEq] at h;exact⟨i,v,hi,h.1,hc,h.2.trans hn⟩
class Ql (P:Program) (t:TypeId) (pl:outParam (List (Nat×Nat))):Prop where
 out:∃ fs,P.underlying t=some (.struct fs)/\(fs.toList.map λf=>(f.offset,P.cellsOf f.type))=pl/\∀ f∈fs,(P.info? f.type).isSome
def qna(P:Program)(t:Nat)(pl:List (Nat×Nat)):Bool:=
 match P.underlying t with
 |some (.struct fs)=>(fs.toList.map λf=>(f.offset,P.cellsOf f.type)) == pl && fs.toList.all λf=>(P.info? f.type).isSome
 |_=>false
theorem Ql.of{pl:List (Nat×Nat)}(h:qna P t pl=true):Ql P t pl:=by
 unfold qna at h;cases hu:P.underlying t with
 |none=>rw[hu] at h;simp at h
 |some d=>
  rw[hu] at h;cases d <;> simp only[Uk] at h
  rename_i fs;simp only[sd,beq_iff_eq,List.all_eq_true] at h;exact⟨fs,hu,h.1,λf hf=>h.2 f (by simpa using hf)⟩
class Ye (P:Program) (t:TypeId):Prop where
 out:∃ d,P.underlying t=some d/\(match d with|.interface _=>False|_=>True)
def qjV(P:Program)(t:Nat):Bool:=match P.underlying t with|some (.interface _)|none=>false|_=>true
theorem Ye.of(h:qjV P t=true):Ye P t:=by
 unfold qjV at h;cases hu:P.underlying t with
 |none=>rw[hu] at h;simp at h
 |some d=>rw[hu] at h;exact⟨d,hu,by cases d <;> simp_all⟩
theorem ye{t:TypeId}{d:TypeDesc}(h:P.underlying t=some d)(w:World):(underlying t).run P w=.ok d w:=by simp[underlying,program,Sem.run,h,bind,Sem.bind,Pure.pure]
theorem kN{t:TypeId}{i:TypeInfo}(h:P.info? t=some i)(w:World):(typeInfo t).run P w=.ok i w:=by simp[typeInfo,program,Sem.run,h,bind,Sem.bind,Pure.pure]
theorem Ot{t:TypeId}{i:TypeInfo}(h:P.info? t=some i)(w:World):(sizeOf t).run P w=.ok i.size w:=by simp[sizeOf,kN h]
theorem rq.isAgg{P:Program}{t:TypeId} [h:rq P t](w:World):(isAgg t).run P w=.ok false w:=by obtain⟨d,hd,hm⟩:=h.De;simp only[Go.isAgg,Ac,ye hd,ad];cases d <;> simp_all
theorem ko.isAgg{P:Program}{t k:Nat} [h:ko P t k](w:World):(isAgg t).run P w=.ok true w:=by obtain⟨d,hd,hm⟩:=h.De;simp only[Go.isAgg,Ac,ye hd,ad];cases d <;> simp_all
theorem zd:xb w L (.atom v) v:=by simp only[xb]
theorem uH(l:List UInt8):(ByteArray.mk l.toArray).size=l.length:=by simp[ByteArray.size]
section pure
variable{C:Ctx}{e:Env}{H:Heap}{dst:Option Nat}{ty:TypeId}{ra:String}{ua:Array Edge}{g:Option (Nat×Bool)}
theorem Pure.Wa(h:∀ (ρ:Operand->Value) w L,(∀ x,xb w L (e.ev x) (ρ x))->∃ v,xb w L lv v/\∀ w',(execOp ρ o).run C.P w'=.ok (.value v) w'):Pure C o e H lv:=
 λρ w L h1 _=>
  let ⟨v,h2,h3⟩:=h ρ w L h1
  ⟨v,h2,λw' _=>h3 w'⟩
theorem Zb(h:∀ x,xb w L (e.ev x) (ρ x))(hx:e.ev x=.atom v):ρ x=v:=by have:=h x;rw[hx] at this;simpa only[xb] using this
theorem Pure.move{x:Operand}:Pure C ⟨dst,.move x,ty,ra,ua,g⟩ e H (e.ev x):=.Wa λρ _ _ h=>⟨ρ x,h x,λ_=>rfl⟩
theorem Pure.assign{x:Operand}:Pure C ⟨dst,.assign x,ty,ra,ua,g⟩ e H (e.ev x):=.Wa λρ _ _ h=>⟨ρ x,h x,λ_=>rfl⟩
theorem Pure.pick{c a b:Operand}{t:Bool}(hc:e.ev c=bool t):Pure C ⟨dst,.pick c a b,ty,ra,ua,g⟩ e H (if t then e.ev a else e.ev b):=.Wa λρ w L h=>by have h1:=Zb h hc;refine⟨if t then ρ a else ρ b,by cases t <;> simp[h],λw'=>?_⟩;cases t <;> simp[execOp,h1,asBool]
theorem tB{op:BinOp}{xT yT:TypeId}{y:Operand}{k:IntKind}{a b:Int}(hx:ρ x=.int k a)(hy:ρ y=.int k b)(hs:op≠.shl)(hr:op≠.shr){s:Sem Value}
  (h:(binOp op xT (.int k a) (.int k b))=s) {v:Value} (hv:∀ w,s.run P w=.ok v w) (w:World):(execOp ρ ⟨dst,.binOp op xT x y yT,ty,ra,ua,g⟩).run P w=.ok (.value v) w:=by
 subst h;have he:eqGuard op xT x y (.int k a) (.int k b)=Pure.pure ():=by unfold eqGuard;cases op <;> rfl
 simp only[execOp,hx,hy,he,Ac,Yd,ad,hv]
variable{xT yT:TypeId}{x y:Operand}{k:IntKind}{a b:Int}
theorem Pure.Fp(hx:e.ev x=int k a)(hy:e.ev y=int k b):Pure C ⟨dst,.binOp .add xT x y yT,ty,ra,ua,g⟩ e H (int k (k.wrap (a+b))):=
 .Wa λ_ _ _ h=>⟨_,zd,tB (Zb h hx) (Zb h hy) (by simp) (by simp) (s:=Op.intArith .add k a b) (by simp only[binOp,ne_eq,not_true_eq_false,if_false]) λ_=>rfl⟩
theorem Pure.rr(hx:e.ev x=int k a)(hy:e.ev y=int k b):Pure C ⟨dst,.binOp .sub xT x y yT,ty,ra,ua,g⟩ e H (int k (k.wrap (a-b))):=
 .Wa λ_ _ _ h=>⟨_,zd,tB (Zb h hx) (Zb h hy) (by simp) (by simp) (s:=Op.intArith .sub k a b) (by simp only[binOp,ne_eq,not_true_eq_false,if_false]) λ_=>rfl⟩
theorem Pure.Tv(hx:e.ev x=int k a)(hy:e.ev y=int k b):Pure C ⟨dst,.binOp .mul xT x y yT,ty,ra,ua,g⟩ e H (int k (k.wrap (a * b))):=
 .Wa λ_ _ _ h=>⟨_,zd,tB (Zb h hx) (Zb h hy) (by simp) (by simp) (s:=Op.intArith .mul k a b) (by simp only[binOp,ne_eq,not_true_eq_false,if_false]) λ_=>rfl⟩
theorem Nt{n:Int}(h : -9223372036854775808<=n/\n<=9223372036854775807):IntKind.i64.wrap n=n:=by simp only[IntKind.wrap,IntKind.bits,IntKind.signed,Bool.true_and];split <;> rename_i h <;> simp at h <;> omega
theorem Pure.add(hx:e.ev x=int .i64 a)(hy:e.ev y=int .i64 b)(h : -9223372036854775808<=a+b/\a+b<=9223372036854775807):Pure C ⟨dst,.binOp .add xT x y yT,ty,ra,ua,g⟩ e H (int .i64 (a+b)):=by have:=Pure.Fp (C:=C) (H:=H) (dst:=dst) (ty:=ty) (ra:=ra) (ua:=ua) (g:=g) (xT:=xT) (yT:=yT) hx hy;rwa [Nt h] at this
theorem Pure.sub(hx:e.ev x=int .i64 a)(hy:e.ev y=int .i64 b)(h : -9223372036854775808<=a-b/\a-b<=9223372036854775807):Pure C ⟨dst,.binOp .sub xT x y yT,ty,ra,ua,g⟩ e H (int .i64 (a-b)):=by have:=Pure.rr (C:=C) (H:=H) (dst:=dst) (ty:=ty) (ra:=ra) (ua:=ua) (g:=g) (xT:=xT) (yT:=yT) hx hy;rwa [Nt h] at this
theorem Pure.eql(hx:e.ev x=int k a)(hy:e.ev y=int k b):Pure C ⟨dst,.binOp .eql xT x y yT,ty,ra,ua,g⟩ e H (bool (decide (a=b))):=
 .Wa λ_ _ _ h=>⟨_,zd,tB (Zb h hx) (Zb h hy) (by simp) (by simp) (s:=Op.intCmp .eql a b) (by simp only[binOp,ne_eq,not_true_eq_false,if_false]) λ_=>rfl⟩
theorem Pure.neq(hx:e.ev x=int k a)(hy:e.ev y=int k b):Pure C ⟨dst,.binOp .neq xT x y yT,ty,ra,ua,g⟩ e H (bool (!decide (a=b))):=
 .Wa λ_ _ _ h=>⟨_,zd,tB (Zb h hx) (Zb h hy) (by simp) (by simp) (s:=Op.intCmp .neq a b) (by simp only[binOp,ne_eq,not_true_eq_false,if_false]) λ_=>rfl⟩
theorem Pure.lss(hx:e.ev x=int k a)(hy:e.ev y=int k b):Pure C ⟨dst,.binOp .lss xT x y yT,ty,ra,ua,g⟩ e H (bool (decide (a<b))):=
 .Wa λ_ _ _ h=>⟨_,zd,tB (Zb h hx) (Zb h hy) (by simp) (by simp) (s:=Op.intCmp .lss a b) (by simp only[binOp,ne_eq,not_true_eq_false,if_false]) λ_=>rfl⟩
theorem Pure.leq(hx:e.ev x=int k a)(hy:e.ev y=int k b):Pure C ⟨dst,.binOp .leq xT x y yT,ty,ra,ua,g⟩ e H (bool (decide (a<=b))):=
 .Wa λ_ _ _ h=>⟨_,zd,tB (Zb h hx) (Zb h hy) (by simp) (by simp) (s:=Op.intCmp .leq a b) (by simp only[binOp,ne_eq,not_true_eq_false,if_false]) λ_=>rfl⟩
theorem Pure.gtr(hx:e.ev x=int k a)(hy:e.ev y=int k b):Pure C ⟨dst,.binOp .gtr xT x y yT,ty,ra,ua,g⟩ e H (bool (decide (b<a))):=
 .Wa λ_ _ _ h=>⟨_,zd,tB (Zb h hx) (Zb h hy) (by simp) (by simp) (s:=Op.intCmp .gtr a b) (by simp only[binOp,ne_eq,not_true_eq_false,if_false]) λ_=>rfl⟩
theorem Pure.geq(hx:e.ev x=int k a)(hy:e.ev y=int k b):Pure C ⟨dst,.binOp .geq xT x y yT,ty,ra,ua,g⟩ e H (bool (decide (b<=a))):=
 .Wa λ_ _ _ h=>⟨_,zd,tB (Zb h hx) (Zb h hy) (by simp) (by simp) (s:=Op.intCmp .geq a b) (by simp only[binOp,ne_eq,not_true_eq_false,if_false]) λ_=>rfl⟩
theorem Pure.not{t:Bool}(hx:e.ev x=bool t):Pure C ⟨dst,.unOp .not xT x,ty,ra,ua,g⟩ e H (bool (!t)):=
 .Wa λρ _ _ h=>⟨_,zd,λw'=>by simp only[execOp,Zb h hx,Op.unary];rfl⟩
theorem Qr(ρ:Operand->Value)(b:Builtin)(xs:Array Operand)(Rd:Array TypeId) :
  execOp ρ ⟨dst,.call { callee:=.builtin b,args:=xs,argTypes:=Rd },ty,ra,ua,g⟩=builtin b Rd ty (xs.map fun|.const _=>true|_=>false) (xs.map ρ):=rfl
theorem sV(Rd:Array TypeId)(cs:Array Bool)(args:Array Value):builtin .len Rd ty cs args=(do Pure.pure (.value (<-Builtin.len_ Rd ty args))):=rfl
theorem RX{op:BinOp}{xT yT:TypeId}{y:Operand}{a b:ByteArray}(hx:ρ x=.string a)(hy:ρ y=.string b)
  {v:Value} (hv:∀ w,(Op.stringOp op a b).run P w=.ok v w) (w:World):(execOp ρ ⟨dst,.binOp op xT x y yT,ty,ra,ua,g⟩).run P w=.ok (.value v) w:=by
 have he:eqGuard op xT x y (.string a) (.string b)=Pure.pure ():=by unfold eqGuard;cases op <;> rfl
 have hb:binOp op xT (.string a) (.string b)=Op.stringOp op a b:=by cases op <;> rfl
 simp only[execOp,hx,hy,he,hb,Ac,Yd,ad,hv]
variable{l m:List UInt8}
theorem Pure.seq(hx:e.ev x=str l)(hy:e.ev y=str m):Pure C ⟨dst,.binOp .eql xT x y yT,ty,ra,ua,g⟩ e H (bool (decide (l=m))):=
 .Wa λ_ _ _ h=>⟨_,zd,RX (Zb h hx) (Zb h hy) λw=>by
  simp only[Op.stringOp,ByteArray.toList_mk,Yd];congr 2;rw[Bool.eq_iff_iff];simp⟩
theorem Pure.pJ(hx:e.ev x=str l)(hy:e.ev y=str m):Pure C ⟨dst,.binOp .neq xT x y yT,ty,ra,ua,g⟩ e H (bool (!decide (l=m))):=
 .Wa λ_ _ _ h=>⟨_,zd,RX (Zb h hx) (Zb h hy) λw=>by
  simp only[Op.stringOp,ByteArray.toList_mk,Yd];congr 3;rw[Bool.eq_iff_iff];simp⟩
theorem qsJ(l m:List UInt8):(ByteArray.mk l.toArray++ByteArray.mk m.toArray)=ByteArray.mk (l++m).toArray:=by apply ByteArray.ext;simp
theorem Pure.Ey(hx:e.ev x=str l)(hy:e.ev y=str m)(hl:l.length+m.length<=9223372036854775807):Pure C ⟨dst,.binOp .add xT x y yT,ty,ra,ua,g⟩ e H (str (l++m)):=
 .Wa λ_ _ _ h=>⟨_,zd,RX (Zb h hx) (Zb h hy) λw=>by
  have h1:¬ ((((ByteArray.mk l.toArray).size+(ByteArray.mk m.toArray).size:Nat):Int) > IntKind.i64.max):=by rw[uH,uH];simp only[IntKind.max,IntKind.signed,IntKind.bits];omega
  simp only[Op.stringOp,zn h1,Yd,qsJ]⟩
theorem pI{n:Int}{c:UInt8} [Um C.P xT](hx:e.ev x=str l)(hy:e.ev y=int k n)(h0:0<=n)(hc:l[n.toNat]? = some c):Pure C ⟨dst,.index xT x y,ty,ra,ua,g⟩ e H (int .u8 c.toNat):=
 .Wa λρ _ _ h=>⟨_,zd,λw'=>by
  have hu:=ye (P:=C.P) (Um.De (t:=xT)) w';have hg:(ByteArray.mk l.toArray)[n.toNat]? = some c:=by
   have Ja:n.toNat<l.length:=(List.getElem?_eq_some_iff.1 hc).1;have ld:n.toNat<(ByteArray.mk l.toArray).size:=by simp[ByteArray.size];exact Ja
   have:=(List.getElem?_eq_some_iff.1 hc).2;rw[getElem?_pos (ByteArray.mk l.toArray) n.toNat ld];exact congrArg some this
  simp only[execOp,Zb h hx,Zb h hy,Instr.index,asIntOf,Ac,Yd,ad,hu,zp h0,hg]⟩
theorem Pure.UO(hx:e.ev x=str l) [Um C.P xT]:Pure C ⟨dst,.call { callee:=.builtin .len,args:=#[x],argTypes:=#[xT] },ty,ra,ua,g⟩ e H (int .i64 l.length):=
 .Wa λρ _ _ h=>⟨_,zd,λw'=>by
  have hu:=ye (P:=C.P) (Um.De (t:=xT)) w';rw[Qr,sV];simp[Builtin.len_,hu,goInt,Zb h hx];rw[uH]⟩
end pure
theorem Cf(b off i:Nat):(Addr.mk b off none).add i=⟨b,off+i,none⟩:=by unfold Addr.add;split;rename_i h;subst h;rfl;rfl
theorem Rb.get{w:World}{L:Live}{b:Nat}:∀ {off:Nat} {cs:List LV},Rb w L b off cs->∀ {i:Nat} {c:LV},cs[i]? = some c->off+i<L b/\∃ x,w.cell? ⟨b,off+i,none⟩=some x/\xb w L c x
 |_,[],_,i,c,hc=>by simp at hc
 |off,c::cs,h,i,c',hc=>by
  simp only[Rb] at h;obtain⟨h1,⟨x,h2,h3⟩,h4⟩:=h;cases i with
  |zero=>simp at hc;subst hc;exact⟨h1,x,h2,h3⟩
  |succ i=>have:=Rb.get h4 (i:=i) (by simpa using hc);rwa [show off+1+i=off+(i+1) by omega] at this
theorem Rb.drop{w:World}{L:Live}{b:Nat}:∀ {off:Nat} {cs:List LV} (n:Nat),Rb w L b off cs->Rb w L b (off+n) (cs.drop n)
 |_,cs,0,h=>by simpa using h
 |_,[],n+1,_=>by simp[Rb]
 |off,c::cs,n+1,h=>by simp only[Rb] at h;have:=Rb.drop n h.2.2;rwa [show off+1+n=off+(n+1) by omega] at this
theorem Qc.cell(h:Qc w L b k off (e::es)):e.cells.length=k/\Rb w L b off e.cells:=by
 cases e <;> simp only[Qc] at h <;> first
  |exact h.1
  |(obtain⟨⟨r1,r2,r3⟩,_⟩:=h;exact⟨r1,by simp only[LV.cells,Rb];exact⟨r2,r3,trivial⟩⟩)
theorem Qc.tail(h:Qc w L b k off (e::es)):Qc w L b k (off+k) es:=by cases e <;> simp only[Qc] at h <;> exact h.2
theorem Qc.cons(h1:e.cells.length=k)(h2:Rb w L b off e.cells)(h3:Qc w L b k (off+k) es):Qc w L b k off (e::es):=by
 cases e <;> simp only[Qc] <;> refine⟨?_,h3⟩ <;> first
  |exact⟨h1,h2⟩
  |(simp only[LV.cells,Rb] at h1 h2;exact⟨h1,h2.1,h2.2.1⟩)
theorem Qc.get{w:World}{L:Live}{b k:Nat}:∀ {off:Nat} {es:List LV},Qc w L b k off es->∀ {i:Nat} {e:LV},es[i]? = some e->e.cells.length=k/\Rb w L b (off+i * k) e.cells
 |_,[],_,i,c,hc=>by simp at hc
 |off,e::es,h,i,e',hc=>by
  cases i with
  |zero=>simp at hc;subst hc;simpa using h.cell
  |succ i=>have:=Qc.get h.tail (i:=i) (by simpa using hc);rwa [show off+k+i * k=off+(i+1) * k by rw[add_mul];omega] at this
theorem Qc.drop{w:World}{L:Live}{b k:Nat}:∀ {off:Nat} {es:List LV} (n:Nat),Qc w L b k off es->Qc w L b k (off+n * k) (es.drop n)
 |_,es,0,h=>by simpa using h
 |_,[],n+1,_=>by simp[Qc]
 |off,c::cs,n+1,h=>by have:=Qc.drop n h.tail;rwa [show off+k+n * k=off+(n+1) * k by rw[add_mul];omega] at this
theorem Qc.take{w:World}{L:Live}{b k:Nat}:∀ {off:Nat} {es:List LV} (n:Nat),Qc w L b k off es->Qc w L b k off (es.take n)
 |_,es,0,_=>by simp[Qc]
 |_,[],n+1,_=>by simp[Qc]
 |off,c::cs,n+1,h=>.cons h.cell.1 h.cell.2 (Qc.take n h.tail)
theorem mN{P:Program}{w:World}{b off:Nat}:∀ (n i:Nat) (acc:Array Value) (xs:List Value),xs.length=n->(∀ j x,xs[j]? = some x->w.cell? ⟨b,off+i+j,none⟩=some x) ->
  (loadCellsFrom ⟨b,off,none⟩ i n acc).run P w=.ok (acc++xs.toArray) w
 |0,i,acc,xs,hl,_=>by have:xs=[]:=List.eq_nil_of_length_eq_zero hl;subst this;simp[loadCellsFrom]
 |n+1,i,acc,[],hl,_=>by simp at hl
 |n+1,i,acc,x::xs,hl,h=>by
  have h0:=h 0 x rfl;have ih:=mN (P:=P) (w:=w) (b:=b) (off:=off) n (i+1) (acc.push x) xs (by simpa using hl) (λj y hy=>by
   have:=h (j+1) y (by simpa using hy);rwa [show off+i+(j+1)=off+(i+1)+j by omega] at this)
  simp only[loadCellsFrom,Ac,run_load,Cf];rw[show off+i=off+i+0 by omega,h0];simp only[ad];rw[ih];simp
theorem Rb.values{w:World}{L:Live}{b:Nat}:∀ {off:Nat} {cs:List LV},Rb w L b off cs->∃ xs:List Value,oa w L cs xs/\∀ j x,xs[j]? = some x->off+j<L b/\w.cell? ⟨b,off+j,none⟩=some x
 |_,[],_=>⟨[],by simp only[oa],by simp⟩
 |off,c::cs,h=>by
  simp only[Rb] at h;obtain⟨h1,⟨x,h2,h3⟩,h4⟩:=h;obtain⟨xs,h5,h6⟩:=Rb.values h4;refine⟨x::xs,by simp only[oa];exact⟨x,xs,rfl,h3,h5⟩,λj y hy=>?_⟩
  cases j with
  |zero=>simp at hy;subst hy;exact⟨h1,h2⟩
  |succ j=>have:=h6 j y (by simpa using hy);rwa [show off+1+j=off+(j+1) by omega] at this
theorem Rb.take{w:World}{L:Live}{b:Nat}:∀ {off:Nat} {cs:List LV} (n:Nat),Rb w L b off cs->Rb w L b off (cs.take n)
 |_,cs,0,_=>by simp[Rb]
 |_,[],n+1,_=>by simp[Rb]
 |off,c::cs,n+1,h=>by simp only[Rb,List.take_succ_cons] at h ⊢;exact⟨h.1,h.2.1,Rb.take n h.2.2⟩
theorem Q0{t:TypeId} [rq P t]{a:Addr}{x:Value}(h:w.cell? a=some x):(loadVar t a).run P w=.ok x w:=by simp[loadVar,rq.isAgg,h]
theorem I0 [ht:ko P t k](hl:xs.length=k)(h:∀ j x,xs[j]? = some x->w.cell? ⟨b,off+j,none⟩=some x) :
  (loadVar t ⟨b,off,none⟩).run P w=.ok (.agg xs.toArray) w:=by
 obtain⟨i,hi,hk⟩:=ht.size;have:=mN (P:=P) (w:=w) (b:=b) (off:=off) k 0 #[] xs hl (by simpa using h);simp only[loadVar,Ac,ko.isAgg,ad,if_true,Ot hi,hk,loadCells,this];simp
section reading
variable{C:Ctx}{e:Env}{H:Heap}{dst:Option Nat}{ty:TypeId}{ra:String}{ua:Array Edge}{g:Option (Nat×Bool)}{x y:Operand}{xT:TypeId}{k:IntKind}
theorem pO{t:TypeId} [rq C.P t](hx:e.ev x=.ref cs)(hc:cs[0]? = some c):Pure C ⟨dst,.load t x,ty,ra,ua,g⟩ e H c:=λρ w L h _=>by
 have hv:=h x;rw[hx] at hv;simp only[xb] at hv;obtain⟨b,off,hv,hr⟩:=hv;obtain⟨h1,v,h2,h3⟩:=hr.get hc;refine⟨v,h3,λw' ha=>?_⟩;have CA:w'.cell? ⟨b,off,none⟩=some v:=by rw[ha.2 b off h1];exact h2
 have h0:execOp ρ ⟨dst,.load t x,ty,ra,ua,g⟩=(do Pure.pure (.value (<-Instr.loadAt t (ρ x)))):=rfl;rw[h0,hv];simp[Instr.loadAt,Instr.sureAddr,Q0 CA]
theorem Pure.Wv [ko C.P t n](hx:e.ev x=.ref cs)(hn:n<=cs.length):Pure C ⟨dst,.load t x,ty,ra,ua,g⟩ e H (.agg (cs.take n)):=λρ w L h _=>by
 have hv:=h x;rw[hx] at hv;simp only[xb] at hv;obtain⟨b,off,hv,hr⟩:=hv;obtain⟨xs,h1,h2⟩:=(hr.take n).values;refine⟨.agg xs.toArray,by simp only[xb];exact⟨xs,rfl,h1⟩,λw' ha=>?_⟩;have h0:execOp ρ ⟨dst,.load t x,ty,ra,ua,g⟩=(do Pure.pure (.value (<-Instr.loadAt t (ρ x)))):=rfl;rw[h0,hv];have na:xs.length=n:=by rw[h1.length];simp;omega
 simp[Instr.loadAt,Instr.sureAddr,I0 (t:=t) na (λj y hy=>by rw[ha.2 b _ (h2 j y hy).1];exact(h2 j y hy).2)]
theorem Ta.cells{w:World}{L:Live}{b Oo:Nat}{cs:List LV}(h:Ta C w L H)(hm:(b,ma.cells Oo cs)∈H):∃ xs:List Value,w.heap[b]? = some (.cells xs.toArray Oo (0,0))/\oa w L cs xs:=
 (h.uc _ hm).2.2.2
theorem pL{t:TypeId} [rq C.P t](hx:e.ev x=ptr b off)(hm:(b,ma.cells Oo cs)∈H)(hc:cs[off]? = some c) :
  Pure C ⟨dst,.load t x,ty,ra,ua,g⟩ e H c:=λρ w L h hH=>by
 obtain⟨xs,h1,h2⟩:=hH.cells hm;obtain⟨v,h3,h4⟩:=h2.get hc;refine⟨v,h4,λw' ha=>?_⟩;have hb:w'.heap[b]? = some (.cells xs.toArray Oo (0,0)):=(ha.1 _ hm).trans h1;have Il:w'.cell? ⟨b,off,none⟩=some v:=by simp[World.cell?,hb,h3]
 have h0:execOp ρ ⟨dst,.load t x,ty,ra,ua,g⟩=(do Pure.pure (.value (<-Instr.loadAt t (ρ x)))):=rfl;rw[h0,Zb h hx];simp[Instr.loadAt,Instr.sureAddr,Q0 Il]
theorem oa.drop{w:World}{L:Live}:∀ (n:Nat) {cs:List LV} {xs:List Value},oa w L cs xs->oa w L (cs.drop n) (xs.drop n)
 |0,_,_,h=>by simpa using h
 |n+1,[],xs,h=>by simp only[oa] at h;subst h;simp[oa]
 |n+1,c::cs,xs,h=>by simp only[oa] at h;obtain⟨y,ys,rfl,_,h⟩:=h;simpa using oa.drop n h
theorem oa.take{w:World}{L:Live}:∀ (n:Nat) {cs:List LV} {xs:List Value},oa w L cs xs->oa w L (cs.take n) (xs.take n)
 |0,_,_,_=>by simp[oa]
 |n+1,[],xs,h=>by simp only[oa] at h;subst h;simp[oa]
 |n+1,c::cs,xs,h=>by simp only[oa] at h;obtain⟨y,ys,rfl,h1,h⟩:=h;simp only[List.take_succ_cons,oa];exact⟨y,_,rfl,h1,oa.take n h⟩
theorem Pure.gp [ko C.P t n](hx:e.ev x=ptr b off)(hm:(b,ma.cells Oo cs)∈H)(hn:off+n<=cs.length) :
  Pure C ⟨dst,.load t x,ty,ra,ua,g⟩ e H (.agg ((cs.drop off).take n)):=λρ w L h hH=>by
 obtain⟨xs,h1,h2⟩:=hH.cells hm;have hl:=h2.length;refine⟨.agg ((xs.drop off).take n).toArray,by simp only[xb];exact⟨_,rfl,(h2.drop off).take n⟩,λw' ha=>?_⟩;have hb:w'.heap[b]? = some (.cells xs.toArray Oo (0,0)):=(ha.1 _ hm).trans h1;have h0:execOp ρ ⟨dst,.load t x,ty,ra,ua,g⟩=(do Pure.pure (.value (<-Instr.loadAt t (ρ x)))):=rfl;rw[h0,Zb h hx];have na:((xs.drop off).take n).length=n:=by simp;omega
 simp[Instr.loadAt,Instr.sureAddr,I0 (t:=t) (w:=w') (b:=b) (off:=off) na (λj y hy=>by
  rw[List.getElem?_take] at hy;split at hy;simpa [World.cell?,hb,List.getElem?_drop] using hy;cases hy)]
theorem qkS{dy:Field}{i:TypeInfo}(hi:P.info? dy.type=some i)(h0:i.size≠0)(b off:Nat)(w:World):(fieldPlace ⟨b,off,none⟩ dy).run P w=.ok ⟨b,off+dy.offset,none⟩ w:=by simp[fieldPlace,Ot hi,h0,Cf]
theorem qkr{f:Nat} [hf:Rk P s f n](b off:Nat)(w:World):(Instr.fieldAt s (.pointer (some ⟨b,off,none⟩)) f).run P w=.ok (.pointer (some ⟨b,off+n,none⟩)) w:=by obtain⟨fs,dy,hu,hg,rfl,i,hi,h0⟩:=hf.out;simp[Instr.fieldAt,ye hu,hg,Instr.sureAddr,qkS hi h0]
theorem pF{f:Nat} [Rk C.P s f n](hx:e.ev x=ptr b off):Pure C ⟨dst,.fieldAddr s x f,ty,ra,ua,g⟩ e H (ptr b (off+n)):=
 .Wa λρ _ _ h=>⟨_,zd,λw'=>by
  have h0:execOp ρ ⟨dst,.fieldAddr s x f,ty,ra,ua,g⟩=(do Pure.pure (.value (<-Instr.fieldAt s (ρ x) f))):=rfl;rw[h0,Zb h hx];simp[qkr]⟩
theorem Pure.fD{f:Nat} [Rk C.P s f n](hx:e.ev x=.ref cs):Pure C ⟨dst,.fieldAddr s x f,ty,ra,ua,g⟩ e H (.ref (cs.drop n)):=
 .Wa λρ w L h=>by have hv:=h x;rw[hx] at hv;simp only[xb] at hv;obtain⟨b,off,hv,hr⟩:=hv;refine⟨.pointer (some ⟨b,off+n,none⟩),by simp only[xb];exact⟨b,off+n,rfl,hr.drop n⟩,λw'=>?_⟩;have h0:execOp ρ ⟨dst,.fieldAddr s x f,ty,ra,ua,g⟩=(do Pure.pure (.value (<-Instr.fieldAt s (ρ x) f))):=rfl;rw[h0,hv];simp[qkr]
def elems:LV->Option (List LV)
 |.list es=>some es
 |.app _ _ _ es=>some es
 |.atom (.slice none 0 0)=>some []
 |_=>none
theorem xb.elems{w:World}{L:Live}:∀ {lv:LV} {v:Value} {es:List LV},xb w L lv v->GL.elems lv=some es ->
  ∃ a cap,v=.slice a es.length cap/\es.length<=cap/\(es≠[]->∃ b off k,a=some ⟨b,off,none⟩/\Qc w L b k off es)
 |.list es,v,Cp,h,he=>by simp only[GL.elems,jm] at he;subst he;simpa only[xb] using h
 |.app b cap k es,v,Cp,h,he=>by simp only[GL.elems,jm] at he;subst he;simp only[xb] at h;obtain⟨rfl,hl,h,_⟩:=h;exact⟨_,_,rfl,hl,λ_=>⟨b,0,k,rfl,h⟩⟩
 |.atom u,v,es,h,he=>by simp only[xb] at h;subst h;unfold GL.elems at he;split at he <;> simp_all
 |.agg _,_,_,_,he=>by simp[GL.elems] at he
 |.tuple _,_,_,_,he=>by simp[GL.elems] at he
 |.ref _,_,_,_,he=>by simp[GL.elems] at he
theorem Pure.kp [Oa C.P t el s](hx:elems (e.ev x)=some es):Pure C ⟨dst,.call { callee:=.builtin .len,args:=#[x],argTypes:=#[t] },ty,ra,ua,g⟩ e H (int .i64 es.length):=
 .Wa λρ _ _ h=>⟨_,zd,λw'=>by
  obtain⟨a,cap,hv,_⟩:=(h x).elems hx;have hu:=ye (P:=C.P) (Oa.De (t:=t)) w';rw[Qr,sV];simp[Builtin.len_,hu,goInt,hv]⟩
theorem Pure.indexAddr{t el s:Nat} [ht:Oa C.P t el s]{es:List LV}{n:Int}{ke:LV}(hx:elems (e.ev x)=some es)(hy:e.ev y=int k n)(h0:0<=n)(hn:es[n.toNat]? = some ke)(hs:ke.cells.length=s) :
  Pure C ⟨dst,.indexAddr t x y,ty,ra,ua,g⟩ e H (.ref ke.cells):=.Wa λρ w L h=>by
 obtain⟨a,cap,hv,Ue,hr⟩:=(h x).elems hx;have Ja:n.toNat<es.length:=(List.getElem?_eq_some_iff.1 hn).1;obtain⟨b,off,k',rfl,VD⟩:=hr (by intro h;subst h;simp at Ja);obtain⟨h1,h2⟩:=VD.get hn;obtain⟨i,hi,ld⟩:=ht.size;refine⟨.pointer (some ⟨b,off+n.toNat * k',none⟩),by simp only[xb];exact⟨b,_,rfl,h2⟩,λw'=>?_⟩;have h3:execOp ρ ⟨dst,.indexAddr t x y,ty,ra,ua,g⟩=(do Pure.pure (.value (<-Instr.indexAt t (ρ x) (ρ y)))):=rfl;rw[h3,hv,Zb h hy];have hk:k'=i.size:=by omega
 have hc:0<=n/\n<(es.length:Int):=⟨h0,by omega⟩;simp[Instr.indexAt,asIntOf,ye ht.De,hc,Ot hi,Cf,hk]
def lF(e:Env)(o:Option Operand)(z6 n:Int):Prop:=
 match o with
 |some x=>∃ k,e.ev x=int k n
 |none=>n=z6
theorem J1(h:∀ x,xb w L (e.ev x) (ρ x)){i j:Int}(sl:Bool)
  (Bs:lF e lo 0 i) (IC:lF e hi len j) (h0:0<=i) (h1:i<=j) (h2:j<=cap) :
  (Instr.sliceBounds sl len cap (lo.map ρ) (hi.map ρ) none).run P w'=.ok (i.toNat,j.toNat,cap) w':=by
 have hj:0<=j:=by omega
 have hm:i<=max j 0:=by omega
 cases lo <;> cases hi <;> simp only[lF] at Bs IC;subst Bs IC;simp[Instr.sliceBounds];obtain⟨k2,Ng⟩:=IC;subst Bs;simp[Instr.sliceBounds,Instr.sliceBound,Zb h Ng,asIntOf,hj,h2];obtain⟨k1,jt⟩:=Bs;subst IC;simp[Instr.sliceBounds,Instr.sliceBound,Zb h jt,asIntOf,h0,h1];obtain⟨k1,jt⟩:=Bs;obtain⟨k2,Ng⟩:=IC;simp[Instr.sliceBounds,Instr.sliceBound,Zb h jt,Zb h Ng,asIntOf,h0,hj,h2,hm]
theorem qrP(l:List UInt8)(i j:Nat):(ByteArray.mk l.toArray).extract i j=ByteArray.mk ((l.take j).drop i).toArray:=by apply ByteArray.ext;simp[List.extract_eq_take_drop,List.drop_take]
theorem Pure.Ak{l:List UInt8}{i j:Int} [hT:Um C.P xT](hx:e.ev x=str l)
  (Bs:lF e lo 0 i) (IC:lF e hi l.length j) (h0:0<=i) (h1:i<=j) (h2:j<=l.length) :
  Pure C ⟨dst,.slice xT x lo hi none,ty,ra,ua,g⟩ e H (str ((l.take j.toNat).drop i.toNat)):=.Wa λρ w L h=>by
 refine⟨_,zd,λw'=>?_⟩;have h3:execOp ρ ⟨dst,.slice xT x lo hi none,ty,ra,ua,g⟩=(do Pure.pure (.value (<-Instr.sliceAt xT (ρ x) (lo.map ρ) (hi.map ρ) none))):=rfl;rw[h3,Zb h hx]
 simp only[Instr.sliceAt,Instr.slice,Ac,ye (P:=C.P) hT.De w',ad,isSome_none,Uk,if_false,Yd,uH,
  J1 h false Bs IC h0 h1 h2,qrP]
theorem Pure.Tr{es:List LV}{i j:Int} [ht:Oa C.P t el s](hx:elems (e.ev x)=some es)
  (Bs:lF e lo 0 i) (IC:lF e hi es.length j) (h0:0<=i) (h1:i<=j) (h2:j<=es.length) (hs:∀ v∈es,v.cells.length=s) :
  Pure C ⟨dst,.slice t x lo hi none,ty,ra,ua,g⟩ e H (.list ((es.take j.toNat).drop i.toNat)):=.Wa λρ w L h=>by
 obtain⟨a,cap,hv,Ue,hr⟩:=(h x).elems hx;obtain⟨ti,Z2,ld⟩:=ht.size;have hb:=λw'=>J1 (P:=C.P) (w':=w') (cap:=cap) h true Bs IC h0 h1 ga;have h3:execOp ρ ⟨dst,.slice t x lo hi none,ty,ra,ua,g⟩=(do Pure.pure (.value (<-Instr.sliceAt t (ρ x) (lo.map ρ) (hi.map ρ) none))):=rfl;have na:((es.take j.toNat).drop i.toNat).length=j.toNat-i.toNat:=by simp;omega
 refine⟨.slice (if cap=i.toNat then a else a.map (·.add (i.toNat * s))) (j.toNat-i.toNat) (cap-i.toNat),?_,λw'=>?_⟩;simp only[xb];refine⟨_,cap-i.toNat,by rw[na],by omega,λFb=>?_⟩;have qG:es≠[]:=by intro h;subst h;simp at Fb
 obtain⟨b,off,k,rfl,VD⟩:=hr qG;have Ja:i.toNat<j.toNat:=by rcases Nat.lt_or_ge i.toNat j.toNat with hh|hh;exact hh;exact absurd (List.eq_nil_of_length_eq_zero ga) Fb
 have hk:k=s:=by obtain⟨e0,da,he⟩:=List.exists_cons_of_ne_nil qG;subst he;exact VD.cell.1.symm.trans (hs e0 (by simp))
 subst hk;refine⟨b,off+i.toNat * k,k,?_,(VD.take j.toNat).drop i.toNat⟩;rw[zn (by omega)];simp[Cf];rw[h3,hv];simp only[Instr.sliceAt,Instr.slice,Ac,ye (P:=C.P) ht.De w',ad,Yd,hb,Ot Z2,ld]
theorem Pure.extract{vs:List LV}{i:Nat}{c:LV}(hx:e.ev x=.tuple vs)(hc:vs[i]? = some c):Pure C ⟨dst,.extract x i,ty,ra,ua,g⟩ e H c:=.Wa λρ w L h=>by have hv:=h x;rw[hx] at hv;simp only[xb] at hv;obtain⟨xs,hv,hr⟩:=hv;obtain⟨v,h1,h2⟩:=hr.get hc;refine⟨v,h2,λw'=>?_⟩;have h3:execOp ρ ⟨dst,.extract x i,ty,ra,ua,g⟩=(do Pure.pure (.value (<-Instr.extract (ρ x) i))):=rfl;rw[h3,hv];simp[Instr.extract,h1]
theorem pN(hx:e.ev x=ptr b off):Pure C ⟨dst,.nilCheck x,ty,ra,ua,g⟩ e H (ptr b off):=.Wa λρ _ _ h=>⟨_,zd,λw'=>by
 simp[execOp,Zb h hx]⟩
theorem Pure.U1{a b:Int}(hx:e.ev x=int k a)(hy:e.ev y=int k b){t u:TypeId}:Pure C ⟨dst,.call { callee:=.builtin .min,args:=#[x,y],argTypes:=#[t,u] },ty,ra,ua,g⟩ e H (int k (if b<a then b else a)):=
 .Wa λρ _ _ h=>⟨_,zd,λw'=>by
  have h0:∀ (cs:Array Bool) (args:Array Value),builtin .min #[t,u] ty cs args=(do Pure.pure (.value (<-Builtin.min_ #[t,u] ty args))):=λ_ _=>rfl;rw[Qr,h0]
  simp[Builtin.min_,Builtin.min2,Zb h hx,Zb h hy]⟩
theorem Pure.JG{k':IntKind}{s d:TypeId}{n:Int}(hs:∃ ds,C.P.underlying s=some ds) [hd:Nh C.P d k'](hx:e.ev x=int k n):Pure C ⟨dst,.convert s d x,ty,ra,ua,g⟩ e H (int k' (k'.wrap n)):=
 .Wa λρ _ _ h=>⟨_,zd,λw'=>by
  obtain⟨ds,hs⟩:=hs;have h3:execOp ρ ⟨dst,.convert s d x,ty,ra,ua,g⟩=(do Pure.pure (.value (<-convert s d (ρ x)))):=rfl;rw[h3,Zb h hx];simp[convert,ye hs,ye hd.De,Conv.intToInt]⟩
theorem oa.atoms{w:World}{L:Live}:∀ {vs xs:List Value},oa w L (vs.map .atom) xs->xs=vs
 |[],xs,h=>by simpa [oa] using h
 |v::vs,xs,h=>by simp only[jd,oa,xb] at h;obtain⟨y,ys,rfl,rfl,h⟩:=h;rw[oa.atoms h]
theorem Pure.ri{t:TypeId} [ht:Ye C.P t]{vs:List Value}(hx:e.ev x=.agg (vs.map .atom)):Pure C ⟨dst,.makeInterface t x,ty,ra,ua,g⟩ e H (.atom (.iface t (.agg vs.toArray))):=
 .Wa λρ w L h=>⟨_,zd,λw'=>by
  obtain⟨d,hd,hm⟩:=ht.out;have hv:=h x;rw[hx] at hv;simp only[xb] at hv;obtain⟨xs,hv,hr⟩:=hv;rw[hr.atoms] at hv;have h3:execOp ρ ⟨dst,.makeInterface t x,ty,ra,ua,g⟩=(do Pure.pure (.value (<-Instr.makeInterface t (ρ x)))):=rfl;rw[h3,hv];simp only[Instr.makeInterface,Ac,ye hd,ad];cases d <;> simp_all⟩
def AM(e:Env):List Operand->Option (List Value)
 |[]=>some []
 |x::xs=>match e.ev x,AM e xs with
  |.atom v,some vs=>some (v::vs)
  |_,_=>none
theorem F0{ρ:Operand->Value}{w:World}{L:Live}(h:∀ x,xb w L (e.ev x) (ρ x)):∀ {xs:List Operand} {vs:List Value},AM e xs=some vs->xs.map ρ=vs
 |[],vs,hv=>by simpa [AM] using hv
 |x::xs,vs,hv=>by simp only[AM] at hv;split at hv;rename_i v wD h1 h2;simp only[jm] at hv;subst hv;rw[jd,Zb h h1,F0 h h2];cases hv
theorem Pure.makeFunc{fn:Fn}{first captured:List Operand}{fs cs:List Value}(h1:AM e first=some fs)(h2:AM e captured=some cs) :
  Pure C ⟨dst,.makeFunc fn first.toArray captured.toArray,ty,ra,ua,g⟩ e H (.atom (.func fn fs.toArray cs.toArray)):=.Wa λρ _ _ h=>⟨_,zd,λw'=>by
 have h3:execOp ρ ⟨dst,.makeFunc fn first.toArray captured.toArray,ty,ra,ua,g⟩=(do Pure.pure (.value (<-Instr.makeFunc fn (first.toArray.map ρ) (captured.toArray.map ρ)))):=rfl;rw[h3];simp[Instr.makeFunc,F0 h h1,F0 h h2]⟩
def LV.cells? : LV->Option (List LV)
 |.agg cs=>some cs
 |.atom (.agg _)=>none
 |v=>some [v]
theorem xb.cells{w:World}{L:Live}:∀ {lv:LV} {v:Value} {cs:List LV},xb w L lv v->lv.cells? = some cs->oa w L cs v.cells.toList
 |.agg cs,v,Ob,h,hc=>by simp only[LV.cells?,jm] at hc;subst hc;simp only[xb] at h;obtain⟨xs,rfl,h⟩:=h;simpa [Value.cells] using h
 |.atom u,v,cs,h,hc=>by simp only[xb] at h;subst h;cases v <;> simp only[LV.cells?,jm,reduceCtorEq] at hc <;> subst hc <;> simp[Value.cells,oa,xb]
 |.list es,v,cs,h,hc=>by simp only[LV.cells?,jm] at hc;subst hc;have h':=h;simp only[xb] at h;obtain⟨a,cap,rfl,_⟩:=h;simpa [Value.cells,oa] using h'
 |.app b cap k es,v,cs,h,hc=>by simp only[LV.cells?,jm] at hc;subst hc;have h':=h;simp only[xb] at h;obtain⟨rfl,_⟩:=h;simpa [Value.cells,oa] using h'
 |.tuple vs,v,cs,h,hc=>by simp only[LV.cells?,jm] at hc;subst hc;have h':=h;simp only[xb] at h;obtain⟨xs,rfl,_⟩:=h;simpa [Value.cells,oa] using h'
 |.ref vs,v,cs,h,hc=>by simp only[LV.cells?,jm] at hc;subst hc;have h':=h;simp only[xb] at h;obtain⟨b,off,rfl,_⟩:=h;simpa [Value.cells,oa] using h'
def ed:List LV->Nat->List LV->List LV
 |xs,0,[]=>xs
 |[],_,_=>[]
 |_::xs,0,v::vs=>v::ed xs 0 vs
 |x::xs,n+1,vs=>x::ed xs n vs
def xD(pl:List (Nat×Nat))(cells:List LV):List (Nat×LV)->Option (List LV)
 |[]=>some cells
 |(i,v)::da=>
  match pl[i]?,v.cells? with
  |some (off,size),some cs=>if cs.length=size/\off+cs.length<=cells.length then xD pl (ed cells off cs) da else none
  |_,_=>none
theorem oa.append{w:World}{L:Live}:∀ {Mc bs:List LV} {xs ys:List Value},oa w L Mc xs->oa w L bs ys->oa w L (Mc++bs) (xs++ys)
 |[],_,xs,_,h,k=>by simp only[oa] at h;subst h;simpa using k
 |a::Mc,_,xs,_,h,k=>by simp only[oa] at h;obtain⟨y,MW,rfl,h1,h2⟩:=h;simp only[cons_append,oa];exact⟨y,_,rfl,h1,oa.append h2 k⟩
theorem mH:∀ (cells:List LV) (off:Nat) (vs:List LV),off+vs.length<=cells.length->ed cells off vs=cells.take off++vs++cells.drop (off+vs.length)
 |xs,0,[],_=>by cases xs <;> simp[ed]
 |[],n+1,vs,h=>by simp at h
 |[],0,v::vs,h=>by simp at h
 |x::xs,0,v::vs,h=>by have:=mH xs 0 vs (by simpa using h);simp[ed,this]
 |x::xs,n+1,vs,h=>by have:=mH xs n vs (by simp at h;omega);simp[ed,this,show n+1+vs.length=(n+vs.length)+1 by omega]
theorem LU(off:Nat):∀ (ys:List Value) (j:Nat) (xs:List Value),off+j+ys.length<=xs.length ->
  ((ys.zipIdx j).foldl (λcs p=>cs.setIfInBounds (off+p.2) p.1) xs.toArray)=(xs.take (off+j)++ys++xs.drop (off+j+ys.length)).toArray
 |[],j,xs,_=>by simp
 |y::ys,j,xs,h=>by
  simp only[La] at h;simp only[List.zipIdx_cons,List.foldl_cons,List.setIfInBounds_toArray];rw[LU off ys (j+1) (xs.set (off+j) y) (by simp;omega)];congr 1;have h1:(xs.set (off+j) y).take (off+(j+1))=xs.take (off+j)++[y]:=by rw[show off+(j+1)=off+j+1 by omega,List.take_succ_eq_append_getElem (by simp;omega)];simp[List.take_set_of_le]
  have h2:(xs.set (off+j) y).drop (off+(j+1)+ys.length)=xs.drop (off+j+(ys.length+1)):=by rw[List.drop_set_of_lt (by omega),show off+(j+1)+ys.length=off+j+(ys.length+1) by omega]
  rw[h1,h2];simp
theorem qqu{w:World}{L:Live}{pl:List (Nat×Nat)}{place:Nat->Option (Nat×Nat)}(hp:∀ i,place i=pl[i]?):∀ {parts:List (Nat×LV)} {vs:List (Nat×Value)} {cells:List LV} {xs:List Value} {cs:List LV},
  oa w L cells xs->parts.map (·.1)=vs.map (·.1)->oa w L (parts.map (·.2)) (vs.map (·.2))->xD pl cells parts=some cs->∃ ys:List Value,Instr.fill place xs.toArray vs=some ys.toArray/\oa w L cs ys
 |[],[],cells,xs,cs,h,_,_,hf=>by simp only[xD,jm] at hf;subst hf;exact⟨xs,rfl,h⟩
 |[],_::_,_,_,_,_,h,_,_=>by simp at h
 |_::_,[],_,_,_,_,h,_,_=>by simp at h
 |(i,lv)::parts,(i',v)::vs,cells,xs,cs,h,h1,h2,hf=>by
  simp only[jd,List.cons.injEq] at h1;obtain⟨rfl,h1⟩:=h1;simp only[jd,oa] at h2;obtain⟨y,ys,he,h2,h3⟩:=h2;simp only[List.cons.injEq] at he;obtain⟨rfl,rfl⟩:=he;simp only[xD] at hf;split at hf;rename_i off size KO Un W2;split at hf;rename_i hc;have hr:=h2.cells W2;have hl:=hr.length;have wC:=h.length;simp only[Instr.fill,hp,Un];have ld:v.cells.size=KO.length:=by simpa using hl
  rw[zn (by simp[ld,wC];omega)];have he:(v.cells.zipIdx.foldl (λcs (c,j)=>cs.setIfInBounds (off+j) c) xs.toArray)=(xs.take off++v.cells.toList++xs.drop (off+KO.length)).toArray:=by rw[<-Array.foldl_toList,Array.toList_zipIdx];have:=LU off v.cells.toList 0 xs (by simp[ld,wC];omega);rw[add_zero] at this;rw[this];simp[ld]
  rw[he];refine qqu hp ?_ h1 h3 hf;rw[mH _ _ _ hc.2];exact((h.take off).append hr).append (h.drop _);cases hf;cases hf
theorem qfB{P:Program}{w:World}:∀ {fs:List Field},(∀ f∈fs,(P.info? f.type).isSome) ->
  (fs.mapM λf=>(do Pure.pure (f.offset,<-sizeOf f.type):Sem (Nat×Nat))).run P w=.ok (fs.map λf=>(f.offset,P.cellsOf f.type)) w
 |[],_=>by simp
 |f::fs,h=>by obtain⟨i,hi⟩:=zR (h f (by simp));have ih:=qfB (P:=P) (w:=w) (fs:=fs) λg hg=>h g (Pc _ hg);simp only[List.mapM_cons,Ac,Ot hi,ad,Yd,ih,jd,Program.cellsOf,hi,map_some,Option.getD_some]
theorem tU{t:TypeId} [h:Og P t zs](w:World):∃ v,(zeroValue t).run P w=.ok v w/\v.cells=zs.toArray:=by obtain⟨i,v,hi,hz,hc,_⟩:=h.out;exact⟨v,by simp[zeroValue,kN hi,hz],hc⟩
theorem Wp{w:World}{L:Live}:∀ (zs:List Value),oa w L (zs.map .atom) zs
 |[]=>by simp[oa]
 |z::zs=>by simp only[jd,oa,xb];exact⟨z,zs,rfl,rfl,Wp zs⟩
theorem tM{ρ:Operand->Value}{w:World}{L:Live}(h:∀ x,xb w L (e.ev x) (ρ x)):∀ (xs:List Operand),oa w L (xs.map e.ev) (xs.map ρ)
 |[]=>by simp[oa]
 |x::xs=>by simp only[jd,oa];exact⟨_,_,rfl,h x,tM h xs⟩
theorem Pure.build{t:TypeId}{pl:List (Nat×Nat)}{zs:List Value} [hs:Ql C.P t pl] [hz:Og C.P t zs]{parts:List (Nat×Operand)}{cs:List LV}
  (h:xD pl (zs.map .atom) (parts.map λp=>(p.1,e.ev p.2))=some cs):Pure C ⟨dst,.build t parts.toArray,ty,ra,ua,g⟩ e H (.agg cs):=.Wa λρ w L hρ=>by
 obtain⟨fs,hu,Un,Bg⟩:=hs.out;have hp:∀ i:Nat,((fs.toList.map λf=>(f.offset,C.P.cellsOf f.type)).toArray)[i]? = pl[i]? := λi=>by rw[Un];simp
 have P3:=tM hρ (parts.map (·.2));have:=qqu hp (w:=w) (L:=L) (parts:=parts.map λp=>(p.1,e.ev p.2)) (vs:=parts.map λp=>(p.1,ρ p.2)) (Wp zs) (by simp[Function.comp_def]) (by simpa [Function.comp_def] using P3) h;obtain⟨ys,h1,h2⟩:=this;refine⟨.agg ys.toArray,by simp only[xb];exact⟨ys,rfl,h2⟩,λw'=>?_⟩;obtain⟨v,hv,hc⟩:=tU (P:=C.P) (t:=t) w';have h3:execOp ρ ⟨dst,.build t parts.toArray,ty,ra,ua,g⟩=(do Pure.pure (.value (<-Instr.build t (parts.toArray.map λ(i,x)=>(i,ρ x))))):=rfl
 have hm:(fs.mapM λf=>(do Pure.pure (f.offset,<-sizeOf f.type):Sem (Nat×Nat))).run C.P w'=.ok (fs.toList.map λf=>(f.offset,C.P.cellsOf f.type)).toArray w':=by
  rw[Array.mapM_eq_mapM_toList];rw[Sem.run_map,qfB (P:=C.P) (w:=w') (fs:=fs.toList) (λf hf=>Bg f (by simpa using hf))]
  try rfl
 rw[h3];simp only[Instr.build,Ac,hv,ad,ye hu w',hm,hc,map_toArray];rw[h1];try rfl
end reading
def Live.Kc(L:Live)(b n:Nat):Live:=λx=>if x=b then n else L x
theorem YY{o:Obj}(hb:b<w.heap.size):(w.heap.push o)[b]? = w.heap[b]? := by
 rw[Array.getElem?_push,zn (by omega)]
theorem Fq{o:Obj}:(w.heap.push o)[w.heap.size]? = some o:=by simp
def World.push(w:World)(o:Obj):World:={ w with heap:=w.heap.push o }
theorem AH(hwf:∀ b,w.heap.size<=b->L b=0)(o:Obj)(n:Nat):Ext w L (World.push w o) (L.Kc w.heap.size n):=by
 refine⟨by simp[World.push],λb hb=>?_,λb i hi=>?_,λb=>?_⟩;exact BF (YY hb);rcases Nat.lt_or_ge b w.heap.size with hb|hb;exact cell_of_heap (YY hb) i;rw[hwf b hb] at hi;omega;unfold Live.Kc;split
 rename_i h;subst h;rw[hwf _ (Jb _)];omega;exact Jb _
theorem Uy(hH:Ta C w L [])(o:Obj)(n:Nat)(H':Heap)(hk:∀ p∈H',p.1=w.heap.size/\rP (World.push w o) (L.Kc w.heap.size n) w.heap.size p.2)(hn:(H'.map (·.1)).Nodup) :
  Fr (keys []) w L (World.push w o) (L.Kc w.heap.size n) H'/\Ta C (World.push w o) (L.Kc w.heap.size n) H':=by
 have hx:=AH hH.wf o n;refine⟨⟨rfl,rfl,rfl,hx,λb hb _=>YY hb,λb hb _=>?_,λp hp=>.inr (by rw[(hk p hp).1];exact Jb _)⟩,⟨?_,trivial,?_,λb hb=>?_,hn,λp hp=>?_⟩⟩;simp only[Live.Kc];rw[zn (by omega)];exact hH.base.alloc hH.b0 o;exact Qf hH.b0 hx.size;simp only[World.push,Array.size_push] at hb;simp only[Live.Kc];rw[zn (by omega)];exact hH.wf b ga;obtain⟨h1,h2⟩:=hk p hp;rw[h1];exact⟨hH.b0,by simp[World.push],h2⟩
section steps
variable{C:Ctx}{e:Env}{H:Heap}{dst:Option Nat}{ty:TypeId}{ra:String}{ua:Array Edge}{g:Option (Nat×Bool)}{x y:Operand}{xT:TypeId}{k:IntKind}
 {K:LV->Heap->Prop} {X:List PanicEntry->Heap->Prop}
theorem qqH(hH:Ta C w L []){t:TypeId}(hr:oa w L cs xs)(hk:∀ b,K (ptr b 0) [(b,.cells t cs)]) :
  Left C w L [] (World.push w (.cells xs.toArray t)) (.pointer (some ⟨w.heap.size,0,none⟩)) K:=by
 have hx:=AH hH.wf (.cells xs.toArray t) 0;have:=Uy hH (.cells xs.toArray t) 0 [(w.heap.size,.cells t cs)] (λp hp=>by
  simp only[mem_singleton] at hp;subst hp;exact⟨rfl,by simp[Live.Kc],xs,Fq,hr.mono hx _ _⟩) (by simp)
 exact⟨_,_,_,this.1,this.2,zd,hk _⟩
theorem Ya.alloc{t:TypeId}{zs:List Value} [hz:Og C.P t zs](hk:∀ b,K (ptr b 0) [(b,.cells t (zs.map .atom))]):Ya C ⟨dst,.alloc t,ty,ra,ua,g⟩ e [] K X:=λρ w L _ hH=>by
 obtain⟨v,hv,hc⟩:=tU (P:=C.P) (t:=t) w;have h3:execOp ρ ⟨dst,.alloc t,ty,ra,ua,g⟩=(do Pure.pure (.value (<-Instr.alloc t true (.tuple #[])))):=rfl;have h4:(Instr.alloc t true (.tuple #[])).run C.P w=.ok (.pointer (some ⟨w.heap.size,0,none⟩)) (World.push w (.cells zs.toArray t)):=by simp only[Instr.alloc,Ac,hv,ad,newVar,newRow,hc];rfl
 rw[h3,Ac,h4];exact qqH hH (Wp zs) hk
theorem Ya.box{t:TypeId}{cs:List LV}(hx:(e.ev x).cells? = some cs)(hk:∀ b,K (ptr b 0) [(b,.cells t cs)]):Ya C ⟨dst,.box t x,ty,ra,ua,g⟩ e [] K X:=λρ w L h hH=>by
 have hr:=(h x).cells hx;have h3:execOp ρ ⟨dst,.box t x,ty,ra,ua,g⟩=(do Pure.pure (.value (<-Instr.box t (ρ x)))):=rfl;have h4:(Instr.box t (ρ x)).run C.P w=.ok (.pointer (some ⟨w.heap.size,0,none⟩)) (World.push w (.cells (ρ x).cells t)):=by simp only[Instr.box,Ac,newVar,newRow];rfl
 rw[h3,Ac,h4];have:=qqH (K:=K) hH (t:=t) hr hk;rw[Array.toArray_toList] at this;exact this
def yq:LV->Bool
 |.agg _|.tuple _|.atom (.agg _)|.atom (.tuple _)=>false
 |_=>true
theorem xb.flat{x:Value}(h:xb w L c x)(hc:yq c=true):(∀ cs,x≠.agg cs)/\(∀ cs,x≠.tuple cs):=by
 cases c <;> simp only[xb] at h <;> simp only[yq,Uk] at hc
 case atom v=>subst h;cases x <;> simp_all
 case list es=>obtain⟨a,cap,rfl,_⟩:=h;simp
 case app b cap k es=>obtain⟨rfl,_⟩:=h;simp
 case ref cs=>obtain⟨b,off,rfl,_⟩:=h;simp
theorem qjX{a:Addr}{old:Value}(hc:w.cell? a=some old)(hf:w.frozen? a=false)(h1:∀ cs,v≠.agg cs)(h2:∀ cs,v≠.tuple cs):(store a v).run P w=.ok () (w.setCell a v):=by cases v <;> simp_all [store,Sem.run]
theorem qiU{t:TypeId}{fr:Nat×Nat}(h:w.heap[b]? = some (.cells xs.toArray t fr)) :
  (w.setCell ⟨b,off,none⟩ v).heap[b]? = some (.cells (xs.set off v).toArray t fr):=by
 simp[World.setCell,Array.getElem?_modify,h]
theorem kK{P:Program}{b off:Nat}{t:TypeId}{fr:Nat×Nat}:∀ (vs:List Value) (i:Nat) (w:World) (xs:List Value),w.heap[b]? = some (.cells xs.toArray t fr)->off+i+vs.length<=xs.length ->
  (∀ j,off+i<=j->j<off+i+vs.length->¬ (fr.1<=j/\j<fr.2)) ->
  (∀ v∈vs,(∀ cs,v≠.agg cs)/\(∀ cs,v≠.tuple cs)) ->
  ∃ w',(storeCells ⟨b,off,none⟩ vs i).run P w=.ok () w'/\w'.os=w.os/\w'.tape=w.tape/\w'.output=w.output/\w'.heap.size=w.heap.size/\(∀ c,c≠b->w'.heap[c]? = w.heap[c]?) /\
   w'.heap[b]? = some (.cells (xs.take (off+i)++vs++xs.drop (off+i+vs.length)).toArray t fr)
 |[],i,w,xs,hb,_,_,_=>⟨w,by simp[storeCells],rfl,rfl,rfl,rfl,λ_ _=>rfl,by simpa using hb⟩
 |v::vs,i,w,xs,hb,hl,cm,hv=>by
  simp only[La] at hl cm;have hc:∃ old,w.cell? ⟨b,off+i,none⟩=some old:=by refine⟨xs[off+i]'(by omega),?_⟩;simp[World.cell?,hb]
  obtain⟨old,hc⟩:=hc;have hf:w.frozen? ⟨b,off+i,none⟩=false:=by obtain⟨lo,hi⟩:=fr;have:=cm (off+i) ga ga;simp only[World.frozen?,hb];simp only[Bool.and_eq_false_iff,decide_eq_false_iff_not];simp only at this;omega
  have hs:=qjX (P:=P) hc hf (hv v (by simp)).1 (hv v (by simp)).2;obtain⟨w',h1,h2,h3,h4,h5,h6,h7⟩:=kK (P:=P) (off:=off) vs (i+1) (w.setCell ⟨b,off+i,none⟩ v) (xs.set (off+i) v) (qiU hb) (by simp;omega) (λj h1 h2=>cm j ga ga) λu hu=>hv u (Pc _ hu);refine⟨w',?_,h2,h3,h4,?_,λc hc=>?_,?_⟩;simp only[storeCells,Cf,Ac,hs,ad,h1];rw[h5];simp[World.setCell];rw[h6 c hc];simp only[World.setCell,Array.getElem?_modify];rw[zn (by simpa using Ne.symm hc)];rw[h7];congr 2
  have e1:(xs.set (off+i) v).take (off+(i+1))=xs.take (off+i)++[v]:=by rw[show off+(i+1)=off+i+1 by omega,List.take_succ_eq_append_getElem (by simp;omega)];simp[List.take_set_of_le]
  have e2:(xs.set (off+i) v).drop (off+(i+1)+vs.length)=xs.drop (off+i+(vs.length+1)):=by rw[List.drop_set_of_lt (by omega),show off+(i+1)+vs.length=off+i+(vs.length+1) by omega]
  rw[e1,e2];simp
theorem YP{w:World}{L:Live}:∀ {cs:List LV} {xs:List Value},oa w L cs xs->(cs.all yq)=true->∀ v∈xs,(∀ cs,v≠.agg cs)/\(∀ cs,v≠.tuple cs)
 |[],_,h,_=>by simp only[oa] at h;subst h;simp
 |c::cs,_,h,hc=>by simp only[oa] at h;obtain⟨y,ys,rfl,h1,h2⟩:=h;simp only[List.all_cons,sd] at hc;intro v hv;rcases zc.1 hv with rfl|hv;exact h1.flat hc.1;exact YP h2 hc.2 v hv
class Wq (P:Program) (t:TypeId) (n:outParam Nat):Prop where
 size:∃ i,P.info? t=some i/\i.size=n
def U9(P:Program)(t n:Nat):Bool:=match P.info? t with|some i=>i.size == n|none=>false
theorem Wq.of(h:U9 P t n=true):Wq P t n:=by
 unfold U9 at h;cases hi:P.info? t with
 |none=>rw[hi] at h;simp at h
 |some i=>rw[hi] at h;exact⟨i,hi,by simpa using h⟩
theorem sQ{t:TypeId}{OA:List Value}(hH:Ta C w L [(b,.cells t cs)])(h1:w'.os=w.os)(h2:w'.tape=w.tape)(h3:w'.output=w.output)
  (h4:w'.heap.size=w.heap.size) (h5:∀ c,c≠b->w'.heap[c]? = w.heap[c]?) (h6:w'.heap[b]? = some (.cells OA.toArray t (0,0))) (h7:OA.length=cs.length)
  (h8:oa w L Ob OA) {v:Value} {lv:LV} (hv:xb w L lv v) (hk:K lv [(b,.cells t Ob)]):Left C w L [(b,.cells t cs)] w' v K:=by
 obtain⟨Le,Of,hl,xs,td,Gd⟩:=hH.uc _ (Mo rfl);simp only at Le Of hl td Gd;have hx:Ext w L w' L:=by
  refine⟨by rw[h4];exact Jb _,λc hc=>?_,λc i hi=>?_,λ_=>Jb _⟩
  by_cases he:c=b;subst he;simp only[World.shape?,td,h6];rw[size_toArray,size_toArray,h7,Gd.length];exact BF (h5 c he);exact uE
 refine⟨lv,[(b,.cells t Ob)],L,⟨h1,h2,h3,hx,λc hc hn=>h5 c (by simpa using hn),λ_ _ _=>rfl,λp hp=>.inl (by simp only[mem_singleton] at hp;subst hp;simp)⟩,
  ⟨?_,hH.ui,by rw[h4];exact hH.b0,by rw[h4];exact hH.wf,by simp,λp hp=>?_⟩,hv.mono hx _ _,hk⟩
 exact hH.base.trans ⟨h1,h2,h3,by rw[h4];exact Jb _,λc hc=>h5 c ga⟩;simp only[mem_singleton] at hp;subst hp;exact⟨Le,by rw[h4];exact Of,hl,OA,h6,h8.mono hx _ _⟩
theorem Ya.store{t n:Nat} [ht:Wq C.P t n]{b off Oo:Nat}{cs vs:List LV}(hx:e.ev x=ptr b off)(hy:(e.ev y).cells? = some vs)(hn:vs.length=n)(hl:off+n<=cs.length)(Dc:vs.all yq=true)
  (hk:K (.atom undef) [(b,.cells Oo (ed cs off vs))]):Ya C ⟨dst,.store t x y,ty,ra,ua,g⟩ e [(b,.cells Oo cs)] K X:=λρ w L h hH=>by
 obtain⟨Le,Of,uz,xs,td,Gd⟩:=hH.uc _ (Mo rfl);simp only at Le Of uz td Gd;have hr:=(h y).cells hy;have Cl:=hr.length;have P2:=Gd.length;obtain⟨i,hi,ld⟩:=ht.size;obtain⟨w',r1,r2,r3,r4,r5,r6,r7⟩:=kK (P:=C.P) (off:=off) (ρ y).cells.toList 0 w xs td ga (λj _ _=>by simp) (YP hr Dc);have h3:execOp ρ ⟨dst,.store t x y,ty,ra,ua,g⟩=(do Instr.storeAt t (ρ x) (ρ y);Pure.pure .skip):=rfl;have hs:(ρ y).cells.size=n:=by rw[<-hn,<-Cl];simp
 rw[h3,Zb h hx];simp only[Instr.storeAt,Instr.sureAddr,Ac,Yd,ad,storeVar,Ot hi,ld,hs,ne_eq,not_true_eq_false,if_false];rw[r1];refine sQ hH r2 r3 r4 r5 r6 r7 ?_ ?_ zd hk;simp;omega;rw[mH cs off vs (by omega)];rw[Cl,add_zero];exact((Gd.take off).append hr).append (Gd.drop _)
class Tb (P:Program) (f:FuncId):Prop where
 out : ∃ fn, P.funcs[f]? = some fn ∧ (fn.name == "runtime.NumGoroutine") = false ∧ fn.body.isNone = false
def qqD (P : Program) (f : FuncId) : Bool := match P.funcs[f]? with | some fn => !(fn.name == "runtime.NumGoroutine") && fn.body.isSome | none => false
theorem Tb.of(h:qqD P f=true):Tb P f:=by
 unfold qqD at h;cases hf:P.funcs[f]? with
 |none=>rw[hf] at h;cases h
 |some fn=>rw[hf] at h;simp only[sd,Bool.not_eq_true'] at h;exact⟨fn,hf,h.1,by cases hb:fn.body <;> simp_all⟩
theorem V0 [h:Tb P f](args:Array Value)(w:World):(callFunc f args).run P w=.ok (.enter f args) w:=by obtain⟨fn,h1,h2,h3⟩:=h.out;have h0:(program).run P w=.ok P w:=rfl;simp only[callFunc,Ac,h0,ad,h1,h2,h3,Uk,if_false,Yd]
theorem Ya.Ml{fo:Operand}{f:FuncId} [Tb C.P f]{first ib:Array Value}{args:List Operand}(hf:e.ev fo=.atom (.func (.func f) first ib))
  (hc:ca C f (first.toList.map .atom++args.map e.ev++ib.toList.map .atom) H R) (hk:∀ v H,R (.ret v) H->K v H) (hx:∀ ch H,R (.panic ch) H->X ch H) :
  Ya C ⟨dst,.call { callee:=.value fo,args:=args.toArray,argTypes:=Rd },ty,ra,ua,g⟩ e H K X:=λρ w L h hH=>by
 have h3:execOp ρ ⟨dst,.call { callee:=.value fo,args:=args.toArray,argTypes:=Rd },ty,ra,ua,g⟩=(do let d <-Deferred.ofValue (ρ fo) (args.toArray.map ρ);invoke d.target d.args):=rfl;rw[h3,Zb h hf];simp only[Deferred.ofValue,Ac,Yd,ad,invoke,V0];refine⟨rfl,?_⟩;have:=hc (first.toList++args.map ρ++ib.toList) w L ((((Wp _).append (tM h _))).append (Wp _)) hH;simp only[<-List.append_toArray,Array.toArray_toList] at this;simp only[map_toArray];exact this.mono (kA.mono (λv H hv=>hk v H hv) λch H hv=>hx ch H hv)
theorem Ya.call{f:FuncId} [Tb C.P f]{args:List Operand}{Rd:Array TypeId}{R:Ie->Heap->Prop}
  (hc:ca C f (args.map e.ev) H R) (hk:∀ v H,R (.ret v) H->K v H) (hx:∀ ch H,R (.panic ch) H->X ch H) :
  Ya C ⟨dst,.call { callee:=.value (.func f),args:=args.toArray,argTypes:=Rd },ty,ra,ua,g⟩ e H K X:=
 Ya.Ml (f:=f) (first:=#[]) (ib:=#[]) rfl (by simpa using hc) hk hx
theorem Ya.panic{t:TypeId}{v:Value}(hx:e.ev x=.atom (.iface t v))(hk:X [{ v:=.iface t v,recovered:=false }] H):Ya C ⟨dst,.panic x,ty,ra,ua,g⟩ e H K X:=λρ w L h hH=>by have h3:execOp ρ ⟨dst,.panic x,ty,ra,ua,g⟩=(do Pure.pure (.value (<-Instr.panic (ρ x)))):=rfl;rw[h3,Zb h hx];simp only[Instr.panic,goPanic,Ac,Sem.run_halt,Result.andThen_halt];exact⟨H,L,Fr.refl _ _ _,hH,hk⟩
theorem qqE{size:Nat}:∀ (vs:List Value) (i:Nat) (xs:List Value),(∀ v∈vs,v.cells.size=size)->(i+vs.length) * size<=xs.length ->
  Instr.fill (λi=>some (i * size,size)) xs.toArray ((List.range' i vs.length).zip vs)=some (xs.take (i * size)++vs.flatMap (λv=>v.cells.toList)++xs.drop ((i+vs.length) * size)).toArray
 |[],i,xs,_,_=>by simp[Instr.fill]
 |v::vs,i,xs,h,hl=>by
  have hv:=h v (by simp);simp only[La] at hl;have Rx:i * size+size+vs.length * size<=xs.length:=by
   have:(i+(vs.length+1)) * size=i * size+size+vs.length * size:=by rw[add_mul,add_mul];omega
   omega
  simp only[La,List.range'_succ,List.zip_cons_cons,Instr.fill];rw[zn (by simp[hv];omega)];have he:(v.cells.zipIdx.foldl (λcs (c,j)=>cs.setIfInBounds (i * size+j) c) xs.toArray)=(xs.take (i * size)++v.cells.toList++xs.drop (i * size+size)).toArray:=by rw[<-Array.foldl_toList,Array.toList_zipIdx];have:=LU (i * size) v.cells.toList 0 xs (by simp[hv];omega);rw[add_zero] at this;rw[this];simp[hv]
  rw[he];have ha:(i+1) * size=i * size+size:=by rw[add_mul];omega
  have hb:(i+1+vs.length) * size=i * size+size+vs.length * size:=by rw[add_mul,add_mul];omega
  have hc:(i+(vs.length+1)) * size=i * size+size+vs.length * size:=by rw[add_mul,add_mul];omega
  have na:(xs.take (i * size)++v.cells.toList++xs.drop (i * size+size)).length=xs.length:=by simp[hv];omega
  rw[qqE vs (i+1) _ (λu hu=>h u (Pc _ hu)) (by rw[na,hb];omega)];congr 2
  have e1:(xs.take (i * size)++v.cells.toList++xs.drop (i * size+size)).take ((i+1) * size)=xs.take (i * size)++v.cells.toList:=by rw[ha,List.take_append_of_le_length (by simp[hv];omega),List.take_of_length_le (by simp[hv];omega)]
  have e2:(xs.take (i * size)++v.cells.toList++xs.drop (i * size+size)).drop ((i+1+vs.length) * size)=xs.drop ((i+(vs.length+1)) * size):=by rw[hb,hc,List.drop_append,List.drop_eq_nil_of_le (by simp[hv];omega)];simp[hv,List.drop_drop];congr 1;omega
  rw[e1,e2];simp
theorem Rb.of_heap{w:World}{L:Live}{b:Nat}{t:TypeId}{fr:Nat×Nat}:∀ {cs:List LV} {off:Nat} {ys:List Value} (pre post:List Value),w.heap[b]? = some (.cells (pre++ys++post).toArray t fr)->pre.length=off->off+ys.length<=L b ->
  oa w L cs ys->Rb w L b off cs
 |[],_,_,_,_,_,_,_,_=>by simp[Rb]
 |c::cs,off,ys,pre,post,hb,hp,hl,h=>by simp only[oa] at h;obtain⟨y,MW,rfl,h1,h2⟩:=h;simp only[La] at hl;simp only[Rb];refine⟨by omega,⟨y,?_,h1⟩,Rb.of_heap (pre++[y]) post (by simpa using hb) (by simp[hp]) ga h2⟩;simp only[World.cell?,hb];subst hp;simp
theorem Qc.of_heap{w:World}{L:Live}{b k:Nat}{t:TypeId}{fr:Nat×Nat}:∀ {es:List LV} {off:Nat} {vs:List Value} (pre post:List Value),w.heap[b]? = some (.cells (pre++vs.flatMap (λv=>v.cells.toList)++post).toArray t fr)->pre.length=off ->
  off+es.length * k<=L b->(∀ v∈es,v.cells? = some v.cells/\v.cells.length=k)->oa w L es vs->Qc w L b k off es
 |[],_,_,_,_,_,_,_,_,_=>by simp[Qc]
 |c::cs,off,vs,pre,post,hb,hp,hl,hk,h=>by
  simp only[oa] at h;obtain⟨y,MW,rfl,h1,h2⟩:=h;have hc:=hk c (by simp);have hr:=h1.cells hc.1;have ZF:y.cells.size=k:=by rw[<-hc.2,<-hr.length];simp
  simp only[La,add_mul,Nat.one_mul] at hl;refine Qc.cons hc.2 (Rb.of_heap (t:=t) (fr:=fr) pre (MW.flatMap (λv=>v.cells.toList)++post) (by simpa using hb) hp (by simp[ZF];omega) hr) ?_;exact Qc.of_heap (t:=t) (fr:=fr) (pre++y.cells.toList) post (by simpa using hb) (by simp[hp,ZF]) ga (λv hv=>hk v (Pc _ hv)) h2
def dA(s:Nat)(es:List LV):Prop:=∀ v∈es,v.cells? = some v.cells/\v.cells.length=s
theorem Ch:dA s []:=by simp[dA]
theorem gd{e:LV}(h1:e.cells? = some e.cells)(h2:e.cells.length=s)(h:dA s es):dA s (e::es):=λv hv=>by rcases zc.1 hv with rfl|hv;exact⟨h1,h2⟩;exact h v hv
theorem qgC{s:Nat}:∀ (vs:List Value),(∀ v∈vs,v.cells.size=s)->(vs.flatMap λv=>v.cells.toList).length=vs.length * s
 |[],_=>by simp
 |v::vs,h=>by have ih:=qgC vs λu hu=>h u (Pc _ hu);have hv:=h v (by simp);simp only[flatMap_cons,Ga,ih,La,Array.length_toList,hv,add_mul];omega
theorem MZ{w:World}{L:Live}{s:Nat}:∀ {es:List LV} {vs:List Value},oa w L es vs->dA s es->∀ v∈vs,v.cells.size=s
 |[],_,h,_=>by simp only[oa] at h;subst h;simp
 |c::cs,_,h,hc=>by simp only[oa] at h;obtain⟨y,ys,rfl,h1,h2⟩:=h;intro v hv;rcases zc.1 hv with rfl|hv;have:=hc c (by simp);rw[<-this.2,<-(h1.cells this.1).length];simp;exact MZ h2 (λu hu=>hc u (Pc _ hu)) v hv
theorem qkb(hH:Ta C w L []){vs da:List Value}(hr:oa w L es vs)(Dc:dA s es)(Ue:es.length<=cap)(ld:cap * s<=es.length * s+da.length)
  (hk:∀ b,K (.app b cap s es) [(b,.row (es.length * s))]) :
  Left C w L [] (World.push w (.cells (vs.flatMap (λv=>v.cells.toList)++da).toArray t)) (.slice (some ⟨w.heap.size,0,none⟩) es.length cap) K:=by
 have hl:=hr.length;have Mk:=qgC vs (MZ hr Dc);rw[hl] at Mk;have hx:=AH hH.wf (.cells (vs.flatMap (λv=>v.cells.toList)++da).toArray t) (es.length * s);have:=Uy hH (.cells (vs.flatMap (λv=>v.cells.toList)++da).toArray t) (es.length * s) [(w.heap.size,.row (es.length * s))] (λp hp=>by
  simp only[mem_singleton] at hp;subst hp;exact⟨rfl,by simp[Live.Kc],_,t,(0,0),Fq,by simp only[size_toArray,Ga,Mk];omega,Nat.zero_le _⟩) (by simp)
 refine⟨.app w.heap.size cap s es,_,_,this.1,this.2,?_,hk _⟩;simp only[xb];refine⟨trivial,Ue,?_,t,_,by simp only[World.shape?,World.push];rw[Fq],by simp only[size_toArray,Ga,Mk];exact ld⟩;exact Qc.of_heap (t:=t) (fr:=(0,0)) [] da (by simp only[World.push,List.nil_append];exact Fq) rfl (by simp[Live.Kc]) Dc (hr.mono hx _ _)
theorem Ya.buildSlice{t el s:Nat}{zs:List Value} [ht:Oa C.P t el s] [hz:Og C.P el zs]{xs:List Operand}(Dc:dA s (xs.map e.ev))(ld:xs.length * s<=16777216){parts:List (Nat×Operand)}(hp:parts=(List.range xs.length).zip xs)
  {len:Nat} (na:len=xs.length) (hk:∀ b,K (.app b len s (xs.map e.ev)) [(b,.row (len * s))]):Ya C ⟨dst,.buildSlice t len parts.toArray,ty,ra,ua,g⟩ e [] K X:=λρ w L h hH=>by
 subst na hp;obtain⟨i,hi,P4⟩:=ht.size;obtain⟨v0,dG,bL⟩:=tU (P:=C.P) (t:=el) w;have hr:=tM h xs;have MV:=MZ hr Dc;have h3:execOp ρ ⟨dst,.buildSlice t xs.length ((List.range xs.length).zip xs).toArray,ty,ra,ua,g⟩=(do Pure.pure (.value (<-Instr.buildSlice t xs.length (((List.range xs.length).zip xs).toArray.map λ(i,x)=>(i,ρ x))))):=rfl
 have rG:(((List.range xs.length).zip xs).map λp=>(p.1,ρ p.2))=(List.range' 0 (xs.map ρ).length).zip (xs.map ρ):=by rw[Db,<-List.range_eq_range',List.zip_map_right];try rfl
 have key:∀ (IA:Array Value),Instr.fill (λi=>some (i * s,s)) ((Array.range (xs.length * s)).map (IA[· % IA.size]!)) (((List.range xs.length).zip xs).toArray.map λ(i,x)=>(i,ρ x)).toList =
   some ((xs.map ρ).flatMap λv=>Value.cells v |>.toList).toArray:=λIA=>by
  have WK:=qqE (size:=s) (xs.map ρ) 0 ((Array.range (xs.length * s)).map (IA[· % IA.size]!)).toList MV (by simp);rw[Array.toArray_toList] at WK;have Yu:(((List.range xs.length).zip xs).toArray.map λ(i,x)=>(i,ρ x)).toList=(List.range' 0 (xs.map ρ).length).zip (xs.map ρ):=by rw[<-rG];simp
  rw[Yu,WK];simp
 have cL:(Instr.buildSlice t xs.length (((List.range xs.length).zip xs).toArray.map λ(i,x)=>(i,ρ x))).run C.P w =
   .ok (.slice (some ⟨w.heap.size,0,none⟩) xs.length xs.length) (World.push w (.cells ((xs.map ρ).flatMap λv=>Value.cells v |>.toList).toArray el)):=by
  have hg:¬ (xs.length * s > 2 ^ 24):=by simp;omega
  simp only[Instr.buildSlice,Ac,ye ht.De,ad,Ot hi,P4];rw[zn hg];by_cases h0:xs.length * s=0;rw[zp h0];simp only[Ac,Yd,ad,key #[]];rfl;rw[zn h0];simp only[Ac,Yd,ad,dG,key v0.cells];rfl
 rw[h3,Ac,cL];have:=qkb (K:=K) (t:=el) (cap:=xs.length) (da:=[]) hH hr Dc (by simp) (by simp) (by simpa using hk);simp only[de,Db] at this;exact this
theorem Rb.append{w:World}{L:Live}{b:Nat}:∀ {Mc bs:List LV} {off:Nat},Rb w L b off Mc->Rb w L b (off+Mc.length) bs->Rb w L b off (Mc++bs)
 |[],_,_,_,h=>by simpa using h
 |a::Mc,bs,off,h1,h2=>by simp only[Rb,cons_append] at h1 ⊢;refine⟨h1.1,h1.2.1,Rb.append h1.2.2 ?_⟩;simpa [show off+1+Mc.length=off+(Mc.length+1) by omega] using h2
theorem Rb.left{bs:List LV}(h:Rb w L b off (Mc++bs)):Rb w L b off Mc:=by have:=h.take Mc.length;simpa using this
theorem Rb.right{bs:List LV}(h:Rb w L b off (Mc++bs)):Rb w L b (off+Mc.length) bs:=by have:=h.drop Mc.length;simpa using this
theorem Qc.u7{w:World}{L:Live}{b k:Nat}:∀ {es:List LV} {off:Nat},Qc w L b k off es->Rb w L b off (es.flatMap LV.cells)
 |[],_,_=>by simp[Rb]
 |e::es,off,h=>by have h1:=h.cell;rw[flatMap_cons];refine Rb.append h1.2 ?_;rw[h1.1];exact Qc.u7 h.tail
theorem Qc.EQ{w:World}{L:Live}{b k:Nat}:∀ {es:List LV} {off:Nat},(∀ e∈es,e.cells.length=k)->Rb w L b off (es.flatMap LV.cells)->Qc w L b k off es
 |[],_,_,_=>by simp[Qc]
 |e::es,off,hk,h=>by rw[flatMap_cons] at h;have h1:=hk e (by simp);refine Qc.cons h1 h.left (Qc.EQ (λv hv=>hk v (Pc _ hv)) ?_);rw[<-h1];exact h.right
theorem Qc.Xw{w:World}{L:Live}{b k:Nat}:∀ {es:List LV} {off:Nat},Qc w L b k off es->∀ e∈es,e.cells.length=k
 |[],_,_=>by simp
 |e::es,_,h=>λv hv=>by rcases zc.1 hv with rfl|hv;exact h.cell.1;exact Qc.Xw h.tail v hv
theorem RD{k:Nat}:∀ {es:List LV},(∀ e∈es,e.cells.length=k)->(es.flatMap LV.cells).length=es.length * k
 |[],_=>by simp
 |e::es,h=>by rw[flatMap_cons,Ga,h e (by simp),RD λv hv=>h v (Pc _ hv),La,add_mul];omega
theorem Rb.ph{w:World}{L:Live}{b:Nat}:∀ {cs:List LV} {off:Nat} {ys:List Value},oa w L cs ys->off+ys.length<=L b->(∀ j x,ys[j]? = some x->w.cell? ⟨b,off+j,none⟩=some x)->Rb w L b off cs
 |[],_,_,_,_,_=>by simp[Rb]
 |c::cs,off,_,h,hl,hc=>by
  simp only[oa] at h;obtain⟨y,ys,rfl,h1,h2⟩:=h;simp only[La] at hl;simp only[Rb];refine⟨by omega,⟨y,hc 0 y rfl,h1⟩,Rb.ph h2 ga λj x hx=>?_⟩;have:=hc (j+1) x (by simpa using hx)
  rwa [show off+(j+1)=off+1+j by omega] at this
class xh (P:Program) (el:TypeId) (s bytes:outParam Nat):Prop where
 out:∃ i v,P.info? el=some i/\i.size=s/\i.bytes=bytes/\0<bytes/\i.zero=some v/\v.cells.size=s
def S7(P:Program)(el s bytes:Nat):Bool:=
 match P.info? el with
 |some i=>i.size == s && i.bytes == bytes && Nat.blt 0 bytes && (match i.zero with|some v=>v.cells.size == s|none=>false)
 |none=>false
theorem xh.of(h:S7 P el s bytes=true):xh P el s bytes:=by
 unfold S7 at h;cases hi:P.info? el with
 |none=>rw[hi] at h;simp at h
 |some i=>
  rw[hi] at h;simp only[sd,beq_iff_eq] at h;obtain⟨⟨⟨h1,h2⟩,h3⟩,h4⟩:=h;cases hz:i.zero with
  |none=>rw[hz] at h4;simp at h4
  |some v=>rw[hz] at h4;exact⟨i,v,hi,h1,h2,by simpa using h3,hz,by simpa using h4⟩
theorem CV{xT:Nat} [ht:Oa P sT el s] [hr:xh P el s bytes]{a:Option Addr}
  (Kx:P.underlying xT=some .string∨∃ e2,P.underlying xT=some (.slice e2)) (na:∀ w':World,(Builtin.lenOf xv).run P w'=.ok n w')
  (Dl:∀ w':World,w'.heap=w.heap->(Builtin.firstCells s n xv).run P w'=.ok new.toArray w') (hc:len+n<=cap) :
  (Builtin.append_ #[sT,xT] ty #[.slice a len cap,xv]).run P w =
   ((match a with|some a=>storeCells (a.add (len * s)) new|none=>Pure.pure ()).run P w).andThen λ_ w'=>.ok (.slice a (len+n) cap) w':=by
 obtain⟨i,z,hi,hs,hb,Le,hz,uN⟩:=hr.out;subst hs;have hn:=Dl w rfl;rcases Kx with hd|⟨e2,hd⟩ <;> cases a <;> simp[Builtin.append_,ye ht.De,ye hd,sizeOf,typeInfo,hi,na,hc,hn]
theorem PH{xT:Nat} [ht:Oa P sT el s] [hr:xh P el s bytes]{a:Option Addr}{old:List Value}
  (Kx:P.underlying xT=some .string∨∃ e2,P.underlying xT=some (.slice e2)) (na:∀ w':World,(Builtin.lenOf xv).run P w'=.ok n w')
  (Dl:∀ w':World,w'.heap=w.heap->(Builtin.firstCells s n xv).run P w'=.ok new.toArray w') (hold:∀ w':World,w'.heap=w.heap->(Builtin.firstCells s len (.slice a len cap)).run P w'=.ok old.toArray w')
  (Xa:(len+n) * bytes<=140737488355328) (hc:cap<len+n) :
  ∃ ff da,len+n<=ff/\da.length=(ff-(len+n)) * s/\(Builtin.append_ #[sT,xT] ty #[.slice a len cap,xv]).run P w =
   .ok (.slice (some ⟨w.heap.size,0,none⟩) (len+n) ff) (World.push w.drew (.cells (old++new++da).toArray el)):=by
 obtain⟨i,z,hi,hs,hb,Le,hz,uN⟩:=hr.out;subst hs;have hn':¬ (len+n<=cap):=by omega
 have hmul:len+n<=(len+n) * bytes:=Nat.le_mul_of_pos_right _ Le;have uL:¬ (9223372036854775807<((len:Int)+(n:Int))):=by omega
 have Be:=growslice_fits (bytes:=bytes) hc Xa;have wL:¬ (281474976710656<Builtin.nextslicecap (len+n) cap * i.bytes):=by rw[hb];omega
 have hf:=Dl w.drew rfl;have hfo:=hold w.drew rfl;refine⟨grownCap w (len+n) cap el,(Builtin.zeroCells z.cells (grownCap w (len+n) cap el-(len+n))).toList,?_,?_,?_⟩;simp[grownCap,Question.cut];simp[Builtin.zeroCells,uN];rcases Kx with hd|⟨e2,hd⟩;all_goals
  simp[Builtin.append_,ye ht.De,ye hd,sizeOf,typeInfo,zeroValue,hi,hz,na,hn',uL,wL,Question.forced,hf,hfo,newRow,grownCap];show World.push w.drew _=World.push w.drew _;congr 2;apply Array.ext';simp
theorem Fr.wide{K K':List Nat}{L':Live}(h:Fr K w L w' L' H')(hk:∀ b∈K,b∈K'):Fr K' w L w' L' H':=
 ⟨h.os,h.tape,h.output,h.ext,λb hb hn=>h.block b hb λk=>hn (hk b k),λb hb hn=>h.Qi b hb λk=>hn (hk b k),λp hp=>(h.oA p hp).imp (hk _) id⟩
theorem Fr.Re{K:List Nat}{L':Live}(h:Fr K w.drew L w' L' H'):Fr K w L w' L' H':=
 ⟨h.os,h.tape,h.output,⟨h.ext.size,h.ext.shape,h.ext.live,h.ext.mono⟩,h.block,h.Qi,h.oA⟩
theorem HH(w:World)(L:Live):Ext w L w.drew L:=⟨Jb _,λ_ _=>rfl,λ_ _ _=>rfl,λ_=>Jb _⟩
theorem Ta.drew{w:World}{L:Live}(h:Ta C w L H):Ta C w.drew L H:=
 ⟨h.base.drew,h.ui,h.b0,h.wf,h.nodup,λp hp=>⟨(h.uc p hp).1,(h.uc p hp).2.1,(h.uc p hp).2.2.XF (HH w L) rfl rfl⟩⟩
theorem qi9(hH:Ta C w L []){es:List LV}{da:List Value}(hr:oa w L (es.flatMap LV.cells) xs)(Dc:∀ v∈es,v.cells.length=s)(Ue:es.length<=cap)(ld:cap * s<=es.length * s+da.length)
  (hk:∀ b,K (.app b cap s es) [(b,.row (es.length * s))]) :
  Left C w L [] (World.push w (.cells (xs++da).toArray t)) (.slice (some ⟨w.heap.size,0,none⟩) es.length cap) K:=by
 have hl:xs.length=es.length * s:=by rw[hr.length,RD Dc]
 have hx:=AH hH.wf (.cells (xs++da).toArray t) (es.length * s);have:=Uy hH (.cells (xs++da).toArray t) (es.length * s) [(w.heap.size,.row (es.length * s))] (λp hp=>by
  simp only[mem_singleton] at hp;subst hp;exact⟨rfl,by simp[Live.Kc],_,t,(0,0),Fq,by simp only[size_toArray,Ga,hl];omega,Nat.zero_le _⟩) (by simp)
 refine⟨.app w.heap.size cap s es,_,_,this.1,this.2,?_,hk _⟩;simp only[xb];refine⟨trivial,Ue,?_,t,_,by simp only[World.shape?,World.push];rw[Fq],by simp only[size_toArray,Ga,hl];exact ld⟩;refine Qc.EQ Dc (Rb.ph (hr.mono hx _ _) (by simp[Live.Kc,hl]) λj x hj=>?_);have hb:(World.push w (.cells (xs++da).toArray t)).heap[w.heap.size]? = some (.cells (xs++da).toArray t (0,0)):=Fq;simp only[World.cell?,hb];simp only[isSome_none,Uk,if_false,zero_add,List.getElem?_toArray];rw[List.getElem?_append_left (List.getElem?_eq_some_iff.1 hj).1];exact hj
theorem iK{v:Value}{es:List LV}(h:xb w L lv v)(he:elems lv=some es)(hs:∀ v∈es,v.cells.length=s) :
  ∃ a cap xs,v=.slice a es.length cap/\es.length<=cap/\oa w L (es.flatMap LV.cells) xs/\xs.length=es.length * s /\
   ∀ (P:Program) (w':World),w'.heap=w.heap->(Builtin.firstCells s es.length v).run P w'=.ok xs.toArray w':=by
 obtain⟨a,cap,rfl,hc,hr⟩:=h.elems he;by_cases Fb:es=[];subst Fb;refine⟨a,cap,[],rfl,hc,by simp[oa],by simp,λP w' _=>?_⟩;cases a <;> simp[Builtin.firstCells,loadCells,loadCellsFrom];obtain⟨b,off,k,rfl,VD⟩:=hr Fb
 have hk:k=s:=by obtain⟨e0,da,he⟩:=List.exists_cons_of_ne_nil Fb;subst he;exact VD.cell.1.symm.trans (hs e0 (by simp))
 subst hk;obtain⟨xs,h1,h2⟩:=VD.u7.values;have hl:xs.length=es.length * k:=by rw[h1.length,RD hs]
 refine⟨_,cap,xs,rfl,hc,h1,hl,λP w' hw=>?_⟩
 have:=mN (P:=P) (w:=w') (b:=b) (off:=off) (es.length * k) 0 #[] xs hl (λj x hj=>by
  have:=(h2 j x hj).2;simp only[World.cell?] at this ⊢;rw[hw];simpa using this)
 simp only[Builtin.firstCells,loadCells,this];simp
theorem Ya.Jz{xT:Nat} [ht:Oa C.P sT el s] [hr:xh C.P el s bytes](SC:Rd=#[sT,xT])(Kx:∃ e2,C.P.underlying xT=some (.slice e2)){ms:List LV}
  (hx:e.ev x=Yb) (hy:elems (e.ev y)=some ms) (Fb:ms≠[]) (hs:∀ v∈ms,v.cells.length=s) (Xa:ms.length * bytes<=140737488355328)
  (hk:∀ b cap,K (.app b cap s ms) [(b,.row (ms.length * s))]) :
  Ya C ⟨dst,.call { callee:=.builtin .append,args:=#[x,y],argTypes:=Rd },ty,ra,ua,g⟩ e [] K X:=λρ w L h hH=>by
 subst SC;obtain⟨a,cap,xs,hv,hc,h1,h2,h3⟩:=iK (h y) hy hs;have h0:∀ (cs:Array Bool) (args:Array Value),builtin .append #[sT,xT] ty cs args=(do Pure.pure (.value (<-Builtin.append_ #[sT,xT] ty args))):=λ_ _=>rfl;have qz:0<ms.length:=List.length_pos_iff.2 Fb
 obtain⟨ff,da,r1,r2,r3⟩:=PH (ty:=ty) (P:=C.P) (w:=w) (sT:=sT) (xT:=xT) (a:=none) (len:=0) (cap:=0) (n:=ms.length) (xv:=ρ y) (old:=[]) (new:=xs) (.inr Kx) (λw'=>by rw[hv];try rfl) (λw' hw=>h3 C.P w' hw)
  (λw' _=>by simp[Builtin.firstCells]) (by simpa using Xa) ga
 rw[Qr,h0];simp only[map_toArray,jd,map_nil,Ac,Zb h hx,r3,ad,Yd,List.nil_append,zero_add];obtain⟨lv,H',L',g1,g2,g3,g4⟩:=qi9 (K:=K) (t:=el) (cap:=ff) (da:=da) hH.drew (h1.mono (HH w L) _ _) hs ga (by
  rw[r2,<-add_mul];exact Nat.mul_le_mul_right _ ga) λb=>hk b ff
 exact⟨lv,H',L',g1.Re,g2,g3,g4⟩
theorem Qc.append{w:World}{L:Live}{b k:Nat}:∀ {Mc bs:List LV} {off:Nat},Qc w L b k off Mc->Qc w L b k (off+Mc.length * k) bs->Qc w L b k off (Mc++bs)
 |[],_,_,_,h=>by simpa using h
 |a::Mc,bs,off,h1,h2=>by rw[cons_append];refine Qc.cons h1.cell.1 h1.cell.2 (Qc.append h1.tail ?_);simpa [add_mul,Nat.add_assoc,Nat.add_comm,Nat.add_left_comm] using h2
theorem qtP{m:Nat}{ms:List LV}{xs:Array Value}{t:TypeId}{fr:Nat×Nat}{news:List Value}(hH:Ta C w L [(b,.row n)])(hn:n=es.length * s)(hm:m=ms.length * s)
  (hb:w.heap[b]? = some (.cells xs t fr)) (ld:cap * s<=xs.size) (Ue:es.length+ms.length<=cap) (Sn:Qc w L b s 0 es) (hs:∀ v∈ms,v.cells.length=s) (nI:oa w L (ms.flatMap LV.cells) news)
  (h1:w'.os=w.os) (h2:w'.tape=w.tape) (h3:w'.output=w.output) (h4:w'.heap.size=w.heap.size) (h5:∀ c,c≠b->w'.heap[c]? = w.heap[c]?)
  (h6:w'.heap[b]? = some (.cells (xs.toList.take n++news++xs.toList.drop (n+news.length)).toArray t fr)) (hk:K (.app b cap s (es++ms)) [(b,.row ((es++ms).length * s))]) :
  Left C w L [(b,.row n)] w' (.slice (some ⟨b,0,none⟩) (es.length+ms.length) cap) K:=by
 obtain⟨Le,Of,hl,xs2,t2,fr2,td,Gd,bG⟩:=hH.uc _ (Mo rfl);simp only at Le Of hl td Gd bG;rw[hb] at td;simp only[jm,Obj.cells.injEq] at td;obtain⟨rfl,rfl,rfl⟩:=td;have Nq:news.length=m:=by rw[nI.length,RD hs,hm]
 have GK:n+m<=cap * s:=by rw[hn,hm,<-add_mul];exact Nat.mul_le_mul_right _ Ue
 have jC:(xs.toList.take n++news++xs.toList.drop (n+news.length)).toArray.size=xs.size:=by simp[Nq];omega
 have hx:Ext w L w' (L.Kc b (n+m)):=by
  refine⟨by rw[h4];exact Jb _,λc hc=>?_,λc i hi=>?_,λc=>?_⟩
  by_cases he:c=b;subst he;simp only[World.shape?,hb,h6,jC];exact BF (h5 c he);by_cases he:c=b;subst he;rw[hl] at hi;simp only[World.cell?,hb,h6,isSome_none,Uk,if_false,List.getElem?_toArray];rw[Sc,List.getElem?_append_left (by simp;omega),List.getElem?_take,zp hi];simp;exact cell_of_heap (h5 c he) i;unfold Live.Kc;split;rename_i h;subst h;omega;exact Jb _
 have uA:(es++ms).length * s=n+m:=by rw[Ga,add_mul,<-hn,<-hm]
 refine⟨.app b cap s (es++ms),[(b,.row ((es++ms).length * s))],L.Kc b (n+m),⟨h1,h2,h3,hx,λc hc hn=>h5 c (by simpa using hn),λc hc hn=>?_,λp hp=>.inl (by simp only[mem_singleton] at hp;subst hp;simp)⟩,
  ⟨?_,trivial,by rw[h4];exact hH.b0,λc hc=>?_,by simp,λp hp=>?_⟩,?_,hk⟩
 have Fb:c≠b:=by simpa using hn
 simp only[Live.Kc,zn Fb];exact hH.base.trans ⟨h1,h2,h3,by rw[h4];exact Jb _,λc hc=>h5 c ga⟩;rw[h4] at hc;have Fb:c≠b:=by omega
 simp only[Live.Kc,zn Fb];exact hH.wf c hc;simp only[mem_singleton] at hp;subst hp;refine⟨Le,by rw[h4];exact Of,by simp only[Live.Kc,if_true];exact uA.symm,_,t,fr,h6,by rw[jC,uA];omega,by omega⟩;simp only[xb];refine⟨by simp,by simp;exact Ue,Qc.append (Sn.mono hx _ _ _ _) (Qc.EQ hs (Rb.ph (nI.mono hx _ _) ?_ λj x hj=>?_)),t,_,by simp only[World.shape?,h6];rfl,by rw[jC];exact ld⟩;simp[Live.Kc,<-hn,Nq];have hjl:=(List.getElem?_eq_some_iff.1 hj).1;simp only[World.cell?,h6,isSome_none,Uk,if_false,List.getElem?_toArray,zero_add,<-hn];rw[Sc,List.getElem?_append_right (by simp;omega),List.getElem?_append_left (by simp;omega)]
 simp;rw[show n+j-min n xs.size=j by omega];exact hj
theorem qpH{xT:Nat} [ht:Oa C.P sT el s] [hr:xh C.P el s bytes](Kx:C.P.underlying xT=some .string∨∃ e2,C.P.underlying xT=some (.slice e2)){ms:List LV}{new:List Value}
  (hH:Ta C w L [(b,.row (es.length * s))]) (dI:xb w L (.app b cap s es) (.slice (some ⟨b,0,none⟩) es.length cap)) (na:∀ w':World,(Builtin.lenOf xv).run C.P w'=.ok ms.length w')
  (Dl:∀ w':World,w'.heap=w.heap->(Builtin.firstCells s ms.length xv).run C.P w'=.ok new.toArray w') (Tn:oa w L (ms.flatMap LV.cells) new) (hs:∀ v∈ms,v.cells.length=s)
  (qu:∀ v∈new,(∀ cs,v≠.agg cs)/\(∀ cs,v≠.tuple cs)) (Xa:(es.length+ms.length) * bytes<=140737488355328)
  (hk:∀ b' ff,K (.app b' ff s (es++ms)) [(b',.row ((es++ms).length * s))]) :
  ∃ v w',(Builtin.append_ #[sT,xT] ty #[.slice (some ⟨b,0,none⟩) es.length cap,xv]).run C.P w=.ok v w'/\Left C w L [(b,.row (es.length * s))] w' v K:=by
 have D3:=dI;simp only[xb] at dI;obtain⟨_,Ge,Sn,te,ts,kC,BA⟩:=dI;obtain⟨Le,Of,hl,xs,t,fr,td,Gd,bG⟩:=hH.uc _ (Mo rfl);simp only at Le Of hl td Gd bG;simp only[World.shape?,td,jm,Prod.mk.injEq] at kC;obtain⟨rfl,rfl⟩:=kC;have Nq:new.length=ms.length * s:=by rw[Tn.length,RD hs]
 by_cases hc:es.length+ms.length<=cap;have Hd:=CV (ty:=ty) (P:=C.P) (w:=w) (sT:=sT) (xT:=xT) (a:=some ⟨b,0,none⟩) (len:=es.length) (cap:=cap) Kx na Dl hc;have GK:es.length * s+ms.length * s<=cap * s:=by rw[<-add_mul];exact Nat.mul_le_mul_right _ hc
 obtain⟨w',r1,r2,r3,r4,r5,r6,r7⟩:=kK (P:=C.P) (b:=b) (off:=0+es.length * s) (t:=t) (fr:=fr) new 0 w xs.toList (by simpa using td) (by simp;omega) (λj h1 h2 h3=>by omega) qu;refine⟨_,w',?_,qtP (cap:=cap) (news:=new) (xs:=xs) hH rfl rfl td BA hc Sn hs Tn r2 r3 r4 r5 r6 (by simpa using r7) (hk b cap)⟩;rw[Hd];simp only[Cf,r1,ad];obtain⟨a2,PS,old,hv,ef,h1,h2,h3⟩:=iK D3 (es:=es) (s:=s) rfl Sn.Xw;simp only[Value.slice.injEq] at hv;obtain⟨rfl,_,rfl⟩:=hv;obtain⟨ff,da,r1,r2,r3⟩:=PH (ty:=ty) (P:=C.P) (w:=w) (sT:=sT) (xT:=xT) (a:=some ⟨b,0,none⟩) (len:=es.length) (cap:=cap) Kx na Dl (λw' hw=>h3 C.P w' hw) Xa ga;refine⟨_,_,r3,?_⟩;have YC:Ta C w L []:=hH.sub (List.nil_sublist _);obtain⟨lv,H',L',g1,g2,g3,g4⟩:=qi9 (K:=K) (t:=el) (s:=s) (cap:=ff) (es:=es++ms) (da:=da) YC.drew (by
   rw[List.flatMap_append];exact(h1.append Tn).mono (HH w L) _ _) (λv hv=>by
   rcases xj hv with hv|hv;exact Sn.Xw v hv;exact hs v hv) (by simp;omega) (by
   rw[r2,<-add_mul,Ga];exact Nat.mul_le_mul_right _ ga) λb'=>hk b' ff
 rw[Ga] at g3;exact⟨lv,H',L',g1.Re.wide (by simp),g2,g3,g4⟩
theorem Ya.Kz{xT:Nat} [ht:Oa C.P sT el s] [hr:xh C.P el s bytes](SC:Rd=#[sT,xT])(Kx:∃ e2,C.P.underlying xT=some (.slice e2)){ms:List LV}
  (hx:e.ev x=.app b cap s es) (hn:n=es.length * s) (hy:elems (e.ev y)=some ms) (hs:∀ v∈ms,v.cells.length=s) (Dc:(ms.flatMap LV.cells).all yq=true) (Xa:(es.length+ms.length) * bytes<=140737488355328)
  (hk:∀ b' ff,K (.app b' ff s (es++ms)) [(b',.row ((es++ms).length * s))]) :
  Ya C ⟨dst,.call { callee:=.builtin .append,args:=#[x,y],argTypes:=Rd },ty,ra,ua,g⟩ e [(b,.row n)] K X:=λρ w L h hH=>by
 subst SC hn;obtain⟨a,PS,xs,hv,hc,h1,h2,h3⟩:=iK (h y) hy hs;have dI:=h x;rw[hx] at dI;have hxv:ρ x=.slice (some ⟨b,0,none⟩) es.length cap:=by have h':=dI;simp only[xb] at h';exact h'.1
 rw[hxv] at dI;have h0:∀ (cs:Array Bool) (args:Array Value),builtin .append #[sT,xT] ty cs args=(do Pure.pure (.value (<-Builtin.append_ #[sT,xT] ty args))):=λ_ _=>rfl;obtain⟨v,w',r1,r2⟩:=qpH (ty:=ty) (K:=K) (sT:=sT) (xT:=xT) (.inr Kx) hH dI (xv:=ρ y) (ms:=ms) (λw'=>by rw[hv];try rfl) (λw' hw=>h3 C.P w' hw) h1 hs (YP h1 Dc) Xa hk;rw[Qr,h0];simp only[map_toArray,jd,map_nil,Ac,hxv,r1,ad,Yd];exact r2
theorem Ya.Ol{xT:Nat} [ht:Oa C.P sT el s](SC:Rd=#[sT,xT])(Kx:∃ e2,C.P.underlying xT=some (.slice e2))(hx:e.ev x=Yb)(hy:elems (e.ev y)=some [])(hk:K Yb H) :
  Ya C ⟨dst,.call { callee:=.builtin .append,args:=#[x,y],argTypes:=Rd },ty,ra,ua,g⟩ e H K X:=λρ w L h hH=>by
 subst SC;obtain⟨a,cap,hv,_⟩:=(h y).elems hy;obtain⟨i,hi,P4⟩:=ht.size;obtain⟨e2,Kx⟩:=Kx;have h0:∀ (cs:Array Bool) (args:Array Value),builtin .append #[sT,xT] ty cs args=(do Pure.pure (.value (<-Builtin.append_ #[sT,xT] ty args))):=λ_ _=>rfl
 have hr:(Builtin.append_ #[sT,xT] ty #[.slice none 0 0,.slice a 0 cap]).run C.P w=.ok (.slice none 0 0) w:=by cases a <;> simp[Builtin.append_,ye ht.De,ye Kx,sizeOf,typeInfo,hi,Builtin.lenOf,Builtin.firstCells,loadCells,loadCellsFrom]
 rw[Qr,h0];simp only[map_toArray,jd,map_nil,Ac,Zb h hx,hv,oc,hr,ad,Yd];exact⟨_,H,L,Fr.refl _ _ _,hH,zd,hk⟩
end steps
class Ss (P:Program):Prop where
 out:P.follows .mixedOrders=true
def QC(C:Ctx)(w:World)(L:Live)(w':World):Prop:=∃ L',Fr (keys []) w L w' L' []/\Ta C w' L' []
theorem QC.agree(h:QC C w L w')(hH:Ta C w L H):uq w L H w':=
 let ⟨_,f,_⟩:=h
 ⟨λp hp=>f.block p.1 (hH.uc p hp).2.1 (by simp),f.ext.live⟩
theorem Ta.empty(h:Ta C w L H):Ta C w L []:=h.sub (List.nil_sublist _)
def LQ(C:Ctx)(n:Nat)(Sa:Array Oper)(K:Env->Prop)(da:List Oper)(e:Env)(H:Heap):Prop:=
 ∀ a w L,yc n a e w L->Ta C w L H->wpQuiet C.P Sa (QC C w L) (λa'=>∃ e',yc n a' e' w L/\K e') da a
section quiet
variable{C:Ctx}{n:Nat}{Sa:Array Oper}{K:Env->Prop}{e:Env}{H:Heap}{dst:Option Nat}{op:Op}{ty:TypeId}{ra:String}{ua:Array Edge}{da:List Oper}
theorem LQ.nil(h:K e):LQ C n Sa K [] e H:=λ_ _ _ hE _=>⟨e,hE,h⟩
theorem qo6{C:World->Prop}{Q:Act->Prop}{a:Act}(hg:Region.wanted o (yielded Sa a.tmps)=true)(h:∀ w',C w'->o.quietAt P a C w' v)(k:wpQuiet P Sa C Q da (a.put o.dst v)):wpQuiet P Sa C Q (o::da) a:=by unfold wpQuiet;rw[zp hg];exact⟨v,h,k⟩
theorem qP(h:Pure C ⟨dst,op,ty,ra,ua,none⟩ e H lv)(hd:Sl n dst)(k:LQ C n Sa K da (e.put dst lv) H):LQ C n Sa K (⟨dst,op,ty,ra,ua,none⟩::da) e H:=λa w L hE hH=>by obtain⟨v,hv,hr⟩:=h a.eval w L hE.ev hH;refine qo6 (by simp[Region.wanted]) (v:=v) (λw' zN=>?_) (k _ w L (hE.put hd hv) hH);unfold Oper.quietAt;rw[hr w' (zN.agree hH)];exact⟨rfl,rfl⟩
theorem LQ.want{b:Bool}(hj:(Sa[j]?).bind (·.dst)=some d)(hb:e.s d=.atom (.bool b))
  (k:LQ C n Sa K (⟨dst,op,ty,ra,ua,none⟩::da) e H):LQ C n Sa K (⟨dst,op,ty,ra,ua,some (j,b)⟩::da) e H:=λa w L hE hH=>by
 have:=k a w L hE hH;unfold wpQuiet at this ⊢;rw[zp (by simp[Region.wanted])] at this;rw[zp (by simp[Region.wanted,LH hE hj hb])];exact this
theorem LQ.skip{b c:Bool}(hj:(Sa[j]?).bind (·.dst)=some d)(hb:e.s d=.atom (.bool b))(Fb:b=!c)(hd:Sl n dst)
  (k:LQ C n Sa K da (e.put dst (.atom undef)) H):LQ C n Sa K (⟨dst,op,ty,ra,ua,some (j,c)⟩::da) e H:=λa w L hE hH=>by
 unfold wpQuiet;rw[zn (by subst Fb;cases c <;> simp[Region.wanted,LH hE hj hb])];exact k _ w L (hE.put hd zd) hH
theorem fb.quiet [hm:Ss C.P] {id:Nat} {l:List Oper} {Q:Jc} (hB:Region.lexB .any l.toArray=true) (h:LQ C n l.toArray (λe'=>Q .normal e' H) l e H):fb C n (.region id l.toArray true) Q e H:=λa w L hE hH=>by
 refine wp_region_quiet (C:=QC C w L) hm.out hB ⟨L,⟨rfl,rfl,rfl,HH w L,λ_ _ _=>rfl,λ_ _ _=>rfl,by simp⟩,hH.empty.drew⟩ ?_
 have hq:∀ a' w',QC C w L w'->(∃ e',yc n a' e' w L/\Q .normal e' H)->lift C n w L (keys H) Q .normal a' w':=by rintro a' w' ⟨L',f1,f2⟩ ⟨e',h1,h2⟩;have:=Ta.frame (H:=[]) (F:=H) (by simpa using hH) f1 f2;exact⟨e',H,L',by simpa using this.2,by simpa using this.1,h1.mono f1.ext,h2⟩
 have mono:∀ (l2:List Oper) (a:Act),wpQuiet C.P l.toArray (QC C w L) (λa'=>∃ e',yc n a' e' w L/\Q .normal e' H) l2 a->wpQuiet C.P l.toArray (QC C w L) (λa'=>∀ w',QC C w L w'->lift C n w L (keys H) Q .normal a' w') l2 a:=by
  intro l2;induction l2 with
  |nil=>exact λa h w' zN=>hq a w' zN h
  |cons o l2 ih=>intro a h;unfold wpQuiet at h ⊢;split at h;rename_i hw;rw[zp hw];exact Oper.quiet_mono ih h;rename_i hw;rw[zn hw];exact ih _ h
 exact mono _ a (by simpa using h a w L hE hH)
end quiet
def yb(C:Ctx)(n:Nat)(Sa:Array Oper)(Q:Jc)(HF:Heap)(Aa:Nat)(Ba:Array Bool)(e:Env)(H:Heap):Prop:=
 ∀ a w L,yc n a e w L->Ta C w L H->wpAnyH C.P .any Sa (lift C n w L (keys H) Q) (uq w L HF) Aa Ba a w
def nh(C:Ctx)(n:Nat)(Sa:Array Oper)(Q:Jc)(HF:Heap)(Aa:Nat)(Ba:Array Bool)(e:Env)(H:Heap):Prop:=
 ∀ w0 L0 a w L,(∀ b,L0 b<=L b)->uq w0 L0 HF w->(∀ p∈HF,p.1<w.heap.size)->yc n a e w L->Ta C w L H->wpAnyH C.P .any Sa (lift C n w L (keys H) Q) (uq w0 L0 HF) Aa Ba a w
theorem uq.refl(w:World)(L:Live)(H:Heap):uq w L H w:=⟨λ_ _=>rfl,λ_ _ _=>rfl⟩
theorem HSub.mem{H':Heap}(h:HSub H' H):∀ p∈H',p∈H:=λ_ hp=>
 let ⟨_,hG⟩:=h
 hG.mem_iff.2 (List.mem_append_left _ hp)
theorem gK{P:Program}{md:Region.Mode}{Sa:Array Oper}{Q Q':Exit->Act->World->Prop}{S:World->Prop}(h:∀ e a w,Q e a w->Q' e a w):∀ (Aa:Nat) (Ba:Array Bool) (a:Act) (w:World),
  wpAnyH P md Sa Q S Aa Ba a w->wpAnyH P md Sa Q' S Aa Ba a w
 |0,_,_,_,k=>⟨k.1,h _ _ _ k.2⟩
 |Aa+1,Ba,a,w,k=>by
  refine⟨λh0=>h _ _ _ (k.1 h0),λi hi=>?_⟩;have ki:=k.2 i hi;unfold wpOp at ki ⊢;split at ki;exact⟨ki.1,gK h Aa _ _ _ ki.2⟩;split at ki
  rename_i hw;rw[zp hw];rcases ki with ki|⟨k1,a0,w0,k2⟩;refine .inl ?_;unfold Oper.wp at ki ⊢;generalize (execOp _ _).run P w=r at ki ⊢;cases r with
  |ok x w'=>
   cases x <;> simp only[Oper.upon] at ki ⊢ <;> first
    |exact⟨ki.1,gK h Aa _ _ _ ki.2⟩
    |(refine Calls.mono ki λe GO he=>?_;cases e with
      |returned v=>exact⟨he.1,gK h Aa _ _ _ he.2⟩
      |panicked ch=>exact h _ _ _ he
      |outgrown=>obtain⟨a0,w0,he⟩:=he;exact⟨a0,w0,h _ _ _ he⟩)
    |exact Rows.mono ki λ_ _ he=>⟨he.1,gK h Aa _ _ _ he.2⟩
  |halt x w'=>cases x <;> simp only[Oper.upon] at ki ⊢ <;> exact h _ _ _ ki
  exact .inr ⟨k1,a0,w0,h _ _ _ k2⟩;rename_i hw;rw[zn hw];exact⟨ki.1,gK h Aa _ _ _ ki.2⟩
section any
variable{C:Ctx}{n:Nat}{Sa:Array Oper}{Q:Jc}{HF:Heap}{Aa:Nat}{Ba:Array Bool}{e:Env}{H:Heap}
theorem qp6(dst:Option Nat)(v:Value):∀ c a w',lift C n w L K Q (.panic c) (a.put dst v) w'->lift C n w L K Q (.panic c) a w':=by rintro c a w' ⟨e',H',L',h1,h2,h3,h4⟩;refine⟨e',H',L',h1,h2,?_,h4⟩;cases dst <;> exact h3
theorem E'{op:Op}{g:Option (Nat×Bool)}{a:Act}(hE:yc n a e w L)(hH:Ta C w L H)(Ho:HSub HF H)
  (hi:Sa[i]? = some ⟨dst,op,ty,ra,ua,g⟩) (hs:Region.noSelect Sa=true) (hf:Region.free .any Sa Ba i=true) (hr:(Region.ready .any Sa Ba).contains i=true) (hd:Sl n dst)
  (hp:Pure C ⟨dst,op,ty,ra,ua,g⟩ e HF lv) (hw:Region.wanted ⟨dst,op,ty,ra,ua,g⟩ (yielded Sa a.tmps)=true)
  (k:yb C n Sa Q HF Aa (Ba.setIfInBounds i true) (e.put dst lv) H):wpAnyH C.P .any Sa (lift C n w L (keys H) Q) (uq w L HF) (Aa+1) Ba a w:=by
 obtain⟨v,hv,Hd⟩:=hp a.eval w L hE.ev (hH.qc Ho);exact wpAnyH_take hi hs hf hr (qp6 _ _) (.inl ⟨hw,Hd⟩) (uq.refl _ _ _) (k _ w L (hE.put hd hv) hH)
theorem yb.take{op:Op}(Ho:HSub HF H)
  (hi:Sa[i]? = some ⟨dst,op,ty,ra,ua,none⟩) (hs:Region.noSelect Sa=true) (hf:Region.free .any Sa Ba i=true) (hr:(Region.ready .any Sa Ba).contains i=true) (hd:Sl n dst)
  (hp:Pure C ⟨dst,op,ty,ra,ua,none⟩ e HF lv) (k:yb C n Sa Q HF Aa (Ba.setIfInBounds i true) (e.put dst lv) H):yb C n Sa Q HF (Aa+1) Ba e H:=λ_ _ _ hE hH=>
 E' hE hH Ho hi hs hf hr hd hp (by simp[Region.wanted]) k
theorem yb.Po{b:Bool}{op:Op}(Ho:HSub HF H)
  (hi:Sa[i]? = some ⟨dst,op,ty,ra,ua,some (j,b)⟩) (hj:(Sa[j]?).bind (·.dst)=some d) (hb:e.s d=.atom (.bool b)) (hs:Region.noSelect Sa=true) (hf:Region.free .any Sa Ba i=true) (hr:(Region.ready .any Sa Ba).contains i=true) (hd:Sl n dst)
  (hp:Pure C ⟨dst,op,ty,ra,ua,some (j,b)⟩ e HF lv) (k:yb C n Sa Q HF Aa (Ba.setIfInBounds i true) (e.put dst lv) H):yb C n Sa Q HF (Aa+1) Ba e H:=λ_ _ _ hE hH=>
 E' hE hH Ho hi hs hf hr hd hp (by simp[Region.wanted,LH hE hj hb]) k
theorem yb.mi{b c:Bool}{op:Op}
  (hi:Sa[i]? = some ⟨dst,op,ty,ra,ua,some (j,c)⟩) (hj:(Sa[j]?).bind (·.dst)=some d) (hb:e.s d=.atom (.bool b)) (Fb:b=!c) (hs:Region.noSelect Sa=true) (hf:Region.free .any Sa Ba i=true) (hr:(Region.ready .any Sa Ba).contains i=true) (hd:Sl n dst)
  (k:yb C n Sa Q HF Aa (Ba.setIfInBounds i true) (e.put dst (.atom undef)) H):yb C n Sa Q HF (Aa+1) Ba e H:=λa w L hE hH=>
 wpAnyH_take hi hs hf hr (qp6 _ _) (.inr ⟨by subst Fb;cases c <;> simp[Region.wanted,LH hE hj hb],rfl⟩) (uq.refl _ _ _) (k _ w L (hE.put hd zd) hH)
theorem aL(h:nh C n Sa Q HF Aa Ba e H)(Ho:HSub HF H):yb C n Sa Q HF Aa Ba e H:=λa w L hE hH=>
 h w L a w L (λ_=>Jb _) (uq.refl _ _ _) (λp hp=>(hH.uc p (Ho.mem p hp)).2.1) hE hH
theorem lD(hr:Region.ready .any Sa Ba=[])(h:Q .normal e H):nh C n Sa Q HF Aa Ba e H:=λ_ _ _ _ L _ _ _ hE hH=>
 wpAnyH_done hr ⟨e,H,L,Fr.refl _ _ _,hH,hE,h⟩ Aa
theorem cD [hm:Ss C.P] {id:Nat} {l:List Oper} {m:Nat} (hl:m=l.length) (HF:Heap) (h:yb C n l.toArray Q HF m (Array.replicate m false) e H):fb C n (.region id l.toArray true) Q e H:=λa w L hE hH=>by subst hl;have:=h a w.drew L (hE.mono (HH w L)) hH.drew;refine wp_region_held (S:=uq w.drew L HF) hm.out ?_;refine gK (λx a' w' hq=>?_) _ _ _ _ (by simpa using this);obtain⟨e',H',L',h1,h2,h3,h4⟩:=hq;exact⟨e',H',L',h1.Re,h2,h3,h4⟩
end any
section pure
variable{C:Ctx}{e:Env}{H:Heap}{dst:Option Nat}{ty:TypeId}{ra:String}{ua:Array Edge}{g:Option (Nat×Bool)}{x y c a b:Operand}{xT:TypeId}{k:IntKind}{lv:LV}
theorem pM(hx:e.ev x=lv):Pure C ⟨dst,.move x,ty,ra,ua,g⟩ e H lv:=hx▸Pure.move
theorem pA(hx:e.ev x=lv):Pure C ⟨dst,.assign x,ty,ra,ua,g⟩ e H lv:=hx▸Pure.assign
theorem Pure.cp(hc:e.ev c=bool true)(ha:e.ev a=lv):Pure C ⟨dst,.pick c a b,ty,ra,ua,g⟩ e H lv:=by have:=Pure.pick (C:=C) (H:=H) (dst:=dst) (ty:=ty) (ra:=ra) (ua:=ua) (g:=g) (a:=a) (b:=b) hc;simp only[if_true] at this;exact ha▸this
theorem Pure.vl(hc:e.ev c=bool false)(hb:e.ev b=lv):Pure C ⟨dst,.pick c a b,ty,ra,ua,g⟩ e H lv:=by have:=Pure.pick (C:=C) (H:=H) (dst:=dst) (ty:=ty) (ra:=ra) (ua:=ua) (g:=g) (a:=a) (b:=b) hc;simp only[Uk,if_false] at this;exact hb▸this
theorem pR [ko C.P t n](hx:e.ev x=.ref cs)(hn:Nat.ble n cs.length=true)(hc:cs.take n=Ob):Pure C ⟨dst,.load t x,ty,ra,ua,g⟩ e H (.agg Ob):=by subst hc;exact Pure.Wv hx (by simpa using hn)
theorem pG [ko C.P t n]{b:Nat}(hx:e.ev x=ptr b off)(hm:(b,ma.cells Oo cs)∈H)(hn:Nat.ble (off+n) cs.length=true)(hc:(cs.drop off).take n=Ob) :
  Pure C ⟨dst,.load t x,ty,ra,ua,g⟩ e H (.agg Ob):=by
 subst hc;exact Pure.gp hx hm (by simpa using hn)
theorem xR [ht:Oa C.P t el s]{n:Int}{ke:LV}(hx:elems (e.ev x)=some es)(hy:e.ev y=int k n)(h0:0<=n)(hn:es[n.toNat]? = some ke)(hc:ke.cells=cs)(hs:cs.length=s) :
  Pure C ⟨dst,.indexAddr t x y,ty,ra,ua,g⟩ e H (.ref cs):=by
 subst hc;exact Pure.indexAddr hx hy h0 hn hs
theorem Pure.Tm{f:Nat} [Rk C.P s f n](hx:e.ev x=.ref cs)(hc:cs.drop n=Ob):Pure C ⟨dst,.fieldAddr s x f,ty,ra,ua,g⟩ e H (.ref Ob):=by subst hc;exact Pure.fD hx
theorem pB{t:TypeId}{pl:List (Nat×Nat)} [hs:Ql C.P t pl] [hz:Og C.P t zs](parts:List (Nat×Operand))
  (h:xD pl (zs.map .atom) (parts.map λp=>(p.1,e.ev p.2))=some cs):Pure C ⟨dst,.build t parts.toArray,ty,ra,ua,g⟩ e H (.agg cs):=Pure.build h
end pure
section steps
variable{C:Ctx}{e:Env}{H H':Heap}{dst:Option Nat}{op:Op}{ty:TypeId}{ra:String}{ua:Array Edge}{g:Option (Nat×Bool)}{x y:Operand}{K K':LV->Heap->Prop}{X:List PanicEntry->Heap->Prop}
theorem Ya.Zc(h:Ya C o e H K X)(hk:∀ lv H',K lv H'->∃ xK Bh,lv.Sub xK/\HSub Bh H'/\K' xK Bh):Ya C o e H K' X:=λρ w L h1 h2=>by
 have:=h ρ w L h1 h2;have lf:∀ {w' v},Left C w L H w' v K->Left C w L H w' v K':=λh=>by obtain⟨lv,H',L',r1,r2,r3,r4⟩:=h;obtain⟨xK,Bh,s1,s2,s3⟩:=hk _ _ r4;exact⟨xK,Bh,L',r1.qc s2,r2.qc s2,s1 _ _ _ r3,s3⟩
 unfold mF at this ⊢;split at this;exact lf this;exact lf this;refine⟨this.1,this.2.mono λe w' he=>?_⟩
 cases e with
 |returned v=>exact lf he
 |panicked ch=>exact he
 |outgrown=>exact he
 exact this;exact this.elim
theorem Ya.mE{p:Nat×ma}(hp:xd p H F)(h:Ya C o e [p] (λlv H'=>K lv (H'++F)) λch H'=>X ch (H'++F)):Ya C o e H K X:=Ya.frame (H:=[p]) hp h
theorem Ya.Iz(h:Ya C o e [] (λlv H'=>K lv (H'++H)) λch H'=>X ch (H'++H)):Ya C o e H K X:=Ya.frame (H:=[]) (List.Perm.refl _) h
theorem Jd{t:TypeId} [hz:Og C.P t zs](hk:∀ b,K (ptr b 0) ((b,.cells t (zs.map .atom))::H)):Ya C ⟨dst,.alloc t,ty,ra,ua,g⟩ e H K X:=Ya.Iz (Ya.alloc hk)
theorem sB{t:TypeId}(hx:(e.ev x).cells? = some cs)(hk:∀ b,K (ptr b 0) ((b,.cells t cs)::H)):Ya C ⟨dst,.box t x,ty,ra,ua,g⟩ e H K X:=Ya.Iz (Ya.box hx hk)
theorem sL [ht:Oa C.P t el s] [hz:Og C.P el zs](xs:List Operand)(yw:xs.map e.ev=es)(Dc:dA s es){parts:List (Nat×Operand)}(hp:parts=(List.range xs.length).zip xs)(na:len=xs.length)
  (ld:Nat.ble (len * s) 16777216=true) (hk:K (.list es) H):Ya C ⟨dst,.buildSlice t len parts.toArray,ty,ra,ua,g⟩ e H K X:=by
 subst yw;refine Ya.Iz (Ya.Zc (K:=λlv H'=>∃ b,lv=.app b len s (xs.map e.ev)) (Ya.buildSlice Dc (by subst na;simpa using ld) hp na λb=>⟨b,rfl⟩) ?_);rintro lv H' ⟨b,rfl⟩;exact⟨_,[],LV.Sub.app _ _ _ _,HSub.nil _,hk⟩
theorem S.Wt [ht:Oa C.P t el s] [hz:Og C.P el zs](xs:List Operand)(yw:xs.map e.ev=es)(Dc:dA s es){parts:List (Nat×Operand)}(hp:parts=(List.range xs.length).zip xs)(na:len=xs.length)
  (ld:Nat.ble (len * s) 16777216=true) (hk:∀ b,K (.app b len s es) ((b,.row (len * s))::H)):Ya C ⟨dst,.buildSlice t len parts.toArray,ty,ra,ua,g⟩ e H K X:=by
 subst yw;exact Ya.Iz (Ya.buildSlice Dc (by subst na;simpa using ld) hp na λb=>hk b)
theorem sS [ht:Wq C.P t n](hx:e.ev x=ptr b off)(hp:xd (b,.cells Oo cs) H F)(hy:(e.ev y).cells? = some vs)(hn:vs.length=n)(hl:Nat.ble (off+n) cs.length=true)(Dc:vs.all yq=true)
  (hc:ed cs off vs=Ob) (hk:K (.atom undef) ((b,.cells Oo Ob)::F)):Ya C ⟨dst,.store t x y,ty,ra,ua,g⟩ e H K X:=by
 subst hc;exact Ya.mE hp (Ya.store hx hy hn (by simpa using hl) Dc hk)
theorem S.JL [ht:Oa C.P sT el s] [hr:xh C.P el s bytes] [Gd:Oa C.P xT e2 s2]{ms:List LV}
  (hx:e.ev x=Yb) (hy:elems (e.ev y)=some ms) (Fb:ms≠[]) (hs:∀ v∈ms,v.cells.length=s) (Xa:ms.length * bytes<=140737488355328)
  (hk:∀ b cap,K (.app b cap s ms) ((b,.row (ms.length * s))::H)):Ya C ⟨dst,.call { callee:=.builtin .append,args:=#[x,y],argTypes:=#[sT,xT] },ty,ra,ua,g⟩ e H K X:=
 Ya.Iz (Ya.Jz rfl ⟨e2,Gd.De⟩ hx hy Fb hs Xa λb cap=>hk b cap)
theorem S.app{sT xT el s bytes:Nat} [ht:Oa C.P sT el s] [hr:xh C.P el s bytes]{e2 s2:Nat} [Gd:Oa C.P xT e2 s2]{b cap n:Nat}{es ms:List LV}{F:Heap}
  (hx:e.ev x=.app b cap s es) (hp:xd (b,.row n) H F) (hn:n=es.length * s) (hy:elems (e.ev y)=some ms) (hs:∀ v∈ms,v.cells.length=s) (Dc:(ms.flatMap LV.cells).all yq=true) (Xa:(es.length+ms.length) * bytes<=140737488355328)
  (hk:∀ b' ff,K (.app b' ff s (es++ms)) ((b',.row ((es++ms).length * s))::F)):Ya C ⟨dst,.call { callee:=.builtin .append,args:=#[x,y],argTypes:=#[sT,xT] },ty,ra,ua,g⟩ e H K X:=
 Ya.mE hp (Ya.Kz rfl ⟨e2,Gd.De⟩ hx hn hy hs Dc Xa λb' ff=>hk b' ff)
theorem S.Lz [ht:Oa C.P sT el s] [Gd:Oa C.P xT e2 s2](hx:e.ev x=Yb)(hy:elems (e.ev y)=some [])(hk:K Yb H) :
  Ya C ⟨dst,.call { callee:=.builtin .append,args:=#[x,y],argTypes:=#[sT,xT] },ty,ra,ua,g⟩ e H K X:=Ya.Ol rfl ⟨e2,Gd.De⟩ hx hy hk
inductive Acc (s:Nat):LV->List LV->Heap->Heap->Prop
 |nil {F:Heap}:Acc s Yb [] F F
 |row {b cap:Nat} {es:List LV} {F:Heap}:Acc s (.app b cap s es) es ((b,.row (es.length * s))::F) F
theorem Acc.sub(h:Acc s lv es H F):lv.Sub (.list es):=by
 cases h with
 |nil=>exact vN
 |row=>exact LV.Sub.app _ _ _ _
theorem Acc.iC(h:Acc s lv es H F):HSub F H:=by
 cases h with
 |nil=>exact Kb _
 |row=>exact Pg (Kb _)
theorem Acc.elems{s:Nat}{lv:LV}{es:List LV}{H F:Heap}(h:Acc s lv es H F):GL.elems lv=some es:=by cases h <;> rfl
theorem S.acc [ht:Oa C.P sT el s] [hr:xh C.P el s bytes] [Gd:Oa C.P xT e2 s2]{v:LV}{ms:List LV}
  (hx:e.ev x=v) (ha:Acc s v es H F) (hy:GL.elems (e.ev y)=some ms) (hs:∀ v∈ms,v.cells.length=s) (Dc:(ms.flatMap LV.cells).all yq=true) (Xa:(es.length+ms.length) * bytes<=140737488355328)
  (hk:∀ v' H',Acc s v' (es++ms) H' F->K v' H'):Ya C ⟨dst,.call { callee:=.builtin .append,args:=#[x,y],argTypes:=#[sT,xT] },ty,ra,ua,g⟩ e H K X:=by
 cases ha with
 |nil=>
  by_cases Fb:ms=[];subst Fb;exact S.Lz hx hy (hk _ _ (by simpa using Acc.nil));refine S.JL hx hy Fb hs (by simpa using Xa) λb cap=>hk _ _ ?_
  exact Acc.row
 |row=>exact S.app hx pH rfl hy hs Dc Xa λb' ff=>hk _ _ Acc.row
theorem S.Uq{f:FuncId} [Tb C.P f](args:List Operand)(has:args.map e.ev=Mc)
  (hc:ca C f Mc [] R) (hk:∀ v H',R (.ret v) H'->K v (H'++H)) (hx:∀ ch H',R (.panic ch) H'->X ch (H'++H)) :
  Ya C ⟨dst,.call { callee:=.value (.func f),args:=args.toArray,argTypes:=Rd },ty,ra,ua,g⟩ e H K X:=by
 subst has;exact Ya.Iz (Ya.call hc hk hx)
theorem S.QI{f:FuncId} [Tb C.P f](args:List Operand){p:Nat×ma}(has:args.map e.ev=Mc)(hp:xd p H F)
  (hc:ca C f Mc [p] R) (hk:∀ v H',R (.ret v) H'->K v (H'++F)) (hx:∀ ch H',R (.panic ch) H'->X ch (H'++F)) :
  Ya C ⟨dst,.call { callee:=.value (.func f),args:=args.toArray,argTypes:=Rd },ty,ra,ua,g⟩ e H K X:=by
 subst has;exact Ya.mE hp (Ya.call hc hk hx)
theorem S.Tc{f:FuncId} [Tb C.P f](args:List Operand){H1:Heap}(has:args.map e.ev=Mc)(hp:H.Perm (H1++F))
  (hc:ca C f Mc H1 R) (hk:∀ v H',R (.ret v) H'->K v (H'++F)) (hx:∀ ch H',R (.panic ch) H'->X ch (H'++F)) :
  Ya C ⟨dst,.call { callee:=.value (.func f),args:=args.toArray,argTypes:=Rd },ty,ra,ua,g⟩ e H K X:=by
 subst has;exact Ya.frame hp (Ya.call hc hk hx)
theorem S.Ml{fo:Operand}{f:FuncId} [Tb C.P f]{first ib:Array Value}(args:List Operand){Rd:Array TypeId}{Mc:List LV}{R:Ie->Heap->Prop}{H1 F:Heap}(hf:e.ev fo=.atom (.func (.func f) first ib))
  (has:first.toList.map .atom++args.map e.ev++ib.toList.map .atom=Mc) (hp:H.Perm (H1++F)) (hc:ca C f Mc H1 R) (hk:∀ v H',R (.ret v) H'->K v (H'++F)) (hx:∀ ch H',R (.panic ch) H'->X ch (H'++F)) :
  Ya C ⟨dst,.call { callee:=.value fo,args:=args.toArray,argTypes:=Rd },ty,ra,ua,g⟩ e H K X:=by
 subst has;exact Ya.frame hp (Ya.Ml hf hc hk hx)
end steps
section ret
variable{C:Ctx}{n:Nat}{e:Env}{H H':Heap}{R:Ie->Heap->Prop}
theorem rN:Dm C n e H [] []:=trivial
theorem rC{r:ResultVar}{v:LV}(h:Am C n e H r v)(k:Dm C n e H rs vs):Dm C n e H (r::rs) (v::vs):=⟨h,k⟩
theorem rR(hd:e.ds=[])(h:Dm C n e H rs vs)(hH:HSub H' H)(hR:R (.ret (Dh vs)) H'):Kd C n rs R .ret e H:=⟨hd,vs,H',h,hH,hR⟩
theorem rO(hd:e.ds=[])(h:Dm C n e H rs vs)(hH:HSub H' H)(hR:R (.ret (Dh vs)) H'):Kd C n rs R .normal e H:=⟨hd,vs,H',h,hH,hR⟩
theorem Kd.panic{rs:List ResultVar}{ch:List PanicEntry}(hd:e.ds=[])(hH:HSub H' H)(hR:R (.panic ch) H'):Kd C n rs R (.panic ch) e H:=⟨hd,H',hH,hR⟩
theorem rA{a:Nat} [ko C.P t k](hx:e.s a=ptr b off)(hm:(b,ma.cells Oo cs)∈H)(hn:Nat.ble (off+k) cs.length=true)(hs:(LV.agg ((cs.drop off).take k)).Sub lv):Am C n e H (.cell a t) lv:=λac w L hE hH=>by
 obtain⟨xs,h1,h2⟩:=hH.cells hm;have hl:=h2.length;have hn':off+k<=cs.length:=by simpa using hn
 have hv:=hE.Gi a;rw[hx] at hv;simp only[xb] at hv;refine⟨.agg ((xs.drop off).take k).toArray,?_,hs _ _ _ (by simp only[xb];exact⟨_,rfl,(h2.drop off).take k⟩)⟩;have na:((xs.drop off).take k).length=k:=by simp;omega
 simp only[Bm,hv,asAddr,Ac,Yd,ad];exact I0 (t:=t) (w:=w) (b:=b) (off:=off) na (λj y hy=>by
  rw[List.getElem?_take] at hy;split at hy;simpa [World.cell?,h1,List.getElem?_drop] using hy;cases hy)
theorem Am.Bc{a:Nat} [rq C.P t](hx:e.s a=ptr b off)(hm:(b,ma.cells Oo cs)∈H)(hc:cs[off]? = some c)(hs:c.Sub lv):Am C n e H (.cell a t) lv:=λac w L hE hH=>by
 obtain⟨xs,h1,h2⟩:=hH.cells hm;obtain⟨v,h3,h4⟩:=h2.get hc;have hv:=hE.Gi a;rw[hx] at hv;simp only[xb] at hv;refine⟨v,?_,hs _ _ _ h4⟩;have Il:w.cell? ⟨b,off,none⟩=some v:=by simp[World.cell?,h1,h3]
 simp only[Bm,hv,asAddr,Ac,Yd,ad];exact Q0 Il
end ret
theorem cJ{fn:Func}{c:Code}{args:List LV}(hf:C.P.funcs[f]? = some fn)(h:fb C n c (Kd C n fn.results.toList R) (vH args) H)(hb:fn.body=some c:=by exact rfl)(hn:fn.ntmps=n:=by exact rfl)(h3:Nat.ble fn.results.size 3=true:=by exact rfl)(hl:Nat.ble args.length n=true:=by exact rfl):ca C f args H R:=kb hf hb hn h3 hl h
theorem ob:HSub H H:=Kb _
theorem yd:HSub [] H:=HSub.nil _
theorem qd{p:Nat×ma}:HSub [p] (p::H):=tc pH (HSub.nil _)
theorem Nd{v:LV}:v.Sub v:=vR _
theorem Od{p a:Nat×ma}:xd p (a::p::F) (a::F):=(pT pH)
theorem Fi{p a b:Nat×ma}:xd p (a::b::p::F) (a::b::F):=(pT (pT pH))
theorem HA{p a b c:Nat×ma}:xd p (a::b::c::p::F) (a::b::c::F):=(pT (pT (pT pH)))
theorem WN{p a b c d:Nat×ma}:xd p (a::b::c::d::p::F) (a::b::c::d::F):=(pT (pT (pT (pT pH))))
theorem DW{p a b c d e:Nat×ma}:xd p (a::b::c::d::e::p::F) (a::b::c::d::e::F):=(pT (pT (pT (pT (pT pH)))))
theorem zp6{p a b c d e f:Nat×ma}:xd p (a::b::c::d::e::f::p::F) (a::b::c::d::e::f::F):=(pT (pT (pT (pT (pT (pT pH))))))
theorem zp7{p a b c d e f g:Nat×ma}:xd p (a::b::c::d::e::f::g::p::F) (a::b::c::d::e::f::g::F):=(pT (pT (pT (pT (pT (pT (pT pH)))))))
theorem zp8{p a b c d e f g h:Nat×ma}:xd p (a::b::c::d::e::f::g::h::p::F) (a::b::c::d::e::f::g::h::F):=(pT (pT (pT (pT (pT (pT (pT (pT pH))))))))
theorem Fc{e:Env}(h:e.s t=.atom v):Am C n e H (.tmp t) (.atom v):=rT h (vR _)
theorem eb{e:Env}(h:e.s t=.atom v):Dm C n e H [.tmp t] [.atom v]:=rC (rT h (vR _)) rN
end Go.GL
