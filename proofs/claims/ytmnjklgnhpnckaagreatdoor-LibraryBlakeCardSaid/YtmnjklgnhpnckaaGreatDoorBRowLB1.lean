import Derived.Laws.Strings
import Derived.KernelRfl
import Derived.Laws.AppendOwn
import Derived.Test.YtmnjklgnhpnckaaGreatDoorBRowLB0
set_option linter.unusedVariables false
set_option linter.unusedSimpArgs false
set_option maxRecDepth 100000
set_option maxHeartbeats 4000000
open List (cons_append map_toArray mem_singleton size_toArray flatMap_cons map_nil)
open Nat (add_mul add_zero zero_add)
open Option (map_some isSome_none)
namespace Go.GL
open Go.RowKit
variable{C:Ctx}{F H H':Heap}{K:List Nat}{L:Live}{P:Program}{R:re->Heap->Prop}{ka:Array Edge}{yg:Array TypeId}{zc cs Ab es vs:List LV}{b bytes cap d e2 el i j k len n off s s2 sT t Wp xT:Nat}{c e lv:LV}{dst:Option Nat}{f:FuncId}{hi lo:Option Operand}{new xs zs:List Value}{o:Oper}{pos:String}{rs:List ResultVar}{ty:TypeId}{v xv:Value}{w w':World}{x:Operand}{ρ:Operand->Value}
class Rp (P:Program) (t:TypeId):Prop where
 De:∃ d,P.underlying t=some d/\(match d with|.struct _|.array _ _=>False|_=>True)
 size:∃ i,P.info? t=some i/\i.size=1
def q9(P:Program)(t:TypeId):Bool:=
 (match P.underlying t with|some (.struct _)|some (.array _ _)|none=>false|_=>true) && (match P.info? t with|some i=>i.size == 1|none=>false)
theorem Rp.of{t:TypeId}(h:q9 P t=true):Rp P t:=by
 unfold q9 at h;simp only[Yc] at h;obtain⟨h1,h2⟩:=h;refine⟨?_,?_⟩;cases hu:P.underlying t with
 |none=>rw[hu] at h1;simp at h1
 |some d=>rw[hu] at h1;refine⟨d,rfl,?_⟩;cases d <;> simp_all
 cases hi:P.info? t with
 |none=>rw[hi] at h2;simp at h2
 |some i=>rw[hi] at h2;exact⟨i,rfl,by simpa using h2⟩
class Pn (P:Program) (t:TypeId) (k:outParam Nat):Prop where
 De:∃ d,P.underlying t=some d/\(match d with|.struct _|.array _ _=>True|_=>False)
 size:∃ i,P.info? t=some i/\i.size=k
def X8(P:Program)(t k:Nat):Bool:=
 (match P.underlying t with|some (.struct _)|some (.array _ _)=>true|_=>false) && (match P.info? t with|some i=>i.size == k|none=>false)
theorem Pn.of{t:TypeId}(h:X8 P t k=true):Pn P t k:=by
 unfold X8 at h;simp only[Yc] at h;obtain⟨h1,h2⟩:=h;refine⟨?_,?_⟩;cases hu:P.underlying t with
 |none=>rw[hu] at h1;simp at h1
 |some d=>rw[hu] at h1;refine⟨d,rfl,?_⟩;cases d <;> simp_all
 cases hi:P.info? t with
 |none=>rw[hi] at h2;simp at h2
 |some i=>rw[hi] at h2;exact⟨i,rfl,by simpa using h2⟩
class Ea (P:Program) (t:TypeId) (e s:outParam Nat):Prop where
 De:P.underlying t=some (.slice e)
 size:∃ i,P.info? e=some i/\i.size=s
def qpW(P:Program)(t e s:Nat):Bool:=
 (match P.underlying t with|some (.slice e')=>e' == e|_=>false) && (match P.info? e with|some i=>i.size == s|none=>false)
theorem Ea.of{e:Nat}(h:qpW P t e s=true):Ea P t e s:=by
 unfold qpW at h;simp only[Yc] at h;obtain⟨h1,h2⟩:=h;refine⟨?_,?_⟩;cases hu:P.underlying t with
 |none=>rw[hu] at h1;simp at h1
 |some d=>rw[hu] at h1;cases d <;> simp_all
 cases hi:P.info? e with
 |none=>rw[hi] at h2;simp at h2
 |some i=>rw[hi] at h2;exact⟨i,rfl,by simpa using h2⟩
class Ck (P:Program) (s f:Nat) (k:outParam Nat):Prop where
 out:∃ fs vx,P.underlying s=some (.struct fs)/\fs[f]? = some vx/\vx.offset=k/\∃ i,P.info? vx.type=some i/\i.size≠0
def qqf(P:Program)(s f k:Nat):Bool:=
 match P.underlying s with
 |some (.struct fs)=>(match fs[f]? with|some vx=>vx.offset == k && (match P.info? vx.type with|some i=>i.size != 0|none=>false)|none=>false)
 |_=>false
theorem Ck.of{f:Nat}(h:qqf P s f k=true):Ck P s f k:=by
 unfold qqf at h;cases hu:P.underlying s with
 |none=>rw[hu] at h;simp at h
 |some d=>
  rw[hu] at h;cases d <;> simp only[gk] at h
  rename_i fs;cases hf:fs[f]? with
  |none=>rw[hf] at h;simp at h
  |some vx=>
   rw[hf] at h;simp only[Yc,beq_iff_eq] at h;cases hi:P.info? vx.type with
   |none=>rw[hi] at h;simp at h
   |some i=>rw[hi] at h;exact⟨fs,vx,hu,hf,h.1,i,hi,by simpa using h.2⟩
class Bm (P:Program) (t:TypeId):Prop where
 De:P.underlying t=some .string
def y9(P:Program)(t:Nat):Bool:=match P.underlying t with|some .string=>true|_=>false
theorem Bm.of(h:y9 P t=true):Bm P t:=by
 unfold y9 at h;refine⟨?_⟩;cases hu:P.underlying t with
 |none=>rw[hu] at h;simp at h
 |some d=>rw[hu] at h;cases d <;> simp_all
class ai (P:Program) (t:TypeId) (k:outParam IntKind):Prop where
 De:P.underlying t=some (.int k)
def L9(P:Program)(t:Nat)(k:IntKind):Bool:=match P.underlying t with|some (.int k')=>k' == k|_=>false
theorem ai.of{k:IntKind}(h:L9 P t k=true):ai P t k:=by
 unfold L9 at h;refine⟨?_⟩;cases hu:P.underlying t with
 |none=>rw[hu] at h;simp at h
 |some d=>rw[hu] at h;cases d <;> simp_all
class Dh (P:Program) (t:TypeId) (zs:outParam (List Value)):Prop where
 out:∃ i v,P.info? t=some i/\i.zero=some v/\v.cells=zs.toArray/\i.size=zs.length
theorem Dh.of{t:TypeId}(h:(P.info? t).map (λi=>(i.zero,i.size))=some (some v,n))(hc:v.cells=zs.toArray)(hn:n=zs.length):Dh P t zs:=by
 cases hi:P.info? t with
 |none=>rw[hi] at h;cases h
 |some i=>rw[hi] at h;simp only[map_some,Cm,Prod.mk.injEq] at h;exact⟨i,v,hi,h.1,hc,h.2.trans hn⟩
class Dl (P:Program) (t:TypeId) (pl:outParam (List (Nat×Nat))):Prop where
 out:∃ fs,P.underlying t=some (.struct fs)/\(fs.toList.map λf=>(f.offset,P.cellsOf f.type))=pl/\∀ f∈fs,(P.info? f.type).isSome
def qnl(P:Program)(t:Nat)(pl:List (Nat×Nat)):Bool:=
 match P.underlying t with
 |some (.struct fs)=>(fs.toList.map λf=>(f.offset,P.cellsOf f.type)) == pl && fs.toList.all λf=>(P.info? f.type).isSome
 |_=>false
theorem Dl.of{pl:List (Nat×Nat)}(h:qnl P t pl=true):Dl P t pl:=by
 unfold qnl at h;cases hu:P.underlying t with
 |none=>rw[hu] at h;simp at h
 |some d=>
  rw[hu] at h;cases d <;> simp only[gk] at h
  rename_i fs;simp only[Yc,beq_iff_eq,List.all_eq_true] at h;exact⟨fs,hu,h.1,λf hf=>h.2 f (by simpa using hf)⟩
class Ie (P:Program) (t:TypeId):Prop where
 out:∃ d,P.underlying t=some d/\(match d with|.interface _=>False|_=>True)
def qj1(P:Program)(t:Nat):Bool:=match P.underlying t with|some (.interface _)|none=>false|_=>true
theorem Ie.of(h:qj1 P t=true):Ie P t:=by
 unfold qj1 at h;cases hu:P.underlying t with
 |none=>rw[hu] at h;simp at h
 |some d=>rw[hu] at h;exact⟨d,hu,by cases d <;> simp_all⟩
theorem ie{t:TypeId}{d:TypeDesc}(h:P.underlying t=some d)(w:World):(underlying t).run P w=.ok d w:=by simp[underlying,program,Sem.run,h,bind,Sem.bind,Pure.pure]
theorem kV{t:TypeId}{i:TypeInfo}(h:P.info? t=some i)(w:World):(typeInfo t).run P w=.ok i w:=by simp[typeInfo,program,Sem.run,h,bind,Sem.bind,Pure.pure]
theorem zy{t:TypeId}{i:TypeInfo}(h:P.info? t=some i)(w:World):(sizeOf t).run P w=.ok i.size w:=by simp[sizeOf,kV h]
theorem Rp.isAgg{P:Program}{t:TypeId} [h:Rp P t](w:World):(isAgg t).run P w=.ok false w:=by obtain⟨d,hd,hm⟩:=h.De;simp only[Go.isAgg,wc,ie hd,Sc];cases d <;> simp_all
theorem Pn.isAgg{P:Program}{t k:Nat} [h:Pn P t k](w:World):(isAgg t).run P w=.ok true w:=by obtain⟨d,hd,hm⟩:=h.De;simp only[Go.isAgg,wc,ie hd,Sc];cases d <;> simp_all
theorem Zc:wb w L (.atom v) v:=by simp only[wb]
theorem DL(l:List UInt8):(ByteArray.mk l.toArray).size=l.length:=by simp[ByteArray.size]
section pure
variable{C:Ctx}{e:Env}{H:Heap}{dst:Option Nat}{ty:TypeId}{pos:String}{ka:Array Edge}{g:Option (Nat×Bool)}
theorem Pure.Ja(h:∀ (ρ:Operand->Value) w L,(∀ x,wb w L (e.ev x) (ρ x))->∃ v,wb w L lv v/\∀ w',(execOp ρ o).run C.P w'=.ok (.value v) w'):Pure C o e H lv:=
 λρ w L h1 _=>
  let ⟨v,h2,h3⟩:=h ρ w L h1
  ⟨v,h2,λw' _=>h3 w'⟩
theorem Rb(h:∀ x,wb w L (e.ev x) (ρ x))(hx:e.ev x=.atom v):ρ x=v:=by have:=h x;rw[hx] at this;simpa only[wb] using this
theorem Pure.move{x:Operand}:Pure C ⟨dst,.move x,ty,pos,ka,g⟩ e H (e.ev x):=.Ja λρ _ _ h=>⟨ρ x,h x,λ_=>rfl⟩
theorem Pure.assign{x:Operand}:Pure C ⟨dst,.assign x,ty,pos,ka,g⟩ e H (e.ev x):=.Ja λρ _ _ h=>⟨ρ x,h x,λ_=>rfl⟩
theorem Pure.pick{c a b:Operand}{t:Bool}(hc:e.ev c=bool t):Pure C ⟨dst,.pick c a b,ty,pos,ka,g⟩ e H (if t then e.ev a else e.ev b):=.Ja λρ w L h=>by have h1:=Rb h hc;refine⟨if t then ρ a else ρ b,by cases t <;> simp[h],λw'=>?_⟩;cases t <;> simp[execOp,h1,asBool]
theorem AA{op:BinOp}{xT yT:TypeId}{y:Operand}{k:IntKind}{a b:Int}(hx:ρ x=.int k a)(hy:ρ y=.int k b)(hs:op≠.shl)(hr:op≠.shr){s:Sem Value}
  (h:(binOp op xT (.int k a) (.int k b))=s) {v:Value} (hv:∀ w,s.run P w=.ok v w) (w:World):(execOp ρ ⟨dst,.binOp op xT x y yT,ty,pos,ka,g⟩).run P w=.ok (.value v) w:=by
 subst h;have he:eqGuard op xT x y (.int k a) (.int k b)=Pure.pure ():=by unfold eqGuard;cases op <;> rfl
 simp only[execOp,hx,hy,he,wc,Ed,Sc,hv]
variable{xT yT:TypeId}{x y:Operand}{k:IntKind}{a b:Int}
theorem Pure.Vo(hx:e.ev x=int k a)(hy:e.ev y=int k b):Pure C ⟨dst,.binOp .add xT x y yT,ty,pos,ka,g⟩ e H (int k (k.wrap (a+b))):=
 .Ja λ_ _ _ h=>⟨_,Zc,AA (Rb h hx) (Rb h hy) (by simp) (by simp) (s:=Op.intArith .add k a b) (by simp only[binOp,ne_eq,not_true_eq_false,if_false]) λ_=>rfl⟩
theorem Pure.Tx(hx:e.ev x=int k a)(hy:e.ev y=int k b):Pure C ⟨dst,.binOp .sub xT x y yT,ty,pos,ka,g⟩ e H (int k (k.wrap (a-b))):=
 .Ja λ_ _ _ h=>⟨_,Zc,AA (Rb h hx) (Rb h hy) (by simp) (by simp) (s:=Op.intArith .sub k a b) (by simp only[binOp,ne_eq,not_true_eq_false,if_false]) λ_=>rfl⟩
theorem Pure.Fv(hx:e.ev x=int k a)(hy:e.ev y=int k b):Pure C ⟨dst,.binOp .mul xT x y yT,ty,pos,ka,g⟩ e H (int k (k.wrap (a * b))):=
 .Ja λ_ _ _ h=>⟨_,Zc,AA (Rb h hx) (Rb h hy) (by simp) (by simp) (s:=Op.intArith .mul k a b) (by simp only[binOp,ne_eq,not_true_eq_false,if_false]) λ_=>rfl⟩
theorem xy{n:Int}(h : -9223372036854775808<=n/\n<=9223372036854775807):IntKind.i64.wrap n=n:=by simp only[IntKind.wrap,IntKind.bits,IntKind.signed,Bool.true_and];split <;> rename_i h <;> simp at h <;> omega
theorem Pure.add(hx:e.ev x=int .i64 a)(hy:e.ev y=int .i64 b)(h : -9223372036854775808<=a+b/\a+b<=9223372036854775807):Pure C ⟨dst,.binOp .add xT x y yT,ty,pos,ka,g⟩ e H (int .i64 (a+b)):=by have:=Pure.Vo (C:=C) (H:=H) (dst:=dst) (ty:=ty) (pos:=pos) (ka:=ka) (g:=g) (xT:=xT) (yT:=yT) hx hy;rwa [xy h] at this
theorem Pure.sub(hx:e.ev x=int .i64 a)(hy:e.ev y=int .i64 b)(h : -9223372036854775808<=a-b/\a-b<=9223372036854775807):Pure C ⟨dst,.binOp .sub xT x y yT,ty,pos,ka,g⟩ e H (int .i64 (a-b)):=by have:=Pure.Tx (C:=C) (H:=H) (dst:=dst) (ty:=ty) (pos:=pos) (ka:=ka) (g:=g) (xT:=xT) (yT:=yT) hx hy;rwa [xy h] at this
theorem Pure.eql(hx:e.ev x=int k a)(hy:e.ev y=int k b):Pure C ⟨dst,.binOp .eql xT x y yT,ty,pos,ka,g⟩ e H (bool (decide (a=b))):=
 .Ja λ_ _ _ h=>⟨_,Zc,AA (Rb h hx) (Rb h hy) (by simp) (by simp) (s:=Op.intCmp .eql a b) (by simp only[binOp,ne_eq,not_true_eq_false,if_false]) λ_=>rfl⟩
theorem Pure.neq(hx:e.ev x=int k a)(hy:e.ev y=int k b):Pure C ⟨dst,.binOp .neq xT x y yT,ty,pos,ka,g⟩ e H (bool (!decide (a=b))):=
 .Ja λ_ _ _ h=>⟨_,Zc,AA (Rb h hx) (Rb h hy) (by simp) (by simp) (s:=Op.intCmp .neq a b) (by simp only[binOp,ne_eq,not_true_eq_false,if_false]) λ_=>rfl⟩
theorem Pure.lss(hx:e.ev x=int k a)(hy:e.ev y=int k b):Pure C ⟨dst,.binOp .lss xT x y yT,ty,pos,ka,g⟩ e H (bool (decide (a<b))):=
 .Ja λ_ _ _ h=>⟨_,Zc,AA (Rb h hx) (Rb h hy) (by simp) (by simp) (s:=Op.intCmp .lss a b) (by simp only[binOp,ne_eq,not_true_eq_false,if_false]) λ_=>rfl⟩
theorem Pure.leq(hx:e.ev x=int k a)(hy:e.ev y=int k b):Pure C ⟨dst,.binOp .leq xT x y yT,ty,pos,ka,g⟩ e H (bool (decide (a<=b))):=
 .Ja λ_ _ _ h=>⟨_,Zc,AA (Rb h hx) (Rb h hy) (by simp) (by simp) (s:=Op.intCmp .leq a b) (by simp only[binOp,ne_eq,not_true_eq_false,if_false]) λ_=>rfl⟩
theorem Pure.gtr(hx:e.ev x=int k a)(hy:e.ev y=int k b):Pure C ⟨dst,.binOp .gtr xT x y yT,ty,pos,ka,g⟩ e H (bool (decide (b<a))):=
 .Ja λ_ _ _ h=>⟨_,Zc,AA (Rb h hx) (Rb h hy) (by simp) (by simp) (s:=Op.intCmp .gtr a b) (by simp only[binOp,ne_eq,not_true_eq_false,if_false]) λ_=>rfl⟩
theorem Pure.geq(hx:e.ev x=int k a)(hy:e.ev y=int k b):Pure C ⟨dst,.binOp .geq xT x y yT,ty,pos,ka,g⟩ e H (bool (decide (b<=a))):=
 .Ja λ_ _ _ h=>⟨_,Zc,AA (Rb h hx) (Rb h hy) (by simp) (by simp) (s:=Op.intCmp .geq a b) (by simp only[binOp,ne_eq,not_true_eq_false,if_false]) λ_=>rfl⟩
theorem Pure.not{t:Bool}(hx:e.ev x=bool t):Pure C ⟨dst,.unOp .not xT x,ty,pos,ka,g⟩ e H (bool (!t)):=
 .Ja λρ _ _ h=>⟨_,Zc,λw'=>by simp only[execOp,Rb h hx,Op.unary];rfl⟩
theorem Vq(ρ:Operand->Value)(b:Builtin)(xs:Array Operand)(yg:Array TypeId) :
  execOp ρ ⟨dst,.call { callee:=.builtin b,args:=xs,argTypes:=yg },ty,pos,ka,g⟩=builtin b yg ty (xs.map fun|.const _=>true|_=>false) (xs.map ρ):=rfl
theorem dV(yg:Array TypeId)(cs:Array Bool)(args:Array Value):builtin .len yg ty cs args=(do Pure.pure (.value (<-Builtin.len_ yg ty args))):=rfl
theorem rX{op:BinOp}{xT yT:TypeId}{y:Operand}{a b:ByteArray}(hx:ρ x=.string a)(hy:ρ y=.string b)
  {v:Value} (hv:∀ w,(Op.stringOp op a b).run P w=.ok v w) (w:World):(execOp ρ ⟨dst,.binOp op xT x y yT,ty,pos,ka,g⟩).run P w=.ok (.value v) w:=by
 have he:eqGuard op xT x y (.string a) (.string b)=Pure.pure ():=by unfold eqGuard;cases op <;> rfl
 have hb:binOp op xT (.string a) (.string b)=Op.stringOp op a b:=by cases op <;> rfl
 simp only[execOp,hx,hy,he,hb,wc,Ed,Sc,hv]
variable{l m:List UInt8}
theorem Pure.seq(hx:e.ev x=str l)(hy:e.ev y=str m):Pure C ⟨dst,.binOp .eql xT x y yT,ty,pos,ka,g⟩ e H (bool (decide (l=m))):=
 .Ja λ_ _ _ h=>⟨_,Zc,rX (Rb h hx) (Rb h hy) λw=>by
  simp only[Op.stringOp,ByteArray.toList_mk,Ed];congr 2;rw[Bool.eq_iff_iff];simp⟩
theorem Pure.wI(hx:e.ev x=str l)(hy:e.ev y=str m):Pure C ⟨dst,.binOp .neq xT x y yT,ty,pos,ka,g⟩ e H (bool (!decide (l=m))):=
 .Ja λ_ _ _ h=>⟨_,Zc,rX (Rb h hx) (Rb h hy) λw=>by
  simp only[Op.stringOp,ByteArray.toList_mk,Ed];congr 3;rw[Bool.eq_iff_iff];simp⟩
theorem qsK(l m:List UInt8):(ByteArray.mk l.toArray++ByteArray.mk m.toArray)=ByteArray.mk (l++m).toArray:=by apply ByteArray.ext;simp
theorem Pure.Vx(hx:e.ev x=str l)(hy:e.ev y=str m)(hl:l.length+m.length<=9223372036854775807):Pure C ⟨dst,.binOp .add xT x y yT,ty,pos,ka,g⟩ e H (str (l++m)):=
 .Ja λ_ _ _ h=>⟨_,Zc,rX (Rb h hx) (Rb h hy) λw=>by
  have h1:¬ ((((ByteArray.mk l.toArray).size+(ByteArray.mk m.toArray).size:Nat):Int) > IntKind.i64.max):=by rw[DL,DL];simp only[IntKind.max,IntKind.signed,IntKind.bits];omega
  simp only[Op.stringOp,zn h1,Ed,qsK]⟩
theorem pI{n:Int}{c:UInt8} [Bm C.P xT](hx:e.ev x=str l)(hy:e.ev y=int k n)(h0:0<=n)(hc:l[n.toNat]? = some c):Pure C ⟨dst,.index xT x y,ty,pos,ka,g⟩ e H (int .u8 c.toNat):=
 .Ja λρ _ _ h=>⟨_,Zc,λw'=>by
  have hu:=ie (P:=C.P) (Bm.De (t:=xT)) w';have hg:(ByteArray.mk l.toArray)[n.toNat]? = some c:=by
   have za:n.toNat<l.length:=(List.getElem?_eq_some_iff.1 hc).1;have gd:n.toNat<(ByteArray.mk l.toArray).size:=by simp[ByteArray.size];exact za
   have:=(List.getElem?_eq_some_iff.1 hc).2;rw[getElem?_pos (ByteArray.mk l.toArray) n.toNat gd];exact congrArg some this
  simp only[execOp,Rb h hx,Rb h hy,Instr.index,asIntOf,wc,Ed,Sc,hu,zp h0,hg]⟩
theorem Pure.iO(hx:e.ev x=str l) [Bm C.P xT]:Pure C ⟨dst,.call { callee:=.builtin .len,args:=#[x],argTypes:=#[xT] },ty,pos,ka,g⟩ e H (int .i64 l.length):=
 .Ja λρ _ _ h=>⟨_,Zc,λw'=>by
  have hu:=ie (P:=C.P) (Bm.De (t:=xT)) w';rw[Vq,dV];simp[Builtin.len_,hu,goInt,Rb h hx];rw[DL]⟩
end pure
theorem Gf(b off i:Nat):(Addr.mk b off none).add i=⟨b,off+i,none⟩:=by unfold Addr.add;split;rename_i h;subst h;rfl;rfl
theorem Jb.get{w:World}{L:Live}{b:Nat}:∀ {off:Nat} {cs:List LV},Jb w L b off cs->∀ {i:Nat} {c:LV},cs[i]? = some c->off+i<L b/\∃ x,w.cell? ⟨b,off+i,none⟩=some x/\wb w L c x
 |_,[],_,i,c,hc=>by simp at hc
 |off,c::cs,h,i,c',hc=>by
  simp only[Jb] at h;obtain⟨h1,⟨x,h2,h3⟩,h4⟩:=h;cases i with
  |zero=>simp at hc;subst hc;exact⟨h1,x,h2,h3⟩
  |succ i=>have:=Jb.get h4 (i:=i) (by simpa using hc);rwa [show off+1+i=off+(i+1) by omega] at this
theorem Jb.drop{w:World}{L:Live}{b:Nat}:∀ {off:Nat} {cs:List LV} (n:Nat),Jb w L b off cs->Jb w L b (off+n) (cs.drop n)
 |_,cs,0,h=>by simpa using h
 |_,[],n+1,_=>by simp[Jb]
 |off,c::cs,n+1,h=>by simp only[Jb] at h;have:=Jb.drop n h.2.2;rwa [show off+1+n=off+(n+1) by omega] at this
theorem cd.cell(h:cd w L b k off (e::es)):e.cells.length=k/\Jb w L b off e.cells:=by
 cases e <;> simp only[cd] at h <;> first
  |exact h.1
  |(obtain⟨⟨r1,r2,r3⟩,_⟩:=h;exact⟨r1,by simp only[LV.cells,Jb];exact⟨r2,r3,trivial⟩⟩)
theorem cd.tail(h:cd w L b k off (e::es)):cd w L b k (off+k) es:=by cases e <;> simp only[cd] at h <;> exact h.2
theorem cd.cons(h1:e.cells.length=k)(h2:Jb w L b off e.cells)(h3:cd w L b k (off+k) es):cd w L b k off (e::es):=by
 cases e <;> simp only[cd] <;> refine⟨?_,h3⟩ <;> first
  |exact⟨h1,h2⟩
  |(simp only[LV.cells,Jb] at h1 h2;exact⟨h1,h2.1,h2.2.1⟩)
theorem cd.get{w:World}{L:Live}{b k:Nat}:∀ {off:Nat} {es:List LV},cd w L b k off es->∀ {i:Nat} {e:LV},es[i]? = some e->e.cells.length=k/\Jb w L b (off+i * k) e.cells
 |_,[],_,i,c,hc=>by simp at hc
 |off,e::es,h,i,e',hc=>by
  cases i with
  |zero=>simp at hc;subst hc;simpa using h.cell
  |succ i=>have:=cd.get h.tail (i:=i) (by simpa using hc);rwa [show off+k+i * k=off+(i+1) * k by rw[add_mul];omega] at this
theorem cd.drop{w:World}{L:Live}{b k:Nat}:∀ {off:Nat} {es:List LV} (n:Nat),cd w L b k off es->cd w L b k (off+n * k) (es.drop n)
 |_,es,0,h=>by simpa using h
 |_,[],n+1,_=>by simp[cd]
 |off,c::cs,n+1,h=>by have:=cd.drop n h.tail;rwa [show off+k+n * k=off+(n+1) * k by rw[add_mul];omega] at this
theorem cd.take{w:World}{L:Live}{b k:Nat}:∀ {off:Nat} {es:List LV} (n:Nat),cd w L b k off es->cd w L b k off (es.take n)
 |_,es,0,_=>by simp[cd]
 |_,[],n+1,_=>by simp[cd]
 |off,c::cs,n+1,h=>.cons h.cell.1 h.cell.2 (cd.take n h.tail)
theorem vM{P:Program}{w:World}{b off:Nat}:∀ (n i:Nat) (acc:Array Value) (xs:List Value),xs.length=n->(∀ j x,xs[j]? = some x->w.cell? ⟨b,off+i+j,none⟩=some x) ->
  (loadCellsFrom ⟨b,off,none⟩ i n acc).run P w=.ok (acc++xs.toArray) w
 |0,i,acc,xs,hl,_=>by have:xs=[]:=List.eq_nil_of_length_eq_zero hl;subst this;simp[loadCellsFrom]
 |n+1,i,acc,[],hl,_=>by simp at hl
 |n+1,i,acc,x::xs,hl,h=>by
  have h0:=h 0 x rfl;have ih:=vM (P:=P) (w:=w) (b:=b) (off:=off) n (i+1) (acc.push x) xs (by simpa using hl) (λj y hy=>by
   have:=h (j+1) y (by simpa using hy);rwa [show off+i+(j+1)=off+(i+1)+j by omega] at this)
  simp only[loadCellsFrom,wc,run_load,Gf];rw[show off+i=off+i+0 by omega,h0];simp only[Sc];rw[ih];simp
theorem Jb.values{w:World}{L:Live}{b:Nat}:∀ {off:Nat} {cs:List LV},Jb w L b off cs->∃ xs:List Value,la w L cs xs/\∀ j x,xs[j]? = some x->off+j<L b/\w.cell? ⟨b,off+j,none⟩=some x
 |_,[],_=>⟨[],by simp only[la],by simp⟩
 |off,c::cs,h=>by
  simp only[Jb] at h;obtain⟨h1,⟨x,h2,h3⟩,h4⟩:=h;obtain⟨xs,h5,h6⟩:=Jb.values h4;refine⟨x::xs,by simp only[la];exact⟨x,xs,rfl,h3,h5⟩,λj y hy=>?_⟩
  cases j with
  |zero=>simp at hy;subst hy;exact⟨h1,h2⟩
  |succ j=>have:=h6 j y (by simpa using hy);rwa [show off+1+j=off+(j+1) by omega] at this
theorem Jb.take{w:World}{L:Live}{b:Nat}:∀ {off:Nat} {cs:List LV} (n:Nat),Jb w L b off cs->Jb w L b off (cs.take n)
 |_,cs,0,_=>by simp[Jb]
 |_,[],n+1,_=>by simp[Jb]
 |off,c::cs,n+1,h=>by simp only[Jb,List.take_succ_cons] at h ⊢;exact⟨h.1,h.2.1,Jb.take n h.2.2⟩
theorem FZ{t:TypeId} [Rp P t]{a:Addr}{x:Value}(h:w.cell? a=some x):(loadVar t a).run P w=.ok x w:=by simp[loadVar,Rp.isAgg,h]
theorem zZ [ht:Pn P t k](hl:xs.length=k)(h:∀ j x,xs[j]? = some x->w.cell? ⟨b,off+j,none⟩=some x) :
  (loadVar t ⟨b,off,none⟩).run P w=.ok (.agg xs.toArray) w:=by
 obtain⟨i,hi,hk⟩:=ht.size;have:=vM (P:=P) (w:=w) (b:=b) (off:=off) k 0 #[] xs hl (by simpa using h);simp only[loadVar,wc,Pn.isAgg,Sc,if_true,zy hi,hk,loadCells,this];simp
section reading
variable{C:Ctx}{e:Env}{H:Heap}{dst:Option Nat}{ty:TypeId}{pos:String}{ka:Array Edge}{g:Option (Nat×Bool)}{x y:Operand}{xT:TypeId}{k:IntKind}
theorem pO{t:TypeId} [Rp C.P t](hx:e.ev x=.ref cs)(hc:cs[0]? = some c):Pure C ⟨dst,.load t x,ty,pos,ka,g⟩ e H c:=λρ w L h _=>by
 have hv:=h x;rw[hx] at hv;simp only[wb] at hv;obtain⟨b,off,hv,hr⟩:=hv;obtain⟨h1,v,h2,h3⟩:=hr.get hc;refine⟨v,h3,λw' ha=>?_⟩;have Pz:w'.cell? ⟨b,off,none⟩=some v:=by rw[ha.2 b off h1];exact h2
 have h0:execOp ρ ⟨dst,.load t x,ty,pos,ka,g⟩=(do Pure.pure (.value (<-Instr.loadAt t (ρ x)))):=rfl;rw[h0,hv];simp[Instr.loadAt,Instr.sureAddr,FZ Pz]
theorem Pure.Jv [Pn C.P t n](hx:e.ev x=.ref cs)(hn:n<=cs.length):Pure C ⟨dst,.load t x,ty,pos,ka,g⟩ e H (.agg (cs.take n)):=λρ w L h _=>by
 have hv:=h x;rw[hx] at hv;simp only[wb] at hv;obtain⟨b,off,hv,hr⟩:=hv;obtain⟨xs,h1,h2⟩:=(hr.take n).values;refine⟨.agg xs.toArray,by simp only[wb];exact⟨xs,rfl,h1⟩,λw' ha=>?_⟩;have h0:execOp ρ ⟨dst,.load t x,ty,pos,ka,g⟩=(do Pure.pure (.value (<-Instr.loadAt t (ρ x)))):=rfl;rw[h0,hv];have hlen:xs.length=n:=by rw[h1.length];simp;omega
 simp[Instr.loadAt,Instr.sureAddr,zZ (t:=t) hlen (λj y hy=>by rw[ha.2 b _ (h2 j y hy).1];exact(h2 j y hy).2)]
theorem Ma.cells{w:World}{L:Live}{b Wp:Nat}{cs:List LV}(h:Ma C w L H)(hm:(b,ga.cells Wp cs)∈H):∃ xs:List Value,w.heap[b]? = some (.cells xs.toArray Wp (0,0))/\la w L cs xs:=
 (h.qc _ hm).2.2.2
theorem pL{t:TypeId} [Rp C.P t](hx:e.ev x=ptr b off)(hm:(b,ga.cells Wp cs)∈H)(hc:cs[off]? = some c) :
  Pure C ⟨dst,.load t x,ty,pos,ka,g⟩ e H c:=λρ w L h hH=>by
 obtain⟨xs,h1,h2⟩:=hH.cells hm;obtain⟨v,h3,h4⟩:=h2.get hc;refine⟨v,h4,λw' ha=>?_⟩;have hb:w'.heap[b]? = some (.cells xs.toArray Wp (0,0)):=(ha.1 _ hm).trans h1;have Kn:w'.cell? ⟨b,off,none⟩=some v:=by simp[World.cell?,hb,h3]
 have h0:execOp ρ ⟨dst,.load t x,ty,pos,ka,g⟩=(do Pure.pure (.value (<-Instr.loadAt t (ρ x)))):=rfl;rw[h0,Rb h hx];simp[Instr.loadAt,Instr.sureAddr,FZ Kn]
theorem la.drop{w:World}{L:Live}:∀ (n:Nat) {cs:List LV} {xs:List Value},la w L cs xs->la w L (cs.drop n) (xs.drop n)
 |0,_,_,h=>by simpa using h
 |n+1,[],xs,h=>by simp only[la] at h;subst h;simp[la]
 |n+1,c::cs,xs,h=>by simp only[la] at h;obtain⟨y,ys,rfl,_,h⟩:=h;simpa using la.drop n h
theorem la.take{w:World}{L:Live}:∀ (n:Nat) {cs:List LV} {xs:List Value},la w L cs xs->la w L (cs.take n) (xs.take n)
 |0,_,_,_=>by simp[la]
 |n+1,[],xs,h=>by simp only[la] at h;subst h;simp[la]
 |n+1,c::cs,xs,h=>by simp only[la] at h;obtain⟨y,ys,rfl,h1,h⟩:=h;simp only[List.take_succ_cons,la];exact⟨y,_,rfl,h1,la.take n h⟩
theorem Pure.Zg [Pn C.P t n](hx:e.ev x=ptr b off)(hm:(b,ga.cells Wp cs)∈H)(hn:off+n<=cs.length) :
  Pure C ⟨dst,.load t x,ty,pos,ka,g⟩ e H (.agg ((cs.drop off).take n)):=λρ w L h hH=>by
 obtain⟨xs,h1,h2⟩:=hH.cells hm;have hl:=h2.length;refine⟨.agg ((xs.drop off).take n).toArray,by simp only[wb];exact⟨_,rfl,(h2.drop off).take n⟩,λw' ha=>?_⟩;have hb:w'.heap[b]? = some (.cells xs.toArray Wp (0,0)):=(ha.1 _ hm).trans h1;have h0:execOp ρ ⟨dst,.load t x,ty,pos,ka,g⟩=(do Pure.pure (.value (<-Instr.loadAt t (ρ x)))):=rfl;rw[h0,Rb h hx];have hlen:((xs.drop off).take n).length=n:=by simp;omega
 simp[Instr.loadAt,Instr.sureAddr,zZ (t:=t) (w:=w') (b:=b) (off:=off) hlen (λj y hy=>by
  rw[List.getElem?_take] at hy;split at hy;simpa [World.cell?,hb,List.getElem?_drop] using hy;cases hy)]
theorem qk1{vx:Field}{i:TypeInfo}(hi:P.info? vx.type=some i)(h0:i.size≠0)(b off:Nat)(w:World):(fieldPlace ⟨b,off,none⟩ vx).run P w=.ok ⟨b,off+vx.offset,none⟩ w:=by simp[fieldPlace,zy hi,h0,Gf]
theorem qkx{f:Nat} [hf:Ck P s f n](b off:Nat)(w:World):(Instr.fieldAt s (.pointer (some ⟨b,off,none⟩)) f).run P w=.ok (.pointer (some ⟨b,off+n,none⟩)) w:=by obtain⟨fs,vx,hu,hg,rfl,i,hi,h0⟩:=hf.out;simp[Instr.fieldAt,ie hu,hg,Instr.sureAddr,qk1 hi h0]
theorem pF{f:Nat} [Ck C.P s f n](hx:e.ev x=ptr b off):Pure C ⟨dst,.fieldAddr s x f,ty,pos,ka,g⟩ e H (ptr b (off+n)):=
 .Ja λρ _ _ h=>⟨_,Zc,λw'=>by
  have h0:execOp ρ ⟨dst,.fieldAddr s x f,ty,pos,ka,g⟩=(do Pure.pure (.value (<-Instr.fieldAt s (ρ x) f))):=rfl;rw[h0,Rb h hx];simp[qkx]⟩
theorem Pure.VB{f:Nat} [Ck C.P s f n](hx:e.ev x=.ref cs):Pure C ⟨dst,.fieldAddr s x f,ty,pos,ka,g⟩ e H (.ref (cs.drop n)):=
 .Ja λρ w L h=>by have hv:=h x;rw[hx] at hv;simp only[wb] at hv;obtain⟨b,off,hv,hr⟩:=hv;refine⟨.pointer (some ⟨b,off+n,none⟩),by simp only[wb];exact⟨b,off+n,rfl,hr.drop n⟩,λw'=>?_⟩;have h0:execOp ρ ⟨dst,.fieldAddr s x f,ty,pos,ka,g⟩=(do Pure.pure (.value (<-Instr.fieldAt s (ρ x) f))):=rfl;rw[h0,hv];simp[qkx]
def elems:LV->Option (List LV)
 |.list es=>some es
 |.app _ _ _ es=>some es
 |.atom (.slice none 0 0)=>some []
 |_=>none
theorem wb.elems{w:World}{L:Live}:∀ {lv:LV} {v:Value} {es:List LV},wb w L lv v->GL.elems lv=some es ->
  ∃ a cap,v=.slice a es.length cap/\es.length<=cap/\(es≠[]->∃ b off k,a=some ⟨b,off,none⟩/\cd w L b k off es)
 |.list es,v,Ro,h,he=>by simp only[GL.elems,Cm] at he;subst he;simpa only[wb] using h
 |.app b cap k es,v,Ro,h,he=>by simp only[GL.elems,Cm] at he;subst he;simp only[wb] at h;obtain⟨rfl,hl,h,_⟩:=h;exact⟨_,_,rfl,hl,λ_=>⟨b,0,k,rfl,h⟩⟩
 |.atom u,v,es,h,he=>by simp only[wb] at h;subst h;unfold GL.elems at he;split at he <;> simp_all
 |.agg _,_,_,_,he=>by simp[GL.elems] at he
 |.tuple _,_,_,_,he=>by simp[GL.elems] at he
 |.ref _,_,_,_,he=>by simp[GL.elems] at he
theorem Pure.pt [Ea C.P t el s](hx:elems (e.ev x)=some es):Pure C ⟨dst,.call { callee:=.builtin .len,args:=#[x],argTypes:=#[t] },ty,pos,ka,g⟩ e H (int .i64 es.length):=
 .Ja λρ _ _ h=>⟨_,Zc,λw'=>by
  obtain⟨a,cap,hv,_⟩:=(h x).elems hx;have hu:=ie (P:=C.P) (Ea.De (t:=t)) w';rw[Vq,dV];simp[Builtin.len_,hu,goInt,hv]⟩
theorem Pure.indexAddr{t el s:Nat} [ht:Ea C.P t el s]{es:List LV}{n:Int}{ve:LV}(hx:elems (e.ev x)=some es)(hy:e.ev y=int k n)(h0:0<=n)(hn:es[n.toNat]? = some ve)(hs:ve.cells.length=s) :
  Pure C ⟨dst,.indexAddr t x y,ty,pos,ka,g⟩ e H (.ref ve.cells):=.Ja λρ w L h=>by
 obtain⟨a,cap,hv,Jh,hr⟩:=(h x).elems hx;have za:n.toNat<es.length:=(List.getElem?_eq_some_iff.1 hn).1;obtain⟨b,off,k',rfl,dF⟩:=hr (by intro h;subst h;simp at za);obtain⟨h1,h2⟩:=dF.get hn;obtain⟨i,hi,gd⟩:=ht.size;refine⟨.pointer (some ⟨b,off+n.toNat * k',none⟩),by simp only[wb];exact⟨b,_,rfl,h2⟩,λw'=>?_⟩;have h3:execOp ρ ⟨dst,.indexAddr t x y,ty,pos,ka,g⟩=(do Pure.pure (.value (<-Instr.indexAt t (ρ x) (ρ y)))):=rfl;rw[h3,hv,Rb h hy];have hk:k'=i.size:=by omega
 have hc:0<=n/\n<(es.length:Int):=⟨h0,by omega⟩;simp[Instr.indexAt,asIntOf,ie ht.De,hc,zy hi,Gf,hk]
def CA(e:Env)(o:Option Operand)(I6 n:Int):Prop:=
 match o with
 |some x=>∃ k,e.ev x=int k n
 |none=>n=I6
theorem WZ(h:∀ x,wb w L (e.ev x) (ρ x)){i j:Int}(sl:Bool)
  (Qp:CA e lo 0 i) (Vy:CA e hi len j) (h0:0<=i) (h1:i<=j) (h2:j<=cap) :
  (Instr.sliceBounds sl len cap (lo.map ρ) (hi.map ρ) none).run P w'=.ok (i.toNat,j.toNat,cap) w':=by
 have hj:0<=j:=by omega
 have hm:i<=max j 0:=by omega
 cases lo <;> cases hi <;> simp only[CA] at Qp Vy;subst Qp Vy;simp[Instr.sliceBounds];obtain⟨k2,Ah⟩:=Vy;subst Qp;simp[Instr.sliceBounds,Instr.sliceBound,Rb h Ah,asIntOf,hj,h2];obtain⟨k1,Ds⟩:=Qp;subst Vy;simp[Instr.sliceBounds,Instr.sliceBound,Rb h Ds,asIntOf,h0,h1];obtain⟨k1,Ds⟩:=Qp;obtain⟨k2,Ah⟩:=Vy;simp[Instr.sliceBounds,Instr.sliceBound,Rb h Ds,Rb h Ah,asIntOf,h0,hj,h2,hm]
theorem qrO(l:List UInt8)(i j:Nat):(ByteArray.mk l.toArray).extract i j=ByteArray.mk ((l.take j).drop i).toArray:=by apply ByteArray.ext;simp[List.extract_eq_take_drop,List.drop_take]
theorem Pure.gj{l:List UInt8}{i j:Int} [hT:Bm C.P xT](hx:e.ev x=str l)
  (Qp:CA e lo 0 i) (Vy:CA e hi l.length j) (h0:0<=i) (h1:i<=j) (h2:j<=l.length) :
  Pure C ⟨dst,.slice xT x lo hi none,ty,pos,ka,g⟩ e H (str ((l.take j.toNat).drop i.toNat)):=.Ja λρ w L h=>by
 refine⟨_,Zc,λw'=>?_⟩;have h3:execOp ρ ⟨dst,.slice xT x lo hi none,ty,pos,ka,g⟩=(do Pure.pure (.value (<-Instr.sliceAt xT (ρ x) (lo.map ρ) (hi.map ρ) none))):=rfl;rw[h3,Rb h hx]
 simp only[Instr.sliceAt,Instr.slice,wc,ie (P:=C.P) hT.De w',Sc,isSome_none,gk,if_false,Ed,DL,
  WZ h false Qp Vy h0 h1 h2,qrO]
theorem Pure.Zq{es:List LV}{i j:Int} [ht:Ea C.P t el s](hx:elems (e.ev x)=some es)
  (Qp:CA e lo 0 i) (Vy:CA e hi es.length j) (h0:0<=i) (h1:i<=j) (h2:j<=es.length) (hs:∀ v∈es,v.cells.length=s) :
  Pure C ⟨dst,.slice t x lo hi none,ty,pos,ka,g⟩ e H (.list ((es.take j.toNat).drop i.toNat)):=.Ja λρ w L h=>by
 obtain⟨a,cap,hv,Jh,hr⟩:=(h x).elems hx;obtain⟨ti,Q1,gd⟩:=ht.size;have hb:=λw'=>WZ (P:=C.P) (w':=w') (cap:=cap) h true Qp Vy h0 h1 (by omega);have h3:execOp ρ ⟨dst,.slice t x lo hi none,ty,pos,ka,g⟩=(do Pure.pure (.value (<-Instr.sliceAt t (ρ x) (lo.map ρ) (hi.map ρ) none))):=rfl;have hlen:((es.take j.toNat).drop i.toNat).length=j.toNat-i.toNat:=by simp;omega
 refine⟨.slice (if cap=i.toNat then a else a.map (·.add (i.toNat * s))) (j.toNat-i.toNat) (cap-i.toNat),?_,λw'=>?_⟩;simp only[wb];refine⟨_,cap-i.toNat,by rw[hlen],by omega,λub=>?_⟩;have gF:es≠[]:=by intro h;subst h;simp at ub
 obtain⟨b,off,k,rfl,dF⟩:=hr gF;have za:i.toNat<j.toNat:=by rcases Nat.lt_or_ge i.toNat j.toNat with hh|hh;exact hh;exact absurd (List.eq_nil_of_length_eq_zero (by omega)) ub
 have hk:k=s:=by obtain⟨e0,rest,he⟩:=List.exists_cons_of_ne_nil gF;subst he;exact dF.cell.1.symm.trans (hs e0 (by simp))
 subst hk;refine⟨b,off+i.toNat * k,k,?_,(dF.take j.toNat).drop i.toNat⟩;rw[zn (by omega)];simp[Gf];rw[h3,hv];simp only[Instr.sliceAt,Instr.slice,wc,ie (P:=C.P) ht.De w',Sc,Ed,hb,zy Q1,gd]
theorem Pure.extract{vs:List LV}{i:Nat}{c:LV}(hx:e.ev x=.tuple vs)(hc:vs[i]? = some c):Pure C ⟨dst,.extract x i,ty,pos,ka,g⟩ e H c:=.Ja λρ w L h=>by have hv:=h x;rw[hx] at hv;simp only[wb] at hv;obtain⟨xs,hv,hr⟩:=hv;obtain⟨v,h1,h2⟩:=hr.get hc;refine⟨v,h2,λw'=>?_⟩;have h3:execOp ρ ⟨dst,.extract x i,ty,pos,ka,g⟩=(do Pure.pure (.value (<-Instr.extract (ρ x) i))):=rfl;rw[h3,hv];simp[Instr.extract,h1]
theorem pN(hx:e.ev x=ptr b off):Pure C ⟨dst,.nilCheck x,ty,pos,ka,g⟩ e H (ptr b off):=.Ja λρ _ _ h=>⟨_,Zc,λw'=>by
 simp[execOp,Rb h hx]⟩
theorem Pure.I0{a b:Int}(hx:e.ev x=int k a)(hy:e.ev y=int k b){t u:TypeId}:Pure C ⟨dst,.call { callee:=.builtin .min,args:=#[x,y],argTypes:=#[t,u] },ty,pos,ka,g⟩ e H (int k (if b<a then b else a)):=
 .Ja λρ _ _ h=>⟨_,Zc,λw'=>by
  have h0:∀ (cs:Array Bool) (args:Array Value),builtin .min #[t,u] ty cs args=(do Pure.pure (.value (<-Builtin.min_ #[t,u] ty args))):=λ_ _=>rfl;rw[Vq,h0]
  simp[Builtin.min_,Builtin.min2,Rb h hx,Rb h hy]⟩
theorem Pure.GF{k':IntKind}{s d:TypeId}{n:Int}(hs:∃ ds,C.P.underlying s=some ds) [hd:ai C.P d k'](hx:e.ev x=int k n):Pure C ⟨dst,.convert s d x,ty,pos,ka,g⟩ e H (int k' (k'.wrap n)):=
 .Ja λρ _ _ h=>⟨_,Zc,λw'=>by
  obtain⟨ds,hs⟩:=hs;have h3:execOp ρ ⟨dst,.convert s d x,ty,pos,ka,g⟩=(do Pure.pure (.value (<-convert s d (ρ x)))):=rfl;rw[h3,Rb h hx];simp[convert,ie hs,ie hd.De,Conv.intToInt]⟩
theorem la.atoms{w:World}{L:Live}:∀ {vs xs:List Value},la w L (vs.map .atom) xs->xs=vs
 |[],xs,h=>by simpa [la] using h
 |v::vs,xs,h=>by simp only[jd,la,wb] at h;obtain⟨y,ys,rfl,rfl,h⟩:=h;rw[la.atoms h]
theorem Pure.Vh{t:TypeId} [ht:Ie C.P t]{vs:List Value}(hx:e.ev x=.agg (vs.map .atom)):Pure C ⟨dst,.makeInterface t x,ty,pos,ka,g⟩ e H (.atom (.iface t (.agg vs.toArray))):=
 .Ja λρ w L h=>⟨_,Zc,λw'=>by
  obtain⟨d,hd,hm⟩:=ht.out;have hv:=h x;rw[hx] at hv;simp only[wb] at hv;obtain⟨xs,hv,hr⟩:=hv;rw[hr.atoms] at hv;have h3:execOp ρ ⟨dst,.makeInterface t x,ty,pos,ka,g⟩=(do Pure.pure (.value (<-Instr.makeInterface t (ρ x)))):=rfl;rw[h3,hv];simp only[Instr.makeInterface,wc,ie hd,Sc];cases d <;> simp_all⟩
def OL(e:Env):List Operand->Option (List Value)
 |[]=>some []
 |x::xs=>match e.ev x,OL e xs with
  |.atom v,some vs=>some (v::vs)
  |_,_=>none
theorem KZ{ρ:Operand->Value}{w:World}{L:Live}(h:∀ x,wb w L (e.ev x) (ρ x)):∀ {xs:List Operand} {vs:List Value},OL e xs=some vs->xs.map ρ=vs
 |[],vs,hv=>by simpa [OL] using hv
 |x::xs,vs,hv=>by simp only[OL] at hv;split at hv;rename_i v lC h1 h2;simp only[Cm] at hv;subst hv;rw[jd,Rb h h1,KZ h h2];cases hv
theorem Pure.makeFunc{fn:Fn}{first captured:List Operand}{fs cs:List Value}(h1:OL e first=some fs)(h2:OL e captured=some cs) :
  Pure C ⟨dst,.makeFunc fn first.toArray captured.toArray,ty,pos,ka,g⟩ e H (.atom (.func fn fs.toArray cs.toArray)):=.Ja λρ _ _ h=>⟨_,Zc,λw'=>by
 have h3:execOp ρ ⟨dst,.makeFunc fn first.toArray captured.toArray,ty,pos,ka,g⟩=(do Pure.pure (.value (<-Instr.makeFunc fn (first.toArray.map ρ) (captured.toArray.map ρ)))):=rfl;rw[h3];simp[Instr.makeFunc,KZ h h1,KZ h h2]⟩
def LV.cells? : LV->Option (List LV)
 |.agg cs=>some cs
 |.atom (.agg _)=>none
 |v=>some [v]
theorem wb.cells{w:World}{L:Live}:∀ {lv:LV} {v:Value} {cs:List LV},wb w L lv v->lv.cells? = some cs->la w L cs v.cells.toList
 |.agg cs,v,Ab,h,hc=>by simp only[LV.cells?,Cm] at hc;subst hc;simp only[wb] at h;obtain⟨xs,rfl,h⟩:=h;simpa [Value.cells] using h
 |.atom u,v,cs,h,hc=>by simp only[wb] at h;subst h;cases v <;> simp only[LV.cells?,Cm,reduceCtorEq] at hc <;> subst hc <;> simp[Value.cells,la,wb]
 |.list es,v,cs,h,hc=>by simp only[LV.cells?,Cm] at hc;subst hc;have h':=h;simp only[wb] at h;obtain⟨a,cap,rfl,_⟩:=h;simpa [Value.cells,la] using h'
 |.app b cap k es,v,cs,h,hc=>by simp only[LV.cells?,Cm] at hc;subst hc;have h':=h;simp only[wb] at h;obtain⟨rfl,_⟩:=h;simpa [Value.cells,la] using h'
 |.tuple vs,v,cs,h,hc=>by simp only[LV.cells?,Cm] at hc;subst hc;have h':=h;simp only[wb] at h;obtain⟨xs,rfl,_⟩:=h;simpa [Value.cells,la] using h'
 |.ref vs,v,cs,h,hc=>by simp only[LV.cells?,Cm] at hc;subst hc;have h':=h;simp only[wb] at h;obtain⟨b,off,rfl,_⟩:=h;simpa [Value.cells,la] using h'
def Kd:List LV->Nat->List LV->List LV
 |xs,0,[]=>xs
 |[],_,_=>[]
 |_::xs,0,v::vs=>v::Kd xs 0 vs
 |x::xs,n+1,vs=>x::Kd xs n vs
def uC(pl:List (Nat×Nat))(cells:List LV):List (Nat×LV)->Option (List LV)
 |[]=>some cells
 |(i,v)::rest=>
  match pl[i]?,v.cells? with
  |some (off,size),some cs=>if cs.length=size/\off+cs.length<=cells.length then uC pl (Kd cells off cs) rest else none
  |_,_=>none
theorem la.append{w:World}{L:Live}:∀ {zc bs:List LV} {xs ys:List Value},la w L zc xs->la w L bs ys->la w L (zc++bs) (xs++ys)
 |[],_,xs,_,h,k=>by simp only[la] at h;subst h;simpa using k
 |a::zc,_,xs,_,h,k=>by simp only[la] at h;obtain⟨y,mW,rfl,h1,h2⟩:=h;simp only[cons_append,la];exact⟨y,_,rfl,h1,la.append h2 k⟩
theorem YO:∀ (cells:List LV) (off:Nat) (vs:List LV),off+vs.length<=cells.length->Kd cells off vs=cells.take off++vs++cells.drop (off+vs.length)
 |xs,0,[],_=>by cases xs <;> simp[Kd]
 |[],n+1,vs,h=>by simp at h
 |[],0,v::vs,h=>by simp at h
 |x::xs,0,v::vs,h=>by have:=YO xs 0 vs (by simpa using h);simp[Kd,this]
 |x::xs,n+1,vs,h=>by have:=YO xs n vs (by simp at h;omega);simp[Kd,this,show n+1+vs.length=(n+vs.length)+1 by omega]
theorem LU(off:Nat):∀ (ys:List Value) (j:Nat) (xs:List Value),off+j+ys.length<=xs.length ->
  ((ys.zipIdx j).foldl (λcs p=>cs.setIfInBounds (off+p.2) p.1) xs.toArray)=(xs.take (off+j)++ys++xs.drop (off+j+ys.length)).toArray
 |[],j,xs,_=>by simp
 |y::ys,j,xs,h=>by
  simp only[Ba] at h;simp only[List.zipIdx_cons,List.foldl_cons,List.setIfInBounds_toArray];rw[LU off ys (j+1) (xs.set (off+j) y) (by simp;omega)];congr 1;have h1:(xs.set (off+j) y).take (off+(j+1))=xs.take (off+j)++[y]:=by rw[show off+(j+1)=off+j+1 by omega,List.take_succ_eq_append_getElem (by simp;omega)];simp[List.take_set_of_le]
  have h2:(xs.set (off+j) y).drop (off+(j+1)+ys.length)=xs.drop (off+j+(ys.length+1)):=by rw[List.drop_set_of_lt (by omega),show off+(j+1)+ys.length=off+j+(ys.length+1) by omega]
  rw[h1,h2];simp
theorem qqs{w:World}{L:Live}{pl:List (Nat×Nat)}{place:Nat->Option (Nat×Nat)}(hp:∀ i,place i=pl[i]?):∀ {parts:List (Nat×LV)} {vs:List (Nat×Value)} {cells:List LV} {xs:List Value} {cs:List LV},
  la w L cells xs->parts.map (·.1)=vs.map (·.1)->la w L (parts.map (·.2)) (vs.map (·.2))->uC pl cells parts=some cs->∃ ys:List Value,Instr.fill place xs.toArray vs=some ys.toArray/\la w L cs ys
 |[],[],cells,xs,cs,h,_,_,hf=>by simp only[uC,Cm] at hf;subst hf;exact⟨xs,rfl,h⟩
 |[],_::_,_,_,_,_,h,_,_=>by simp at h
 |_::_,[],_,_,_,_,h,_,_=>by simp at h
 |(i,lv)::parts,(i',v)::vs,cells,xs,cs,h,h1,h2,hf=>by
  simp only[jd,List.cons.injEq] at h1;obtain⟨rfl,h1⟩:=h1;simp only[jd,la] at h2;obtain⟨y,ys,he,h2,h3⟩:=h2;simp only[List.cons.injEq] at he;obtain⟨rfl,rfl⟩:=he;simp only[uC] at hf;split at hf;rename_i off size VN yp N1;split at hf;rename_i hc;have hr:=h2.cells N1;have hl:=hr.length;have yB:=h.length;simp only[Instr.fill,hp,yp];have gd:v.cells.size=VN.length:=by simpa using hl
  rw[zn (by simp[gd,yB];omega)];have he:(v.cells.zipIdx.foldl (λcs (c,j)=>cs.setIfInBounds (off+j) c) xs.toArray)=(xs.take off++v.cells.toList++xs.drop (off+VN.length)).toArray:=by rw[<-Array.foldl_toList,Array.toList_zipIdx];have:=LU off v.cells.toList 0 xs (by simp[gd,yB];omega);rw[add_zero] at this;rw[this];simp[gd]
  rw[he];refine qqs hp ?_ h1 h3 hf;rw[YO _ _ _ hc.2];exact((h.take off).append hr).append (h.drop _);cases hf;cases hf
theorem qfN{P:Program}{w:World}:∀ {fs:List Field},(∀ f∈fs,(P.info? f.type).isSome) ->
  (fs.mapM λf=>(do Pure.pure (f.offset,<-sizeOf f.type):Sem (Nat×Nat))).run P w=.ok (fs.map λf=>(f.offset,P.cellsOf f.type)) w
 |[],_=>by simp
 |f::fs,h=>by obtain⟨i,hi⟩:=zR (h f (by simp));have ih:=qfN (P:=P) (w:=w) (fs:=fs) λg hg=>h g (Gc _ hg);simp only[List.mapM_cons,wc,zy hi,Sc,Ed,ih,jd,Program.cellsOf,hi,map_some,Option.getD_some]
theorem mU{t:TypeId} [h:Dh P t zs](w:World):∃ v,(zeroValue t).run P w=.ok v w/\v.cells=zs.toArray:=by obtain⟨i,v,hi,hz,hc,_⟩:=h.out;exact⟨v,by simp[zeroValue,kV hi,hz],hc⟩
theorem Wq{w:World}{L:Live}:∀ (zs:List Value),la w L (zs.map .atom) zs
 |[]=>by simp[la]
 |z::zs=>by simp only[jd,la,wb];exact⟨z,zs,rfl,rfl,Wq zs⟩
theorem BL{ρ:Operand->Value}{w:World}{L:Live}(h:∀ x,wb w L (e.ev x) (ρ x)):∀ (xs:List Operand),la w L (xs.map e.ev) (xs.map ρ)
 |[]=>by simp[la]
 |x::xs=>by simp only[jd,la];exact⟨_,_,rfl,h x,BL h xs⟩
theorem Pure.build{t:TypeId}{pl:List (Nat×Nat)}{zs:List Value} [hs:Dl C.P t pl] [hz:Dh C.P t zs]{parts:List (Nat×Operand)}{cs:List LV}
  (h:uC pl (zs.map .atom) (parts.map λp=>(p.1,e.ev p.2))=some cs):Pure C ⟨dst,.build t parts.toArray,ty,pos,ka,g⟩ e H (.agg cs):=.Ja λρ w L hρ=>by
 obtain⟨fs,hu,yp,ug⟩:=hs.out;have hp:∀ i:Nat,((fs.toList.map λf=>(f.offset,C.P.cellsOf f.type)).toArray)[i]? = pl[i]? := λi=>by rw[yp];simp
 have J2:=BL hρ (parts.map (·.2));have:=qqs hp (w:=w) (L:=L) (parts:=parts.map λp=>(p.1,e.ev p.2)) (vs:=parts.map λp=>(p.1,ρ p.2)) (Wq zs) (by simp[Function.comp_def]) (by simpa [Function.comp_def] using J2) h;obtain⟨ys,h1,h2⟩:=this;refine⟨.agg ys.toArray,by simp only[wb];exact⟨ys,rfl,h2⟩,λw'=>?_⟩;obtain⟨v,hv,hc⟩:=mU (P:=C.P) (t:=t) w';have h3:execOp ρ ⟨dst,.build t parts.toArray,ty,pos,ka,g⟩=(do Pure.pure (.value (<-Instr.build t (parts.toArray.map λ(i,x)=>(i,ρ x))))):=rfl
 have hm:(fs.mapM λf=>(do Pure.pure (f.offset,<-sizeOf f.type):Sem (Nat×Nat))).run C.P w'=.ok (fs.toList.map λf=>(f.offset,C.P.cellsOf f.type)).toArray w':=by
  rw[Array.mapM_eq_mapM_toList];rw[Sem.run_map,qfN (P:=C.P) (w:=w') (fs:=fs.toList) (λf hf=>ug f (by simpa using hf))]
  try rfl
 rw[h3];simp only[Instr.build,wc,hv,Sc,ie hu w',hm,hc,map_toArray];rw[h1];try rfl
end reading
def Live.Sd(L:Live)(b n:Nat):Live:=λx=>if x=b then n else L x
theorem QY{o:Obj}(hb:b<w.heap.size):(w.heap.push o)[b]? = w.heap[b]? := by
 rw[Array.getElem?_push,zn (by omega)]
theorem xu{o:Obj}:(w.heap.push o)[w.heap.size]? = some o:=by simp
def World.push(w:World)(o:Obj):World:={ w with heap:=w.heap.push o }
theorem KG(hwf:∀ b,w.heap.size<=b->L b=0)(o:Obj)(n:Nat):Ext w L (World.push w o) (L.Sd w.heap.size n):=by
 refine⟨by simp[World.push],λb hb=>?_,λb i hi=>?_,λb=>?_⟩;exact bH (QY hb);rcases Nat.lt_or_ge b w.heap.size with hb|hb;exact cell_of_heap (QY hb) i;rw[hwf b hb] at hi;omega;unfold Live.Sd;split
 rename_i h;subst h;rw[hwf _ (Nb _)];omega;exact Nb _
theorem DC(hH:Ma C w L [])(o:Obj)(n:Nat)(H':Heap)(hk:∀ p∈H',p.1=w.heap.size/\PO (World.push w o) (L.Sd w.heap.size n) w.heap.size p.2)(hn:(H'.map (·.1)).Nodup) :
  Fr (keys []) w L (World.push w o) (L.Sd w.heap.size n) H'/\Ma C (World.push w o) (L.Sd w.heap.size n) H':=by
 have hx:=KG hH.wf o n;refine⟨⟨rfl,rfl,rfl,hx,λb hb _=>QY hb,λb hb _=>?_,λp hp=>.inr (by rw[(hk p hp).1];exact Nb _)⟩,⟨?_,trivial,?_,λb hb=>?_,hn,λp hp=>?_⟩⟩;simp only[Live.Sd];rw[zn (by omega)];exact hH.base.alloc hH.b0 o;exact Se hH.b0 hx.size;simp only[World.push,Array.size_push] at hb;simp only[Live.Sd];rw[zn (by omega)];exact hH.wf b (by omega);obtain⟨h1,h2⟩:=hk p hp;rw[h1];exact⟨hH.b0,by simp[World.push],h2⟩
section steps
variable{C:Ctx}{e:Env}{H:Heap}{dst:Option Nat}{ty:TypeId}{pos:String}{ka:Array Edge}{g:Option (Nat×Bool)}{x y:Operand}{xT:TypeId}{k:IntKind}
 {K:LV->Heap->Prop} {X:List PanicEntry->Heap->Prop}
theorem qqG(hH:Ma C w L []){t:TypeId}(hr:la w L cs xs)(hk:∀ b,K (ptr b 0) [(b,.cells t cs)]) :
  Left C w L [] (World.push w (.cells xs.toArray t)) (.pointer (some ⟨w.heap.size,0,none⟩)) K:=by
 have hx:=KG hH.wf (.cells xs.toArray t) 0;have:=DC hH (.cells xs.toArray t) 0 [(w.heap.size,.cells t cs)] (λp hp=>by
  simp only[mem_singleton] at hp;subst hp;exact⟨rfl,by simp[Live.Sd],xs,xu,hr.mono hx _ _⟩) (by simp)
 exact⟨_,_,_,this.1,this.2,Zc,hk _⟩
theorem Ra.alloc{t:TypeId}{zs:List Value} [hz:Dh C.P t zs](hk:∀ b,K (ptr b 0) [(b,.cells t (zs.map .atom))]):Ra C ⟨dst,.alloc t,ty,pos,ka,g⟩ e [] K X:=λρ w L _ hH=>by
 obtain⟨v,hv,hc⟩:=mU (P:=C.P) (t:=t) w;have h3:execOp ρ ⟨dst,.alloc t,ty,pos,ka,g⟩=(do Pure.pure (.value (<-Instr.alloc t true (.tuple #[])))):=rfl;have h4:(Instr.alloc t true (.tuple #[])).run C.P w=.ok (.pointer (some ⟨w.heap.size,0,none⟩)) (World.push w (.cells zs.toArray t)):=by simp only[Instr.alloc,wc,hv,Sc,newVar,newRow,hc];rfl
 rw[h3,wc,h4];exact qqG hH (Wq zs) hk
theorem Ra.box{t:TypeId}{cs:List LV}(hx:(e.ev x).cells? = some cs)(hk:∀ b,K (ptr b 0) [(b,.cells t cs)]):Ra C ⟨dst,.box t x,ty,pos,ka,g⟩ e [] K X:=λρ w L h hH=>by
 have hr:=(h x).cells hx;have h3:execOp ρ ⟨dst,.box t x,ty,pos,ka,g⟩=(do Pure.pure (.value (<-Instr.box t (ρ x)))):=rfl;have h4:(Instr.box t (ρ x)).run C.P w=.ok (.pointer (some ⟨w.heap.size,0,none⟩)) (World.push w (.cells (ρ x).cells t)):=by simp only[Instr.box,wc,newVar,newRow];rfl
 rw[h3,wc,h4];have:=qqG (K:=K) hH (t:=t) hr hk;rw[Array.toArray_toList] at this;exact this
def Tq:LV->Bool
 |.agg _|.tuple _|.atom (.agg _)|.atom (.tuple _)=>false
 |_=>true
theorem wb.flat{x:Value}(h:wb w L c x)(hc:Tq c=true):(∀ cs,x≠.agg cs)/\(∀ cs,x≠.tuple cs):=by
 cases c <;> simp only[wb] at h <;> simp only[Tq,gk] at hc
 case atom v=>subst h;cases x <;> simp_all
 case list es=>obtain⟨a,cap,rfl,_⟩:=h;simp
 case app b cap k es=>obtain⟨rfl,_⟩:=h;simp
 case ref cs=>obtain⟨b,off,rfl,_⟩:=h;simp
theorem qj3{a:Addr}{old:Value}(hc:w.cell? a=some old)(hf:w.frozen? a=false)(h1:∀ cs,v≠.agg cs)(h2:∀ cs,v≠.tuple cs):(store a v).run P w=.ok () (w.setCell a v):=by cases v <;> simp_all [store,Sem.run]
theorem qiZ{t:TypeId}{fr:Nat×Nat}(h:w.heap[b]? = some (.cells xs.toArray t fr)) :
  (w.setCell ⟨b,off,none⟩ v).heap[b]? = some (.cells (xs.set off v).toArray t fr):=by
 simp[World.setCell,Array.getElem?_modify,h]
theorem uM{P:Program}{b off:Nat}{t:TypeId}{fr:Nat×Nat}:∀ (vs:List Value) (i:Nat) (w:World) (xs:List Value),w.heap[b]? = some (.cells xs.toArray t fr)->off+i+vs.length<=xs.length ->
  (∀ j,off+i<=j->j<off+i+vs.length->¬ (fr.1<=j/\j<fr.2)) ->
  (∀ v∈vs,(∀ cs,v≠.agg cs)/\(∀ cs,v≠.tuple cs)) ->
  ∃ w',(storeCells ⟨b,off,none⟩ vs i).run P w=.ok () w'/\w'.os=w.os/\w'.tape=w.tape/\w'.output=w.output/\w'.heap.size=w.heap.size/\(∀ c,c≠b->w'.heap[c]? = w.heap[c]?) /\
   w'.heap[b]? = some (.cells (xs.take (off+i)++vs++xs.drop (off+i+vs.length)).toArray t fr)
 |[],i,w,xs,hb,_,_,_=>⟨w,by simp[storeCells],rfl,rfl,rfl,rfl,λ_ _=>rfl,by simpa using hb⟩
 |v::vs,i,w,xs,hb,hl,Nl,hv=>by
  simp only[Ba] at hl Nl;have hc:∃ old,w.cell? ⟨b,off+i,none⟩=some old:=by refine⟨xs[off+i]'(by omega),?_⟩;simp[World.cell?,hb]
  obtain⟨old,hc⟩:=hc;have hf:w.frozen? ⟨b,off+i,none⟩=false:=by obtain⟨lo,hi⟩:=fr;have:=Nl (off+i) (by omega) (by omega);simp only[World.frozen?,hb];simp only[Bool.and_eq_false_iff,decide_eq_false_iff_not];simp only at this;omega
  have hs:=qj3 (P:=P) hc hf (hv v (by simp)).1 (hv v (by simp)).2;obtain⟨w',h1,h2,h3,h4,h5,h6,h7⟩:=uM (P:=P) (off:=off) vs (i+1) (w.setCell ⟨b,off+i,none⟩ v) (xs.set (off+i) v) (qiZ hb) (by simp;omega) (λj h1 h2=>Nl j (by omega) (by omega)) λu hu=>hv u (Gc _ hu);refine⟨w',?_,h2,h3,h4,?_,λc hc=>?_,?_⟩;simp only[storeCells,Gf,wc,hs,Sc,h1];rw[h5];simp[World.setCell];rw[h6 c hc];simp only[World.setCell,Array.getElem?_modify];rw[zn (by simpa using Ne.symm hc)];rw[h7];congr 2
  have e1:(xs.set (off+i) v).take (off+(i+1))=xs.take (off+i)++[v]:=by rw[show off+(i+1)=off+i+1 by omega,List.take_succ_eq_append_getElem (by simp;omega)];simp[List.take_set_of_le]
  have e2:(xs.set (off+i) v).drop (off+(i+1)+vs.length)=xs.drop (off+i+(vs.length+1)):=by rw[List.drop_set_of_lt (by omega),show off+(i+1)+vs.length=off+i+(vs.length+1) by omega]
  rw[e1,e2];simp
theorem uU{w:World}{L:Live}:∀ {cs:List LV} {xs:List Value},la w L cs xs->(cs.all Tq)=true->∀ v∈xs,(∀ cs,v≠.agg cs)/\(∀ cs,v≠.tuple cs)
 |[],_,h,_=>by simp only[la] at h;subst h;simp
 |c::cs,_,h,hc=>by simp only[la] at h;obtain⟨y,ys,rfl,h1,h2⟩:=h;simp only[List.all_cons,Yc] at hc;intro v hv;rcases lc.1 hv with rfl|hv;exact h1.flat hc.1;exact uU h2 hc.2 v hv
class gu (P:Program) (t:TypeId) (n:outParam Nat):Prop where
 size:∃ i,P.info? t=some i/\i.size=n
def C'(P:Program)(t n:Nat):Bool:=match P.info? t with|some i=>i.size == n|none=>false
theorem gu.of(h:C' P t n=true):gu P t n:=by
 unfold C' at h;cases hi:P.info? t with
 |none=>rw[hi] at h;simp at h
 |some i=>rw[hi] at h;exact⟨i,hi,by simpa using h⟩
theorem SP{t:TypeId}{NN:List Value}(hH:Ma C w L [(b,.cells t cs)])(h1:w'.os=w.os)(h2:w'.tape=w.tape)(h3:w'.output=w.output)
  (h4:w'.heap.size=w.heap.size) (h5:∀ c,c≠b->w'.heap[c]? = w.heap[c]?) (h6:w'.heap[b]? = some (.cells NN.toArray t (0,0))) (h7:NN.length=cs.length)
  (h8:la w L Ab NN) {v:Value} {lv:LV} (hv:wb w L lv v) (hk:K lv [(b,.cells t Ab)]):Left C w L [(b,.cells t cs)] w' v K:=by
 obtain⟨Ze,nh,hl,xs,ae,je⟩:=hH.qc _ (Cp rfl);simp only at Ze nh hl ae je;have hx:Ext w L w' L:=by
  refine⟨by rw[h4];exact Nb _,λc hc=>?_,λc i hi=>?_,λ_=>Nb _⟩
  by_cases he:c=b;subst he;simp only[World.shape?,ae,h6];rw[size_toArray,size_toArray,h7,je.length];exact bH (h5 c he);by_cases he:c=b;subst he;rw[hl] at hi;omega;exact cell_of_heap (h5 c he) i
 refine⟨lv,[(b,.cells t Ab)],L,⟨h1,h2,h3,hx,λc hc hn=>h5 c (by simpa using hn),λ_ _ _=>rfl,λp hp=>.inl (by simp only[mem_singleton] at hp;subst hp;simp)⟩,
  ⟨?_,hH.Bi,by rw[h4];exact hH.b0,by rw[h4];exact hH.wf,by simp,λp hp=>?_⟩,hv.mono hx _ _,hk⟩
 exact hH.base.trans ⟨h1,h2,h3,by rw[h4];exact Nb _,λc hc=>h5 c (by omega)⟩;simp only[mem_singleton] at hp;subst hp;exact⟨Ze,by rw[h4];exact nh,hl,NN,h6,h8.mono hx _ _⟩
theorem Ra.store{t n:Nat} [ht:gu C.P t n]{b off Wp:Nat}{cs vs:List LV}(hx:e.ev x=ptr b off)(hy:(e.ev y).cells? = some vs)(hn:vs.length=n)(hl:off+n<=cs.length)(xc:vs.all Tq=true)
  (hk:K (.atom undef) [(b,.cells Wp (Kd cs off vs))]):Ra C ⟨dst,.store t x y,ty,pos,ka,g⟩ e [(b,.cells Wp cs)] K X:=λρ w L h hH=>by
 obtain⟨Ze,nh,hlv,xs,ae,je⟩:=hH.qc _ (Cp rfl);simp only at Ze nh hlv ae je;have hr:=(h y).cells hy;have zj:=hr.length;have hxl:=je.length;obtain⟨i,hi,gd⟩:=ht.size;obtain⟨w',r1,r2,r3,r4,r5,r6,r7⟩:=uM (P:=C.P) (off:=off) (ρ y).cells.toList 0 w xs ae (by omega) (λj _ _=>by simp) (uU hr xc);have h3:execOp ρ ⟨dst,.store t x y,ty,pos,ka,g⟩=(do Instr.storeAt t (ρ x) (ρ y);Pure.pure .skip):=rfl;have hs:(ρ y).cells.size=n:=by rw[<-hn,<-zj];simp
 rw[h3,Rb h hx];simp only[Instr.storeAt,Instr.sureAddr,wc,Ed,Sc,storeVar,zy hi,gd,hs,ne_eq,not_true_eq_false,if_false];rw[r1];refine SP hH r2 r3 r4 r5 r6 r7 ?_ ?_ Zc hk;simp;omega;rw[YO cs off vs (by omega)];rw[zj,add_zero];exact((je.take off).append hr).append (je.drop _)
class Gb (P:Program) (f:FuncId):Prop where
 out : ∃ fn, P.funcs[f]? = some fn ∧ (fn.name == "runtime.NumGoroutine") = false ∧ fn.body.isNone = false
def qqC (P : Program) (f : FuncId) : Bool := match P.funcs[f]? with | some fn => !(fn.name == "runtime.NumGoroutine") && fn.body.isSome | none => false
theorem Gb.of(h:qqC P f=true):Gb P f:=by
 unfold qqC at h;cases hf:P.funcs[f]? with
 |none=>rw[hf] at h;cases h
 |some fn=>rw[hf] at h;simp only[Yc,Bool.not_eq_true'] at h;exact⟨fn,hf,h.1,by cases hb:fn.body <;> simp_all⟩
theorem RZ [h:Gb P f](args:Array Value)(w:World):(callFunc f args).run P w=.ok (.enter f args) w:=by obtain⟨fn,h1,h2,h3⟩:=h.out;have h0:(program).run P w=.ok P w:=rfl;simp only[callFunc,wc,h0,Sc,h1,h2,h3,gk,if_false,Ed]
theorem Ra.yl{fo:Operand}{f:FuncId} [Gb C.P f]{first Ua:Array Value}{args:List Operand}(hf:e.ev fo=.atom (.func (.func f) first Ua))
  (hc:ca C f (first.toList.map .atom++args.map e.ev++Ua.toList.map .atom) H R) (hk:∀ v H,R (.ret v) H->K v H) (hx:∀ ch H,R (.panic ch) H->X ch H) :
  Ra C ⟨dst,.call { callee:=.value fo,args:=args.toArray,argTypes:=yg },ty,pos,ka,g⟩ e H K X:=λρ w L h hH=>by
 have h3:execOp ρ ⟨dst,.call { callee:=.value fo,args:=args.toArray,argTypes:=yg },ty,pos,ka,g⟩=(do let d <-Deferred.ofValue (ρ fo) (args.toArray.map ρ);invoke d.target d.args):=rfl;rw[h3,Rb h hf];simp only[Deferred.ofValue,wc,Ed,Sc,invoke,RZ];refine⟨rfl,?_⟩;have:=hc (first.toList++args.map ρ++Ua.toList) w L ((((Wq _).append (BL h _))).append (Wq _)) hH;simp only[<-List.append_toArray,Array.toArray_toList] at this;simp only[map_toArray];exact this.mono (Bz.mono (λv H hv=>hk v H hv) λch H hv=>hx ch H hv)
theorem Ra.call{f:FuncId} [Gb C.P f]{args:List Operand}{yg:Array TypeId}{R:re->Heap->Prop}
  (hc:ca C f (args.map e.ev) H R) (hk:∀ v H,R (.ret v) H->K v H) (hx:∀ ch H,R (.panic ch) H->X ch H) :
  Ra C ⟨dst,.call { callee:=.value (.func f),args:=args.toArray,argTypes:=yg },ty,pos,ka,g⟩ e H K X:=
 Ra.yl (f:=f) (first:=#[]) (Ua:=#[]) rfl (by simpa using hc) hk hx
theorem Ra.panic{t:TypeId}{v:Value}(hx:e.ev x=.atom (.iface t v))(hk:X [{ v:=.iface t v,recovered:=false }] H):Ra C ⟨dst,.panic x,ty,pos,ka,g⟩ e H K X:=λρ w L h hH=>by have h3:execOp ρ ⟨dst,.panic x,ty,pos,ka,g⟩=(do Pure.pure (.value (<-Instr.panic (ρ x)))):=rfl;rw[h3,Rb h hx];simp only[Instr.panic,goPanic,wc,Sem.run_halt,Result.andThen_halt];exact⟨H,L,Fr.refl _ _ _,hH,hk⟩
theorem qqD{size:Nat}:∀ (vs:List Value) (i:Nat) (xs:List Value),(∀ v∈vs,v.cells.size=size)->(i+vs.length) * size<=xs.length ->
  Instr.fill (λi=>some (i * size,size)) xs.toArray ((List.range' i vs.length).zip vs)=some (xs.take (i * size)++vs.flatMap (λv=>v.cells.toList)++xs.drop ((i+vs.length) * size)).toArray
 |[],i,xs,_,_=>by simp[Instr.fill]
 |v::vs,i,xs,h,hl=>by
  have hv:=h v (by simp);simp only[Ba] at hl;have kx:i * size+size+vs.length * size<=xs.length:=by
   have:(i+(vs.length+1)) * size=i * size+size+vs.length * size:=by rw[add_mul,add_mul];omega
   omega
  simp only[Ba,List.range'_succ,List.zip_cons_cons,Instr.fill];rw[zn (by simp[hv];omega)];have he:(v.cells.zipIdx.foldl (λcs (c,j)=>cs.setIfInBounds (i * size+j) c) xs.toArray)=(xs.take (i * size)++v.cells.toList++xs.drop (i * size+size)).toArray:=by rw[<-Array.foldl_toList,Array.toList_zipIdx];have:=LU (i * size) v.cells.toList 0 xs (by simp[hv];omega);rw[add_zero] at this;rw[this];simp[hv]
  rw[he];have ha:(i+1) * size=i * size+size:=by rw[add_mul];omega
  have hb:(i+1+vs.length) * size=i * size+size+vs.length * size:=by rw[add_mul,add_mul];omega
  have hc:(i+(vs.length+1)) * size=i * size+size+vs.length * size:=by rw[add_mul,add_mul];omega
  have hlen:(xs.take (i * size)++v.cells.toList++xs.drop (i * size+size)).length=xs.length:=by simp[hv];omega
  rw[qqD vs (i+1) _ (λu hu=>h u (Gc _ hu)) (by rw[hlen,hb];omega)];congr 2
  have e1:(xs.take (i * size)++v.cells.toList++xs.drop (i * size+size)).take ((i+1) * size)=xs.take (i * size)++v.cells.toList:=by rw[ha,List.take_append_of_le_length (by simp[hv];omega),List.take_of_length_le (by simp[hv];omega)]
  have e2:(xs.take (i * size)++v.cells.toList++xs.drop (i * size+size)).drop ((i+1+vs.length) * size)=xs.drop ((i+(vs.length+1)) * size):=by rw[hb,hc,List.drop_append,List.drop_eq_nil_of_le (by simp[hv];omega)];simp[hv,List.drop_drop];congr 1;omega
  rw[e1,e2];simp
theorem Jb.of_heap{w:World}{L:Live}{b:Nat}{t:TypeId}{fr:Nat×Nat}:∀ {cs:List LV} {off:Nat} {ys:List Value} (pre post:List Value),w.heap[b]? = some (.cells (pre++ys++post).toArray t fr)->pre.length=off->off+ys.length<=L b ->
  la w L cs ys->Jb w L b off cs
 |[],_,_,_,_,_,_,_,_=>by simp[Jb]
 |c::cs,off,ys,pre,post,hb,hp,hl,h=>by simp only[la] at h;obtain⟨y,mW,rfl,h1,h2⟩:=h;simp only[Ba] at hl;simp only[Jb];refine⟨by omega,⟨y,?_,h1⟩,Jb.of_heap (pre++[y]) post (by simpa using hb) (by simp[hp]) (by omega) h2⟩;simp only[World.cell?,hb];subst hp;simp
theorem cd.of_heap{w:World}{L:Live}{b k:Nat}{t:TypeId}{fr:Nat×Nat}:∀ {es:List LV} {off:Nat} {vs:List Value} (pre post:List Value),w.heap[b]? = some (.cells (pre++vs.flatMap (λv=>v.cells.toList)++post).toArray t fr)->pre.length=off ->
  off+es.length * k<=L b->(∀ v∈es,v.cells? = some v.cells/\v.cells.length=k)->la w L es vs->cd w L b k off es
 |[],_,_,_,_,_,_,_,_,_=>by simp[cd]
 |c::cs,off,vs,pre,post,hb,hp,hl,hk,h=>by
  simp only[la] at h;obtain⟨y,mW,rfl,h1,h2⟩:=h;have hc:=hk c (by simp);have hr:=h1.cells hc.1;have rH:y.cells.size=k:=by rw[<-hc.2,<-hr.length];simp
  simp only[Ba,add_mul,Nat.one_mul] at hl;refine cd.cons hc.2 (Jb.of_heap (t:=t) (fr:=fr) pre (mW.flatMap (λv=>v.cells.toList)++post) (by simpa using hb) hp (by simp[rH];omega) hr) ?_;exact cd.of_heap (t:=t) (fr:=fr) (pre++y.cells.toList) post (by simpa using hb) (by simp[hp,rH]) (by omega) (λv hv=>hk v (Gc _ hv)) h2
def yz(s:Nat)(es:List LV):Prop:=∀ v∈es,v.cells? = some v.cells/\v.cells.length=s
theorem Ek:yz s []:=by simp[yz]
theorem Hd{e:LV}(h1:e.cells? = some e.cells)(h2:e.cells.length=s)(h:yz s es):yz s (e::es):=λv hv=>by rcases lc.1 hv with rfl|hv;exact⟨h1,h2⟩;exact h v hv
theorem qgL{s:Nat}:∀ (vs:List Value),(∀ v∈vs,v.cells.size=s)->(vs.flatMap λv=>v.cells.toList).length=vs.length * s
 |[],_=>by simp
 |v::vs,h=>by have ih:=qgL vs λu hu=>h u (Gc _ hu);have hv:=h v (by simp);simp only[flatMap_cons,ya,ih,Ba,Array.length_toList,hv,add_mul];omega
theorem mZ{w:World}{L:Live}{s:Nat}:∀ {es:List LV} {vs:List Value},la w L es vs->yz s es->∀ v∈vs,v.cells.size=s
 |[],_,h,_=>by simp only[la] at h;subst h;simp
 |c::cs,_,h,hc=>by simp only[la] at h;obtain⟨y,ys,rfl,h1,h2⟩:=h;intro v hv;rcases lc.1 hv with rfl|hv;have:=hc c (by simp);rw[<-this.2,<-(h1.cells this.1).length];simp;exact mZ h2 (λu hu=>hc u (Gc _ hu)) v hv
theorem qkh(hH:Ma C w L []){vs rest:List Value}(hr:la w L es vs)(xc:yz s es)(Jh:es.length<=cap)(gd:cap * s<=es.length * s+rest.length)
  (hk:∀ b,K (.app b cap s es) [(b,.row (es.length * s))]) :
  Left C w L [] (World.push w (.cells (vs.flatMap (λv=>v.cells.toList)++rest).toArray t)) (.slice (some ⟨w.heap.size,0,none⟩) es.length cap) K:=by
 have hl:=hr.length;have Dn:=qgL vs (mZ hr xc);rw[hl] at Dn;have hx:=KG hH.wf (.cells (vs.flatMap (λv=>v.cells.toList)++rest).toArray t) (es.length * s);have:=DC hH (.cells (vs.flatMap (λv=>v.cells.toList)++rest).toArray t) (es.length * s) [(w.heap.size,.row (es.length * s))] (λp hp=>by
  simp only[mem_singleton] at hp;subst hp;exact⟨rfl,by simp[Live.Sd],_,t,(0,0),xu,by simp only[size_toArray,ya,Dn];omega,Nat.zero_le _⟩) (by simp)
 refine⟨.app w.heap.size cap s es,_,_,this.1,this.2,?_,hk _⟩;simp only[wb];refine⟨trivial,Jh,?_,t,_,by simp only[World.shape?,World.push];rw[xu],by simp only[size_toArray,ya,Dn];exact gd⟩;exact cd.of_heap (t:=t) (fr:=(0,0)) [] rest (by simp only[World.push,List.nil_append];exact xu) rfl (by simp[Live.Sd]) xc (hr.mono hx _ _)
theorem Ra.buildSlice{t el s:Nat}{zs:List Value} [ht:Ea C.P t el s] [hz:Dh C.P el zs]{xs:List Operand}(xc:yz s (xs.map e.ev))(gd:xs.length * s<=16777216){parts:List (Nat×Operand)}(hp:parts=(List.range xs.length).zip xs)
  {len:Nat} (hlen:len=xs.length) (hk:∀ b,K (.app b len s (xs.map e.ev)) [(b,.row (len * s))]):Ra C ⟨dst,.buildSlice t len parts.toArray,ty,pos,ka,g⟩ e [] K X:=λρ w L h hH=>by
 subst hlen hp;obtain⟨i,hi,T3⟩:=ht.size;obtain⟨v0,RC,fD⟩:=mU (P:=C.P) (t:=el) w;have hr:=BL h xs;have VE:=mZ hr xc;have h3:execOp ρ ⟨dst,.buildSlice t xs.length ((List.range xs.length).zip xs).toArray,ty,pos,ka,g⟩=(do Pure.pure (.value (<-Instr.buildSlice t xs.length (((List.range xs.length).zip xs).toArray.map λ(i,x)=>(i,ρ x))))):=rfl
 have jF:(((List.range xs.length).zip xs).map λp=>(p.1,ρ p.2))=(List.range' 0 (xs.map ρ).length).zip (xs.map ρ):=by rw[ab,<-List.range_eq_range',List.zip_map_right];try rfl
 have key:∀ (Xz:Array Value),Instr.fill (λi=>some (i * s,s)) ((Array.range (xs.length * s)).map (Xz[· % Xz.size]!)) (((List.range xs.length).zip xs).toArray.map λ(i,x)=>(i,ρ x)).toList =
   some ((xs.map ρ).flatMap λv=>Value.cells v |>.toList).toArray:=λXz=>by
  have kK:=qqD (size:=s) (xs.map ρ) 0 ((Array.range (xs.length * s)).map (Xz[· % Xz.size]!)).toList VE (by simp);rw[Array.toArray_toList] at kK;have Cu:(((List.range xs.length).zip xs).toArray.map λ(i,x)=>(i,ρ x)).toList=(List.range' 0 (xs.map ρ).length).zip (xs.map ρ):=by rw[<-jF];simp
  rw[Cu,kK];simp
 have pK:(Instr.buildSlice t xs.length (((List.range xs.length).zip xs).toArray.map λ(i,x)=>(i,ρ x))).run C.P w =
   .ok (.slice (some ⟨w.heap.size,0,none⟩) xs.length xs.length) (World.push w (.cells ((xs.map ρ).flatMap λv=>Value.cells v |>.toList).toArray el)):=by
  have hg:¬ (xs.length * s > 2 ^ 24):=by simp;omega
  simp only[Instr.buildSlice,wc,ie ht.De,Sc,zy hi,T3];rw[zn hg];by_cases h0:xs.length * s=0;rw[zp h0];simp only[wc,Ed,Sc,key #[]];rfl;rw[zn h0];simp only[wc,Ed,Sc,RC,key v0.cells];rfl
 rw[h3,wc,pK];have:=qkh (K:=K) (t:=el) (cap:=xs.length) (rest:=[]) hH hr xc (by simp) (by simp) (by simpa using hk);simp only[Jd,ab] at this;exact this
theorem Jb.append{w:World}{L:Live}{b:Nat}:∀ {zc bs:List LV} {off:Nat},Jb w L b off zc->Jb w L b (off+zc.length) bs->Jb w L b off (zc++bs)
 |[],_,_,_,h=>by simpa using h
 |a::zc,bs,off,h1,h2=>by simp only[Jb,cons_append] at h1 ⊢;refine⟨h1.1,h1.2.1,Jb.append h1.2.2 ?_⟩;simpa [show off+1+zc.length=off+(zc.length+1) by omega] using h2
theorem Jb.left{bs:List LV}(h:Jb w L b off (zc++bs)):Jb w L b off zc:=by have:=h.take zc.length;simpa using this
theorem Jb.right{bs:List LV}(h:Jb w L b off (zc++bs)):Jb w L b (off+zc.length) bs:=by have:=h.drop zc.length;simpa using this
theorem cd.I7{w:World}{L:Live}{b k:Nat}:∀ {es:List LV} {off:Nat},cd w L b k off es->Jb w L b off (es.flatMap LV.cells)
 |[],_,_=>by simp[Jb]
 |e::es,off,h=>by have h1:=h.cell;rw[flatMap_cons];refine Jb.append h1.2 ?_;rw[h1.1];exact cd.I7 h.tail
theorem cd.A0{w:World}{L:Live}{b k:Nat}:∀ {es:List LV} {off:Nat},(∀ e∈es,e.cells.length=k)->Jb w L b off (es.flatMap LV.cells)->cd w L b k off es
 |[],_,_,_=>by simp[cd]
 |e::es,off,hk,h=>by rw[flatMap_cons] at h;have h1:=hk e (by simp);refine cd.cons h1 h.left (cd.A0 (λv hv=>hk v (Gc _ hv)) ?_);rw[<-h1];exact h.right
theorem cd.Aw{w:World}{L:Live}{b k:Nat}:∀ {es:List LV} {off:Nat},cd w L b k off es->∀ e∈es,e.cells.length=k
 |[],_,_=>by simp
 |e::es,_,h=>λv hv=>by rcases lc.1 hv with rfl|hv;exact h.cell.1;exact cd.Aw h.tail v hv
theorem iM{k:Nat}:∀ {es:List LV},(∀ e∈es,e.cells.length=k)->(es.flatMap LV.cells).length=es.length * k
 |[],_=>by simp
 |e::es,h=>by rw[flatMap_cons,ya,h e (by simp),iM λv hv=>h v (Gc _ hv),Ba,add_mul];omega
theorem Jb.nj{w:World}{L:Live}{b:Nat}:∀ {cs:List LV} {off:Nat} {ys:List Value},la w L cs ys->off+ys.length<=L b->(∀ j x,ys[j]? = some x->w.cell? ⟨b,off+j,none⟩=some x)->Jb w L b off cs
 |[],_,_,_,_,_=>by simp[Jb]
 |c::cs,off,_,h,hl,hc=>by
  simp only[la] at h;obtain⟨y,ys,rfl,h1,h2⟩:=h;simp only[Ba] at hl;simp only[Jb];refine⟨by omega,⟨y,hc 0 y rfl,h1⟩,Jb.nj h2 (by omega) λj x hx=>?_⟩;have:=hc (j+1) x (by simpa using hx)
  rwa [show off+(j+1)=off+1+j by omega] at this
class Kh (P:Program) (el:TypeId) (s bytes:outParam Nat):Prop where
 out:∃ i v,P.info? el=some i/\i.size=s/\i.bytes=bytes/\0<bytes/\i.zero=some v/\v.cells.size=s
def l9(P:Program)(el s bytes:Nat):Bool:=
 match P.info? el with
 |some i=>i.size == s && i.bytes == bytes && Nat.blt 0 bytes && (match i.zero with|some v=>v.cells.size == s|none=>false)
 |none=>false
theorem Kh.of(h:l9 P el s bytes=true):Kh P el s bytes:=by
 unfold l9 at h;cases hi:P.info? el with
 |none=>rw[hi] at h;simp at h
 |some i=>
  rw[hi] at h;simp only[Yc,beq_iff_eq] at h;obtain⟨⟨⟨h1,h2⟩,h3⟩,h4⟩:=h;cases hz:i.zero with
  |none=>rw[hz] at h4;simp at h4
  |some v=>rw[hz] at h4;exact⟨i,v,hi,h1,h2,by simpa using h3,hz,by simpa using h4⟩
theorem lV{xT:Nat} [ht:Ea P sT el s] [hr:Kh P el s bytes]{a:Option Addr}
  (Yw:P.underlying xT=some .string∨∃ e2,P.underlying xT=some (.slice e2)) (hlen:∀ w':World,(Builtin.lenOf xv).run P w'=.ok n w')
  (jl:∀ w':World,w'.heap=w.heap->(Builtin.firstCells s n xv).run P w'=.ok new.toArray w') (hc:len+n<=cap) :
  (Builtin.append_ #[sT,xT] ty #[.slice a len cap,xv]).run P w =
   ((match a with|some a=>storeCells (a.add (len * s)) new|none=>Pure.pure ()).run P w).andThen λ_ w'=>.ok (.slice a (len+n) cap) w':=by
 obtain⟨i,z,hi,hs,hb,Ze,hz,qV⟩:=hr.out;subst hs;have hn:=jl w rfl;rcases Yw with hd|⟨e2,hd⟩ <;> cases a <;> simp[Builtin.append_,ie ht.De,ie hd,sizeOf,typeInfo,hi,hlen,hc,hn]
theorem cH{xT:Nat} [ht:Ea P sT el s] [hr:Kh P el s bytes]{a:Option Addr}{old:List Value}
  (Yw:P.underlying xT=some .string∨∃ e2,P.underlying xT=some (.slice e2)) (hlen:∀ w':World,(Builtin.lenOf xv).run P w'=.ok n w')
  (jl:∀ w':World,w'.heap=w.heap->(Builtin.firstCells s n xv).run P w'=.ok new.toArray w') (hold:∀ w':World,w'.heap=w.heap->(Builtin.firstCells s len (.slice a len cap)).run P w'=.ok old.toArray w')
  (Na:(len+n) * bytes<=140737488355328) (hc:cap<len+n) :
  ∃ Pe rest,len+n<=Pe/\rest.length=(Pe-(len+n)) * s/\(Builtin.append_ #[sT,xT] ty #[.slice a len cap,xv]).run P w =
   .ok (.slice (some ⟨w.heap.size,0,none⟩) (len+n) Pe) (World.push w.drew (.cells (old++new++rest).toArray el)):=by
 obtain⟨i,z,hi,hs,hb,Ze,hz,qV⟩:=hr.out;subst hs;have hn':¬ (len+n<=cap):=by omega
 have hmul:len+n<=(len+n) * bytes:=Nat.le_mul_of_pos_right _ Ze;have DK:¬ (9223372036854775807<((len:Int)+(n:Int))):=by omega
 have de:=growslice_fits (bytes:=bytes) hc Na;have EK:¬ (281474976710656<Builtin.nextslicecap (len+n) cap * i.bytes):=by rw[hb];omega
 have hf:=jl w.drew rfl;have hfo:=hold w.drew rfl;refine⟨grownCap w (len+n) cap el,(Builtin.zeroCells z.cells (grownCap w (len+n) cap el-(len+n))).toList,?_,?_,?_⟩;simp[grownCap,Question.cut];simp[Builtin.zeroCells,qV];rcases Yw with hd|⟨e2,hd⟩;all_goals
  simp[Builtin.append_,ie ht.De,ie hd,sizeOf,typeInfo,zeroValue,hi,hz,hlen,hn',DK,EK,Question.forced,hf,hfo,newRow,grownCap];show World.push w.drew _=World.push w.drew _;congr 2;apply Array.ext';simp
theorem Fr.wide{K K':List Nat}{L':Live}(h:Fr K w L w' L' H')(hk:∀ b∈K,b∈K'):Fr K' w L w' L' H':=
 ⟨h.os,h.tape,h.output,h.ext,λb hb hn=>h.block b hb λk=>hn (hk b k),λb hb hn=>h.ck b hb λk=>hn (hk b k),λp hp=>(h.OC p hp).imp (hk _) id⟩
theorem Fr.Ve{K:List Nat}{L':Live}(h:Fr K w.drew L w' L' H'):Fr K w L w' L' H':=
 ⟨h.os,h.tape,h.output,⟨h.ext.size,h.ext.shape,h.ext.live,h.ext.mono⟩,h.block,h.ck,h.OC⟩
theorem HG(w:World)(L:Live):Ext w L w.drew L:=⟨Nb _,λ_ _=>rfl,λ_ _ _=>rfl,λ_=>Nb _⟩
theorem Ma.drew{w:World}{L:Live}(h:Ma C w L H):Ma C w.drew L H:=
 ⟨h.base.drew,h.Bi,h.b0,h.wf,h.nodup,λp hp=>⟨(h.qc p hp).1,(h.qc p hp).2.1,(h.qc p hp).2.2.mQ (HG w L) rfl rfl⟩⟩
theorem qjh(hH:Ma C w L []){es:List LV}{rest:List Value}(hr:la w L (es.flatMap LV.cells) xs)(xc:∀ v∈es,v.cells.length=s)(Jh:es.length<=cap)(gd:cap * s<=es.length * s+rest.length)
  (hk:∀ b,K (.app b cap s es) [(b,.row (es.length * s))]) :
  Left C w L [] (World.push w (.cells (xs++rest).toArray t)) (.slice (some ⟨w.heap.size,0,none⟩) es.length cap) K:=by
 have hl:xs.length=es.length * s:=by rw[hr.length,iM xc]
 have hx:=KG hH.wf (.cells (xs++rest).toArray t) (es.length * s);have:=DC hH (.cells (xs++rest).toArray t) (es.length * s) [(w.heap.size,.row (es.length * s))] (λp hp=>by
  simp only[mem_singleton] at hp;subst hp;exact⟨rfl,by simp[Live.Sd],_,t,(0,0),xu,by simp only[size_toArray,ya,hl];omega,Nat.zero_le _⟩) (by simp)
 refine⟨.app w.heap.size cap s es,_,_,this.1,this.2,?_,hk _⟩;simp only[wb];refine⟨trivial,Jh,?_,t,_,by simp only[World.shape?,World.push];rw[xu],by simp only[size_toArray,ya,hl];exact gd⟩;refine cd.A0 xc (Jb.nj (hr.mono hx _ _) (by simp[Live.Sd,hl]) λj x hj=>?_);have hb:(World.push w (.cells (xs++rest).toArray t)).heap[w.heap.size]? = some (.cells (xs++rest).toArray t (0,0)):=xu;simp only[World.cell?,hb];simp only[isSome_none,gk,if_false,zero_add,List.getElem?_toArray];rw[List.getElem?_append_left (List.getElem?_eq_some_iff.1 hj).1];exact hj
theorem uJ{v:Value}{es:List LV}(h:wb w L lv v)(he:elems lv=some es)(hs:∀ v∈es,v.cells.length=s) :
  ∃ a cap xs,v=.slice a es.length cap/\es.length<=cap/\la w L (es.flatMap LV.cells) xs/\xs.length=es.length * s /\
   ∀ (P:Program) (w':World),w'.heap=w.heap->(Builtin.firstCells s es.length v).run P w'=.ok xs.toArray w':=by
 obtain⟨a,cap,rfl,hc,hr⟩:=h.elems he;by_cases ub:es=[];subst ub;refine⟨a,cap,[],rfl,hc,by simp[la],by simp,λP w' _=>?_⟩;cases a <;> simp[Builtin.firstCells,loadCells,loadCellsFrom];obtain⟨b,off,k,rfl,dF⟩:=hr ub
 have hk:k=s:=by obtain⟨e0,rest,he⟩:=List.exists_cons_of_ne_nil ub;subst he;exact dF.cell.1.symm.trans (hs e0 (by simp))
 subst hk;obtain⟨xs,h1,h2⟩:=dF.I7.values;have hl:xs.length=es.length * k:=by rw[h1.length,iM hs]
 refine⟨_,cap,xs,rfl,hc,h1,hl,λP w' hw=>?_⟩
 have:=vM (P:=P) (w:=w') (b:=b) (off:=off) (es.length * k) 0 #[] xs hl (λj x hj=>by
  have:=(h2 j x hj).2;simp only[World.cell?] at this ⊢;rw[hw];simpa using this)
 simp only[Builtin.firstCells,loadCells,this];simp
theorem Ra.gz{xT:Nat} [ht:Ea C.P sT el s] [hr:Kh C.P el s bytes](IB:yg=#[sT,xT])(Yw:∃ e2,C.P.underlying xT=some (.slice e2)){ms:List LV}
  (hx:e.ev x=Ob) (hy:elems (e.ev y)=some ms) (ub:ms≠[]) (hs:∀ v∈ms,v.cells.length=s) (Na:ms.length * bytes<=140737488355328)
  (hk:∀ b cap,K (.app b cap s ms) [(b,.row (ms.length * s))]) :
  Ra C ⟨dst,.call { callee:=.builtin .append,args:=#[x,y],argTypes:=yg },ty,pos,ka,g⟩ e [] K X:=λρ w L h hH=>by
 subst IB;obtain⟨a,cap,xs,hv,hc,h1,h2,h3⟩:=uJ (h y) hy hs;have h0:∀ (cs:Array Bool) (args:Array Value),builtin .append #[sT,xT] ty cs args=(do Pure.pure (.value (<-Builtin.append_ #[sT,xT] ty args))):=λ_ _=>rfl;have Py:0<ms.length:=List.length_pos_iff.2 ub
 obtain⟨Pe,rest,r1,r2,r3⟩:=cH (ty:=ty) (P:=C.P) (w:=w) (sT:=sT) (xT:=xT) (a:=none) (len:=0) (cap:=0) (n:=ms.length) (xv:=ρ y) (old:=[]) (new:=xs) (.inr Yw) (λw'=>by rw[hv];try rfl) (λw' hw=>h3 C.P w' hw)
  (λw' _=>by simp[Builtin.firstCells]) (by simpa using Na) (by omega)
 rw[Vq,h0];simp only[map_toArray,jd,map_nil,wc,Rb h hx,r3,Sc,Ed,List.nil_append,zero_add];obtain⟨lv,H',L',g1,g2,g3,g4⟩:=qjh (K:=K) (t:=el) (cap:=Pe) (rest:=rest) hH.drew (h1.mono (HG w L) _ _) hs (by omega) (by
  rw[r2,<-add_mul];exact Nat.mul_le_mul_right _ (by omega)) λb=>hk b Pe
 exact⟨lv,H',L',g1.Ve,g2,g3,g4⟩
theorem cd.append{w:World}{L:Live}{b k:Nat}:∀ {zc bs:List LV} {off:Nat},cd w L b k off zc->cd w L b k (off+zc.length * k) bs->cd w L b k off (zc++bs)
 |[],_,_,_,h=>by simpa using h
 |a::zc,bs,off,h1,h2=>by rw[cons_append];refine cd.cons h1.cell.1 h1.cell.2 (cd.append h1.tail ?_);simpa [add_mul,Nat.add_assoc,Nat.add_comm,Nat.add_left_comm] using h2
theorem qtN{m:Nat}{ms:List LV}{xs:Array Value}{t:TypeId}{fr:Nat×Nat}{news:List Value}(hH:Ma C w L [(b,.row n)])(hn:n=es.length * s)(hm:m=ms.length * s)
  (hb:w.heap[b]? = some (.cells xs t fr)) (gd:cap * s<=xs.size) (Jh:es.length+ms.length<=cap) (tB:cd w L b s 0 es) (hs:∀ v∈ms,v.cells.length=s) (CH:la w L (ms.flatMap LV.cells) news)
  (h1:w'.os=w.os) (h2:w'.tape=w.tape) (h3:w'.output=w.output) (h4:w'.heap.size=w.heap.size) (h5:∀ c,c≠b->w'.heap[c]? = w.heap[c]?)
  (h6:w'.heap[b]? = some (.cells (xs.toList.take n++news++xs.toList.drop (n+news.length)).toArray t fr)) (hk:K (.app b cap s (es++ms)) [(b,.row ((es++ms).length * s))]) :
  Left C w L [(b,.row n)] w' (.slice (some ⟨b,0,none⟩) (es.length+ms.length) cap) K:=by
 obtain⟨Ze,nh,hl,xs2,t2,fr2,ae,je,UE⟩:=hH.qc _ (Cp rfl);simp only at Ze nh hl ae je UE;rw[hb] at ae;simp only[Cm,Obj.cells.injEq] at ae;obtain⟨rfl,rfl,rfl⟩:=ae;have nq:news.length=m:=by rw[CH.length,iM hs,hm]
 have VJ:n+m<=cap * s:=by rw[hn,hm,<-add_mul];exact Nat.mul_le_mul_right _ Jh
 have nB:(xs.toList.take n++news++xs.toList.drop (n+news.length)).toArray.size=xs.size:=by simp[nq];omega
 have hx:Ext w L w' (L.Sd b (n+m)):=by
  refine⟨by rw[h4];exact Nb _,λc hc=>?_,λc i hi=>?_,λc=>?_⟩
  by_cases he:c=b;subst he;simp only[World.shape?,hb,h6,nB];exact bH (h5 c he);by_cases he:c=b;subst he;rw[hl] at hi;simp only[World.cell?,hb,h6,isSome_none,gk,if_false,List.getElem?_toArray];rw[Pc,List.getElem?_append_left (by simp;omega),List.getElem?_take,zp hi];simp;exact cell_of_heap (h5 c he) i;unfold Live.Sd;split;rename_i h;subst h;omega;exact Nb _
 have jB:(es++ms).length * s=n+m:=by rw[ya,add_mul,<-hn,<-hm]
 refine⟨.app b cap s (es++ms),[(b,.row ((es++ms).length * s))],L.Sd b (n+m),⟨h1,h2,h3,hx,λc hc hn=>h5 c (by simpa using hn),λc hc hn=>?_,λp hp=>.inl (by simp only[mem_singleton] at hp;subst hp;simp)⟩,
  ⟨?_,trivial,by rw[h4];exact hH.b0,λc hc=>?_,by simp,λp hp=>?_⟩,?_,hk⟩
 have ub:c≠b:=by simpa using hn
 simp only[Live.Sd,zn ub];exact hH.base.trans ⟨h1,h2,h3,by rw[h4];exact Nb _,λc hc=>h5 c (by omega)⟩;rw[h4] at hc;have ub:c≠b:=by omega
 simp only[Live.Sd,zn ub];exact hH.wf c hc;simp only[mem_singleton] at hp;subst hp;refine⟨Ze,by rw[h4];exact nh,by simp only[Live.Sd,if_true];exact jB.symm,_,t,fr,h6,by rw[nB,jB];omega,by omega⟩;simp only[wb];refine⟨by simp,by simp;exact Jh,cd.append (tB.mono hx _ _ _ _) (cd.A0 hs (Jb.nj (CH.mono hx _ _) ?_ λj x hj=>?_)),t,_,by simp only[World.shape?,h6];rfl,by rw[nB];exact gd⟩;simp[Live.Sd,<-hn,nq];have hjl:=(List.getElem?_eq_some_iff.1 hj).1;simp only[World.cell?,h6,isSome_none,gk,if_false,List.getElem?_toArray,zero_add,<-hn];rw[Pc,List.getElem?_append_right (by simp;omega),List.getElem?_append_left (by simp;omega)]
 simp;rw[show n+j-min n xs.size=j by omega];exact hj
theorem qpH{xT:Nat} [ht:Ea C.P sT el s] [hr:Kh C.P el s bytes](Yw:C.P.underlying xT=some .string∨∃ e2,C.P.underlying xT=some (.slice e2)){ms:List LV}{new:List Value}
  (hH:Ma C w L [(b,.row (es.length * s))]) (vH:wb w L (.app b cap s es) (.slice (some ⟨b,0,none⟩) es.length cap)) (hlen:∀ w':World,(Builtin.lenOf xv).run C.P w'=.ok ms.length w')
  (jl:∀ w':World,w'.heap=w.heap->(Builtin.firstCells s ms.length xv).run C.P w'=.ok new.toArray w') (Qv:la w L (ms.flatMap LV.cells) new) (hs:∀ v∈ms,v.cells.length=s)
  (dR:∀ v∈new,(∀ cs,v≠.agg cs)/\(∀ cs,v≠.tuple cs)) (Na:(es.length+ms.length) * bytes<=140737488355328)
  (hk:∀ b' Pe,K (.app b' Pe s (es++ms)) [(b',.row ((es++ms).length * s))]) :
  ∃ v w',(Builtin.append_ #[sT,xT] ty #[.slice (some ⟨b,0,none⟩) es.length cap,xv]).run C.P w=.ok v w'/\Left C w L [(b,.row (es.length * s))] w' v K:=by
 have X1:=vH;simp only[wb] at vH;obtain⟨_,oe,tB,te,ts,qB,Nz⟩:=vH;obtain⟨Ze,nh,hl,xs,t,fr,ae,je,UE⟩:=hH.qc _ (Cp rfl);simp only at Ze nh hl ae je UE;simp only[World.shape?,ae,Cm,Prod.mk.injEq] at qB;obtain⟨rfl,rfl⟩:=qB;have nq:new.length=ms.length * s:=by rw[Qv.length,iM hs]
 by_cases hc:es.length+ms.length<=cap;have Ge:=lV (ty:=ty) (P:=C.P) (w:=w) (sT:=sT) (xT:=xT) (a:=some ⟨b,0,none⟩) (len:=es.length) (cap:=cap) Yw hlen jl hc;have VJ:es.length * s+ms.length * s<=cap * s:=by rw[<-add_mul];exact Nat.mul_le_mul_right _ hc
 obtain⟨w',r1,r2,r3,r4,r5,r6,r7⟩:=uM (P:=C.P) (b:=b) (off:=0+es.length * s) (t:=t) (fr:=fr) new 0 w xs.toList (by simpa using ae) (by simp;omega) (λj h1 h2 h3=>by omega) dR;refine⟨_,w',?_,qtN (cap:=cap) (news:=new) (xs:=xs) hH rfl rfl ae Nz hc tB hs Qv r2 r3 r4 r5 r6 (by simpa using r7) (hk b cap)⟩;rw[Ge];simp only[Gf,r1,Sc];obtain⟨a2,aS,old,hv,Oe,h1,h2,h3⟩:=uJ X1 (es:=es) (s:=s) rfl tB.Aw;simp only[Value.slice.injEq] at hv;obtain⟨rfl,_,rfl⟩:=hv;obtain⟨Pe,rest,r1,r2,r3⟩:=cH (ty:=ty) (P:=C.P) (w:=w) (sT:=sT) (xT:=xT) (a:=some ⟨b,0,none⟩) (len:=es.length) (cap:=cap) Yw hlen jl (λw' hw=>h3 C.P w' hw) Na (by omega);refine⟨_,_,r3,?_⟩;have PB:Ma C w L []:=hH.sub (List.nil_sublist _);obtain⟨lv,H',L',g1,g2,g3,g4⟩:=qjh (K:=K) (t:=el) (s:=s) (cap:=Pe) (es:=es++ms) (rest:=rest) PB.drew (by
   rw[List.flatMap_append];exact(h1.append Qv).mono (HG w L) _ _) (λv hv=>by
   rcases vj hv with hv|hv;exact tB.Aw v hv;exact hs v hv) (by simp;omega) (by
   rw[r2,<-add_mul,ya];exact Nat.mul_le_mul_right _ (by omega)) λb'=>hk b' Pe
 rw[ya] at g3;exact⟨lv,H',L',g1.Ve.wide (by simp),g2,g3,g4⟩
theorem Ra.iz{xT:Nat} [ht:Ea C.P sT el s] [hr:Kh C.P el s bytes](IB:yg=#[sT,xT])(Yw:∃ e2,C.P.underlying xT=some (.slice e2)){ms:List LV}
  (hx:e.ev x=.app b cap s es) (hn:n=es.length * s) (hy:elems (e.ev y)=some ms) (hs:∀ v∈ms,v.cells.length=s) (xc:(ms.flatMap LV.cells).all Tq=true) (Na:(es.length+ms.length) * bytes<=140737488355328)
  (hk:∀ b' Pe,K (.app b' Pe s (es++ms)) [(b',.row ((es++ms).length * s))]) :
  Ra C ⟨dst,.call { callee:=.builtin .append,args:=#[x,y],argTypes:=yg },ty,pos,ka,g⟩ e [(b,.row n)] K X:=λρ w L h hH=>by
 subst IB hn;obtain⟨a,aS,xs,hv,hc,h1,h2,h3⟩:=uJ (h y) hy hs;have vH:=h x;rw[hx] at vH;have hxv:ρ x=.slice (some ⟨b,0,none⟩) es.length cap:=by have h':=vH;simp only[wb] at h';exact h'.1
 rw[hxv] at vH;have h0:∀ (cs:Array Bool) (args:Array Value),builtin .append #[sT,xT] ty cs args=(do Pure.pure (.value (<-Builtin.append_ #[sT,xT] ty args))):=λ_ _=>rfl;obtain⟨v,w',r1,r2⟩:=qpH (ty:=ty) (K:=K) (sT:=sT) (xT:=xT) (.inr Yw) hH vH (xv:=ρ y) (ms:=ms) (λw'=>by rw[hv];try rfl) (λw' hw=>h3 C.P w' hw) h1 hs (uU h1 xc) Na hk;rw[Vq,h0];simp only[map_toArray,jd,map_nil,wc,hxv,r1,Sc,Ed];exact r2
theorem Ra.Cl{xT:Nat} [ht:Ea C.P sT el s](IB:yg=#[sT,xT])(Yw:∃ e2,C.P.underlying xT=some (.slice e2))(hx:e.ev x=Ob)(hy:elems (e.ev y)=some [])(hk:K Ob H) :
  Ra C ⟨dst,.call { callee:=.builtin .append,args:=#[x,y],argTypes:=yg },ty,pos,ka,g⟩ e H K X:=λρ w L h hH=>by
 subst IB;obtain⟨a,cap,hv,_⟩:=(h y).elems hy;obtain⟨i,hi,T3⟩:=ht.size;obtain⟨e2,Yw⟩:=Yw;have h0:∀ (cs:Array Bool) (args:Array Value),builtin .append #[sT,xT] ty cs args=(do Pure.pure (.value (<-Builtin.append_ #[sT,xT] ty args))):=λ_ _=>rfl
 have hr:(Builtin.append_ #[sT,xT] ty #[.slice none 0 0,.slice a 0 cap]).run C.P w=.ok (.slice none 0 0) w:=by cases a <;> simp[Builtin.append_,ie ht.De,ie Yw,sizeOf,typeInfo,hi,Builtin.lenOf,Builtin.firstCells,loadCells,loadCellsFrom]
 rw[Vq,h0];simp only[map_toArray,jd,map_nil,wc,Rb h hx,hv,dc,hr,Sc,Ed];exact⟨_,H,L,Fr.refl _ _ _,hH,Zc,hk⟩
end steps
class Qr (P:Program):Prop where
 out:P.follows .mixedOrders=true
def QC(C:Ctx)(w:World)(L:Live)(w':World):Prop:=∃ L',Fr (keys []) w L w' L' []/\Ma C w' L' []
theorem QC.agree(h:QC C w L w')(hH:Ma C w L H):Zp w L H w':=
 let ⟨_,f,_⟩:=h
 ⟨λp hp=>f.block p.1 (hH.qc p hp).2.1 (by simp),f.ext.live⟩
theorem Ma.empty(h:Ma C w L H):Ma C w L []:=h.sub (List.nil_sublist _)
def LQ(C:Ctx)(n:Nat)(ops:Array Oper)(K:Env->Prop)(rest:List Oper)(e:Env)(H:Heap):Prop:=
 ∀ a w L,nc n a e w L->Ma C w L H->wpQuiet C.P ops (QC C w L) (λa'=>∃ e',nc n a' e' w L/\K e') rest a
section quiet
variable{C:Ctx}{n:Nat}{ops:Array Oper}{K:Env->Prop}{e:Env}{H:Heap}{dst:Option Nat}{op:Op}{ty:TypeId}{pos:String}{ka:Array Edge}{rest:List Oper}
theorem LQ.nil(h:K e):LQ C n ops K [] e H:=λ_ _ _ hE _=>⟨e,hE,h⟩
theorem qpc{C:World->Prop}{Q:Act->Prop}{a:Act}(hg:Region.wanted o (yielded ops a.tmps)=true)(h:∀ w',C w'->o.quietAt P a C w' v)(k:wpQuiet P ops C Q rest (a.put o.dst v)):wpQuiet P ops C Q (o::rest) a:=by unfold wpQuiet;rw[zp hg];exact⟨v,h,k⟩
theorem qP(h:Pure C ⟨dst,op,ty,pos,ka,none⟩ e H lv)(hd:Fl n dst)(k:LQ C n ops K rest (e.put dst lv) H):LQ C n ops K (⟨dst,op,ty,pos,ka,none⟩::rest) e H:=λa w L hE hH=>by obtain⟨v,hv,hr⟩:=h a.eval w L hE.ev hH;refine qpc (by simp[Region.wanted]) (v:=v) (λw' AM=>?_) (k _ w L (hE.put hd hv) hH);unfold Oper.quietAt;rw[hr w' (AM.agree hH)];exact⟨rfl,rfl⟩
theorem LQ.want{b:Bool}(hj:(ops[j]?).bind (·.dst)=some d)(hb:e.s d=.atom (.bool b))
  (k:LQ C n ops K (⟨dst,op,ty,pos,ka,none⟩::rest) e H):LQ C n ops K (⟨dst,op,ty,pos,ka,some (j,b)⟩::rest) e H:=λa w L hE hH=>by
 have:=k a w L hE hH;unfold wpQuiet at this ⊢;rw[zp (by simp[Region.wanted])] at this;rw[zp (by simp[Region.wanted,VG hE hj hb])];exact this
theorem LQ.skip{b c:Bool}(hj:(ops[j]?).bind (·.dst)=some d)(hb:e.s d=.atom (.bool b))(ub:b=!c)(hd:Fl n dst)
  (k:LQ C n ops K rest (e.put dst (.atom undef)) H):LQ C n ops K (⟨dst,op,ty,pos,ka,some (j,c)⟩::rest) e H:=λa w L hE hH=>by
 unfold wpQuiet;rw[zn (by subst ub;cases c <;> simp[Region.wanted,VG hE hj hb])];exact k _ w L (hE.put hd Zc) hH
theorem Qa.quiet [hm:Qr C.P] {id:Nat} {l:List Oper} {Q:uc} (hB:Region.lexB .any l.toArray=true) (h:LQ C n l.toArray (λe'=>Q .normal e' H) l e H):Qa C n (.region id l.toArray true) Q e H:=λa w L hE hH=>by
 refine wp_region_quiet (C:=QC C w L) hm.out hB ⟨L,⟨rfl,rfl,rfl,HG w L,λ_ _ _=>rfl,λ_ _ _=>rfl,by simp⟩,hH.empty.drew⟩ ?_
 have hq:∀ a' w',QC C w L w'->(∃ e',nc n a' e' w L/\Q .normal e' H)->lift C n w L (keys H) Q .normal a' w':=by rintro a' w' ⟨L',f1,f2⟩ ⟨e',h1,h2⟩;have:=Ma.frame (H:=[]) (F:=H) (by simpa using hH) f1 f2;exact⟨e',H,L',by simpa using this.2,by simpa using this.1,h1.mono f1.ext,h2⟩
 have mono:∀ (l2:List Oper) (a:Act),wpQuiet C.P l.toArray (QC C w L) (λa'=>∃ e',nc n a' e' w L/\Q .normal e' H) l2 a->wpQuiet C.P l.toArray (QC C w L) (λa'=>∀ w',QC C w L w'->lift C n w L (keys H) Q .normal a' w') l2 a:=by
  intro l2;induction l2 with
  |nil=>exact λa h w' AM=>hq a w' AM h
  |cons o l2 ih=>intro a h;unfold wpQuiet at h ⊢;split at h;rename_i hw;rw[zp hw];exact Oper.quiet_mono ih h;rename_i hw;rw[zn hw];exact ih _ h
 exact mono _ a (by simpa using h a w L hE hH)
end quiet
def Eb(C:Ctx)(n:Nat)(ops:Array Oper)(Q:uc)(HF:Heap)(ua:Nat)(listed:Array Bool)(e:Env)(H:Heap):Prop:=
 ∀ a w L,nc n a e w L->Ma C w L H->wpAnyH C.P .any ops (lift C n w L (keys H) Q) (Zp w L HF) ua listed a w
def Tf(C:Ctx)(n:Nat)(ops:Array Oper)(Q:uc)(HF:Heap)(ua:Nat)(listed:Array Bool)(e:Env)(H:Heap):Prop:=
 ∀ w0 L0 a w L,(∀ b,L0 b<=L b)->Zp w0 L0 HF w->(∀ p∈HF,p.1<w.heap.size)->nc n a e w L->Ma C w L H->wpAnyH C.P .any ops (lift C n w L (keys H) Q) (Zp w0 L0 HF) ua listed a w
theorem Zp.refl(w:World)(L:Live)(H:Heap):Zp w L H w:=⟨λ_ _=>rfl,λ_ _ _=>rfl⟩
theorem HSub.mem{H':Heap}(h:HSub H' H):∀ p∈H',p∈H:=λ_ hp=>
 let ⟨_,hG⟩:=h
 hG.mem_iff.2 (List.mem_append_left _ hp)
theorem tJ{P:Program}{md:Region.Mode}{ops:Array Oper}{Q Q':Exit->Act->World->Prop}{S:World->Prop}(h:∀ e a w,Q e a w->Q' e a w):∀ (ua:Nat) (listed:Array Bool) (a:Act) (w:World),
  wpAnyH P md ops Q S ua listed a w->wpAnyH P md ops Q' S ua listed a w
 |0,_,_,_,k=>⟨k.1,h _ _ _ k.2⟩
 |ua+1,listed,a,w,k=>by
  refine⟨λh0=>h _ _ _ (k.1 h0),λi hi=>?_⟩;have ki:=k.2 i hi;unfold wpOp at ki ⊢;split at ki;exact⟨ki.1,tJ h ua _ _ _ ki.2⟩;split at ki
  rename_i hw;rw[zp hw];rcases ki with ki|⟨k1,a0,w0,k2⟩;refine .inl ?_;unfold Oper.wp at ki ⊢;generalize (execOp _ _).run P w=r at ki ⊢;cases r with
  |ok x w'=>
   cases x <;> simp only[Oper.upon] at ki ⊢ <;> first
    |exact⟨ki.1,tJ h ua _ _ _ ki.2⟩
    |(refine Calls.mono ki λe TN he=>?_;cases e with
      |returned v=>exact⟨he.1,tJ h ua _ _ _ he.2⟩
      |panicked ch=>exact h _ _ _ he
      |outgrown=>obtain⟨a0,w0,he⟩:=he;exact⟨a0,w0,h _ _ _ he⟩)
    |exact Rows.mono ki λ_ _ he=>⟨he.1,tJ h ua _ _ _ he.2⟩
  |halt x w'=>cases x <;> simp only[Oper.upon] at ki ⊢ <;> exact h _ _ _ ki
  exact .inr ⟨k1,a0,w0,h _ _ _ k2⟩;rename_i hw;rw[zn hw];exact⟨ki.1,tJ h ua _ _ _ ki.2⟩
section any
variable{C:Ctx}{n:Nat}{ops:Array Oper}{Q:uc}{HF:Heap}{ua:Nat}{listed:Array Bool}{e:Env}{H:Heap}
theorem qp2(dst:Option Nat)(v:Value):∀ c a w',lift C n w L K Q (.panic c) (a.put dst v) w'->lift C n w L K Q (.panic c) a w':=by rintro c a w' ⟨e',H',L',h1,h2,h3,h4⟩;refine⟨e',H',L',h1,h2,?_,h4⟩;cases dst <;> exact h3
theorem D'{op:Op}{g:Option (Nat×Bool)}{a:Act}(hE:nc n a e w L)(hH:Ma C w L H)(Bh:HSub HF H)
  (hi:ops[i]? = some ⟨dst,op,ty,pos,ka,g⟩) (hs:Region.noSelect ops=true) (hf:Region.free .any ops listed i=true) (hr:(Region.ready .any ops listed).contains i=true) (hd:Fl n dst)
  (hp:Pure C ⟨dst,op,ty,pos,ka,g⟩ e HF lv) (hw:Region.wanted ⟨dst,op,ty,pos,ka,g⟩ (yielded ops a.tmps)=true)
  (k:Eb C n ops Q HF ua (listed.setIfInBounds i true) (e.put dst lv) H):wpAnyH C.P .any ops (lift C n w L (keys H) Q) (Zp w L HF) (ua+1) listed a w:=by
 obtain⟨v,hv,Ge⟩:=hp a.eval w L hE.ev (hH.Zb Bh);exact wpAnyH_take hi hs hf hr (qp2 _ _) (.inl ⟨hw,Ge⟩) (Zp.refl _ _ _) (k _ w L (hE.put hd hv) hH)
theorem Eb.take{op:Op}(Bh:HSub HF H)
  (hi:ops[i]? = some ⟨dst,op,ty,pos,ka,none⟩) (hs:Region.noSelect ops=true) (hf:Region.free .any ops listed i=true) (hr:(Region.ready .any ops listed).contains i=true) (hd:Fl n dst)
  (hp:Pure C ⟨dst,op,ty,pos,ka,none⟩ e HF lv) (k:Eb C n ops Q HF ua (listed.setIfInBounds i true) (e.put dst lv) H):Eb C n ops Q HF (ua+1) listed e H:=λ_ _ _ hE hH=>
 D' hE hH Bh hi hs hf hr hd hp (by simp[Region.wanted]) k
theorem Eb.po{b:Bool}{op:Op}(Bh:HSub HF H)
  (hi:ops[i]? = some ⟨dst,op,ty,pos,ka,some (j,b)⟩) (hj:(ops[j]?).bind (·.dst)=some d) (hb:e.s d=.atom (.bool b)) (hs:Region.noSelect ops=true) (hf:Region.free .any ops listed i=true) (hr:(Region.ready .any ops listed).contains i=true) (hd:Fl n dst)
  (hp:Pure C ⟨dst,op,ty,pos,ka,some (j,b)⟩ e HF lv) (k:Eb C n ops Q HF ua (listed.setIfInBounds i true) (e.put dst lv) H):Eb C n ops Q HF (ua+1) listed e H:=λ_ _ _ hE hH=>
 D' hE hH Bh hi hs hf hr hd hp (by simp[Region.wanted,VG hE hj hb]) k
theorem Eb.Oh{b c:Bool}{op:Op}
  (hi:ops[i]? = some ⟨dst,op,ty,pos,ka,some (j,c)⟩) (hj:(ops[j]?).bind (·.dst)=some d) (hb:e.s d=.atom (.bool b)) (ub:b=!c) (hs:Region.noSelect ops=true) (hf:Region.free .any ops listed i=true) (hr:(Region.ready .any ops listed).contains i=true) (hd:Fl n dst)
  (k:Eb C n ops Q HF ua (listed.setIfInBounds i true) (e.put dst (.atom undef)) H):Eb C n ops Q HF (ua+1) listed e H:=λa w L hE hH=>
 wpAnyH_take hi hs hf hr (qp2 _ _) (.inr ⟨by subst ub;cases c <;> simp[Region.wanted,VG hE hj hb],rfl⟩) (Zp.refl _ _ _) (k _ w L (hE.put hd Zc) hH)
theorem aL(h:Tf C n ops Q HF ua listed e H)(Bh:HSub HF H):Eb C n ops Q HF ua listed e H:=λa w L hE hH=>
 h w L a w L (λ_=>Nb _) (Zp.refl _ _ _) (λp hp=>(hH.qc p (Bh.mem p hp)).2.1) hE hH
theorem lD(hr:Region.ready .any ops listed=[])(h:Q .normal e H):Tf C n ops Q HF ua listed e H:=λ_ _ _ _ L _ _ _ hE hH=>
 wpAnyH_done hr ⟨e,H,L,Fr.refl _ _ _,hH,hE,h⟩ ua
theorem bj [hm:Qr C.P] {id:Nat} {l:List Oper} {m:Nat} (hl:m=l.length) (HF:Heap) (h:Eb C n l.toArray Q HF m (Array.replicate m false) e H):Qa C n (.region id l.toArray true) Q e H:=λa w L hE hH=>by subst hl;have:=h a w.drew L (hE.mono (HG w L)) hH.drew;refine wp_region_held (S:=Zp w.drew L HF) hm.out ?_;refine tJ (λx a' w' hq=>?_) _ _ _ _ (by simpa using this);obtain⟨e',H',L',h1,h2,h3,h4⟩:=hq;exact⟨e',H',L',h1.Ve,h2,h3,h4⟩
end any
section pure
variable{C:Ctx}{e:Env}{H:Heap}{dst:Option Nat}{ty:TypeId}{pos:String}{ka:Array Edge}{g:Option (Nat×Bool)}{x y c a b:Operand}{xT:TypeId}{k:IntKind}{lv:LV}
theorem pM(hx:e.ev x=lv):Pure C ⟨dst,.move x,ty,pos,ka,g⟩ e H lv:=hx▸Pure.move
theorem pA(hx:e.ev x=lv):Pure C ⟨dst,.assign x,ty,pos,ka,g⟩ e H lv:=hx▸Pure.assign
theorem Pure.Jm(hc:e.ev c=bool true)(ha:e.ev a=lv):Pure C ⟨dst,.pick c a b,ty,pos,ka,g⟩ e H lv:=by have:=Pure.pick (C:=C) (H:=H) (dst:=dst) (ty:=ty) (pos:=pos) (ka:=ka) (g:=g) (a:=a) (b:=b) hc;simp only[if_true] at this;exact ha▸this
theorem Pure.Km(hc:e.ev c=bool false)(hb:e.ev b=lv):Pure C ⟨dst,.pick c a b,ty,pos,ka,g⟩ e H lv:=by have:=Pure.pick (C:=C) (H:=H) (dst:=dst) (ty:=ty) (pos:=pos) (ka:=ka) (g:=g) (a:=a) (b:=b) hc;simp only[gk,if_false] at this;exact hb▸this
theorem pR [Pn C.P t n](hx:e.ev x=.ref cs)(hn:Nat.ble n cs.length=true)(hc:cs.take n=Ab):Pure C ⟨dst,.load t x,ty,pos,ka,g⟩ e H (.agg Ab):=by subst hc;exact Pure.Jv hx (by simpa using hn)
theorem pG [Pn C.P t n]{b:Nat}(hx:e.ev x=ptr b off)(hm:(b,ga.cells Wp cs)∈H)(hn:Nat.ble (off+n) cs.length=true)(hc:(cs.drop off).take n=Ab) :
  Pure C ⟨dst,.load t x,ty,pos,ka,g⟩ e H (.agg Ab):=by
 subst hc;exact Pure.Zg hx hm (by simpa using hn)
theorem xR [ht:Ea C.P t el s]{n:Int}{ve:LV}(hx:elems (e.ev x)=some es)(hy:e.ev y=int k n)(h0:0<=n)(hn:es[n.toNat]? = some ve)(hc:ve.cells=cs)(hs:cs.length=s) :
  Pure C ⟨dst,.indexAddr t x y,ty,pos,ka,g⟩ e H (.ref cs):=by
 subst hc;exact Pure.indexAddr hx hy h0 hn hs
theorem Pure.WB{f:Nat} [Ck C.P s f n](hx:e.ev x=.ref cs)(hc:cs.drop n=Ab):Pure C ⟨dst,.fieldAddr s x f,ty,pos,ka,g⟩ e H (.ref Ab):=by subst hc;exact Pure.VB hx
theorem pB{t:TypeId}{pl:List (Nat×Nat)} [hs:Dl C.P t pl] [hz:Dh C.P t zs](parts:List (Nat×Operand))
  (h:uC pl (zs.map .atom) (parts.map λp=>(p.1,e.ev p.2))=some cs):Pure C ⟨dst,.build t parts.toArray,ty,pos,ka,g⟩ e H (.agg cs):=Pure.build h
end pure
section steps
variable{C:Ctx}{e:Env}{H H':Heap}{dst:Option Nat}{op:Op}{ty:TypeId}{pos:String}{ka:Array Edge}{g:Option (Nat×Bool)}{x y:Operand}{K K':LV->Heap->Prop}{X:List PanicEntry->Heap->Prop}
theorem Ra.Oc(h:Ra C o e H K X)(hk:∀ lv H',K lv H'->∃ HJ ph,lv.Sub HJ/\HSub ph H'/\K' HJ ph):Ra C o e H K' X:=λρ w L h1 h2=>by
 have:=h ρ w L h1 h2;have lf:∀ {w' v},Left C w L H w' v K->Left C w L H w' v K':=λh=>by obtain⟨lv,H',L',r1,r2,r3,r4⟩:=h;obtain⟨HJ,ph,s1,s2,s3⟩:=hk _ _ r4;exact⟨HJ,ph,L',r1.Zb s2,r2.Zb s2,s1 _ _ _ r3,s3⟩
 unfold jE at this ⊢;split at this;exact lf this;exact lf this;refine⟨this.1,this.2.mono λe w' he=>?_⟩
 cases e with
 |returned v=>exact lf he
 |panicked ch=>exact he
 |outgrown=>exact he
 exact this;exact this.elim
theorem Ra.KK{p:Nat×ga}(hp:zd p H F)(h:Ra C o e [p] (λlv H'=>K lv (H'++F)) λch H'=>X ch (H'++F)):Ra C o e H K X:=Ra.frame (H:=[p]) hp h
theorem Ra.mD(h:Ra C o e [] (λlv H'=>K lv (H'++H)) λch H'=>X ch (H'++H)):Ra C o e H K X:=Ra.frame (H:=[]) (List.Perm.refl _) h
theorem Rc{t:TypeId} [hz:Dh C.P t zs](hk:∀ b,K (ptr b 0) ((b,.cells t (zs.map .atom))::H)):Ra C ⟨dst,.alloc t,ty,pos,ka,g⟩ e H K X:=Ra.mD (Ra.alloc hk)
theorem sB{t:TypeId}(hx:(e.ev x).cells? = some cs)(hk:∀ b,K (ptr b 0) ((b,.cells t cs)::H)):Ra C ⟨dst,.box t x,ty,pos,ka,g⟩ e H K X:=Ra.mD (Ra.box hx hk)
theorem sL [ht:Ea C.P t el s] [hz:Dh C.P el zs](xs:List Operand)(aw:xs.map e.ev=es)(xc:yz s es){parts:List (Nat×Operand)}(hp:parts=(List.range xs.length).zip xs)(hlen:len=xs.length)
  (gd:Nat.ble (len * s) 16777216=true) (hk:K (.list es) H):Ra C ⟨dst,.buildSlice t len parts.toArray,ty,pos,ka,g⟩ e H K X:=by
 subst aw;refine Ra.mD (Ra.Oc (K:=λlv H'=>∃ b,lv=.app b len s (xs.map e.ev)) (Ra.buildSlice xc (by subst hlen;simpa using gd) hp hlen λb=>⟨b,rfl⟩) ?_);rintro lv H' ⟨b,rfl⟩;exact⟨_,[],LV.Sub.app _ _ _ _,HSub.nil _,hk⟩
theorem S.JJ [ht:Ea C.P t el s] [hz:Dh C.P el zs](xs:List Operand)(aw:xs.map e.ev=es)(xc:yz s es){parts:List (Nat×Operand)}(hp:parts=(List.range xs.length).zip xs)(hlen:len=xs.length)
  (gd:Nat.ble (len * s) 16777216=true) (hk:∀ b,K (.app b len s es) ((b,.row (len * s))::H)):Ra C ⟨dst,.buildSlice t len parts.toArray,ty,pos,ka,g⟩ e H K X:=by
 subst aw;exact Ra.mD (Ra.buildSlice xc (by subst hlen;simpa using gd) hp hlen λb=>hk b)
theorem sS [ht:gu C.P t n](hx:e.ev x=ptr b off)(hp:zd (b,.cells Wp cs) H F)(hy:(e.ev y).cells? = some vs)(hn:vs.length=n)(hl:Nat.ble (off+n) cs.length=true)(xc:vs.all Tq=true)
  (hc:Kd cs off vs=Ab) (hk:K (.atom undef) ((b,.cells Wp Ab)::F)):Ra C ⟨dst,.store t x y,ty,pos,ka,g⟩ e H K X:=by
 subst hc;exact Ra.KK hp (Ra.store hx hy hn (by simpa using hl) xc hk)
theorem S.LK [ht:Ea C.P sT el s] [hr:Kh C.P el s bytes] [je:Ea C.P xT e2 s2]{ms:List LV}
  (hx:e.ev x=Ob) (hy:elems (e.ev y)=some ms) (ub:ms≠[]) (hs:∀ v∈ms,v.cells.length=s) (Na:ms.length * bytes<=140737488355328)
  (hk:∀ b cap,K (.app b cap s ms) ((b,.row (ms.length * s))::H)):Ra C ⟨dst,.call { callee:=.builtin .append,args:=#[x,y],argTypes:=#[sT,xT] },ty,pos,ka,g⟩ e H K X:=
 Ra.mD (Ra.gz rfl ⟨e2,je.De⟩ hx hy ub hs Na λb cap=>hk b cap)
theorem S.app{sT xT el s bytes:Nat} [ht:Ea C.P sT el s] [hr:Kh C.P el s bytes]{e2 s2:Nat} [je:Ea C.P xT e2 s2]{b cap n:Nat}{es ms:List LV}{F:Heap}
  (hx:e.ev x=.app b cap s es) (hp:zd (b,.row n) H F) (hn:n=es.length * s) (hy:elems (e.ev y)=some ms) (hs:∀ v∈ms,v.cells.length=s) (xc:(ms.flatMap LV.cells).all Tq=true) (Na:(es.length+ms.length) * bytes<=140737488355328)
  (hk:∀ b' Pe,K (.app b' Pe s (es++ms)) ((b',.row ((es++ms).length * s))::F)):Ra C ⟨dst,.call { callee:=.builtin .append,args:=#[x,y],argTypes:=#[sT,xT] },ty,pos,ka,g⟩ e H K X:=
 Ra.KK hp (Ra.iz rfl ⟨e2,je.De⟩ hx hn hy hs xc Na λb' Pe=>hk b' Pe)
theorem S.jz [ht:Ea C.P sT el s] [je:Ea C.P xT e2 s2](hx:e.ev x=Ob)(hy:elems (e.ev y)=some [])(hk:K Ob H) :
  Ra C ⟨dst,.call { callee:=.builtin .append,args:=#[x,y],argTypes:=#[sT,xT] },ty,pos,ka,g⟩ e H K X:=Ra.Cl rfl ⟨e2,je.De⟩ hx hy hk
inductive Acc (s:Nat):LV->List LV->Heap->Heap->Prop
 |nil {F:Heap}:Acc s Ob [] F F
 |row {b cap:Nat} {es:List LV} {F:Heap}:Acc s (.app b cap s es) es ((b,.row (es.length * s))::F) F
theorem Acc.sub(h:Acc s lv es H F):lv.Sub (.list es):=by
 cases h with
 |nil=>exact vN
 |row=>exact LV.Sub.app _ _ _ _
theorem Acc.Oy(h:Acc s lv es H F):HSub F H:=by
 cases h with
 |nil=>exact Tb _
 |row=>exact Gg (Tb _)
theorem Acc.elems{s:Nat}{lv:LV}{es:List LV}{H F:Heap}(h:Acc s lv es H F):GL.elems lv=some es:=by cases h <;> rfl
theorem S.acc [ht:Ea C.P sT el s] [hr:Kh C.P el s bytes] [je:Ea C.P xT e2 s2]{v:LV}{ms:List LV}
  (hx:e.ev x=v) (ha:Acc s v es H F) (hy:GL.elems (e.ev y)=some ms) (hs:∀ v∈ms,v.cells.length=s) (xc:(ms.flatMap LV.cells).all Tq=true) (Na:(es.length+ms.length) * bytes<=140737488355328)
  (hk:∀ v' H',Acc s v' (es++ms) H' F->K v' H'):Ra C ⟨dst,.call { callee:=.builtin .append,args:=#[x,y],argTypes:=#[sT,xT] },ty,pos,ka,g⟩ e H K X:=by
 cases ha with
 |nil=>
  by_cases ub:ms=[];subst ub;exact S.jz hx hy (hk _ _ (by simpa using Acc.nil));refine S.LK hx hy ub hs (by simpa using Na) λb cap=>hk _ _ ?_
  exact Acc.row
 |row=>exact S.app hx pH rfl hy hs xc Na λb' Pe=>hk _ _ Acc.row
theorem S.uq{f:FuncId} [Gb C.P f](args:List Operand)(has:args.map e.ev=zc)
  (hc:ca C f zc [] R) (hk:∀ v H',R (.ret v) H'->K v (H'++H)) (hx:∀ ch H',R (.panic ch) H'->X ch (H'++H)) :
  Ra C ⟨dst,.call { callee:=.value (.func f),args:=args.toArray,argTypes:=yg },ty,pos,ka,g⟩ e H K X:=by
 subst has;exact Ra.mD (Ra.call hc hk hx)
theorem S.YH{f:FuncId} [Gb C.P f](args:List Operand){p:Nat×ga}(has:args.map e.ev=zc)(hp:zd p H F)
  (hc:ca C f zc [p] R) (hk:∀ v H',R (.ret v) H'->K v (H'++F)) (hx:∀ ch H',R (.panic ch) H'->X ch (H'++F)) :
  Ra C ⟨dst,.call { callee:=.value (.func f),args:=args.toArray,argTypes:=yg },ty,pos,ka,g⟩ e H K X:=by
 subst has;exact Ra.KK hp (Ra.call hc hk hx)
theorem S.Ec{f:FuncId} [Gb C.P f](args:List Operand){H1:Heap}(has:args.map e.ev=zc)(hp:H.Perm (H1++F))
  (hc:ca C f zc H1 R) (hk:∀ v H',R (.ret v) H'->K v (H'++F)) (hx:∀ ch H',R (.panic ch) H'->X ch (H'++F)) :
  Ra C ⟨dst,.call { callee:=.value (.func f),args:=args.toArray,argTypes:=yg },ty,pos,ka,g⟩ e H K X:=by
 subst has;exact Ra.frame hp (Ra.call hc hk hx)
theorem S.yl{fo:Operand}{f:FuncId} [Gb C.P f]{first Ua:Array Value}(args:List Operand){yg:Array TypeId}{zc:List LV}{R:re->Heap->Prop}{H1 F:Heap}(hf:e.ev fo=.atom (.func (.func f) first Ua))
  (has:first.toList.map .atom++args.map e.ev++Ua.toList.map .atom=zc) (hp:H.Perm (H1++F)) (hc:ca C f zc H1 R) (hk:∀ v H',R (.ret v) H'->K v (H'++F)) (hx:∀ ch H',R (.panic ch) H'->X ch (H'++F)) :
  Ra C ⟨dst,.call { callee:=.value fo,args:=args.toArray,argTypes:=yg },ty,pos,ka,g⟩ e H K X:=by
 subst has;exact Ra.frame hp (Ra.yl hf hc hk hx)
end steps
section ret
variable{C:Ctx}{n:Nat}{e:Env}{H H':Heap}{R:re->Heap->Prop}
theorem rN:Zl C n e H [] []:=trivial
theorem rC{r:ResultVar}{v:LV}(h:Xl C n e H r v)(k:Zl C n e H rs vs):Zl C n e H (r::rs) (v::vs):=⟨h,k⟩
theorem rR(hd:e.ds=[])(h:Zl C n e H rs vs)(hH:HSub H' H)(hR:R (.ret (qh vs)) H'):od C n rs R .ret e H:=⟨hd,vs,H',h,hH,hR⟩
theorem rO(hd:e.ds=[])(h:Zl C n e H rs vs)(hH:HSub H' H)(hR:R (.ret (qh vs)) H'):od C n rs R .normal e H:=⟨hd,vs,H',h,hH,hR⟩
theorem od.panic{rs:List ResultVar}{ch:List PanicEntry}(hd:e.ds=[])(hH:HSub H' H)(hR:R (.panic ch) H'):od C n rs R (.panic ch) e H:=⟨hd,H',hH,hR⟩
theorem rA{a:Nat} [Pn C.P t k](hx:e.s a=ptr b off)(hm:(b,ga.cells Wp cs)∈H)(hn:Nat.ble (off+k) cs.length=true)(hs:(LV.agg ((cs.drop off).take k)).Sub lv):Xl C n e H (.cell a t) lv:=λac w L hE hH=>by
 obtain⟨xs,h1,h2⟩:=hH.cells hm;have hl:=h2.length;have hn':off+k<=cs.length:=by simpa using hn
 have hv:=hE.dj a;rw[hx] at hv;simp only[wb] at hv;refine⟨.agg ((xs.drop off).take k).toArray,?_,hs _ _ _ (by simp only[wb];exact⟨_,rfl,(h2.drop off).take k⟩)⟩;have hlen:((xs.drop off).take k).length=k:=by simp;omega
 simp only[Yl,hv,asAddr,wc,Ed,Sc];exact zZ (t:=t) (w:=w) (b:=b) (off:=off) hlen (λj y hy=>by
  rw[List.getElem?_take] at hy;split at hy;simpa [World.cell?,h1,List.getElem?_drop] using hy;cases hy)
theorem Xl.ic{a:Nat} [Rp C.P t](hx:e.s a=ptr b off)(hm:(b,ga.cells Wp cs)∈H)(hc:cs[off]? = some c)(hs:c.Sub lv):Xl C n e H (.cell a t) lv:=λac w L hE hH=>by
 obtain⟨xs,h1,h2⟩:=hH.cells hm;obtain⟨v,h3,h4⟩:=h2.get hc;have hv:=hE.dj a;rw[hx] at hv;simp only[wb] at hv;refine⟨v,?_,hs _ _ _ h4⟩;have Kn:w.cell? ⟨b,off,none⟩=some v:=by simp[World.cell?,h1,h3]
 simp only[Yl,hv,asAddr,wc,Ed,Sc];exact FZ Kn
end ret
theorem cJ{fn:Func}{c:Code}{args:List LV}(hf:C.P.funcs[f]? = some fn)(h:Qa C n c (od C n fn.results.toList R) (yG args) H)(hb:fn.body=some c:=by exact rfl)(hn:fn.ntmps=n:=by exact rfl)(h3:Nat.ble fn.results.size 3=true:=by exact rfl)(hl:Nat.ble args.length n=true:=by exact rfl):ca C f args H R:=Xa hf hb hn h3 hl h
theorem Ya:HSub H H:=Tb _
theorem Vc:HSub [] H:=HSub.nil _
theorem Xc{p:Nat×ga}:HSub [p] (p::H):=Pb pH (HSub.nil _)
theorem ld{v:LV}:v.Sub v:=vR _
theorem Fc{p a:Nat×ga}:zd p (a::p::F) (a::F):=(fc pH)
theorem Bj{p a b:Nat×ga}:zd p (a::b::p::F) (a::b::F):=(fc (fc pH))
theorem Uz{p a b c:Nat×ga}:zd p (a::b::c::p::F) (a::b::c::F):=(fc (fc (fc pH)))
theorem OK{p a b c d:Nat×ga}:zd p (a::b::c::d::p::F) (a::b::c::d::F):=(fc (fc (fc (fc pH))))
theorem aW{p a b c d e:Nat×ga}:zd p (a::b::c::d::e::p::F) (a::b::c::d::e::F):=(fc (fc (fc (fc (fc pH)))))
theorem zp6{p a b c d e f:Nat×ga}:zd p (a::b::c::d::e::f::p::F) (a::b::c::d::e::f::F):=(fc (fc (fc (fc (fc (fc pH))))))
theorem zp7{p a b c d e f g:Nat×ga}:zd p (a::b::c::d::e::f::g::p::F) (a::b::c::d::e::f::g::F):=(fc (fc (fc (fc (fc (fc (fc pH)))))))
theorem zp8{p a b c d e f g h:Nat×ga}:zd p (a::b::c::d::e::f::g::h::p::F) (a::b::c::d::e::f::g::h::F):=(fc (fc (fc (fc (fc (fc (fc (fc pH))))))))
theorem Ic{e:Env}(h:e.s t=.atom v):Xl C n e H (.tmp t) (.atom v):=Gd h (vR _)
theorem Oa{e:Env}(h:e.s t=.atom v):Zl C n e H [.tmp t] [.atom v]:=rC (Gd h (vR _)) rN
end Go.GL
