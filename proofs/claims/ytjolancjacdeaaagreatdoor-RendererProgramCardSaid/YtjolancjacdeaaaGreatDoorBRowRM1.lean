import Derived.Laws.Strings
import Derived.KernelRfl
import Derived.Laws.AppendOwn
import Derived.Test.YtjolancjacdeaaaGreatDoorBRowRM0
set_option linter.unusedVariables false
set_option linter.unusedSimpArgs false
set_option maxRecDepth 100000
set_option maxHeartbeats 4000000
open List (cons_append map_toArray mem_singleton size_toArray flatMap_cons map_nil)
open Nat (add_mul add_zero zero_add)
open Option (map_some isSome_none)
namespace Go.GL
open Go.RowKit
variable{C:Ctx}{F H H':Heap}{K:List Nat}{L:Live}{P:Program}{R:Lc->Heap->Prop}{ma:Array Edge}{xe:Array TypeId}{Wb cs Ya es vs:List LV}{b bytes cap d e2 el i j k len n off s s2 sT t im xT:Nat}{c e lv:LV}{dst:Option Nat}{f:FuncId}{hi lo:Option Operand}{new xs zs:List Value}{o:Oper}{la:String}{rs:List ResultVar}{ty:TypeId}{v xv:Value}{w w':World}{x:Operand}{ρ:Operand->Value}
class Yl (P:Program) (t:TypeId):Prop where
 zd:∃ d,P.underlying t=some d/\(match d with|.struct _|.array _ _=>False|_=>True)
 size:∃ i,P.info? t=some i/\i.size=1
def rV(P:Program)(t:TypeId):Bool:=
 (match P.underlying t with|some (.struct _)|some (.array _ _)|none=>false|_=>true) && (match P.info? t with|some i=>i.size == 1|none=>false)
theorem Yl.of{t:TypeId}(h:rV P t=true):Yl P t:=by
 unfold rV at h;simp only[Le] at h;obtain⟨h1,h2⟩:=h;refine⟨?_,?_⟩;cases hu:P.underlying t with
 |none=>rw[hu] at h1;simp at h1
 |some d=>rw[hu] at h1;refine⟨d,rfl,?_⟩;cases d <;> simp_all
 cases hi:P.info? t with
 |none=>rw[hi] at h2;simp at h2
 |some i=>rw[hi] at h2;exact⟨i,rfl,by simpa using h2⟩
class yk (P:Program) (t:TypeId) (k:outParam Nat):Prop where
 zd:∃ d,P.underlying t=some d/\(match d with|.struct _|.array _ _=>True|_=>False)
 size:∃ i,P.info? t=some i/\i.size=k
def oV(P:Program)(t k:Nat):Bool:=
 (match P.underlying t with|some (.struct _)|some (.array _ _)=>true|_=>false) && (match P.info? t with|some i=>i.size == k|none=>false)
theorem yk.of{t:TypeId}(h:oV P t k=true):yk P t k:=by
 unfold oV at h;simp only[Le] at h;obtain⟨h1,h2⟩:=h;refine⟨?_,?_⟩;cases hu:P.underlying t with
 |none=>rw[hu] at h1;simp at h1
 |some d=>rw[hu] at h1;refine⟨d,rfl,?_⟩;cases d <;> simp_all
 cases hi:P.info? t with
 |none=>rw[hi] at h2;simp at h2
 |some i=>rw[hi] at h2;exact⟨i,rfl,by simpa using h2⟩
class Aa (P:Program) (t:TypeId) (e s:outParam Nat):Prop where
 zd:P.underlying t=some (.slice e)
 size:∃ i,P.info? e=some i/\i.size=s
def EW(P:Program)(t e s:Nat):Bool:=
 (match P.underlying t with|some (.slice e')=>e' == e|_=>false) && (match P.info? e with|some i=>i.size == s|none=>false)
theorem Aa.of{e:Nat}(h:EW P t e s=true):Aa P t e s:=by
 unfold EW at h;simp only[Le] at h;obtain⟨h1,h2⟩:=h;refine⟨?_,?_⟩;cases hu:P.underlying t with
 |none=>rw[hu] at h1;simp at h1
 |some d=>rw[hu] at h1;cases d <;> simp_all
 cases hi:P.info? e with
 |none=>rw[hi] at h2;simp at h2
 |some i=>rw[hi] at h2;exact⟨i,rfl,by simpa using h2⟩
class mi (P:Program) (s f:Nat) (k:outParam Nat):Prop where
 out:∃ fs Rs,P.underlying s=some (.struct fs)/\fs[f]? = some Rs/\Rs.offset=k/\∃ i,P.info? Rs.type=some i/\i.size≠0
def mW(P:Program)(s f k:Nat):Bool:=
 match P.underlying s with
 |some (.struct fs)=>(match fs[f]? with|some Rs=>Rs.offset == k && (match P.info? Rs.type with|some i=>i.size != 0|none=>false)|none=>false)
 |_=>false
theorem mi.of{f:Nat}(h:mW P s f k=true):mi P s f k:=by
 unfold mW at h;cases hu:P.underlying s with
 |none=>rw[hu] at h;simp at h
 |some d=>
  rw[hu] at h;cases d <;> simp only[Vh] at h
  rename_i fs;cases hf:fs[f]? with
  |none=>rw[hf] at h;simp at h
  |some Rs=>
   rw[hf] at h;simp only[Le,beq_iff_eq] at h;cases hi:P.info? Rs.type with
   |none=>rw[hi] at h;simp at h
   |some i=>rw[hi] at h;exact⟨fs,Rs,hu,hf,h.1,i,hi,by simpa using h.2⟩
class Xi (P:Program) (t:TypeId):Prop where
 zd:P.underlying t=some .string
def tV(P:Program)(t:Nat):Bool:=match P.underlying t with|some .string=>true|_=>false
theorem Xi.of(h:tV P t=true):Xi P t:=by
 unfold tV at h;refine⟨?_⟩;cases hu:P.underlying t with
 |none=>rw[hu] at h;simp at h
 |some d=>rw[hu] at h;cases d <;> simp_all
class xg (P:Program) (t:TypeId) (k:outParam IntKind):Prop where
 zd:P.underlying t=some (.int k)
def CV(P:Program)(t:Nat)(k:IntKind):Bool:=match P.underlying t with|some (.int k')=>k' == k|_=>false
theorem xg.of{k:IntKind}(h:CV P t k=true):xg P t k:=by
 unfold CV at h;refine⟨?_⟩;cases hu:P.underlying t with
 |none=>rw[hu] at h;simp at h
 |some d=>rw[hu] at h;cases d <;> simp_all
class Sf (P:Program) (t:TypeId) (zs:outParam (List Value)):Prop where
 out:∃ i v,P.info? t=some i/\i.zero=some v/\v.cells=zs.toArray/\i.size=zs.length
theorem Sf.of{t:TypeId}(h:(P.info? t).map (λi=>(i.zero,i.size))=some (some v,n))(hc:v.cells=zs.toArray)(hn:n=zs.length):Sf P t zs:=by
 cases hi:P.info? t with
 |none=>rw[hi] at h;cases h
 |some i=>rw[hi] at h;simp only[map_some,bt,Prod.mk.injEq] at h;exact⟨i,v,hi,h.1,hc,h.2.trans hn⟩
class Vi (P:Program) (t:TypeId) (pl:outParam (List (Nat×Nat))):Prop where
 out:∃ fs,P.underlying t=some (.struct fs)/\(fs.toList.map λf=>(f.offset,P.cellsOf f.type))=pl/\∀ f∈fs,(P.info? f.type).isSome
def mY(P:Program)(t:Nat)(pl:List (Nat×Nat)):Bool:=
 match P.underlying t with
 |some (.struct fs)=>(fs.toList.map λf=>(f.offset,P.cellsOf f.type)) == pl && fs.toList.all λf=>(P.info? f.type).isSome
 |_=>false
theorem Vi.of{pl:List (Nat×Nat)}(h:mY P t pl=true):Vi P t pl:=by
 unfold mY at h;cases hu:P.underlying t with
 |none=>rw[hu] at h;simp at h
 |some d=>
  rw[hu] at h;cases d <;> simp only[Vh] at h
  rename_i fs;simp only[Le,beq_iff_eq,List.all_eq_true] at h;exact⟨fs,hu,h.1,λf hf=>h.2 f (by simpa using hf)⟩
class Xd (P:Program) (t:TypeId):Prop where
 out:∃ d,P.underlying t=some d/\(match d with|.interface _=>False|_=>True)
def pZ(P:Program)(t:Nat):Bool:=match P.underlying t with|some (.interface _)|none=>false|_=>true
theorem Xd.of(h:pZ P t=true):Xd P t:=by
 unfold pZ at h;cases hu:P.underlying t with
 |none=>rw[hu] at h;simp at h
 |some d=>rw[hu] at h;exact⟨d,hu,by cases d <;> simp_all⟩
theorem ed{t:TypeId}{d:TypeDesc}(h:P.underlying t=some d)(w:World):(underlying t).run P w=.ok d w:=by simp[underlying,program,Sem.run,h,bind,Sem.bind,Pure.pure]
theorem wI{t:TypeId}{i:TypeInfo}(h:P.info? t=some i)(w:World):(typeInfo t).run P w=.ok i w:=by simp[typeInfo,program,Sem.run,h,bind,Sem.bind,Pure.pure]
theorem Cu{t:TypeId}{i:TypeInfo}(h:P.info? t=some i)(w:World):(sizeOf t).run P w=.ok i.size w:=by simp[sizeOf,wI h]
theorem Yl.isAgg{P:Program}{t:TypeId} [h:Yl P t](w:World):(isAgg t).run P w=.ok false w:=by obtain⟨d,hd,hm⟩:=h.zd;simp only[Go.isAgg,Sb,ed hd,lc];cases d <;> simp_all
theorem yk.isAgg{P:Program}{t k:Nat} [h:yk P t k](w:World):(isAgg t).run P w=.ok true w:=by obtain⟨d,hd,hm⟩:=h.zd;simp only[Go.isAgg,Sb,ed hd,lc];cases d <;> simp_all
theorem xc:Wa w L (.atom v) v:=by simp only[Wa]
theorem iF(l:List UInt8):(ByteArray.mk l.toArray).size=l.length:=by simp[ByteArray.size]
section pure
variable{C:Ctx}{e:Env}{H:Heap}{dst:Option Nat}{ty:TypeId}{la:String}{ma:Array Edge}{g:Option (Nat×Bool)}
theorem Pure.Ka(h:∀ (ρ:Operand->Value) w L,(∀ x,Wa w L (e.ev x) (ρ x))->∃ v,Wa w L lv v/\∀ w',(execOp ρ o).run C.P w'=.ok (.value v) w'):Pure C o e H lv:=
 λρ w L h1 _=>
  let ⟨v,h2,h3⟩:=h ρ w L h1
  ⟨v,h2,λw' _=>h3 w'⟩
theorem Cb(h:∀ x,Wa w L (e.ev x) (ρ x))(hx:e.ev x=.atom v):ρ x=v:=by have:=h x;rw[hx] at this;simpa only[Wa] using this
theorem Pure.move{x:Operand}:Pure C ⟨dst,.move x,ty,la,ma,g⟩ e H (e.ev x):=.Ka λρ _ _ h=>⟨ρ x,h x,λ_=>rfl⟩
theorem Pure.assign{x:Operand}:Pure C ⟨dst,.assign x,ty,la,ma,g⟩ e H (e.ev x):=.Ka λρ _ _ h=>⟨ρ x,h x,λ_=>rfl⟩
theorem Pure.pick{c a b:Operand}{t:Bool}(hc:e.ev c=bool t):Pure C ⟨dst,.pick c a b,ty,la,ma,g⟩ e H (if t then e.ev a else e.ev b):=.Ka λρ w L h=>by have h1:=Cb h hc;refine⟨if t then ρ a else ρ b,by cases t <;> simp[h],λw'=>?_⟩;cases t <;> simp[execOp,h1,asBool]
theorem yv{op:BinOp}{xT yT:TypeId}{y:Operand}{k:IntKind}{a b:Int}(hx:ρ x=.int k a)(hy:ρ y=.int k b)(hs:op≠.shl)(hr:op≠.shr){s:Sem Value}
  (h:(binOp op xT (.int k a) (.int k b))=s) {v:Value} (hv:∀ w,s.run P w=.ok v w) (w:World):(execOp ρ ⟨dst,.binOp op xT x y yT,ty,la,ma,g⟩).run P w=.ok (.value v) w:=by
 subst h;have he:eqGuard op xT x y (.int k a) (.int k b)=Pure.pure ():=by unfold eqGuard;cases op <;> rfl
 simp only[execOp,hx,hy,he,Sb,Qc,lc,hv]
variable{xT yT:TypeId}{x y:Operand}{k:IntKind}{a b:Int}
theorem Pure.Tw(hx:e.ev x=int k a)(hy:e.ev y=int k b):Pure C ⟨dst,.binOp .add xT x y yT,ty,la,ma,g⟩ e H (int k (k.wrap (a+b))):=
 .Ka λ_ _ _ h=>⟨_,xc,yv (Cb h hx) (Cb h hy) (by simp) (by simp) (s:=Op.intArith .add k a b) (by simp only[binOp,ne_eq,not_true_eq_false,if_false]) λ_=>rfl⟩
theorem Pure.Zu(hx:e.ev x=int k a)(hy:e.ev y=int k b):Pure C ⟨dst,.binOp .sub xT x y yT,ty,la,ma,g⟩ e H (int k (k.wrap (a-b))):=
 .Ka λ_ _ _ h=>⟨_,xc,yv (Cb h hx) (Cb h hy) (by simp) (by simp) (s:=Op.intArith .sub k a b) (by simp only[binOp,ne_eq,not_true_eq_false,if_false]) λ_=>rfl⟩
theorem Pure.pD(hx:e.ev x=int k a)(hy:e.ev y=int k b):Pure C ⟨dst,.binOp .mul xT x y yT,ty,la,ma,g⟩ e H (int k (k.wrap (a * b))):=
 .Ka λ_ _ _ h=>⟨_,xc,yv (Cb h hx) (Cb h hy) (by simp) (by simp) (s:=Op.intArith .mul k a b) (by simp only[binOp,ne_eq,not_true_eq_false,if_false]) λ_=>rfl⟩
theorem GA{n:Int}(h : -9223372036854775808<=n/\n<=9223372036854775807):IntKind.i64.wrap n=n:=by simp only[IntKind.wrap,IntKind.bits,IntKind.signed,Bool.true_and];split <;> rename_i h <;> simp at h <;> omega
theorem Pure.add(hx:e.ev x=int .i64 a)(hy:e.ev y=int .i64 b)(h : -9223372036854775808<=a+b/\a+b<=9223372036854775807):Pure C ⟨dst,.binOp .add xT x y yT,ty,la,ma,g⟩ e H (int .i64 (a+b)):=by have:=Pure.Tw (C:=C) (H:=H) (dst:=dst) (ty:=ty) (la:=la) (ma:=ma) (g:=g) (xT:=xT) (yT:=yT) hx hy;rwa [GA h] at this
theorem Pure.sub(hx:e.ev x=int .i64 a)(hy:e.ev y=int .i64 b)(h : -9223372036854775808<=a-b/\a-b<=9223372036854775807):Pure C ⟨dst,.binOp .sub xT x y yT,ty,la,ma,g⟩ e H (int .i64 (a-b)):=by have:=Pure.Zu (C:=C) (H:=H) (dst:=dst) (ty:=ty) (la:=la) (ma:=ma) (g:=g) (xT:=xT) (yT:=yT) hx hy;rwa [GA h] at this
theorem Pure.eql(hx:e.ev x=int k a)(hy:e.ev y=int k b):Pure C ⟨dst,.binOp .eql xT x y yT,ty,la,ma,g⟩ e H (bool (decide (a=b))):=
 .Ka λ_ _ _ h=>⟨_,xc,yv (Cb h hx) (Cb h hy) (by simp) (by simp) (s:=Op.intCmp .eql a b) (by simp only[binOp,ne_eq,not_true_eq_false,if_false]) λ_=>rfl⟩
theorem Pure.neq(hx:e.ev x=int k a)(hy:e.ev y=int k b):Pure C ⟨dst,.binOp .neq xT x y yT,ty,la,ma,g⟩ e H (bool (!decide (a=b))):=
 .Ka λ_ _ _ h=>⟨_,xc,yv (Cb h hx) (Cb h hy) (by simp) (by simp) (s:=Op.intCmp .neq a b) (by simp only[binOp,ne_eq,not_true_eq_false,if_false]) λ_=>rfl⟩
theorem Pure.lss(hx:e.ev x=int k a)(hy:e.ev y=int k b):Pure C ⟨dst,.binOp .lss xT x y yT,ty,la,ma,g⟩ e H (bool (decide (a<b))):=
 .Ka λ_ _ _ h=>⟨_,xc,yv (Cb h hx) (Cb h hy) (by simp) (by simp) (s:=Op.intCmp .lss a b) (by simp only[binOp,ne_eq,not_true_eq_false,if_false]) λ_=>rfl⟩
theorem Pure.leq(hx:e.ev x=int k a)(hy:e.ev y=int k b):Pure C ⟨dst,.binOp .leq xT x y yT,ty,la,ma,g⟩ e H (bool (decide (a<=b))):=
 .Ka λ_ _ _ h=>⟨_,xc,yv (Cb h hx) (Cb h hy) (by simp) (by simp) (s:=Op.intCmp .leq a b) (by simp only[binOp,ne_eq,not_true_eq_false,if_false]) λ_=>rfl⟩
theorem Pure.gtr(hx:e.ev x=int k a)(hy:e.ev y=int k b):Pure C ⟨dst,.binOp .gtr xT x y yT,ty,la,ma,g⟩ e H (bool (decide (b<a))):=
 .Ka λ_ _ _ h=>⟨_,xc,yv (Cb h hx) (Cb h hy) (by simp) (by simp) (s:=Op.intCmp .gtr a b) (by simp only[binOp,ne_eq,not_true_eq_false,if_false]) λ_=>rfl⟩
theorem Pure.geq(hx:e.ev x=int k a)(hy:e.ev y=int k b):Pure C ⟨dst,.binOp .geq xT x y yT,ty,la,ma,g⟩ e H (bool (decide (b<=a))):=
 .Ka λ_ _ _ h=>⟨_,xc,yv (Cb h hx) (Cb h hy) (by simp) (by simp) (s:=Op.intCmp .geq a b) (by simp only[binOp,ne_eq,not_true_eq_false,if_false]) λ_=>rfl⟩
theorem Pure.not{t:Bool}(hx:e.ev x=bool t):Pure C ⟨dst,.unOp .not xT x,ty,la,ma,g⟩ e H (bool (!t)):=
 .Ka λρ _ _ h=>⟨_,xc,λw'=>by simp only[execOp,Cb h hx,Op.unary];rfl⟩
theorem Pl(ρ:Operand->Value)(b:Builtin)(xs:Array Operand)(xe:Array TypeId) :
  execOp ρ ⟨dst,.call { callee:=.builtin b,args:=xs,argTypes:=xe },ty,la,ma,g⟩=builtin b xe ty (xs.map fun|.const _=>true|_=>false) (xs.map ρ):=rfl
theorem qM(xe:Array TypeId)(cs:Array Bool)(args:Array Value):builtin .len xe ty cs args=(do Pure.pure (.value (<-Builtin.len_ xe ty args))):=rfl
theorem DO{op:BinOp}{xT yT:TypeId}{y:Operand}{a b:ByteArray}(hx:ρ x=.string a)(hy:ρ y=.string b)
  {v:Value} (hv:∀ w,(Op.stringOp op a b).run P w=.ok v w) (w:World):(execOp ρ ⟨dst,.binOp op xT x y yT,ty,la,ma,g⟩).run P w=.ok (.value v) w:=by
 have he:eqGuard op xT x y (.string a) (.string b)=Pure.pure ():=by unfold eqGuard;cases op <;> rfl
 have hb:binOp op xT (.string a) (.string b)=Op.stringOp op a b:=by cases op <;> rfl
 simp only[execOp,hx,hy,he,hb,Sb,Qc,lc,hv]
variable{l m:List UInt8}
theorem Pure.seq(hx:e.ev x=str l)(hy:e.ev y=str m):Pure C ⟨dst,.binOp .eql xT x y yT,ty,la,ma,g⟩ e H (bool (decide (l=m))):=
 .Ka λ_ _ _ h=>⟨_,xc,DO (Cb h hx) (Cb h hy) λw=>by
  simp only[Op.stringOp,ByteArray.toList_mk,Qc];congr 2;rw[Bool.eq_iff_iff];simp⟩
theorem Pure.oy(hx:e.ev x=str l)(hy:e.ev y=str m):Pure C ⟨dst,.binOp .neq xT x y yT,ty,la,ma,g⟩ e H (bool (!decide (l=m))):=
 .Ka λ_ _ _ h=>⟨_,xc,DO (Cb h hx) (Cb h hy) λw=>by
  simp only[Op.stringOp,ByteArray.toList_mk,Qc];congr 3;rw[Bool.eq_iff_iff];simp⟩
theorem qqR(l m:List UInt8):(ByteArray.mk l.toArray++ByteArray.mk m.toArray)=ByteArray.mk (l++m).toArray:=by apply ByteArray.ext;simp
theorem Pure.Fo(hx:e.ev x=str l)(hy:e.ev y=str m)(hl:l.length+m.length<=9223372036854775807):Pure C ⟨dst,.binOp .add xT x y yT,ty,la,ma,g⟩ e H (str (l++m)):=
 .Ka λ_ _ _ h=>⟨_,xc,DO (Cb h hx) (Cb h hy) λw=>by
  have h1:¬ ((((ByteArray.mk l.toArray).size+(ByteArray.mk m.toArray).size:Nat):Int) > IntKind.i64.max):=by rw[iF,iF];simp only[IntKind.max,IntKind.signed,IntKind.bits];omega
  simp only[Op.stringOp,zn h1,Qc,qqR]⟩
theorem pI{n:Int}{c:UInt8} [Xi C.P xT](hx:e.ev x=str l)(hy:e.ev y=int k n)(h0:0<=n)(hc:l[n.toNat]? = some c):Pure C ⟨dst,.index xT x y,ty,la,ma,g⟩ e H (int .u8 c.toNat):=
 .Ka λρ _ _ h=>⟨_,xc,λw'=>by
  have hu:=ed (P:=C.P) (Xi.zd (t:=xT)) w';have hg:(ByteArray.mk l.toArray)[n.toNat]? = some c:=by
   have wa:n.toNat<l.length:=(List.getElem?_eq_some_iff.1 hc).1;have ld:n.toNat<(ByteArray.mk l.toArray).size:=by simp[ByteArray.size];exact wa
   have:=(List.getElem?_eq_some_iff.1 hc).2;rw[getElem?_pos (ByteArray.mk l.toArray) n.toNat ld];exact congrArg some this
  simp only[execOp,Cb h hx,Cb h hy,Instr.index,asIntOf,Sb,Qc,lc,hu,zp h0,hg]⟩
theorem Pure.jv(hx:e.ev x=str l) [Xi C.P xT]:Pure C ⟨dst,.call { callee:=.builtin .len,args:=#[x],argTypes:=#[xT] },ty,la,ma,g⟩ e H (int .i64 l.length):=
 .Ka λρ _ _ h=>⟨_,xc,λw'=>by
  have hu:=ed (P:=C.P) (Xi.zd (t:=xT)) w';rw[Pl,qM];simp[Builtin.len_,hu,goInt,Cb h hx];rw[iF]⟩
end pure
theorem re(b off i:Nat):(Addr.mk b off none).add i=⟨b,off+i,none⟩:=by unfold Addr.add;split;rename_i h;subst h;rfl;rfl
theorem pb.get{w:World}{L:Live}{b:Nat}:∀ {off:Nat} {cs:List LV},pb w L b off cs->∀ {i:Nat} {c:LV},cs[i]? = some c->off+i<L b/\∃ x,w.cell? ⟨b,off+i,none⟩=some x/\Wa w L c x
 |_,[],_,i,c,hc=>by simp at hc
 |off,c::cs,h,i,c',hc=>by
  simp only[pb] at h;obtain⟨h1,⟨x,h2,h3⟩,h4⟩:=h;cases i with
  |zero=>simp at hc;subst hc;exact⟨h1,x,h2,h3⟩
  |succ i=>have:=pb.get h4 (i:=i) (by simpa using hc);rwa [show off+1+i=off+(i+1) by omega] at this
theorem pb.drop{w:World}{L:Live}{b:Nat}:∀ {off:Nat} {cs:List LV} (n:Nat),pb w L b off cs->pb w L b (off+n) (cs.drop n)
 |_,cs,0,h=>by simpa using h
 |_,[],n+1,_=>by simp[pb]
 |off,c::cs,n+1,h=>by simp only[pb] at h;have:=pb.drop n h.2.2;rwa [show off+1+n=off+(n+1) by omega] at this
theorem Cc.cell(h:Cc w L b k off (e::es)):e.cells.length=k/\pb w L b off e.cells:=by
 cases e <;> simp only[Cc] at h <;> first
  |exact h.1
  |(obtain⟨⟨r1,r2,r3⟩,_⟩:=h;exact⟨r1,by simp only[LV.cells,pb];exact⟨r2,r3,trivial⟩⟩)
theorem Cc.tail(h:Cc w L b k off (e::es)):Cc w L b k (off+k) es:=by cases e <;> simp only[Cc] at h <;> exact h.2
theorem Cc.cons(h1:e.cells.length=k)(h2:pb w L b off e.cells)(h3:Cc w L b k (off+k) es):Cc w L b k off (e::es):=by
 cases e <;> simp only[Cc] <;> refine⟨?_,h3⟩ <;> first
  |exact⟨h1,h2⟩
  |(simp only[LV.cells,pb] at h1 h2;exact⟨h1,h2.1,h2.2.1⟩)
theorem Cc.get{w:World}{L:Live}{b k:Nat}:∀ {off:Nat} {es:List LV},Cc w L b k off es->∀ {i:Nat} {e:LV},es[i]? = some e->e.cells.length=k/\pb w L b (off+i * k) e.cells
 |_,[],_,i,c,hc=>by simp at hc
 |off,e::es,h,i,e',hc=>by
  cases i with
  |zero=>simp at hc;subst hc;simpa using h.cell
  |succ i=>have:=Cc.get h.tail (i:=i) (by simpa using hc);rwa [show off+k+i * k=off+(i+1) * k by rw[add_mul];omega] at this
theorem Cc.drop{w:World}{L:Live}{b k:Nat}:∀ {off:Nat} {es:List LV} (n:Nat),Cc w L b k off es->Cc w L b k (off+n * k) (es.drop n)
 |_,es,0,h=>by simpa using h
 |_,[],n+1,_=>by simp[Cc]
 |off,c::cs,n+1,h=>by have:=Cc.drop n h.tail;rwa [show off+k+n * k=off+(n+1) * k by rw[add_mul];omega] at this
theorem Cc.take{w:World}{L:Live}{b k:Nat}:∀ {off:Nat} {es:List LV} (n:Nat),Cc w L b k off es->Cc w L b k off (es.take n)
 |_,es,0,_=>by simp[Cc]
 |_,[],n+1,_=>by simp[Cc]
 |off,c::cs,n+1,h=>.cons h.cell.1 h.cell.2 (Cc.take n h.tail)
theorem IF{P:Program}{w:World}{b off:Nat}:∀ (n i:Nat) (acc:Array Value) (xs:List Value),xs.length=n->(∀ j x,xs[j]? = some x->w.cell? ⟨b,off+i+j,none⟩=some x) ->
  (loadCellsFrom ⟨b,off,none⟩ i n acc).run P w=.ok (acc++xs.toArray) w
 |0,i,acc,xs,hl,_=>by have:xs=[]:=List.eq_nil_of_length_eq_zero hl;subst this;simp[loadCellsFrom]
 |n+1,i,acc,[],hl,_=>by simp at hl
 |n+1,i,acc,x::xs,hl,h=>by
  have h0:=h 0 x rfl;have ih:=IF (P:=P) (w:=w) (b:=b) (off:=off) n (i+1) (acc.push x) xs (by simpa using hl) (λj y hy=>by
   have:=h (j+1) y (by simpa using hy);rwa [show off+i+(j+1)=off+(i+1)+j by omega] at this)
  simp only[loadCellsFrom,Sb,run_load,re];rw[show off+i=off+i+0 by omega,h0];simp only[lc];rw[ih];simp
theorem pb.values{w:World}{L:Live}{b:Nat}:∀ {off:Nat} {cs:List LV},pb w L b off cs->∃ xs:List Value,na w L cs xs/\∀ j x,xs[j]? = some x->off+j<L b/\w.cell? ⟨b,off+j,none⟩=some x
 |_,[],_=>⟨[],by simp only[na],by simp⟩
 |off,c::cs,h=>by
  simp only[pb] at h;obtain⟨h1,⟨x,h2,h3⟩,h4⟩:=h;obtain⟨xs,h5,h6⟩:=pb.values h4;refine⟨x::xs,by simp only[na];exact⟨x,xs,rfl,h3,h5⟩,λj y hy=>?_⟩
  cases j with
  |zero=>simp at hy;subst hy;exact⟨h1,h2⟩
  |succ j=>have:=h6 j y (by simpa using hy);rwa [show off+1+j=off+(j+1) by omega] at this
theorem pb.take{w:World}{L:Live}{b:Nat}:∀ {off:Nat} {cs:List LV} (n:Nat),pb w L b off cs->pb w L b off (cs.take n)
 |_,cs,0,_=>by simp[pb]
 |_,[],n+1,_=>by simp[pb]
 |off,c::cs,n+1,h=>by simp only[pb,List.take_succ_cons] at h ⊢;exact⟨h.1,h.2.1,pb.take n h.2.2⟩
theorem SQ{t:TypeId} [Yl P t]{a:Addr}{x:Value}(h:w.cell? a=some x):(loadVar t a).run P w=.ok x w:=by simp[loadVar,Yl.isAgg,h]
theorem YQ [ht:yk P t k](hl:xs.length=k)(h:∀ j x,xs[j]? = some x->w.cell? ⟨b,off+j,none⟩=some x) :
  (loadVar t ⟨b,off,none⟩).run P w=.ok (.agg xs.toArray) w:=by
 obtain⟨i,hi,hk⟩:=ht.size;have:=IF (P:=P) (w:=w) (b:=b) (off:=off) k 0 #[] xs hl (by simpa using h);simp only[loadVar,Sb,yk.isAgg,lc,if_true,Cu hi,hk,loadCells,this];simp
section reading
variable{C:Ctx}{e:Env}{H:Heap}{dst:Option Nat}{ty:TypeId}{la:String}{ma:Array Edge}{g:Option (Nat×Bool)}{x y:Operand}{xT:TypeId}{k:IntKind}
theorem pO{t:TypeId} [Yl C.P t](hx:e.ev x=.ref cs)(hc:cs[0]? = some c):Pure C ⟨dst,.load t x,ty,la,ma,g⟩ e H c:=λρ w L h _=>by
 have hv:=h x;rw[hx] at hv;simp only[Wa] at hv;obtain⟨b,off,hv,hr⟩:=hv;obtain⟨h1,v,h2,h3⟩:=hr.get hc;refine⟨v,h3,λw' ha=>?_⟩;have lq:w'.cell? ⟨b,off,none⟩=some v:=by rw[ha.2 b off h1];exact h2
 have h0:execOp ρ ⟨dst,.load t x,ty,la,ma,g⟩=(do Pure.pure (.value (<-Instr.loadAt t (ρ x)))):=rfl;rw[h0,hv];simp[Instr.loadAt,Instr.sureAddr,SQ lq]
theorem Pure.Pq [yk C.P t n](hx:e.ev x=.ref cs)(hn:n<=cs.length):Pure C ⟨dst,.load t x,ty,la,ma,g⟩ e H (.agg (cs.take n)):=λρ w L h _=>by
 have hv:=h x;rw[hx] at hv;simp only[Wa] at hv;obtain⟨b,off,hv,hr⟩:=hv;obtain⟨xs,h1,h2⟩:=(hr.take n).values;refine⟨.agg xs.toArray,by simp only[Wa];exact⟨xs,rfl,h1⟩,λw' ha=>?_⟩;have h0:execOp ρ ⟨dst,.load t x,ty,la,ma,g⟩=(do Pure.pure (.value (<-Instr.loadAt t (ρ x)))):=rfl;rw[h0,hv];have fa:xs.length=n:=by rw[h1.length];simp;omega
 simp[Instr.loadAt,Instr.sureAddr,YQ (t:=t) fa (λj y hy=>by rw[ha.2 b _ (h2 j y hy).1];exact(h2 j y hy).2)]
theorem Ca.cells{w:World}{L:Live}{b im:Nat}{cs:List LV}(h:Ca C w L H)(hm:(b,da.cells im cs)∈H):∃ xs:List Value,w.heap[b]? = some (.cells xs.toArray im (0,0))/\na w L cs xs:=
 (h.Gb _ hm).2.2.2
theorem pL{t:TypeId} [Yl C.P t](hx:e.ev x=ptr b off)(hm:(b,da.cells im cs)∈H)(hc:cs[off]? = some c) :
  Pure C ⟨dst,.load t x,ty,la,ma,g⟩ e H c:=λρ w L h hH=>by
 obtain⟨xs,h1,h2⟩:=hH.cells hm;obtain⟨v,h3,h4⟩:=h2.get hc;refine⟨v,h4,λw' ha=>?_⟩;have hb:w'.heap[b]? = some (.cells xs.toArray im (0,0)):=(ha.1 _ hm).trans h1;have uk:w'.cell? ⟨b,off,none⟩=some v:=by simp[World.cell?,hb,h3]
 have h0:execOp ρ ⟨dst,.load t x,ty,la,ma,g⟩=(do Pure.pure (.value (<-Instr.loadAt t (ρ x)))):=rfl;rw[h0,Cb h hx];simp[Instr.loadAt,Instr.sureAddr,SQ uk]
theorem na.drop{w:World}{L:Live}:∀ (n:Nat) {cs:List LV} {xs:List Value},na w L cs xs->na w L (cs.drop n) (xs.drop n)
 |0,_,_,h=>by simpa using h
 |n+1,[],xs,h=>by simp only[na] at h;subst h;simp[na]
 |n+1,c::cs,xs,h=>by simp only[na] at h;obtain⟨y,ys,rfl,_,h⟩:=h;simpa using na.drop n h
theorem na.take{w:World}{L:Live}:∀ (n:Nat) {cs:List LV} {xs:List Value},na w L cs xs->na w L (cs.take n) (xs.take n)
 |0,_,_,_=>by simp[na]
 |n+1,[],xs,h=>by simp only[na] at h;subst h;simp[na]
 |n+1,c::cs,xs,h=>by simp only[na] at h;obtain⟨y,ys,rfl,h1,h⟩:=h;simp only[List.take_succ_cons,na];exact⟨y,_,rfl,h1,na.take n h⟩
theorem Pure.Rv [yk C.P t n](hx:e.ev x=ptr b off)(hm:(b,da.cells im cs)∈H)(hn:off+n<=cs.length) :
  Pure C ⟨dst,.load t x,ty,la,ma,g⟩ e H (.agg ((cs.drop off).take n)):=λρ w L h hH=>by
 obtain⟨xs,h1,h2⟩:=hH.cells hm;have hl:=h2.length;refine⟨.agg ((xs.drop off).take n).toArray,by simp only[Wa];exact⟨_,rfl,(h2.drop off).take n⟩,λw' ha=>?_⟩;have hb:w'.heap[b]? = some (.cells xs.toArray im (0,0)):=(ha.1 _ hm).trans h1;have h0:execOp ρ ⟨dst,.load t x,ty,la,ma,g⟩=(do Pure.pure (.value (<-Instr.loadAt t (ρ x)))):=rfl;rw[h0,Cb h hx];have fa:((xs.drop off).take n).length=n:=by simp;omega
 simp[Instr.loadAt,Instr.sureAddr,YQ (t:=t) (w:=w') (b:=b) (off:=off) fa (λj y hy=>by
  rw[List.getElem?_take] at hy;split at hy;simpa [World.cell?,hb,List.getElem?_drop] using hy;cases hy)]
theorem qjB{Rs:Field}{i:TypeInfo}(hi:P.info? Rs.type=some i)(h0:i.size≠0)(b off:Nat)(w:World):(fieldPlace ⟨b,off,none⟩ Rs).run P w=.ok ⟨b,off+Rs.offset,none⟩ w:=by simp[fieldPlace,Cu hi,h0,re]
theorem rZ{f:Nat} [hf:mi P s f n](b off:Nat)(w:World):(Instr.fieldAt s (.pointer (some ⟨b,off,none⟩)) f).run P w=.ok (.pointer (some ⟨b,off+n,none⟩)) w:=by obtain⟨fs,Rs,hu,hg,rfl,i,hi,h0⟩:=hf.out;simp[Instr.fieldAt,ed hu,hg,Instr.sureAddr,qjB hi h0]
theorem pF{f:Nat} [mi C.P s f n](hx:e.ev x=ptr b off):Pure C ⟨dst,.fieldAddr s x f,ty,la,ma,g⟩ e H (ptr b (off+n)):=
 .Ka λρ _ _ h=>⟨_,xc,λw'=>by
  have h0:execOp ρ ⟨dst,.fieldAddr s x f,ty,la,ma,g⟩=(do Pure.pure (.value (<-Instr.fieldAt s (ρ x) f))):=rfl;rw[h0,Cb h hx];simp[rZ]⟩
theorem Pure.Jw{f:Nat} [mi C.P s f n](hx:e.ev x=.ref cs):Pure C ⟨dst,.fieldAddr s x f,ty,la,ma,g⟩ e H (.ref (cs.drop n)):=
 .Ka λρ w L h=>by have hv:=h x;rw[hx] at hv;simp only[Wa] at hv;obtain⟨b,off,hv,hr⟩:=hv;refine⟨.pointer (some ⟨b,off+n,none⟩),by simp only[Wa];exact⟨b,off+n,rfl,hr.drop n⟩,λw'=>?_⟩;have h0:execOp ρ ⟨dst,.fieldAddr s x f,ty,la,ma,g⟩=(do Pure.pure (.value (<-Instr.fieldAt s (ρ x) f))):=rfl;rw[h0,hv];simp[rZ]
def elems:LV->Option (List LV)
 |.list es=>some es
 |.app _ _ _ es=>some es
 |.atom (.slice none 0 0)=>some []
 |_=>none
theorem Wa.elems{w:World}{L:Live}:∀ {lv:LV} {v:Value} {es:List LV},Wa w L lv v->GL.elems lv=some es ->
  ∃ a cap,v=.slice a es.length cap/\es.length<=cap/\(es≠[]->∃ b off k,a=some ⟨b,off,none⟩/\Cc w L b k off es)
 |.list es,v,rh,h,he=>by simp only[GL.elems,bt] at he;subst he;simpa only[Wa] using h
 |.app b cap k es,v,rh,h,he=>by simp only[GL.elems,bt] at he;subst he;simp only[Wa] at h;obtain⟨rfl,hl,h,_⟩:=h;exact⟨_,_,rfl,hl,λ_=>⟨b,0,k,rfl,h⟩⟩
 |.atom u,v,es,h,he=>by simp only[Wa] at h;subst h;unfold GL.elems at he;split at he <;> simp_all
 |.agg _,_,_,_,he=>by simp[GL.elems] at he
 |.tuple _,_,_,_,he=>by simp[GL.elems] at he
 |.ref _,_,_,_,he=>by simp[GL.elems] at he
theorem Pure.jl [Aa C.P t el s](hx:elems (e.ev x)=some es):Pure C ⟨dst,.call { callee:=.builtin .len,args:=#[x],argTypes:=#[t] },ty,la,ma,g⟩ e H (int .i64 es.length):=
 .Ka λρ _ _ h=>⟨_,xc,λw'=>by
  obtain⟨a,cap,hv,_⟩:=(h x).elems hx;have hu:=ed (P:=C.P) (Aa.zd (t:=t)) w';rw[Pl,qM];simp[Builtin.len_,hu,goInt,hv]⟩
theorem Pure.indexAddr{t el s:Nat} [ht:Aa C.P t el s]{es:List LV}{n:Int}{ad:LV}(hx:elems (e.ev x)=some es)(hy:e.ev y=int k n)(h0:0<=n)(hn:es[n.toNat]? = some ad)(hs:ad.cells.length=s) :
  Pure C ⟨dst,.indexAddr t x y,ty,la,ma,g⟩ e H (.ref ad.cells):=.Ka λρ w L h=>by
 obtain⟨a,cap,hv,Kc,hr⟩:=(h x).elems hx;have wa:n.toNat<es.length:=(List.getElem?_eq_some_iff.1 hn).1;obtain⟨b,off,k',rfl,rz⟩:=hr (by intro h;subst h;simp at wa);obtain⟨h1,h2⟩:=rz.get hn;obtain⟨i,hi,ld⟩:=ht.size;refine⟨.pointer (some ⟨b,off+n.toNat * k',none⟩),by simp only[Wa];exact⟨b,_,rfl,h2⟩,λw'=>?_⟩;have h3:execOp ρ ⟨dst,.indexAddr t x y,ty,la,ma,g⟩=(do Pure.pure (.value (<-Instr.indexAt t (ρ x) (ρ y)))):=rfl;rw[h3,hv,Cb h hy];have hk:k'=i.size:=by omega
 have hc:0<=n/\n<(es.length:Int):=⟨h0,by omega⟩;simp[Instr.indexAt,asIntOf,ed ht.zd,hc,Cu hi,re,hk]
def Cv(e:Env)(o:Option Operand)(MT n:Int):Prop:=
 match o with
 |some x=>∃ k,e.ev x=int k n
 |none=>n=MT
theorem tM(h:∀ x,Wa w L (e.ev x) (ρ x)){i j:Int}(sl:Bool)
  (Wj:Cv e lo 0 i) (Yt:Cv e hi len j) (h0:0<=i) (h1:i<=j) (h2:j<=cap) :
  (Instr.sliceBounds sl len cap (lo.map ρ) (hi.map ρ) none).run P w'=.ok (i.toNat,j.toNat,cap) w':=by
 have hj:0<=j:=by omega
 have hm:i<=max j 0:=by omega
 cases lo <;> cases hi <;> simp only[Cv] at Wj Yt;subst Wj Yt;simp[Instr.sliceBounds];obtain⟨k2,Em⟩:=Yt;subst Wj;simp[Instr.sliceBounds,Instr.sliceBound,Cb h Em,asIntOf,hj,h2];obtain⟨k1,Xt⟩:=Wj;subst Yt;simp[Instr.sliceBounds,Instr.sliceBound,Cb h Xt,asIntOf,h0,h1];obtain⟨k1,Xt⟩:=Wj;obtain⟨k2,Em⟩:=Yt;simp[Instr.sliceBounds,Instr.sliceBound,Cb h Xt,Cb h Em,asIntOf,h0,hj,h2,hm]
theorem qpV(l:List UInt8)(i j:Nat):(ByteArray.mk l.toArray).extract i j=ByteArray.mk ((l.take j).drop i).toArray:=by apply ByteArray.ext;simp[List.extract_eq_take_drop,List.drop_take]
theorem Pure.jh{l:List UInt8}{i j:Int} [hT:Xi C.P xT](hx:e.ev x=str l)
  (Wj:Cv e lo 0 i) (Yt:Cv e hi l.length j) (h0:0<=i) (h1:i<=j) (h2:j<=l.length) :
  Pure C ⟨dst,.slice xT x lo hi none,ty,la,ma,g⟩ e H (str ((l.take j.toNat).drop i.toNat)):=.Ka λρ w L h=>by
 refine⟨_,xc,λw'=>?_⟩;have h3:execOp ρ ⟨dst,.slice xT x lo hi none,ty,la,ma,g⟩=(do Pure.pure (.value (<-Instr.sliceAt xT (ρ x) (lo.map ρ) (hi.map ρ) none))):=rfl;rw[h3,Cb h hx]
 simp only[Instr.sliceAt,Instr.slice,Sb,ed (P:=C.P) hT.zd w',lc,isSome_none,Vh,if_false,Qc,iF,
  tM h false Wj Yt h0 h1 h2,qpV]
theorem Pure.sn{es:List LV}{i j:Int} [ht:Aa C.P t el s](hx:elems (e.ev x)=some es)
  (Wj:Cv e lo 0 i) (Yt:Cv e hi es.length j) (h0:0<=i) (h1:i<=j) (h2:j<=es.length) (hs:∀ v∈es,v.cells.length=s) :
  Pure C ⟨dst,.slice t x lo hi none,ty,la,ma,g⟩ e H (.list ((es.take j.toNat).drop i.toNat)):=.Ka λρ w L h=>by
 obtain⟨a,cap,hv,Kc,hr⟩:=(h x).elems hx;obtain⟨ti,ID,ld⟩:=ht.size;have hb:=λw'=>tM (P:=C.P) (w':=w') (cap:=cap) h true Wj Yt h0 h1 Ia;have h3:execOp ρ ⟨dst,.slice t x lo hi none,ty,la,ma,g⟩=(do Pure.pure (.value (<-Instr.sliceAt t (ρ x) (lo.map ρ) (hi.map ρ) none))):=rfl;have fa:((es.take j.toNat).drop i.toNat).length=j.toNat-i.toNat:=by simp;omega
 refine⟨.slice (if cap=i.toNat then a else a.map (·.add (i.toNat * s))) (j.toNat-i.toNat) (cap-i.toNat),?_,λw'=>?_⟩;simp only[Wa];refine⟨_,cap-i.toNat,by rw[fa],by omega,λeb=>?_⟩;have zz:es≠[]:=by intro h;subst h;simp at eb
 obtain⟨b,off,k,rfl,rz⟩:=hr zz;have wa:i.toNat<j.toNat:=by rcases Nat.lt_or_ge i.toNat j.toNat with hh|hh;exact hh;exact absurd (List.eq_nil_of_length_eq_zero Ia) eb
 have hk:k=s:=by obtain⟨e0,rest,he⟩:=List.exists_cons_of_ne_nil zz;subst he;exact rz.cell.1.symm.trans (hs e0 (by simp))
 subst hk;refine⟨b,off+i.toNat * k,k,?_,(rz.take j.toNat).drop i.toNat⟩;rw[zn (by omega)];simp[re];rw[h3,hv];simp only[Instr.sliceAt,Instr.slice,Sb,ed (P:=C.P) ht.zd w',lc,Qc,hb,Cu ID,ld]
theorem Pure.extract{vs:List LV}{i:Nat}{c:LV}(hx:e.ev x=.tuple vs)(hc:vs[i]? = some c):Pure C ⟨dst,.extract x i,ty,la,ma,g⟩ e H c:=.Ka λρ w L h=>by have hv:=h x;rw[hx] at hv;simp only[Wa] at hv;obtain⟨xs,hv,hr⟩:=hv;obtain⟨v,h1,h2⟩:=hr.get hc;refine⟨v,h2,λw'=>?_⟩;have h3:execOp ρ ⟨dst,.extract x i,ty,la,ma,g⟩=(do Pure.pure (.value (<-Instr.extract (ρ x) i))):=rfl;rw[h3,hv];simp[Instr.extract,h1]
theorem pN(hx:e.ev x=ptr b off):Pure C ⟨dst,.nilCheck x,ty,la,ma,g⟩ e H (ptr b off):=.Ka λρ _ _ h=>⟨_,xc,λw'=>by
 simp[execOp,Cb h hx]⟩
theorem Pure.GI{a b:Int}(hx:e.ev x=int k a)(hy:e.ev y=int k b){t u:TypeId}:Pure C ⟨dst,.call { callee:=.builtin .min,args:=#[x,y],argTypes:=#[t,u] },ty,la,ma,g⟩ e H (int k (if b<a then b else a)):=
 .Ka λρ _ _ h=>⟨_,xc,λw'=>by
  have h0:∀ (cs:Array Bool) (args:Array Value),builtin .min #[t,u] ty cs args=(do Pure.pure (.value (<-Builtin.min_ #[t,u] ty args))):=λ_ _=>rfl;rw[Pl,h0]
  simp[Builtin.min_,Builtin.min2,Cb h hx,Cb h hy]⟩
theorem Pure.Jz{k':IntKind}{s d:TypeId}{n:Int}(hs:∃ ds,C.P.underlying s=some ds) [hd:xg C.P d k'](hx:e.ev x=int k n):Pure C ⟨dst,.convert s d x,ty,la,ma,g⟩ e H (int k' (k'.wrap n)):=
 .Ka λρ _ _ h=>⟨_,xc,λw'=>by
  obtain⟨ds,hs⟩:=hs;have h3:execOp ρ ⟨dst,.convert s d x,ty,la,ma,g⟩=(do Pure.pure (.value (<-convert s d (ρ x)))):=rfl;rw[h3,Cb h hx];simp[convert,ed hs,ed hd.zd,Conv.intToInt]⟩
theorem na.atoms{w:World}{L:Live}:∀ {vs xs:List Value},na w L (vs.map .atom) xs->xs=vs
 |[],xs,h=>by simpa [na] using h
 |v::vs,xs,h=>by simp only[Tb,na,Wa] at h;obtain⟨y,ys,rfl,rfl,h⟩:=h;rw[na.atoms h]
theorem Pure.lg{t:TypeId} [ht:Xd C.P t]{vs:List Value}(hx:e.ev x=.agg (vs.map .atom)):Pure C ⟨dst,.makeInterface t x,ty,la,ma,g⟩ e H (.atom (.iface t (.agg vs.toArray))):=
 .Ka λρ w L h=>⟨_,xc,λw'=>by
  obtain⟨d,hd,hm⟩:=ht.out;have hv:=h x;rw[hx] at hv;simp only[Wa] at hv;obtain⟨xs,hv,hr⟩:=hv;rw[hr.atoms] at hv;have h3:execOp ρ ⟨dst,.makeInterface t x,ty,la,ma,g⟩=(do Pure.pure (.value (<-Instr.makeInterface t (ρ x)))):=rfl;rw[h3,hv];simp only[Instr.makeInterface,Sb,ed hd,lc];cases d <;> simp_all⟩
def aF(e:Env):List Operand->Option (List Value)
 |[]=>some []
 |x::xs=>match e.ev x,aF e xs with
  |.atom v,some vs=>some (v::vs)
  |_,_=>none
theorem XQ{ρ:Operand->Value}{w:World}{L:Live}(h:∀ x,Wa w L (e.ev x) (ρ x)):∀ {xs:List Operand} {vs:List Value},aF e xs=some vs->xs.map ρ=vs
 |[],vs,hv=>by simpa [aF] using hv
 |x::xs,vs,hv=>by simp only[aF] at hv;split at hv;rename_i v Uw h1 h2;simp only[bt] at hv;subst hv;rw[Tb,Cb h h1,XQ h h2];cases hv
theorem Pure.makeFunc{fn:Fn}{first captured:List Operand}{fs cs:List Value}(h1:aF e first=some fs)(h2:aF e captured=some cs) :
  Pure C ⟨dst,.makeFunc fn first.toArray captured.toArray,ty,la,ma,g⟩ e H (.atom (.func fn fs.toArray cs.toArray)):=.Ka λρ _ _ h=>⟨_,xc,λw'=>by
 have h3:execOp ρ ⟨dst,.makeFunc fn first.toArray captured.toArray,ty,la,ma,g⟩=(do Pure.pure (.value (<-Instr.makeFunc fn (first.toArray.map ρ) (captured.toArray.map ρ)))):=rfl;rw[h3];simp[Instr.makeFunc,XQ h h1,XQ h h2]⟩
def LV.cells? : LV->Option (List LV)
 |.agg cs=>some cs
 |.atom (.agg _)=>none
 |v=>some [v]
theorem Wa.cells{w:World}{L:Live}:∀ {lv:LV} {v:Value} {cs:List LV},Wa w L lv v->lv.cells? = some cs->na w L cs v.cells.toList
 |.agg cs,v,Ya,h,hc=>by simp only[LV.cells?,bt] at hc;subst hc;simp only[Wa] at h;obtain⟨xs,rfl,h⟩:=h;simpa [Value.cells] using h
 |.atom u,v,cs,h,hc=>by simp only[Wa] at h;subst h;cases v <;> simp only[LV.cells?,bt,reduceCtorEq] at hc <;> subst hc <;> simp[Value.cells,na,Wa]
 |.list es,v,cs,h,hc=>by simp only[LV.cells?,bt] at hc;subst hc;have h':=h;simp only[Wa] at h;obtain⟨a,cap,rfl,_⟩:=h;simpa [Value.cells,na] using h'
 |.app b cap k es,v,cs,h,hc=>by simp only[LV.cells?,bt] at hc;subst hc;have h':=h;simp only[Wa] at h;obtain⟨rfl,_⟩:=h;simpa [Value.cells,na] using h'
 |.tuple vs,v,cs,h,hc=>by simp only[LV.cells?,bt] at hc;subst hc;have h':=h;simp only[Wa] at h;obtain⟨xs,rfl,_⟩:=h;simpa [Value.cells,na] using h'
 |.ref vs,v,cs,h,hc=>by simp only[LV.cells?,bt] at hc;subst hc;have h':=h;simp only[Wa] at h;obtain⟨b,off,rfl,_⟩:=h;simpa [Value.cells,na] using h'
def Zc:List LV->Nat->List LV->List LV
 |xs,0,[]=>xs
 |[],_,_=>[]
 |_::xs,0,v::vs=>v::Zc xs 0 vs
 |x::xs,n+1,vs=>x::Zc xs n vs
def dA(pl:List (Nat×Nat))(cells:List LV):List (Nat×LV)->Option (List LV)
 |[]=>some cells
 |(i,v)::rest=>
  match pl[i]?,v.cells? with
  |some (off,size),some cs=>if cs.length=size/\off+cs.length<=cells.length then dA pl (Zc cells off cs) rest else none
  |_,_=>none
theorem na.append{w:World}{L:Live}:∀ {Wb bs:List LV} {xs ys:List Value},na w L Wb xs->na w L bs ys->na w L (Wb++bs) (xs++ys)
 |[],_,xs,_,h,k=>by simp only[na] at h;subst h;simpa using k
 |a::Wb,_,xs,_,h,k=>by simp only[na] at h;obtain⟨y,xN,rfl,h1,h2⟩:=h;simp only[cons_append,na];exact⟨y,_,rfl,h1,na.append h2 k⟩
theorem xA:∀ (cells:List LV) (off:Nat) (vs:List LV),off+vs.length<=cells.length->Zc cells off vs=cells.take off++vs++cells.drop (off+vs.length)
 |xs,0,[],_=>by cases xs <;> simp[Zc]
 |[],n+1,vs,h=>by simp at h
 |[],0,v::vs,h=>by simp at h
 |x::xs,0,v::vs,h=>by have:=xA xs 0 vs (by simpa using h);simp[Zc,this]
 |x::xs,n+1,vs,h=>by have:=xA xs n vs (by simp at h;omega);simp[Zc,this,show n+1+vs.length=(n+vs.length)+1 by omega]
theorem kQ(off:Nat):∀ (ys:List Value) (j:Nat) (xs:List Value),off+j+ys.length<=xs.length ->
  ((ys.zipIdx j).foldl (λcs p=>cs.setIfInBounds (off+p.2) p.1) xs.toArray)=(xs.take (off+j)++ys++xs.drop (off+j+ys.length)).toArray
 |[],j,xs,_=>by simp
 |y::ys,j,xs,h=>by
  simp only[Oa] at h;simp only[List.zipIdx_cons,List.foldl_cons,List.setIfInBounds_toArray];rw[kQ off ys (j+1) (xs.set (off+j) y) (by simp;omega)];congr 1;have h1:(xs.set (off+j) y).take (off+(j+1))=xs.take (off+j)++[y]:=by rw[show off+(j+1)=off+j+1 by omega,List.take_succ_eq_append_getElem (by simp;omega)];simp[List.take_set_of_le]
  have h2:(xs.set (off+j) y).drop (off+(j+1)+ys.length)=xs.drop (off+j+(ys.length+1)):=by rw[List.drop_set_of_lt (by omega),show off+(j+1)+ys.length=off+j+(ys.length+1) by omega]
  rw[h1,h2];simp
theorem bX{w:World}{L:Live}{pl:List (Nat×Nat)}{place:Nat->Option (Nat×Nat)}(hp:∀ i,place i=pl[i]?):∀ {parts:List (Nat×LV)} {vs:List (Nat×Value)} {cells:List LV} {xs:List Value} {cs:List LV},
  na w L cells xs->parts.map (·.1)=vs.map (·.1)->na w L (parts.map (·.2)) (vs.map (·.2))->dA pl cells parts=some cs->∃ ys:List Value,Instr.fill place xs.toArray vs=some ys.toArray/\na w L cs ys
 |[],[],cells,xs,cs,h,_,_,hf=>by simp only[dA,bt] at hf;subst hf;exact⟨xs,rfl,h⟩
 |[],_::_,_,_,_,_,h,_,_=>by simp at h
 |_::_,[],_,_,_,_,h,_,_=>by simp at h
 |(i,lv)::parts,(i',v)::vs,cells,xs,cs,h,h1,h2,hf=>by
  simp only[Tb,List.cons.injEq] at h1;obtain⟨rfl,h1⟩:=h1;simp only[Tb,na] at h2;obtain⟨y,ys,he,h2,h3⟩:=h2;simp only[List.cons.injEq] at he;obtain⟨rfl,rfl⟩:=he;simp only[dA] at hf;split at hf;rename_i off size pU Ul LR;split at hf;rename_i hc;have hr:=h2.cells LR;have hl:=hr.length;have tB:=h.length;simp only[Instr.fill,hp,Ul];have ld:v.cells.size=pU.length:=by simpa using hl
  rw[zn (by simp[ld,tB];omega)];have he:(v.cells.zipIdx.foldl (λcs (c,j)=>cs.setIfInBounds (off+j) c) xs.toArray)=(xs.take off++v.cells.toList++xs.drop (off+pU.length)).toArray:=by rw[<-Array.foldl_toList,Array.toList_zipIdx];have:=kQ off v.cells.toList 0 xs (by simp[ld,tB];omega);rw[add_zero] at this;rw[this];simp[ld]
  rw[he];refine bX hp ?_ h1 h3 hf;rw[xA _ _ _ hc.2];exact((h.take off).append hr).append (h.drop _);cases hf;cases hf
theorem WZ{P:Program}{w:World}:∀ {fs:List Field},(∀ f∈fs,(P.info? f.type).isSome) ->
  (fs.mapM λf=>(do Pure.pure (f.offset,<-sizeOf f.type):Sem (Nat×Nat))).run P w=.ok (fs.map λf=>(f.offset,P.cellsOf f.type)) w
 |[],_=>by simp
 |f::fs,h=>by obtain⟨i,hi⟩:=zR (h f (by simp));have ih:=WZ (P:=P) (w:=w) (fs:=fs) λg hg=>h g (Sc _ hg);simp only[List.mapM_cons,Sb,Cu hi,lc,Qc,ih,Tb,Program.cellsOf,hi,map_some,Option.getD_some]
theorem SO{t:TypeId} [h:Sf P t zs](w:World):∃ v,(zeroValue t).run P w=.ok v w/\v.cells=zs.toArray:=by obtain⟨i,v,hi,hz,hc,_⟩:=h.out;exact⟨v,by simp[zeroValue,wI hi,hz],hc⟩
theorem Jl{w:World}{L:Live}:∀ (zs:List Value),na w L (zs.map .atom) zs
 |[]=>by simp[na]
 |z::zs=>by simp only[Tb,na,Wa];exact⟨z,zs,rfl,rfl,Jl zs⟩
theorem gF{ρ:Operand->Value}{w:World}{L:Live}(h:∀ x,Wa w L (e.ev x) (ρ x)):∀ (xs:List Operand),na w L (xs.map e.ev) (xs.map ρ)
 |[]=>by simp[na]
 |x::xs=>by simp only[Tb,na];exact⟨_,_,rfl,h x,gF h xs⟩
theorem Pure.build{t:TypeId}{pl:List (Nat×Nat)}{zs:List Value} [hs:Vi C.P t pl] [hz:Sf C.P t zs]{parts:List (Nat×Operand)}{cs:List LV}
  (h:dA pl (zs.map .atom) (parts.map λp=>(p.1,e.ev p.2))=some cs):Pure C ⟨dst,.build t parts.toArray,ty,la,ma,g⟩ e H (.agg cs):=.Ka λρ w L hρ=>by
 obtain⟨fs,hu,Ul,bc⟩:=hs.out;have hp:∀ i:Nat,((fs.toList.map λf=>(f.offset,C.P.cellsOf f.type)).toArray)[i]? = pl[i]? := λi=>by rw[Ul];simp
 have hre:=gF hρ (parts.map (·.2));have:=bX hp (w:=w) (L:=L) (parts:=parts.map λp=>(p.1,e.ev p.2)) (vs:=parts.map λp=>(p.1,ρ p.2)) (Jl zs) (by simp[Function.comp_def]) (by simpa [Function.comp_def] using hre) h;obtain⟨ys,h1,h2⟩:=this;refine⟨.agg ys.toArray,by simp only[Wa];exact⟨ys,rfl,h2⟩,λw'=>?_⟩;obtain⟨v,hv,hc⟩:=SO (P:=C.P) (t:=t) w';have h3:execOp ρ ⟨dst,.build t parts.toArray,ty,la,ma,g⟩=(do Pure.pure (.value (<-Instr.build t (parts.toArray.map λ(i,x)=>(i,ρ x))))):=rfl
 have hm:(fs.mapM λf=>(do Pure.pure (f.offset,<-sizeOf f.type):Sem (Nat×Nat))).run C.P w'=.ok (fs.toList.map λf=>(f.offset,C.P.cellsOf f.type)).toArray w':=by
  rw[Array.mapM_eq_mapM_toList];rw[Sem.run_map,WZ (P:=C.P) (w:=w') (fs:=fs.toList) (λf hf=>bc f (by simpa using hf))]
  try rfl
 rw[h3];simp only[Instr.build,Sb,hv,lc,ed hu w',hm,hc,map_toArray];rw[h1];try rfl
end reading
def Live.jd(L:Live)(b n:Nat):Live:=λx=>if x=b then n else L x
theorem RP{o:Obj}(hb:b<w.heap.size):(w.heap.push o)[b]? = w.heap[b]? := by
 rw[Array.getElem?_push,zn (by omega)]
theorem jq{o:Obj}:(w.heap.push o)[w.heap.size]? = some o:=by simp
def World.push(w:World)(o:Obj):World:={ w with heap:=w.heap.push o }
theorem FA(Q0:∀ b,w.heap.size<=b->L b=0)(o:Obj)(n:Nat):Ext w L (World.push w o) (L.jd w.heap.size n):=by
 refine⟨by simp[World.push],λb hb=>?_,λb i hi=>?_,λb=>?_⟩;exact Wy (RP hb);rcases Nat.lt_or_ge b w.heap.size with hb|hb;exact cell_of_heap (RP hb) i;rw[Q0 b hb] at hi;omega;unfold Live.jd;split
 rename_i h;subst h;rw[Q0 _ (mc _)];omega;exact mc _
theorem gx(hH:Ca C w L [])(o:Obj)(n:Nat)(H':Heap)(hk:∀ p∈H',p.1=w.heap.size/\wH (World.push w o) (L.jd w.heap.size n) w.heap.size p.2)(hn:(H'.map (·.1)).Nodup) :
  Fr (keys []) w L (World.push w o) (L.jd w.heap.size n) H'/\Ca C (World.push w o) (L.jd w.heap.size n) H':=by
 have hx:=FA hH.wf o n;refine⟨⟨rfl,rfl,rfl,hx,λb hb _=>RP hb,λb hb _=>?_,λp hp=>.inr (by rw[(hk p hp).1];exact mc _)⟩,⟨?_,trivial,?_,λb hb=>?_,hn,λp hp=>?_⟩⟩;simp only[Live.jd];rw[zn (by omega)];exact hH.base.alloc hH.b0 o;exact Uf hH.b0 hx.size;simp only[World.push,Array.size_push] at hb;simp only[Live.jd];rw[zn (by omega)];exact hH.wf b Ia;obtain⟨h1,h2⟩:=hk p hp;rw[h1];exact⟨hH.b0,by simp[World.push],h2⟩
section steps
variable{C:Ctx}{e:Env}{H:Heap}{dst:Option Nat}{ty:TypeId}{la:String}{ma:Array Edge}{g:Option (Nat×Bool)}{x y:Operand}{xT:TypeId}{k:IntKind}
 {K:LV->Heap->Prop} {X:List PanicEntry->Heap->Prop}
theorem QW(hH:Ca C w L []){t:TypeId}(hr:na w L cs xs)(hk:∀ b,K (ptr b 0) [(b,.cells t cs)]) :
  Left C w L [] (World.push w (.cells xs.toArray t)) (.pointer (some ⟨w.heap.size,0,none⟩)) K:=by
 have hx:=FA hH.wf (.cells xs.toArray t) 0;have:=gx hH (.cells xs.toArray t) 0 [(w.heap.size,.cells t cs)] (λp hp=>by
  simp only[mem_singleton] at hp;subst hp;exact⟨rfl,by simp[Live.jd],xs,jq,hr.mono hx _ _⟩) (by simp)
 exact⟨_,_,_,this.1,this.2,xc,hk _⟩
theorem Ja.alloc{t:TypeId}{zs:List Value} [hz:Sf C.P t zs](hk:∀ b,K (ptr b 0) [(b,.cells t (zs.map .atom))]):Ja C ⟨dst,.alloc t,ty,la,ma,g⟩ e [] K X:=λρ w L _ hH=>by
 obtain⟨v,hv,hc⟩:=SO (P:=C.P) (t:=t) w;have h3:execOp ρ ⟨dst,.alloc t,ty,la,ma,g⟩=(do Pure.pure (.value (<-Instr.alloc t true (.tuple #[])))):=rfl;have h4:(Instr.alloc t true (.tuple #[])).run C.P w=.ok (.pointer (some ⟨w.heap.size,0,none⟩)) (World.push w (.cells zs.toArray t)):=by simp only[Instr.alloc,Sb,hv,lc,newVar,newRow,hc];rfl
 rw[h3,Sb,h4];exact QW hH (Jl zs) hk
theorem Ja.box{t:TypeId}{cs:List LV}(hx:(e.ev x).cells? = some cs)(hk:∀ b,K (ptr b 0) [(b,.cells t cs)]):Ja C ⟨dst,.box t x,ty,la,ma,g⟩ e [] K X:=λρ w L h hH=>by
 have hr:=(h x).cells hx;have h3:execOp ρ ⟨dst,.box t x,ty,la,ma,g⟩=(do Pure.pure (.value (<-Instr.box t (ρ x)))):=rfl;have h4:(Instr.box t (ρ x)).run C.P w=.ok (.pointer (some ⟨w.heap.size,0,none⟩)) (World.push w (.cells (ρ x).cells t)):=by simp only[Instr.box,Sb,newVar,newRow];rfl
 rw[h3,Sb,h4];have:=QW (K:=K) hH (t:=t) hr hk;rw[Array.toArray_toList] at this;exact this
def bj:LV->Bool
 |.agg _|.tuple _|.atom (.agg _)|.atom (.tuple _)=>false
 |_=>true
theorem Wa.flat{x:Value}(h:Wa w L c x)(hc:bj c=true):(∀ cs,x≠.agg cs)/\(∀ cs,x≠.tuple cs):=by
 cases c <;> simp only[Wa] at h <;> simp only[bj,Vh] at hc
 case atom v=>subst h;cases x <;> simp_all
 case list es=>obtain⟨a,cap,rfl,_⟩:=h;simp
 case app b cap k es=>obtain⟨rfl,_⟩:=h;simp
 case ref cs=>obtain⟨b,off,rfl,_⟩:=h;simp
theorem qiC{a:Addr}{old:Value}(hc:w.cell? a=some old)(hf:w.frozen? a=false)(h1:∀ cs,v≠.agg cs)(h2:∀ cs,v≠.tuple cs):(store a v).run P w=.ok () (w.setCell a v):=by cases v <;> simp_all [store,Sem.run]
theorem uZ{t:TypeId}{fr:Nat×Nat}(h:w.heap[b]? = some (.cells xs.toArray t fr)) :
  (w.setCell ⟨b,off,none⟩ v).heap[b]? = some (.cells (xs.set off v).toArray t fr):=by
 simp[World.setCell,Array.getElem?_modify,h]
theorem YC{P:Program}{b off:Nat}{t:TypeId}{fr:Nat×Nat}:∀ (vs:List Value) (i:Nat) (w:World) (xs:List Value),w.heap[b]? = some (.cells xs.toArray t fr)->off+i+vs.length<=xs.length ->
  (∀ j,off+i<=j->j<off+i+vs.length->¬ (fr.1<=j/\j<fr.2)) ->
  (∀ v∈vs,(∀ cs,v≠.agg cs)/\(∀ cs,v≠.tuple cs)) ->
  ∃ w',(storeCells ⟨b,off,none⟩ vs i).run P w=.ok () w'/\w'.os=w.os/\w'.tape=w.tape/\w'.output=w.output/\w'.heap.size=w.heap.size/\(∀ c,c≠b->w'.heap[c]? = w.heap[c]?) /\
   w'.heap[b]? = some (.cells (xs.take (off+i)++vs++xs.drop (off+i+vs.length)).toArray t fr)
 |[],i,w,xs,hb,_,_,_=>⟨w,by simp[storeCells],rfl,rfl,rfl,rfl,λ_ _=>rfl,by simpa using hb⟩
 |v::vs,i,w,xs,hb,hl,Dp,hv=>by
  simp only[Oa] at hl Dp;have hc:∃ old,w.cell? ⟨b,off+i,none⟩=some old:=by refine⟨xs[off+i]'(by omega),?_⟩;simp[World.cell?,hb]
  obtain⟨old,hc⟩:=hc;have hf:w.frozen? ⟨b,off+i,none⟩=false:=by obtain⟨lo,hi⟩:=fr;have:=Dp (off+i) Ia Ia;simp only[World.frozen?,hb];simp only[Bool.and_eq_false_iff,decide_eq_false_iff_not];simp only at this;omega
  have hs:=qiC (P:=P) hc hf (hv v (by simp)).1 (hv v (by simp)).2;obtain⟨w',h1,h2,h3,h4,h5,h6,h7⟩:=YC (P:=P) (off:=off) vs (i+1) (w.setCell ⟨b,off+i,none⟩ v) (xs.set (off+i) v) (uZ hb) (by simp;omega) (λj h1 h2=>Dp j Ia Ia) λu hu=>hv u (Sc _ hu);refine⟨w',?_,h2,h3,h4,?_,λc hc=>?_,?_⟩;simp only[storeCells,re,Sb,hs,lc,h1];rw[h5];simp[World.setCell];rw[h6 c hc];simp only[World.setCell,Array.getElem?_modify];rw[zn (by simpa using Ne.symm hc)];rw[h7];congr 2
  have e1:(xs.set (off+i) v).take (off+(i+1))=xs.take (off+i)++[v]:=by rw[show off+(i+1)=off+i+1 by omega,List.take_succ_eq_append_getElem (by simp;omega)];simp[List.take_set_of_le]
  have e2:(xs.set (off+i) v).drop (off+(i+1)+vs.length)=xs.drop (off+i+(vs.length+1)):=by rw[List.drop_set_of_lt (by omega),show off+(i+1)+vs.length=off+i+(vs.length+1) by omega]
  rw[e1,e2];simp
theorem CL{w:World}{L:Live}:∀ {cs:List LV} {xs:List Value},na w L cs xs->(cs.all bj)=true->∀ v∈xs,(∀ cs,v≠.agg cs)/\(∀ cs,v≠.tuple cs)
 |[],_,h,_=>by simp only[na] at h;subst h;simp
 |c::cs,_,h,hc=>by simp only[na] at h;obtain⟨y,ys,rfl,h1,h2⟩:=h;simp only[List.all_cons,Le] at hc;intro v hv;rcases Mc.1 hv with rfl|hv;exact h1.flat hc.1;exact CL h2 hc.2 v hv
class Xp (P:Program) (t:TypeId) (n:outParam Nat):Prop where
 size:∃ i,P.info? t=some i/\i.size=n
def eW(P:Program)(t n:Nat):Bool:=match P.info? t with|some i=>i.size == n|none=>false
theorem Xp.of(h:eW P t n=true):Xp P t n:=by
 unfold eW at h;cases hi:P.info? t with
 |none=>rw[hi] at h;simp at h
 |some i=>rw[hi] at h;exact⟨i,hi,by simpa using h⟩
theorem vF{t:TypeId}{RG:List Value}(hH:Ca C w L [(b,.cells t cs)])(h1:w'.os=w.os)(h2:w'.tape=w.tape)(h3:w'.output=w.output)
  (h4:w'.heap.size=w.heap.size) (h5:∀ c,c≠b->w'.heap[c]? = w.heap[c]?) (h6:w'.heap[b]? = some (.cells RG.toArray t (0,0))) (h7:RG.length=cs.length)
  (h8:na w L Ya RG) {v:Value} {lv:LV} (hv:Wa w L lv v) (hk:K lv [(b,.cells t Ya)]):Left C w L [(b,.cells t cs)] w' v K:=by
 obtain⟨Jd,Rd,hl,xs,tc,zc⟩:=hH.Gb _ (Ll rfl);simp only at Jd Rd hl tc zc;have hx:Ext w L w' L:=by
  refine⟨by rw[h4];exact mc _,λc hc=>?_,λc i hi=>?_,λ_=>mc _⟩
  by_cases he:c=b;subst he;simp only[World.shape?,tc,h6];rw[size_toArray,size_toArray,h7,zc.length];exact Wy (h5 c he);by_cases he:c=b;subst he;rw[hl] at hi;omega;exact cell_of_heap (h5 c he) i
 refine⟨lv,[(b,.cells t Ya)],L,⟨h1,h2,h3,hx,λc hc hn=>h5 c (by simpa using hn),λ_ _ _=>rfl,λp hp=>.inl (by simp only[mem_singleton] at hp;subst hp;simp)⟩,
  ⟨?_,hH.ng,by rw[h4];exact hH.b0,by rw[h4];exact hH.wf,by simp,λp hp=>?_⟩,hv.mono hx _ _,hk⟩
 exact hH.base.trans ⟨h1,h2,h3,by rw[h4];exact mc _,λc hc=>h5 c Ia⟩;simp only[mem_singleton] at hp;subst hp;exact⟨Jd,by rw[h4];exact Rd,hl,RG,h6,h8.mono hx _ _⟩
theorem Ja.store{t n:Nat} [ht:Xp C.P t n]{b off im:Nat}{cs vs:List LV}(hx:e.ev x=ptr b off)(hy:(e.ev y).cells? = some vs)(hn:vs.length=n)(hl:off+n<=cs.length)(He:vs.all bj=true)
  (hk:K (.atom undef) [(b,.cells im (Zc cs off vs))]):Ja C ⟨dst,.store t x y,ty,la,ma,g⟩ e [(b,.cells im cs)] K X:=λρ w L h hH=>by
 obtain⟨Jd,Rd,jr,xs,tc,zc⟩:=hH.Gb _ (Ll rfl);simp only at Jd Rd jr tc zc;have hr:=(h y).cells hy;have Rh:=hr.length;have Tl:=zc.length;obtain⟨i,hi,ld⟩:=ht.size;obtain⟨w',r1,r2,r3,r4,r5,r6,r7⟩:=YC (P:=C.P) (off:=off) (ρ y).cells.toList 0 w xs tc Ia (λj _ _=>by simp) (CL hr He);have h3:execOp ρ ⟨dst,.store t x y,ty,la,ma,g⟩=(do Instr.storeAt t (ρ x) (ρ y);Pure.pure .skip):=rfl;have hs:(ρ y).cells.size=n:=by rw[<-hn,<-Rh];simp
 rw[h3,Cb h hx];simp only[Instr.storeAt,Instr.sureAddr,Sb,Qc,lc,storeVar,Cu hi,ld,hs,ne_eq,not_true_eq_false,if_false];rw[r1];refine vF hH r2 r3 r4 r5 r6 r7 ?_ ?_ xc hk;simp;omega;rw[xA cs off vs (by omega)];rw[Rh,add_zero];exact((zc.take off).append hr).append (zc.drop _)
class fb (P:Program) (f:FuncId):Prop where
 out : ∃ fn, P.funcs[f]? = some fn ∧ (fn.name == "runtime.NumGoroutine") = false ∧ fn.body.isNone = false
def TW (P : Program) (f : FuncId) : Bool := match P.funcs[f]? with | some fn => !(fn.name == "runtime.NumGoroutine") && fn.body.isSome | none => false
theorem fb.of(h:TW P f=true):fb P f:=by
 unfold TW at h;cases hf:P.funcs[f]? with
 |none=>rw[hf] at h;cases h
 |some fn=>rw[hf] at h;simp only[Le,Bool.not_eq_true'] at h;exact⟨fn,hf,h.1,by cases hb:fn.body <;> simp_all⟩
theorem sM [h:fb P f](args:Array Value)(w:World):(callFunc f args).run P w=.ok (.enter f args) w:=by obtain⟨fn,h1,h2,h3⟩:=h.out;have h0:(program).run P w=.ok P w:=rfl;simp only[callFunc,Sb,h0,lc,h1,h2,h3,Vh,if_false,Qc]
theorem Ja.Rf{fo:Operand}{f:FuncId} [fb C.P f]{first La:Array Value}{args:List Operand}(hf:e.ev fo=.atom (.func (.func f) first La))
  (hc:aa C f (first.toList.map .atom++args.map e.ev++La.toList.map .atom) H R) (hk:∀ v H,R (.ret v) H->K v H) (hx:∀ ch H,R (.panic ch) H->X ch H) :
  Ja C ⟨dst,.call { callee:=.value fo,args:=args.toArray,argTypes:=xe },ty,la,ma,g⟩ e H K X:=λρ w L h hH=>by
 have h3:execOp ρ ⟨dst,.call { callee:=.value fo,args:=args.toArray,argTypes:=xe },ty,la,ma,g⟩=(do let d <-Deferred.ofValue (ρ fo) (args.toArray.map ρ);invoke d.target d.args):=rfl;rw[h3,Cb h hf];simp only[Deferred.ofValue,Sb,Qc,lc,invoke,sM];refine⟨rfl,?_⟩;have:=hc (first.toList++args.map ρ++La.toList) w L ((((Jl _).append (gF h _))).append (Jl _)) hH;simp only[<-List.append_toArray,Array.toArray_toList] at this;simp only[map_toArray];exact this.mono (js.mono (λv H hv=>hk v H hv) λch H hv=>hx ch H hv)
theorem Ja.call{f:FuncId} [fb C.P f]{args:List Operand}{xe:Array TypeId}{R:Lc->Heap->Prop}
  (hc:aa C f (args.map e.ev) H R) (hk:∀ v H,R (.ret v) H->K v H) (hx:∀ ch H,R (.panic ch) H->X ch H) :
  Ja C ⟨dst,.call { callee:=.value (.func f),args:=args.toArray,argTypes:=xe },ty,la,ma,g⟩ e H K X:=
 Ja.Rf (f:=f) (first:=#[]) (La:=#[]) rfl (by simpa using hc) hk hx
theorem Ja.panic{t:TypeId}{v:Value}(hx:e.ev x=.atom (.iface t v))(hk:X [{ v:=.iface t v,recovered:=false }] H):Ja C ⟨dst,.panic x,ty,la,ma,g⟩ e H K X:=λρ w L h hH=>by have h3:execOp ρ ⟨dst,.panic x,ty,la,ma,g⟩=(do Pure.pure (.value (<-Instr.panic (ρ x)))):=rfl;rw[h3,Cb h hx];simp only[Instr.panic,goPanic,Sb,Sem.run_halt,Result.andThen_halt];exact⟨H,L,Fr.refl _ _ _,hH,hk⟩
theorem SW{size:Nat}:∀ (vs:List Value) (i:Nat) (xs:List Value),(∀ v∈vs,v.cells.size=size)->(i+vs.length) * size<=xs.length ->
  Instr.fill (λi=>some (i * size,size)) xs.toArray ((List.range' i vs.length).zip vs)=some (xs.take (i * size)++vs.flatMap (λv=>v.cells.toList)++xs.drop ((i+vs.length) * size)).toArray
 |[],i,xs,_,_=>by simp[Instr.fill]
 |v::vs,i,xs,h,hl=>by
  have hv:=h v (by simp);simp only[Oa] at hl;have Wt:i * size+size+vs.length * size<=xs.length:=by
   have:(i+(vs.length+1)) * size=i * size+size+vs.length * size:=by rw[add_mul,add_mul];omega
   omega
  simp only[Oa,List.range'_succ,List.zip_cons_cons,Instr.fill];rw[zn (by simp[hv];omega)];have he:(v.cells.zipIdx.foldl (λcs (c,j)=>cs.setIfInBounds (i * size+j) c) xs.toArray)=(xs.take (i * size)++v.cells.toList++xs.drop (i * size+size)).toArray:=by rw[<-Array.foldl_toList,Array.toList_zipIdx];have:=kQ (i * size) v.cells.toList 0 xs (by simp[hv];omega);rw[add_zero] at this;rw[this];simp[hv]
  rw[he];have ha:(i+1) * size=i * size+size:=by rw[add_mul];omega
  have hb:(i+1+vs.length) * size=i * size+size+vs.length * size:=by rw[add_mul,add_mul];omega
  have hc:(i+(vs.length+1)) * size=i * size+size+vs.length * size:=by rw[add_mul,add_mul];omega
  have fa:(xs.take (i * size)++v.cells.toList++xs.drop (i * size+size)).length=xs.length:=by simp[hv];omega
  rw[SW vs (i+1) _ (λu hu=>h u (Sc _ hu)) (by rw[fa,hb];omega)];congr 2
  have e1:(xs.take (i * size)++v.cells.toList++xs.drop (i * size+size)).take ((i+1) * size)=xs.take (i * size)++v.cells.toList:=by rw[ha,List.take_append_of_le_length (by simp[hv];omega),List.take_of_length_le (by simp[hv];omega)]
  have e2:(xs.take (i * size)++v.cells.toList++xs.drop (i * size+size)).drop ((i+1+vs.length) * size)=xs.drop ((i+(vs.length+1)) * size):=by rw[hb,hc,List.drop_append,List.drop_eq_nil_of_le (by simp[hv];omega)];simp[hv,List.drop_drop];congr 1;omega
  rw[e1,e2];simp
theorem pb.of_heap{w:World}{L:Live}{b:Nat}{t:TypeId}{fr:Nat×Nat}:∀ {cs:List LV} {off:Nat} {ys:List Value} (pre post:List Value),w.heap[b]? = some (.cells (pre++ys++post).toArray t fr)->pre.length=off->off+ys.length<=L b ->
  na w L cs ys->pb w L b off cs
 |[],_,_,_,_,_,_,_,_=>by simp[pb]
 |c::cs,off,ys,pre,post,hb,hp,hl,h=>by simp only[na] at h;obtain⟨y,xN,rfl,h1,h2⟩:=h;simp only[Oa] at hl;simp only[pb];refine⟨by omega,⟨y,?_,h1⟩,pb.of_heap (pre++[y]) post (by simpa using hb) (by simp[hp]) Ia h2⟩;simp only[World.cell?,hb];subst hp;simp
theorem Cc.of_heap{w:World}{L:Live}{b k:Nat}{t:TypeId}{fr:Nat×Nat}:∀ {es:List LV} {off:Nat} {vs:List Value} (pre post:List Value),w.heap[b]? = some (.cells (pre++vs.flatMap (λv=>v.cells.toList)++post).toArray t fr)->pre.length=off ->
  off+es.length * k<=L b->(∀ v∈es,v.cells? = some v.cells/\v.cells.length=k)->na w L es vs->Cc w L b k off es
 |[],_,_,_,_,_,_,_,_,_=>by simp[Cc]
 |c::cs,off,vs,pre,post,hb,hp,hl,hk,h=>by
  simp only[na] at h;obtain⟨y,xN,rfl,h1,h2⟩:=h;have hc:=hk c (by simp);have hr:=h1.cells hc.1;have ZA:y.cells.size=k:=by rw[<-hc.2,<-hr.length];simp
  simp only[Oa,add_mul,Nat.one_mul] at hl;refine Cc.cons hc.2 (pb.of_heap (t:=t) (fr:=fr) pre (xN.flatMap (λv=>v.cells.toList)++post) (by simpa using hb) hp (by simp[ZA];omega) hr) ?_;exact Cc.of_heap (t:=t) (fr:=fr) (pre++y.cells.toList) post (by simpa using hb) (by simp[hp,ZA]) Ia (λv hv=>hk v (Sc _ hv)) h2
def vu(s:Nat)(es:List LV):Prop:=∀ v∈es,v.cells? = some v.cells/\v.cells.length=s
theorem Tf:vu s []:=by simp[vu]
theorem rc{e:LV}(h1:e.cells? = some e.cells)(h2:e.cells.length=s)(h:vu s es):vu s (e::es):=λv hv=>by rcases Mc.1 hv with rfl|hv;exact⟨h1,h2⟩;exact h v hv
theorem TZ{s:Nat}:∀ (vs:List Value),(∀ v∈vs,v.cells.size=s)->(vs.flatMap λv=>v.cells.toList).length=vs.length * s
 |[],_=>by simp
 |v::vs,h=>by have ih:=TZ vs λu hu=>h u (Sc _ hu);have hv:=h v (by simp);simp only[flatMap_cons,ua,ih,Oa,Array.length_toList,hv,add_mul];omega
theorem DQ{w:World}{L:Live}{s:Nat}:∀ {es:List LV} {vs:List Value},na w L es vs->vu s es->∀ v∈vs,v.cells.size=s
 |[],_,h,_=>by simp only[na] at h;subst h;simp
 |c::cs,_,h,hc=>by simp only[na] at h;obtain⟨y,ys,rfl,h1,h2⟩:=h;intro v hv;rcases Mc.1 hv with rfl|hv;have:=hc c (by simp);rw[<-this.2,<-(h1.cells this.1).length];simp;exact DQ h2 (λu hu=>hc u (Sc _ hu)) v hv
theorem jZ(hH:Ca C w L []){vs rest:List Value}(hr:na w L es vs)(He:vu s es)(Kc:es.length<=cap)(ld:cap * s<=es.length * s+rest.length)
  (hk:∀ b,K (.app b cap s es) [(b,.row (es.length * s))]) :
  Left C w L [] (World.push w (.cells (vs.flatMap (λv=>v.cells.toList)++rest).toArray t)) (.slice (some ⟨w.heap.size,0,none⟩) es.length cap) K:=by
 have hl:=hr.length;have zh:=TZ vs (DQ hr He);rw[hl] at zh;have hx:=FA hH.wf (.cells (vs.flatMap (λv=>v.cells.toList)++rest).toArray t) (es.length * s);have:=gx hH (.cells (vs.flatMap (λv=>v.cells.toList)++rest).toArray t) (es.length * s) [(w.heap.size,.row (es.length * s))] (λp hp=>by
  simp only[mem_singleton] at hp;subst hp;exact⟨rfl,by simp[Live.jd],_,t,(0,0),jq,by simp only[size_toArray,ua,zh];omega,Nat.zero_le _⟩) (by simp)
 refine⟨.app w.heap.size cap s es,_,_,this.1,this.2,?_,hk _⟩;simp only[Wa];refine⟨trivial,Kc,?_,t,_,by simp only[World.shape?,World.push];rw[jq],by simp only[size_toArray,ua,zh];exact ld⟩;exact Cc.of_heap (t:=t) (fr:=(0,0)) [] rest (by simp only[World.push,List.nil_append];exact jq) rfl (by simp[Live.jd]) He (hr.mono hx _ _)
theorem Ja.buildSlice{t el s:Nat}{zs:List Value} [ht:Aa C.P t el s] [hz:Sf C.P el zs]{xs:List Operand}(He:vu s (xs.map e.ev))(ld:xs.length * s<=16777216){parts:List (Nat×Operand)}(hp:parts=(List.range xs.length).zip xs)
  {len:Nat} (fa:len=xs.length) (hk:∀ b,K (.app b len s (xs.map e.ev)) [(b,.row (len * s))]):Ja C ⟨dst,.buildSlice t len parts.toArray,ty,la,ma,g⟩ e [] K X:=λρ w L h hH=>by
 subst fa hp;obtain⟨i,hi,RS⟩:=ht.size;obtain⟨v0,PI,bE⟩:=SO (P:=C.P) (t:=el) w;have hr:=gF h xs;have NI:=DQ hr He;have h3:execOp ρ ⟨dst,.buildSlice t xs.length ((List.range xs.length).zip xs).toArray,ty,la,ma,g⟩=(do Pure.pure (.value (<-Instr.buildSlice t xs.length (((List.range xs.length).zip xs).toArray.map λ(i,x)=>(i,ρ x))))):=rfl
 have Az:(((List.range xs.length).zip xs).map λp=>(p.1,ρ p.2))=(List.range' 0 (xs.map ρ).length).zip (xs.map ρ):=by rw[Ua,<-List.range_eq_range',List.zip_map_right];try rfl
 have key:∀ (Su:Array Value),Instr.fill (λi=>some (i * s,s)) ((Array.range (xs.length * s)).map (Su[· % Su.size]!)) (((List.range xs.length).zip xs).toArray.map λ(i,x)=>(i,ρ x)).toList =
   some ((xs.map ρ).flatMap λv=>Value.cells v |>.toList).toArray:=λSu=>by
  have Zt:=SW (size:=s) (xs.map ρ) 0 ((Array.range (xs.length * s)).map (Su[· % Su.size]!)).toList NI (by simp);rw[Array.toArray_toList] at Zt;have Dm:(((List.range xs.length).zip xs).toArray.map λ(i,x)=>(i,ρ x)).toList=(List.range' 0 (xs.map ρ).length).zip (xs.map ρ):=by rw[<-Az];simp
  rw[Dm,Zt];simp
 have cE:(Instr.buildSlice t xs.length (((List.range xs.length).zip xs).toArray.map λ(i,x)=>(i,ρ x))).run C.P w =
   .ok (.slice (some ⟨w.heap.size,0,none⟩) xs.length xs.length) (World.push w (.cells ((xs.map ρ).flatMap λv=>Value.cells v |>.toList).toArray el)):=by
  have hg:¬ (xs.length * s > 2 ^ 24):=by simp;omega
  simp only[Instr.buildSlice,Sb,ed ht.zd,lc,Cu hi,RS];rw[zn hg];by_cases h0:xs.length * s=0;rw[zp h0];simp only[Sb,Qc,lc,key #[]];rfl;rw[zn h0];simp only[Sb,Qc,lc,PI,key v0.cells];rfl
 rw[h3,Sb,cE];have:=jZ (K:=K) (t:=el) (cap:=xs.length) (rest:=[]) hH hr He (by simp) (by simp) (by simpa using hk);simp only[Qb,Ua] at this;exact this
theorem pb.append{w:World}{L:Live}{b:Nat}:∀ {Wb bs:List LV} {off:Nat},pb w L b off Wb->pb w L b (off+Wb.length) bs->pb w L b off (Wb++bs)
 |[],_,_,_,h=>by simpa using h
 |a::Wb,bs,off,h1,h2=>by simp only[pb,cons_append] at h1 ⊢;refine⟨h1.1,h1.2.1,pb.append h1.2.2 ?_⟩;simpa [show off+1+Wb.length=off+(Wb.length+1) by omega] using h2
theorem pb.left{bs:List LV}(h:pb w L b off (Wb++bs)):pb w L b off Wb:=by have:=h.take Wb.length;simpa using this
theorem pb.right{bs:List LV}(h:pb w L b off (Wb++bs)):pb w L b (off+Wb.length) bs:=by have:=h.drop Wb.length;simpa using this
theorem Cc.rU{w:World}{L:Live}{b k:Nat}:∀ {es:List LV} {off:Nat},Cc w L b k off es->pb w L b off (es.flatMap LV.cells)
 |[],_,_=>by simp[pb]
 |e::es,off,h=>by have h1:=h.cell;rw[flatMap_cons];refine pb.append h1.2 ?_;rw[h1.1];exact Cc.rU h.tail
theorem Cc.wM{w:World}{L:Live}{b k:Nat}:∀ {es:List LV} {off:Nat},(∀ e∈es,e.cells.length=k)->pb w L b off (es.flatMap LV.cells)->Cc w L b k off es
 |[],_,_,_=>by simp[Cc]
 |e::es,off,hk,h=>by rw[flatMap_cons] at h;have h1:=hk e (by simp);refine Cc.cons h1 h.left (Cc.wM (λv hv=>hk v (Sc _ hv)) ?_);rw[<-h1];exact h.right
theorem Cc.lh{w:World}{L:Live}{b k:Nat}:∀ {es:List LV} {off:Nat},Cc w L b k off es->∀ e∈es,e.cells.length=k
 |[],_,_=>by simp
 |e::es,_,h=>λv hv=>by rcases Mc.1 hv with rfl|hv;exact h.cell.1;exact Cc.lh h.tail v hv
theorem Fv{k:Nat}:∀ {es:List LV},(∀ e∈es,e.cells.length=k)->(es.flatMap LV.cells).length=es.length * k
 |[],_=>by simp
 |e::es,h=>by rw[flatMap_cons,ua,h e (by simp),Fv λv hv=>h v (Sc _ hv),Oa,add_mul];omega
theorem pb.pd{w:World}{L:Live}{b:Nat}:∀ {cs:List LV} {off:Nat} {ys:List Value},na w L cs ys->off+ys.length<=L b->(∀ j x,ys[j]? = some x->w.cell? ⟨b,off+j,none⟩=some x)->pb w L b off cs
 |[],_,_,_,_,_=>by simp[pb]
 |c::cs,off,_,h,hl,hc=>by
  simp only[na] at h;obtain⟨y,ys,rfl,h1,h2⟩:=h;simp only[Oa] at hl;simp only[pb];refine⟨by omega,⟨y,hc 0 y rfl,h1⟩,pb.pd h2 Ia λj x hx=>?_⟩;have:=hc (j+1) x (by simpa using hx)
  rwa [show off+(j+1)=off+1+j by omega] at this
class bg (P:Program) (el:TypeId) (s bytes:outParam Nat):Prop where
 out:∃ i v,P.info? el=some i/\i.size=s/\i.bytes=bytes/\0<bytes/\i.zero=some v/\v.cells.size=s
def XU(P:Program)(el s bytes:Nat):Bool:=
 match P.info? el with
 |some i=>i.size == s && i.bytes == bytes && Nat.blt 0 bytes && (match i.zero with|some v=>v.cells.size == s|none=>false)
 |none=>false
theorem bg.of(h:XU P el s bytes=true):bg P el s bytes:=by
 unfold XU at h;cases hi:P.info? el with
 |none=>rw[hi] at h;simp at h
 |some i=>
  rw[hi] at h;simp only[Le,beq_iff_eq] at h;obtain⟨⟨⟨h1,h2⟩,h3⟩,h4⟩:=h;cases hz:i.zero with
  |none=>rw[hz] at h4;simp at h4
  |some v=>rw[hz] at h4;exact⟨i,v,hi,h1,h2,by simpa using h3,hz,by simpa using h4⟩
theorem oM{xT:Nat} [ht:Aa P sT el s] [hr:bg P el s bytes]{a:Option Addr}
  (Fs:P.underlying xT=some .string∨∃ e2,P.underlying xT=some (.slice e2)) (fa:∀ w':World,(Builtin.lenOf xv).run P w'=.ok n w')
  (Li:∀ w':World,w'.heap=w.heap->(Builtin.firstCells s n xv).run P w'=.ok new.toArray w') (hc:len+n<=cap) :
  (Builtin.append_ #[sT,xT] ty #[.slice a len cap,xv]).run P w =
   ((match a with|some a=>storeCells (a.add (len * s)) new|none=>Pure.pure ()).run P w).andThen λ_ w'=>.ok (.slice a (len+n) cap) w':=by
 obtain⟨i,z,hi,hs,hb,Jd,hz,zM⟩:=hr.out;subst hs;have hn:=Li w rfl;rcases Fs with hd|⟨e2,hd⟩ <;> cases a <;> simp[Builtin.append_,ed ht.zd,ed hd,sizeOf,typeInfo,hi,fa,hc,hn]
theorem PA{xT:Nat} [ht:Aa P sT el s] [hr:bg P el s bytes]{a:Option Addr}{old:List Value}
  (Fs:P.underlying xT=some .string∨∃ e2,P.underlying xT=some (.slice e2)) (fa:∀ w':World,(Builtin.lenOf xv).run P w'=.ok n w')
  (Li:∀ w':World,w'.heap=w.heap->(Builtin.firstCells s n xv).run P w'=.ok new.toArray w') (hold:∀ w':World,w'.heap=w.heap->(Builtin.firstCells s len (.slice a len cap)).run P w'=.ok old.toArray w')
  (Nb:(len+n) * bytes<=140737488355328) (hc:cap<len+n) :
  ∃ de rest,len+n<=de/\rest.length=(de-(len+n)) * s/\(Builtin.append_ #[sT,xT] ty #[.slice a len cap,xv]).run P w =
   .ok (.slice (some ⟨w.heap.size,0,none⟩) (len+n) de) (World.push w.drew (.cells (old++new++rest).toArray el)):=by
 obtain⟨i,z,hi,hs,hb,Jd,hz,zM⟩:=hr.out;subst hs;have MM:¬ (len+n<=cap):=by omega
 have hmul:len+n<=(len+n) * bytes:=Nat.le_mul_of_pos_right _ Jd;have qE:¬ (9223372036854775807<((len:Int)+(n:Int))):=by omega
 have Ln:=growslice_fits (bytes:=bytes) hc Nb;have rE:¬ (281474976710656<Builtin.nextslicecap (len+n) cap * i.bytes):=by rw[hb];omega
 have hf:=Li w.drew rfl;have hfo:=hold w.drew rfl;refine⟨grownCap w (len+n) cap el,(Builtin.zeroCells z.cells (grownCap w (len+n) cap el-(len+n))).toList,?_,?_,?_⟩;simp[grownCap,Question.cut];simp[Builtin.zeroCells,zM];rcases Fs with hd|⟨e2,hd⟩;all_goals
  simp[Builtin.append_,ed ht.zd,ed hd,sizeOf,typeInfo,zeroValue,hi,hz,fa,MM,qE,rE,Question.forced,hf,hfo,newRow,grownCap];show World.push w.drew _=World.push w.drew _;congr 2;apply Array.ext';simp
theorem Fr.wide{K K':List Nat}{L':Live}(h:Fr K w L w' L' H')(hk:∀ b∈K,b∈K'):Fr K' w L w' L' H':=
 ⟨h.os,h.tape,h.output,h.ext,λb hb hn=>h.block b hb λk=>hn (hk b k),λb hb hn=>h.oh b hb λk=>hn (hk b k),λp hp=>(h.Vv p hp).imp (hk _) id⟩
theorem Fr.Ld{K:List Nat}{L':Live}(h:Fr K w.drew L w' L' H'):Fr K w L w' L' H':=
 ⟨h.os,h.tape,h.output,⟨h.ext.size,h.ext.shape,h.ext.live,h.ext.mono⟩,h.block,h.oh,h.Vv⟩
theorem Ty(w:World)(L:Live):Ext w L w.drew L:=⟨mc _,λ_ _=>rfl,λ_ _ _=>rfl,λ_=>mc _⟩
theorem Ca.drew{w:World}{L:Live}(h:Ca C w L H):Ca C w.drew L H:=
 ⟨h.base.drew,h.ng,h.b0,h.wf,h.nodup,λp hp=>⟨(h.Gb p hp).1,(h.Gb p hp).2.1,(h.Gb p hp).2.2.xD (Ty w L) rfl rfl⟩⟩
theorem AZ(hH:Ca C w L []){es:List LV}{rest:List Value}(hr:na w L (es.flatMap LV.cells) xs)(He:∀ v∈es,v.cells.length=s)(Kc:es.length<=cap)(ld:cap * s<=es.length * s+rest.length)
  (hk:∀ b,K (.app b cap s es) [(b,.row (es.length * s))]) :
  Left C w L [] (World.push w (.cells (xs++rest).toArray t)) (.slice (some ⟨w.heap.size,0,none⟩) es.length cap) K:=by
 have hl:xs.length=es.length * s:=by rw[hr.length,Fv He]
 have hx:=FA hH.wf (.cells (xs++rest).toArray t) (es.length * s);have:=gx hH (.cells (xs++rest).toArray t) (es.length * s) [(w.heap.size,.row (es.length * s))] (λp hp=>by
  simp only[mem_singleton] at hp;subst hp;exact⟨rfl,by simp[Live.jd],_,t,(0,0),jq,by simp only[size_toArray,ua,hl];omega,Nat.zero_le _⟩) (by simp)
 refine⟨.app w.heap.size cap s es,_,_,this.1,this.2,?_,hk _⟩;simp only[Wa];refine⟨trivial,Kc,?_,t,_,by simp only[World.shape?,World.push];rw[jq],by simp only[size_toArray,ua,hl];exact ld⟩;refine Cc.wM He (pb.pd (hr.mono hx _ _) (by simp[Live.jd,hl]) λj x hj=>?_);have hb:(World.push w (.cells (xs++rest).toArray t)).heap[w.heap.size]? = some (.cells (xs++rest).toArray t (0,0)):=jq;simp only[World.cell?,hb];simp only[isSome_none,Vh,if_false,zero_add,List.getElem?_toArray];rw[List.getElem?_append_left (List.getElem?_eq_some_iff.1 hj).1];exact hj
theorem TC{v:Value}{es:List LV}(h:Wa w L lv v)(he:elems lv=some es)(hs:∀ v∈es,v.cells.length=s) :
  ∃ a cap xs,v=.slice a es.length cap/\es.length<=cap/\na w L (es.flatMap LV.cells) xs/\xs.length=es.length * s /\
   ∀ (P:Program) (w':World),w'.heap=w.heap->(Builtin.firstCells s es.length v).run P w'=.ok xs.toArray w':=by
 obtain⟨a,cap,rfl,hc,hr⟩:=h.elems he;by_cases eb:es=[];subst eb;refine⟨a,cap,[],rfl,hc,by simp[na],by simp,λP w' _=>?_⟩;cases a <;> simp[Builtin.firstCells,loadCells,loadCellsFrom];obtain⟨b,off,k,rfl,rz⟩:=hr eb
 have hk:k=s:=by obtain⟨e0,rest,he⟩:=List.exists_cons_of_ne_nil eb;subst he;exact rz.cell.1.symm.trans (hs e0 (by simp))
 subst hk;obtain⟨xs,h1,h2⟩:=rz.rU.values;have hl:xs.length=es.length * k:=by rw[h1.length,Fv hs]
 refine⟨_,cap,xs,rfl,hc,h1,hl,λP w' hw=>?_⟩
 have:=IF (P:=P) (w:=w') (b:=b) (off:=off) (es.length * k) 0 #[] xs hl (λj x hj=>by
  have:=(h2 j x hj).2;simp only[World.cell?] at this ⊢;rw[hw];simpa using this)
 simp only[Builtin.firstCells,loadCells,this];simp
theorem Ja.ku{xT:Nat} [ht:Aa C.P sT el s] [hr:bg C.P el s bytes](vw:xe=#[sT,xT])(Fs:∃ e2,C.P.underlying xT=some (.slice e2)){ms:List LV}
  (hx:e.ev x=Ea) (hy:elems (e.ev y)=some ms) (eb:ms≠[]) (hs:∀ v∈ms,v.cells.length=s) (Nb:ms.length * bytes<=140737488355328)
  (hk:∀ b cap,K (.app b cap s ms) [(b,.row (ms.length * s))]) :
  Ja C ⟨dst,.call { callee:=.builtin .append,args:=#[x,y],argTypes:=xe },ty,la,ma,g⟩ e [] K X:=λρ w L h hH=>by
 subst vw;obtain⟨a,cap,xs,hv,hc,h1,h2,h3⟩:=TC (h y) hy hs;have h0:∀ (cs:Array Bool) (args:Array Value),builtin .append #[sT,xT] ty cs args=(do Pure.pure (.value (<-Builtin.append_ #[sT,xT] ty args))):=λ_ _=>rfl;have Qd:0<ms.length:=List.length_pos_iff.2 eb
 obtain⟨de,rest,r1,r2,r3⟩:=PA (ty:=ty) (P:=C.P) (w:=w) (sT:=sT) (xT:=xT) (a:=none) (len:=0) (cap:=0) (n:=ms.length) (xv:=ρ y) (old:=[]) (new:=xs) (.inr Fs) (λw'=>by rw[hv];try rfl) (λw' hw=>h3 C.P w' hw)
  (λw' _=>by simp[Builtin.firstCells]) (by simpa using Nb) Ia
 rw[Pl,h0];simp only[map_toArray,Tb,map_nil,Sb,Cb h hx,r3,lc,Qc,List.nil_append,zero_add];obtain⟨lv,H',L',g1,g2,g3,g4⟩:=AZ (K:=K) (t:=el) (cap:=de) (rest:=rest) hH.drew (h1.mono (Ty w L) _ _) hs Ia (by
  rw[r2,<-add_mul];exact Nat.mul_le_mul_right _ Ia) λb=>hk b de
 exact⟨lv,H',L',g1.Ld,g2,g3,g4⟩
theorem Cc.append{w:World}{L:Live}{b k:Nat}:∀ {Wb bs:List LV} {off:Nat},Cc w L b k off Wb->Cc w L b k (off+Wb.length * k) bs->Cc w L b k off (Wb++bs)
 |[],_,_,_,h=>by simpa using h
 |a::Wb,bs,off,h1,h2=>by rw[cons_append];refine Cc.cons h1.cell.1 h1.cell.2 (Cc.append h1.tail ?_);simpa [add_mul,Nat.add_assoc,Nat.add_comm,Nat.add_left_comm] using h2
theorem qrH{m:Nat}{ms:List LV}{xs:Array Value}{t:TypeId}{fr:Nat×Nat}{news:List Value}(hH:Ca C w L [(b,.row n)])(hn:n=es.length * s)(hm:m=ms.length * s)
  (hb:w.heap[b]? = some (.cells xs t fr)) (ld:cap * s<=xs.size) (Kc:es.length+ms.length<=cap) (Wq:Cc w L b s 0 es) (hs:∀ v∈ms,v.cells.length=s) (nB:na w L (ms.flatMap LV.cells) news)
  (h1:w'.os=w.os) (h2:w'.tape=w.tape) (h3:w'.output=w.output) (h4:w'.heap.size=w.heap.size) (h5:∀ c,c≠b->w'.heap[c]? = w.heap[c]?)
  (h6:w'.heap[b]? = some (.cells (xs.toList.take n++news++xs.toList.drop (n+news.length)).toArray t fr)) (hk:K (.app b cap s (es++ms)) [(b,.row ((es++ms).length * s))]) :
  Left C w L [(b,.row n)] w' (.slice (some ⟨b,0,none⟩) (es.length+ms.length) cap) K:=by
 obtain⟨Jd,Rd,hl,xs2,t2,fr2,tc,zc,Xv⟩:=hH.Gb _ (Ll rfl);simp only at Jd Rd hl tc zc Xv;rw[hb] at tc;simp only[bt,Obj.cells.injEq] at tc;obtain⟨rfl,rfl,rfl⟩:=tc;have ir:news.length=m:=by rw[nB.length,Fv hs,hm]
 have St:n+m<=cap * s:=by rw[hn,hm,<-add_mul];exact Nat.mul_le_mul_right _ Kc
 have dw:(xs.toList.take n++news++xs.toList.drop (n+news.length)).toArray.size=xs.size:=by simp[ir];omega
 have hx:Ext w L w' (L.jd b (n+m)):=by
  refine⟨by rw[h4];exact mc _,λc hc=>?_,λc i hi=>?_,λc=>?_⟩
  by_cases he:c=b;subst he;simp only[World.shape?,hb,h6,dw];exact Wy (h5 c he);by_cases he:c=b;subst he;rw[hl] at hi;simp only[World.cell?,hb,h6,isSome_none,Vh,if_false,List.getElem?_toArray];rw[Xc,List.getElem?_append_left (by simp;omega),List.getElem?_take,zp hi];simp;exact cell_of_heap (h5 c he) i;unfold Live.jd;split;rename_i h;subst h;omega;exact mc _
 have Cm:(es++ms).length * s=n+m:=by rw[ua,add_mul,<-hn,<-hm]
 refine⟨.app b cap s (es++ms),[(b,.row ((es++ms).length * s))],L.jd b (n+m),⟨h1,h2,h3,hx,λc hc hn=>h5 c (by simpa using hn),λc hc hn=>?_,λp hp=>.inl (by simp only[mem_singleton] at hp;subst hp;simp)⟩,
  ⟨?_,trivial,by rw[h4];exact hH.b0,λc hc=>?_,by simp,λp hp=>?_⟩,?_,hk⟩
 have eb:c≠b:=by simpa using hn
 simp only[Live.jd,zn eb];exact hH.base.trans ⟨h1,h2,h3,by rw[h4];exact mc _,λc hc=>h5 c Ia⟩;rw[h4] at hc;have eb:c≠b:=by omega
 simp only[Live.jd,zn eb];exact hH.wf c hc;simp only[mem_singleton] at hp;subst hp;refine⟨Jd,by rw[h4];exact Rd,by simp only[Live.jd,if_true];exact Cm.symm,_,t,fr,h6,by rw[dw,Cm];omega,by omega⟩;simp only[Wa];refine⟨by simp,by simp;exact Kc,Cc.append (Wq.mono hx _ _ _ _) (Cc.wM hs (pb.pd (nB.mono hx _ _) ?_ λj x hj=>?_)),t,_,by simp only[World.shape?,h6];rfl,by rw[dw];exact ld⟩;simp[Live.jd,<-hn,ir];have hjl:=(List.getElem?_eq_some_iff.1 hj).1;simp only[World.cell?,h6,isSome_none,Vh,if_false,List.getElem?_toArray,zero_add,<-hn];rw[Xc,List.getElem?_append_right (by simp;omega),List.getElem?_append_left (by simp;omega)]
 simp;rw[show n+j-min n xs.size=j by omega];exact hj
theorem qn0{xT:Nat} [ht:Aa C.P sT el s] [hr:bg C.P el s bytes](Fs:C.P.underlying xT=some .string∨∃ e2,C.P.underlying xT=some (.slice e2)){ms:List LV}{new:List Value}
  (hH:Ca C w L [(b,.row (es.length * s))]) (fB:Wa w L (.app b cap s es) (.slice (some ⟨b,0,none⟩) es.length cap)) (fa:∀ w':World,(Builtin.lenOf xv).run C.P w'=.ok ms.length w')
  (Li:∀ w':World,w'.heap=w.heap->(Builtin.firstCells s ms.length xv).run C.P w'=.ok new.toArray w') (Xq:na w L (ms.flatMap LV.cells) new) (hs:∀ v∈ms,v.cells.length=s)
  (EJ:∀ v∈new,(∀ cs,v≠.agg cs)/\(∀ cs,v≠.tuple cs)) (Nb:(es.length+ms.length) * bytes<=140737488355328)
  (hk:∀ b' de,K (.app b' de s (es++ms)) [(b',.row ((es++ms).length * s))]) :
  ∃ v w',(Builtin.append_ #[sT,xT] ty #[.slice (some ⟨b,0,none⟩) es.length cap,xv]).run C.P w=.ok v w'/\Left C w L [(b,.row (es.length * s))] w' v K:=by
 have YR:=fB;simp only[Wa] at fB;obtain⟨_,Qf,Wq,te,ts,fw,ZD⟩:=fB;obtain⟨Jd,Rd,hl,xs,t,fr,tc,zc,Xv⟩:=hH.Gb _ (Ll rfl);simp only at Jd Rd hl tc zc Xv;simp only[World.shape?,tc,bt,Prod.mk.injEq] at fw;obtain⟨rfl,rfl⟩:=fw;have ir:new.length=ms.length * s:=by rw[Xq.length,Fv hs]
 by_cases hc:es.length+ms.length<=cap;have Oc:=oM (ty:=ty) (P:=C.P) (w:=w) (sT:=sT) (xT:=xT) (a:=some ⟨b,0,none⟩) (len:=es.length) (cap:=cap) Fs fa Li hc;have St:es.length * s+ms.length * s<=cap * s:=by rw[<-add_mul];exact Nat.mul_le_mul_right _ hc
 obtain⟨w',r1,r2,r3,r4,r5,r6,r7⟩:=YC (P:=C.P) (b:=b) (off:=0+es.length * s) (t:=t) (fr:=fr) new 0 w xs.toList (by simpa using tc) (by simp;omega) (λj h1 h2 h3=>by omega) EJ;refine⟨_,w',?_,qrH (cap:=cap) (news:=new) (xs:=xs) hH rfl rfl tc ZD hc Wq hs Xq r2 r3 r4 r5 r6 (by simpa using r7) (hk b cap)⟩;rw[Oc];simp only[re,r1,lc];obtain⟨a2,Tn,old,hv,Th,h1,h2,h3⟩:=TC YR (es:=es) (s:=s) rfl Wq.lh;simp only[Value.slice.injEq] at hv;obtain⟨rfl,_,rfl⟩:=hv;obtain⟨de,rest,r1,r2,r3⟩:=PA (ty:=ty) (P:=C.P) (w:=w) (sT:=sT) (xT:=xT) (a:=some ⟨b,0,none⟩) (len:=es.length) (cap:=cap) Fs fa Li (λw' hw=>h3 C.P w' hw) Nb Ia;refine⟨_,_,r3,?_⟩;have Dw:Ca C w L []:=hH.sub (List.nil_sublist _);obtain⟨lv,H',L',g1,g2,g3,g4⟩:=AZ (K:=K) (t:=el) (s:=s) (cap:=de) (es:=es++ms) (rest:=rest) Dw.drew (by
   rw[List.flatMap_append];exact(h1.append Xq).mono (Ty w L) _ _) (λv hv=>by
   rcases Kj hv with hv|hv;exact Wq.lh v hv;exact hs v hv) (by simp;omega) (by
   rw[r2,<-add_mul,ua];exact Nat.mul_le_mul_right _ Ia) λb'=>hk b' de
 rw[ua] at g3;exact⟨lv,H',L',g1.Ld.wide (by simp),g2,g3,g4⟩
theorem Ja.lu{xT:Nat} [ht:Aa C.P sT el s] [hr:bg C.P el s bytes](vw:xe=#[sT,xT])(Fs:∃ e2,C.P.underlying xT=some (.slice e2)){ms:List LV}
  (hx:e.ev x=.app b cap s es) (hn:n=es.length * s) (hy:elems (e.ev y)=some ms) (hs:∀ v∈ms,v.cells.length=s) (He:(ms.flatMap LV.cells).all bj=true) (Nb:(es.length+ms.length) * bytes<=140737488355328)
  (hk:∀ b' de,K (.app b' de s (es++ms)) [(b',.row ((es++ms).length * s))]) :
  Ja C ⟨dst,.call { callee:=.builtin .append,args:=#[x,y],argTypes:=xe },ty,la,ma,g⟩ e [(b,.row n)] K X:=λρ w L h hH=>by
 subst vw hn;obtain⟨a,Tn,xs,hv,hc,h1,h2,h3⟩:=TC (h y) hy hs;have fB:=h x;rw[hx] at fB;have M0:ρ x=.slice (some ⟨b,0,none⟩) es.length cap:=by have h':=fB;simp only[Wa] at h';exact h'.1
 rw[M0] at fB;have h0:∀ (cs:Array Bool) (args:Array Value),builtin .append #[sT,xT] ty cs args=(do Pure.pure (.value (<-Builtin.append_ #[sT,xT] ty args))):=λ_ _=>rfl;obtain⟨v,w',r1,r2⟩:=qn0 (ty:=ty) (K:=K) (sT:=sT) (xT:=xT) (.inr Fs) hH fB (xv:=ρ y) (ms:=ms) (λw'=>by rw[hv];try rfl) (λw' hw=>h3 C.P w' hw) h1 hs (CL h1 He) Nb hk;rw[Pl,h0];simp only[map_toArray,Tb,map_nil,Sb,M0,r1,lc,Qc];exact r2
theorem Ja.Ui{xT:Nat} [ht:Aa C.P sT el s](vw:xe=#[sT,xT])(Fs:∃ e2,C.P.underlying xT=some (.slice e2))(hx:e.ev x=Ea)(hy:elems (e.ev y)=some [])(hk:K Ea H) :
  Ja C ⟨dst,.call { callee:=.builtin .append,args:=#[x,y],argTypes:=xe },ty,la,ma,g⟩ e H K X:=λρ w L h hH=>by
 subst vw;obtain⟨a,cap,hv,_⟩:=(h y).elems hy;obtain⟨i,hi,RS⟩:=ht.size;obtain⟨e2,Fs⟩:=Fs;have h0:∀ (cs:Array Bool) (args:Array Value),builtin .append #[sT,xT] ty cs args=(do Pure.pure (.value (<-Builtin.append_ #[sT,xT] ty args))):=λ_ _=>rfl
 have hr:(Builtin.append_ #[sT,xT] ty #[.slice none 0 0,.slice a 0 cap]).run C.P w=.ok (.slice none 0 0) w:=by cases a <;> simp[Builtin.append_,ed ht.zd,ed Fs,sizeOf,typeInfo,hi,Builtin.lenOf,Builtin.firstCells,loadCells,loadCellsFrom]
 rw[Pl,h0];simp only[map_toArray,Tb,map_nil,Sb,Cb h hx,hv,Eb,hr,lc,Qc];exact⟨_,H,L,Fr.refl _ _ _,hH,xc,hk⟩
end steps
class Al (P:Program):Prop where
 out:P.follows .mixedOrders=true
def QC(C:Ctx)(w:World)(L:Live)(w':World):Prop:=∃ L',Fr (keys []) w L w' L' []/\Ca C w' L' []
theorem QC.agree(h:QC C w L w')(hH:Ca C w L H):rm w L H w':=
 let ⟨_,f,_⟩:=h
 ⟨λp hp=>f.block p.1 (hH.Gb p hp).2.1 (by simp),f.ext.live⟩
theorem Ca.empty(h:Ca C w L H):Ca C w L []:=h.sub (List.nil_sublist _)
def LQ(C:Ctx)(n:Nat)(xa:Array Oper)(K:Env->Prop)(rest:List Oper)(e:Env)(H:Heap):Prop:=
 ∀ a w L,Mb n a e w L->Ca C w L H->wpQuiet C.P xa (QC C w L) (λa'=>∃ e',Mb n a' e' w L/\K e') rest a
section quiet
variable{C:Ctx}{n:Nat}{xa:Array Oper}{K:Env->Prop}{e:Env}{H:Heap}{dst:Option Nat}{op:Op}{ty:TypeId}{la:String}{ma:Array Edge}{rest:List Oper}
theorem LQ.nil(h:K e):LQ C n xa K [] e H:=λ_ _ _ hE _=>⟨e,hE,h⟩
theorem tZ{C:World->Prop}{Q:Act->Prop}{a:Act}(hg:Region.wanted o (yielded xa a.tmps)=true)(h:∀ w',C w'->o.quietAt P a C w' v)(k:wpQuiet P xa C Q rest (a.put o.dst v)):wpQuiet P xa C Q (o::rest) a:=by unfold wpQuiet;rw[zp hg];exact⟨v,h,k⟩
theorem qP(h:Pure C ⟨dst,op,ty,la,ma,none⟩ e H lv)(hd:Di n dst)(k:LQ C n xa K rest (e.put dst lv) H):LQ C n xa K (⟨dst,op,ty,la,ma,none⟩::rest) e H:=λa w L hE hH=>by obtain⟨v,hv,hr⟩:=h a.eval w L hE.ev hH;refine tZ (by simp[Region.wanted]) (v:=v) (λw' cB=>?_) (k _ w L (hE.put hd hv) hH);unfold Oper.quietAt;rw[hr w' (cB.agree hH)];exact⟨rfl,rfl⟩
theorem LQ.want{b:Bool}(hj:(xa[j]?).bind (·.dst)=some d)(hb:e.s d=.atom (.bool b))
  (k:LQ C n xa K (⟨dst,op,ty,la,ma,none⟩::rest) e H):LQ C n xa K (⟨dst,op,ty,la,ma,some (j,b)⟩::rest) e H:=λa w L hE hH=>by
 have:=k a w L hE hH;unfold wpQuiet at this ⊢;rw[zp (by simp[Region.wanted])] at this;rw[zp (by simp[Region.wanted,UC hE hj hb])];exact this
theorem LQ.skip{b c:Bool}(hj:(xa[j]?).bind (·.dst)=some d)(hb:e.s d=.atom (.bool b))(eb:b=!c)(hd:Di n dst)
  (k:LQ C n xa K rest (e.put dst (.atom undef)) H):LQ C n xa K (⟨dst,op,ty,la,ma,some (j,c)⟩::rest) e H:=λa w L hE hH=>by
 unfold wpQuiet;rw[zn (by subst eb;cases c <;> simp[Region.wanted,UC hE hj hb])];exact k _ w L (hE.put hd xc) hH
theorem LQ.Rf{fo:Operand}{f:FuncId} [fb C.P f]{first La:Array Value}{args:List Operand}(hf:e.ev fo=.atom (.func (.func f) first La))
  (hc:aa C f (first.toList.map .atom++args.map e.ev++La.toList.map .atom) [] λr _=>r=.ret (.atom v)) (hd:Di n dst)
  (k:LQ C n xa K rest (e.put dst (.atom v)) H):LQ C n xa K (⟨dst,.call { callee:=.value fo,args:=args.toArray,argTypes:=xe },ty,la,ma,none⟩::rest) e H:=λa w L hE hH=>by
 refine tZ (by simp[Region.wanted]) (v:=v) (λw' cB=>?_) (k _ w L (hE.put hd xc) hH);obtain⟨L',f1,f2⟩:=cB;have h:=λx=>(hE.ev x).mono f1.ext _ _;have h3:execOp a.eval ⟨dst,.call { callee:=.value fo,args:=args.toArray,argTypes:=xe },ty,la,ma,none⟩=(do let d <-Deferred.ofValue (a.eval fo) (args.toArray.map a.eval);invoke d.target d.args):=rfl;unfold Oper.quietAt;rw[h3,Cb h hf];simp only[Deferred.ofValue,Sb,Qc,lc,invoke,sM];refine⟨rfl,?_⟩;have:=hc (first.toList++args.map a.eval++La.toList) w' L' ((((Jl _).append (gF h _))).append (Jl _)) f2;simp only[<-List.append_toArray,Array.toArray_toList] at this;simp only[map_toArray];refine this.mono λe w2 he=>?_
 cases e with
 |returned u=>obtain⟨lv,H2,L2,g1,g2,g3,g4⟩:=he;simp only[Lc.ret.injEq] at g4;subst g4;simp only[Wa] at g3;subst g3;exact⟨rfl,L2,f1.trans (g1.db (HSub.nil _)),g2.db (HSub.nil _)⟩
 |panicked ch=>obtain⟨_,_,_,_,g⟩:=he;cases g
 |outgrown=>exact he.elim
theorem LQ.call{f:FuncId} [fb C.P f]{args:List Operand}{xe:Array TypeId}{v:Value}
  (hc:aa C f (args.map e.ev) [] λr _=>r=.ret (.atom v)) (hd:Di n dst)
  (k:LQ C n xa K rest (e.put dst (.atom v)) H):LQ C n xa K (⟨dst,.call { callee:=.value (.func f),args:=args.toArray,argTypes:=xe },ty,la,ma,none⟩::rest) e H:=
 LQ.Rf (f:=f) (first:=#[]) (La:=#[]) rfl (by simpa using hc) hd k
theorem Ga.quiet [hm:Al C.P] {id:Nat} {l:List Oper} {Q:Ob} (hB:Region.lexB .any l.toArray=true) (h:LQ C n l.toArray (λe'=>Q .normal e' H) l e H):Ga C n (.region id l.toArray true) Q e H:=λa w L hE hH=>by
 refine wp_region_quiet (C:=QC C w L) hm.out hB ⟨L,⟨rfl,rfl,rfl,Ty w L,λ_ _ _=>rfl,λ_ _ _=>rfl,by simp⟩,hH.empty.drew⟩ ?_
 have hq:∀ a' w',QC C w L w'->(∃ e',Mb n a' e' w L/\Q .normal e' H)->lift C n w L (keys H) Q .normal a' w':=by rintro a' w' ⟨L',f1,f2⟩ ⟨e',h1,h2⟩;have:=Ca.frame (H:=[]) (F:=H) (by simpa using hH) f1 f2;exact⟨e',H,L',by simpa using this.2,by simpa using this.1,h1.mono f1.ext,h2⟩
 have mono:∀ (l2:List Oper) (a:Act),wpQuiet C.P l.toArray (QC C w L) (λa'=>∃ e',Mb n a' e' w L/\Q .normal e' H) l2 a->wpQuiet C.P l.toArray (QC C w L) (λa'=>∀ w',QC C w L w'->lift C n w L (keys H) Q .normal a' w') l2 a:=by
  intro l2;induction l2 with
  |nil=>exact λa h w' cB=>hq a w' cB h
  |cons o l2 ih=>intro a h;unfold wpQuiet at h ⊢;split at h;rename_i hw;rw[zp hw];exact Oper.quiet_mono ih h;rename_i hw;rw[zn hw];exact ih _ h
 exact mono _ a (by simpa using h a w L hE hH)
end quiet
def Pa(C:Ctx)(n:Nat)(xa:Array Oper)(Q:Ob)(HF:Heap)(Xa:Nat)(qa:Array Bool)(e:Env)(H:Heap):Prop:=
 ∀ a w L,Mb n a e w L->Ca C w L H->wpAnyH C.P .any xa (lift C n w L (keys H) Q) (rm w L HF) Xa qa a w
def Td(C:Ctx)(n:Nat)(xa:Array Oper)(Q:Ob)(HF:Heap)(Xa:Nat)(qa:Array Bool)(e:Env)(H:Heap):Prop:=
 ∀ w0 L0 a w L,(∀ b,L0 b<=L b)->rm w0 L0 HF w->(∀ p∈HF,p.1<w.heap.size)->Mb n a e w L->Ca C w L H->wpAnyH C.P .any xa (lift C n w L (keys H) Q) (rm w0 L0 HF) Xa qa a w
theorem rm.refl(w:World)(L:Live)(H:Heap):rm w L H w:=⟨λ_ _=>rfl,λ_ _ _=>rfl⟩
theorem HSub.mem{H':Heap}(h:HSub H' H):∀ p∈H',p∈H:=λ_ hp=>
 let ⟨_,hG⟩:=h
 hG.mem_iff.2 (List.mem_append_left _ hp)
theorem Yy{P:Program}{md:Region.Mode}{xa:Array Oper}{Q Q':Exit->Act->World->Prop}{S:World->Prop}(h:∀ e a w,Q e a w->Q' e a w):∀ (Xa:Nat) (qa:Array Bool) (a:Act) (w:World),
  wpAnyH P md xa Q S Xa qa a w->wpAnyH P md xa Q' S Xa qa a w
 |0,_,_,_,k=>⟨k.1,h _ _ _ k.2⟩
 |Xa+1,qa,a,w,k=>by
  refine⟨λh0=>h _ _ _ (k.1 h0),λi hi=>?_⟩;have ki:=k.2 i hi;unfold wpOp at ki ⊢;split at ki;exact⟨ki.1,Yy h Xa _ _ _ ki.2⟩;split at ki
  rename_i hw;rw[zp hw];rcases ki with ki|⟨k1,a0,w0,k2⟩;refine .inl ?_;unfold Oper.wp at ki ⊢;generalize (execOp _ _).run P w=r at ki ⊢;cases r with
  |ok x w'=>
   cases x <;> simp only[Oper.upon] at ki ⊢ <;> first
    |exact⟨ki.1,Yy h Xa _ _ _ ki.2⟩
    |(refine Calls.mono ki λe VG he=>?_;cases e with
      |returned v=>exact⟨he.1,Yy h Xa _ _ _ he.2⟩
      |panicked ch=>exact h _ _ _ he
      |outgrown=>obtain⟨a0,w0,he⟩:=he;exact⟨a0,w0,h _ _ _ he⟩)
    |exact Rows.mono ki λ_ _ he=>⟨he.1,Yy h Xa _ _ _ he.2⟩
  |halt x w'=>cases x <;> simp only[Oper.upon] at ki ⊢ <;> exact h _ _ _ ki
  exact .inr ⟨k1,a0,w0,h _ _ _ k2⟩;rename_i hw;rw[zn hw];exact⟨ki.1,Yy h Xa _ _ _ ki.2⟩
section any
variable{C:Ctx}{n:Nat}{xa:Array Oper}{Q:Ob}{HF:Heap}{Xa:Nat}{qa:Array Bool}{e:Env}{H:Heap}
theorem xW(dst:Option Nat)(v:Value):∀ c a w',lift C n w L K Q (.panic c) (a.put dst v) w'->lift C n w L K Q (.panic c) a w':=by rintro c a w' ⟨e',H',L',h1,h2,h3,h4⟩;refine⟨e',H',L',h1,h2,?_,h4⟩;cases dst <;> exact h3
theorem OV{op:Op}{g:Option (Nat×Bool)}{a:Act}(hE:Mb n a e w L)(hH:Ca C w L H)(Jp:HSub HF H)
  (hi:xa[i]? = some ⟨dst,op,ty,la,ma,g⟩) (hs:Region.noSelect xa=true) (hf:Region.free .any xa qa i=true) (hr:(Region.ready .any xa qa).contains i=true) (hd:Di n dst)
  (hp:Pure C ⟨dst,op,ty,la,ma,g⟩ e HF lv) (hw:Region.wanted ⟨dst,op,ty,la,ma,g⟩ (yielded xa a.tmps)=true)
  (k:Pa C n xa Q HF Xa (qa.setIfInBounds i true) (e.put dst lv) H):wpAnyH C.P .any xa (lift C n w L (keys H) Q) (rm w L HF) (Xa+1) qa a w:=by
 obtain⟨v,hv,Oc⟩:=hp a.eval w L hE.ev (hH.db Jp);exact wpAnyH_take hi hs hf hr (xW _ _) (.inl ⟨hw,Oc⟩) (rm.refl _ _ _) (k _ w L (hE.put hd hv) hH)
theorem Pa.take{op:Op}(Jp:HSub HF H)
  (hi:xa[i]? = some ⟨dst,op,ty,la,ma,none⟩) (hs:Region.noSelect xa=true) (hf:Region.free .any xa qa i=true) (hr:(Region.ready .any xa qa).contains i=true) (hd:Di n dst)
  (hp:Pure C ⟨dst,op,ty,la,ma,none⟩ e HF lv) (k:Pa C n xa Q HF Xa (qa.setIfInBounds i true) (e.put dst lv) H):Pa C n xa Q HF (Xa+1) qa e H:=λ_ _ _ hE hH=>
 OV hE hH Jp hi hs hf hr hd hp (by simp[Region.wanted]) k
theorem Pa.Tk{b:Bool}{op:Op}(Jp:HSub HF H)
  (hi:xa[i]? = some ⟨dst,op,ty,la,ma,some (j,b)⟩) (hj:(xa[j]?).bind (·.dst)=some d) (hb:e.s d=.atom (.bool b)) (hs:Region.noSelect xa=true) (hf:Region.free .any xa qa i=true) (hr:(Region.ready .any xa qa).contains i=true) (hd:Di n dst)
  (hp:Pure C ⟨dst,op,ty,la,ma,some (j,b)⟩ e HF lv) (k:Pa C n xa Q HF Xa (qa.setIfInBounds i true) (e.put dst lv) H):Pa C n xa Q HF (Xa+1) qa e H:=λ_ _ _ hE hH=>
 OV hE hH Jp hi hs hf hr hd hp (by simp[Region.wanted,UC hE hj hb]) k
theorem Pa.Ic{b c:Bool}{op:Op}
  (hi:xa[i]? = some ⟨dst,op,ty,la,ma,some (j,c)⟩) (hj:(xa[j]?).bind (·.dst)=some d) (hb:e.s d=.atom (.bool b)) (eb:b=!c) (hs:Region.noSelect xa=true) (hf:Region.free .any xa qa i=true) (hr:(Region.ready .any xa qa).contains i=true) (hd:Di n dst)
  (k:Pa C n xa Q HF Xa (qa.setIfInBounds i true) (e.put dst (.atom undef)) H):Pa C n xa Q HF (Xa+1) qa e H:=λa w L hE hH=>
 wpAnyH_take hi hs hf hr (xW _ _) (.inr ⟨by subst eb;cases c <;> simp[Region.wanted,UC hE hj hb],rfl⟩) (rm.refl _ _ _) (k _ w L (hE.put hd xc) hH)
theorem aL(h:Td C n xa Q HF Xa qa e H)(Jp:HSub HF H):Pa C n xa Q HF Xa qa e H:=λa w L hE hH=>
 h w L a w L (λ_=>mc _) (rm.refl _ _ _) (λp hp=>(hH.Gb p (Jp.mem p hp)).2.1) hE hH
theorem lD(hr:Region.ready .any xa qa=[])(h:Q .normal e H):Td C n xa Q HF Xa qa e H:=λ_ _ _ _ L _ _ _ hE hH=>
 wpAnyH_done hr ⟨e,H,L,Fr.refl _ _ _,hH,hE,h⟩ Xa
theorem cD [hm:Al C.P] {id:Nat} {l:List Oper} {m:Nat} (hl:m=l.length) (HF:Heap) (h:Pa C n l.toArray Q HF m (Array.replicate m false) e H):Ga C n (.region id l.toArray true) Q e H:=λa w L hE hH=>by subst hl;have:=h a w.drew L (hE.mono (Ty w L)) hH.drew;refine wp_region_held (S:=rm w.drew L HF) hm.out ?_;refine Yy (λx a' w' hq=>?_) _ _ _ _ (by simpa using this);obtain⟨e',H',L',h1,h2,h3,h4⟩:=hq;exact⟨e',H',L',h1.Ld,h2,h3,h4⟩
end any
section pure
variable{C:Ctx}{e:Env}{H:Heap}{dst:Option Nat}{ty:TypeId}{la:String}{ma:Array Edge}{g:Option (Nat×Bool)}{x y c a b:Operand}{xT:TypeId}{k:IntKind}{lv:LV}
theorem pM(hx:e.ev x=lv):Pure C ⟨dst,.move x,ty,la,ma,g⟩ e H lv:=hx▸Pure.move
theorem pA(hx:e.ev x=lv):Pure C ⟨dst,.assign x,ty,la,ma,g⟩ e H lv:=hx▸Pure.assign
theorem Pure.Gi(hc:e.ev c=bool true)(ha:e.ev a=lv):Pure C ⟨dst,.pick c a b,ty,la,ma,g⟩ e H lv:=by have:=Pure.pick (C:=C) (H:=H) (dst:=dst) (ty:=ty) (la:=la) (ma:=ma) (g:=g) (a:=a) (b:=b) hc;simp only[if_true] at this;exact ha▸this
theorem Pure.nh(hc:e.ev c=bool false)(hb:e.ev b=lv):Pure C ⟨dst,.pick c a b,ty,la,ma,g⟩ e H lv:=by have:=Pure.pick (C:=C) (H:=H) (dst:=dst) (ty:=ty) (la:=la) (ma:=ma) (g:=g) (a:=a) (b:=b) hc;simp only[Vh,if_false] at this;exact hb▸this
theorem pR [yk C.P t n](hx:e.ev x=.ref cs)(hn:Nat.ble n cs.length=true)(hc:cs.take n=Ya):Pure C ⟨dst,.load t x,ty,la,ma,g⟩ e H (.agg Ya):=by subst hc;exact Pure.Pq hx (by simpa using hn)
theorem pG [yk C.P t n]{b:Nat}(hx:e.ev x=ptr b off)(hm:(b,da.cells im cs)∈H)(hn:Nat.ble (off+n) cs.length=true)(hc:(cs.drop off).take n=Ya) :
  Pure C ⟨dst,.load t x,ty,la,ma,g⟩ e H (.agg Ya):=by
 subst hc;exact Pure.Rv hx hm (by simpa using hn)
theorem xR [ht:Aa C.P t el s]{n:Int}{ad:LV}(hx:elems (e.ev x)=some es)(hy:e.ev y=int k n)(h0:0<=n)(hn:es[n.toNat]? = some ad)(hc:ad.cells=cs)(hs:cs.length=s) :
  Pure C ⟨dst,.indexAddr t x y,ty,la,ma,g⟩ e H (.ref cs):=by
 subst hc;exact Pure.indexAddr hx hy h0 hn hs
theorem Pure.vr{f:Nat} [mi C.P s f n](hx:e.ev x=.ref cs)(hc:cs.drop n=Ya):Pure C ⟨dst,.fieldAddr s x f,ty,la,ma,g⟩ e H (.ref Ya):=by subst hc;exact Pure.Jw hx
theorem pB{t:TypeId}{pl:List (Nat×Nat)} [hs:Vi C.P t pl] [hz:Sf C.P t zs](parts:List (Nat×Operand))
  (h:dA pl (zs.map .atom) (parts.map λp=>(p.1,e.ev p.2))=some cs):Pure C ⟨dst,.build t parts.toArray,ty,la,ma,g⟩ e H (.agg cs):=Pure.build h
end pure
section steps
variable{C:Ctx}{e:Env}{H H':Heap}{dst:Option Nat}{op:Op}{ty:TypeId}{la:String}{ma:Array Edge}{g:Option (Nat×Bool)}{x y:Operand}{K K':LV->Heap->Prop}{X:List PanicEntry->Heap->Prop}
theorem Ja.qc(h:Ja C o e H K X)(hk:∀ lv H',K lv H'->∃ xM se,lv.Sub xM/\HSub se H'/\K' xM se):Ja C o e H K' X:=λρ w L h1 h2=>by
 have:=h ρ w L h1 h2;have lf:∀ {w' v},Left C w L H w' v K->Left C w L H w' v K':=λh=>by obtain⟨lv,H',L',r1,r2,r3,r4⟩:=h;obtain⟨xM,se,s1,s2,s3⟩:=hk _ _ r4;exact⟨xM,se,L',r1.db s2,r2.db s2,s1 _ _ _ r3,s3⟩
 unfold Py at this ⊢;split at this;exact lf this;exact lf this;refine⟨this.1,this.2.mono λe w' he=>?_⟩
 cases e with
 |returned v=>exact lf he
 |panicked ch=>exact he
 |outgrown=>exact he
 exact this;exact this.elim
theorem Ja.CB{p:Nat×da}(hp:Ec p H F)(h:Ja C o e [p] (λlv H'=>K lv (H'++F)) λch H'=>X ch (H'++F)):Ja C o e H K X:=Ja.frame (H:=[p]) hp h
theorem Ja.Kx(h:Ja C o e [] (λlv H'=>K lv (H'++H)) λch H'=>X ch (H'++H)):Ja C o e H K X:=Ja.frame (H:=[]) (List.Perm.refl _) h
theorem yc{t:TypeId} [hz:Sf C.P t zs](hk:∀ b,K (ptr b 0) ((b,.cells t (zs.map .atom))::H)):Ja C ⟨dst,.alloc t,ty,la,ma,g⟩ e H K X:=Ja.Kx (Ja.alloc hk)
theorem sB{t:TypeId}(hx:(e.ev x).cells? = some cs)(hk:∀ b,K (ptr b 0) ((b,.cells t cs)::H)):Ja C ⟨dst,.box t x,ty,la,ma,g⟩ e H K X:=Ja.Kx (Ja.box hx hk)
theorem sL [ht:Aa C.P t el s] [hz:Sf C.P el zs](xs:List Operand)(Nk:xs.map e.ev=es)(He:vu s es){parts:List (Nat×Operand)}(hp:parts=(List.range xs.length).zip xs)(fa:len=xs.length)
  (ld:Nat.ble (len * s) 16777216=true) (hk:K (.list es) H):Ja C ⟨dst,.buildSlice t len parts.toArray,ty,la,ma,g⟩ e H K X:=by
 subst Nk;refine Ja.Kx (Ja.qc (K:=λlv H'=>∃ b,lv=.app b len s (xs.map e.ev)) (Ja.buildSlice He (by subst fa;simpa using ld) hp fa λb=>⟨b,rfl⟩) ?_);rintro lv H' ⟨b,rfl⟩;exact⟨_,[],LV.Sub.app _ _ _ _,HSub.nil _,hk⟩
theorem S.sD [ht:Aa C.P t el s] [hz:Sf C.P el zs](xs:List Operand)(Nk:xs.map e.ev=es)(He:vu s es){parts:List (Nat×Operand)}(hp:parts=(List.range xs.length).zip xs)(fa:len=xs.length)
  (ld:Nat.ble (len * s) 16777216=true) (hk:∀ b,K (.app b len s es) ((b,.row (len * s))::H)):Ja C ⟨dst,.buildSlice t len parts.toArray,ty,la,ma,g⟩ e H K X:=by
 subst Nk;exact Ja.Kx (Ja.buildSlice He (by subst fa;simpa using ld) hp fa λb=>hk b)
theorem sS [ht:Xp C.P t n](hx:e.ev x=ptr b off)(hp:Ec (b,.cells im cs) H F)(hy:(e.ev y).cells? = some vs)(hn:vs.length=n)(hl:Nat.ble (off+n) cs.length=true)(He:vs.all bj=true)
  (hc:Zc cs off vs=Ya) (hk:K (.atom undef) ((b,.cells im Ya)::F)):Ja C ⟨dst,.store t x y,ty,la,ma,g⟩ e H K X:=by
 subst hc;exact Ja.CB hp (Ja.store hx hy hn (by simpa using hl) He hk)
theorem S.BE [ht:Aa C.P sT el s] [hr:bg C.P el s bytes] [zc:Aa C.P xT e2 s2]{ms:List LV}
  (hx:e.ev x=Ea) (hy:elems (e.ev y)=some ms) (eb:ms≠[]) (hs:∀ v∈ms,v.cells.length=s) (Nb:ms.length * bytes<=140737488355328)
  (hk:∀ b cap,K (.app b cap s ms) ((b,.row (ms.length * s))::H)):Ja C ⟨dst,.call { callee:=.builtin .append,args:=#[x,y],argTypes:=#[sT,xT] },ty,la,ma,g⟩ e H K X:=
 Ja.Kx (Ja.ku rfl ⟨e2,zc.zd⟩ hx hy eb hs Nb λb cap=>hk b cap)
theorem S.app{sT xT el s bytes:Nat} [ht:Aa C.P sT el s] [hr:bg C.P el s bytes]{e2 s2:Nat} [zc:Aa C.P xT e2 s2]{b cap n:Nat}{es ms:List LV}{F:Heap}
  (hx:e.ev x=.app b cap s es) (hp:Ec (b,.row n) H F) (hn:n=es.length * s) (hy:elems (e.ev y)=some ms) (hs:∀ v∈ms,v.cells.length=s) (He:(ms.flatMap LV.cells).all bj=true) (Nb:(es.length+ms.length) * bytes<=140737488355328)
  (hk:∀ b' de,K (.app b' de s (es++ms)) ((b',.row ((es++ms).length * s))::F)):Ja C ⟨dst,.call { callee:=.builtin .append,args:=#[x,y],argTypes:=#[sT,xT] },ty,la,ma,g⟩ e H K X:=
 Ja.CB hp (Ja.lu rfl ⟨e2,zc.zd⟩ hx hn hy hs He Nb λb' de=>hk b' de)
theorem S.mu [ht:Aa C.P sT el s] [zc:Aa C.P xT e2 s2](hx:e.ev x=Ea)(hy:elems (e.ev y)=some [])(hk:K Ea H) :
  Ja C ⟨dst,.call { callee:=.builtin .append,args:=#[x,y],argTypes:=#[sT,xT] },ty,la,ma,g⟩ e H K X:=Ja.Ui rfl ⟨e2,zc.zd⟩ hx hy hk
inductive Acc (s:Nat):LV->List LV->Heap->Heap->Prop
 |nil {F:Heap}:Acc s Ea [] F F
 |row {b cap:Nat} {es:List LV} {F:Heap}:Acc s (.app b cap s es) es ((b,.row (es.length * s))::F) F
theorem Acc.sub(h:Acc s lv es H F):lv.Sub (.list es):=by
 cases h with
 |nil=>exact vN
 |row=>exact LV.Sub.app _ _ _ _
theorem Acc.xp(h:Acc s lv es H F):HSub F H:=by
 cases h with
 |nil=>exact kb _
 |row=>exact fe (kb _)
theorem Acc.elems{s:Nat}{lv:LV}{es:List LV}{H F:Heap}(h:Acc s lv es H F):GL.elems lv=some es:=by cases h <;> rfl
theorem S.acc [ht:Aa C.P sT el s] [hr:bg C.P el s bytes] [zc:Aa C.P xT e2 s2]{v:LV}{ms:List LV}
  (hx:e.ev x=v) (ha:Acc s v es H F) (hy:GL.elems (e.ev y)=some ms) (hs:∀ v∈ms,v.cells.length=s) (He:(ms.flatMap LV.cells).all bj=true) (Nb:(es.length+ms.length) * bytes<=140737488355328)
  (hk:∀ v' H',Acc s v' (es++ms) H' F->K v' H'):Ja C ⟨dst,.call { callee:=.builtin .append,args:=#[x,y],argTypes:=#[sT,xT] },ty,la,ma,g⟩ e H K X:=by
 cases ha with
 |nil=>
  by_cases eb:ms=[];subst eb;exact S.mu hx hy (hk _ _ (by simpa using Acc.nil));refine S.BE hx hy eb hs (by simpa using Nb) λb cap=>hk _ _ ?_
  exact Acc.row
 |row=>exact S.app hx pH rfl hy hs He Nb λb' de=>hk _ _ Acc.row
theorem S.Ef{f:FuncId} [fb C.P f](args:List Operand)(has:args.map e.ev=Wb)
  (hc:aa C f Wb [] R) (hk:∀ v H',R (.ret v) H'->K v (H'++H)) (hx:∀ ch H',R (.panic ch) H'->X ch (H'++H)) :
  Ja C ⟨dst,.call { callee:=.value (.func f),args:=args.toArray,argTypes:=xe },ty,la,ma,g⟩ e H K X:=by
 subst has;exact Ja.Kx (Ja.call hc hk hx)
theorem S.Us{f:FuncId} [fb C.P f](args:List Operand){p:Nat×da}(has:args.map e.ev=Wb)(hp:Ec p H F)
  (hc:aa C f Wb [p] R) (hk:∀ v H',R (.ret v) H'->K v (H'++F)) (hx:∀ ch H',R (.panic ch) H'->X ch (H'++F)) :
  Ja C ⟨dst,.call { callee:=.value (.func f),args:=args.toArray,argTypes:=xe },ty,la,ma,g⟩ e H K X:=by
 subst has;exact Ja.CB hp (Ja.call hc hk hx)
theorem S.Bb{f:FuncId} [fb C.P f](args:List Operand){H1:Heap}(has:args.map e.ev=Wb)(hp:H.Perm (H1++F))
  (hc:aa C f Wb H1 R) (hk:∀ v H',R (.ret v) H'->K v (H'++F)) (hx:∀ ch H',R (.panic ch) H'->X ch (H'++F)) :
  Ja C ⟨dst,.call { callee:=.value (.func f),args:=args.toArray,argTypes:=xe },ty,la,ma,g⟩ e H K X:=by
 subst has;exact Ja.frame hp (Ja.call hc hk hx)
theorem S.Rf{fo:Operand}{f:FuncId} [fb C.P f]{first La:Array Value}(args:List Operand){xe:Array TypeId}{Wb:List LV}{R:Lc->Heap->Prop}{H1 F:Heap}(hf:e.ev fo=.atom (.func (.func f) first La))
  (has:first.toList.map .atom++args.map e.ev++La.toList.map .atom=Wb) (hp:H.Perm (H1++F)) (hc:aa C f Wb H1 R) (hk:∀ v H',R (.ret v) H'->K v (H'++F)) (hx:∀ ch H',R (.panic ch) H'->X ch (H'++F)) :
  Ja C ⟨dst,.call { callee:=.value fo,args:=args.toArray,argTypes:=xe },ty,la,ma,g⟩ e H K X:=by
 subst has;exact Ja.frame hp (Ja.Rf hf hc hk hx)
end steps
section ret
variable{C:Ctx}{n:Nat}{e:Env}{H H':Heap}{R:Lc->Heap->Prop}
theorem rN:Eh C n e H [] []:=trivial
theorem rC{r:ResultVar}{v:LV}(h:qj C n e H r v)(k:Eh C n e H rs vs):Eh C n e H (r::rs) (v::vs):=⟨h,k⟩
theorem rR(hd:e.ds=[])(h:Eh C n e H rs vs)(hH:HSub H' H)(hR:R (.ret (Ge vs)) H'):oc C n rs R .ret e H:=⟨hd,vs,H',h,hH,hR⟩
theorem rO(hd:e.ds=[])(h:Eh C n e H rs vs)(hH:HSub H' H)(hR:R (.ret (Ge vs)) H'):oc C n rs R .normal e H:=⟨hd,vs,H',h,hH,hR⟩
theorem oc.panic{rs:List ResultVar}{ch:List PanicEntry}(hd:e.ds=[])(hH:HSub H' H)(hR:R (.panic ch) H'):oc C n rs R (.panic ch) e H:=⟨hd,H',hH,hR⟩
theorem rA{a:Nat} [yk C.P t k](hx:e.s a=ptr b off)(hm:(b,da.cells im cs)∈H)(hn:Nat.ble (off+k) cs.length=true)(hs:(LV.agg ((cs.drop off).take k)).Sub lv):qj C n e H (.cell a t) lv:=λac w L hE hH=>by
 obtain⟨xs,h1,h2⟩:=hH.cells hm;have hl:=h2.length;have MM:off+k<=cs.length:=by simpa using hn
 have hv:=hE.Jg a;rw[hx] at hv;simp only[Wa] at hv;refine⟨.agg ((xs.drop off).take k).toArray,?_,hs _ _ _ (by simp only[Wa];exact⟨_,rfl,(h2.drop off).take k⟩)⟩;have fa:((xs.drop off).take k).length=k:=by simp;omega
 simp only[uj,hv,asAddr,Sb,Qc,lc];exact YQ (t:=t) (w:=w) (b:=b) (off:=off) fa (λj y hy=>by
  rw[List.getElem?_take] at hy;split at hy;simpa [World.cell?,h1,List.getElem?_drop] using hy;cases hy)
theorem qj.Rb{a:Nat} [Yl C.P t](hx:e.s a=ptr b off)(hm:(b,da.cells im cs)∈H)(hc:cs[off]? = some c)(hs:c.Sub lv):qj C n e H (.cell a t) lv:=λac w L hE hH=>by
 obtain⟨xs,h1,h2⟩:=hH.cells hm;obtain⟨v,h3,h4⟩:=h2.get hc;have hv:=hE.Jg a;rw[hx] at hv;simp only[Wa] at hv;refine⟨v,?_,hs _ _ _ h4⟩;have uk:w.cell? ⟨b,off,none⟩=some v:=by simp[World.cell?,h1,h3]
 simp only[uj,hv,asAddr,Sb,Qc,lc];exact SQ uk
end ret
theorem cJ{fn:Func}{c:Code}{args:List LV}(hf:C.P.funcs[f]? = some fn)(h:Ga C n c (oc C n fn.results.toList R) (Oy args) H)(hb:fn.body=some c:=by exact rfl)(hn:fn.ntmps=n:=by exact rfl)(h3:Nat.ble fn.results.size 3=true:=by exact rfl)(hl:Nat.ble args.length n=true:=by exact rfl):aa C f args H R:=cI hf hb hn h3 hl h
theorem Ma:HSub H H:=kb _
theorem Fc:HSub [] H:=HSub.nil _
theorem dc{p:Nat×da}:HSub [p] (p::H):=Ab pH (HSub.nil _)
theorem fc{v:LV}:v.Sub v:=vR _
theorem uc{p a:Nat×da}:Ec p (a::p::F) (a::F):=(pT pH)
theorem Ig{p a b:Nat×da}:Ec p (a::b::p::F) (a::b::F):=(pT (pT pH))
theorem pu{p a b c:Nat×da}:Ec p (a::b::c::p::F) (a::b::c::F):=(pT (pT (pT pH)))
theorem EE{p a b c d:Nat×da}:Ec p (a::b::c::d::p::F) (a::b::c::d::F):=(pT (pT (pT (pT pH))))
theorem lN{p a b c d e:Nat×da}:Ec p (a::b::c::d::e::p::F) (a::b::c::d::e::F):=(pT (pT (pT (pT (pT pH)))))
theorem A3{p a b c d e f:Nat×da}:Ec p (a::b::c::d::e::f::p::F) (a::b::c::d::e::f::F):=(pT (pT (pT (pT (pT (pT pH))))))
theorem zp7{p a b c d e f g:Nat×da}:Ec p (a::b::c::d::e::f::g::p::F) (a::b::c::d::e::f::g::F):=(pT (pT (pT (pT (pT (pT (pT pH)))))))
theorem zp8{p a b c d e f g h:Nat×da}:Ec p (a::b::c::d::e::f::g::h::p::F) (a::b::c::d::e::f::g::h::F):=(pT (pT (pT (pT (pT (pT (pT (pT pH))))))))
theorem ib{e:Env}(h:e.s t=.atom v):qj C n e H (.tmp t) (.atom v):=rT h (vR _)
theorem va{e:Env}(h:e.s t=.atom v):Eh C n e H [.tmp t] [.atom v]:=rC (rT h (vR _)) rN
end Go.GL
