import Derived.Laws.IdiomStrings
import Derived.RangeFuncFrom
import Derived.TacticsIn
import Derived.Lib.Builder
import Derived.Lib.AppendStr
import Derived.Test.YtafdodhkoihlhaaGreatDoorBRowLE0
set_option linter.unusedVariables false
set_option linter.unusedSimpArgs false
set_option maxRecDepth 100000
set_option maxHeartbeats 0
open List (mem_singleton size_toArray map_toArray flatMap_cons nil_append map_nil nil_sublist mem_cons_self take_left')
open Nat (lt_or_ge add_zero add_mul zero_add mul_one)
open Option (isSome_none getD_some map_some)
namespace Go.GL
open Go.RowKit
variable{C:Ctx}{F H H':Heap}{K:List Nat}{L:Live}{P:Program}{Q:Vc}{R:Pe->Heap->Prop}{ua:Array Edge}{nh:Array TypeId}{Sc cs Zb es vs:List LV}{b bytes cap d e2 el i j len n off s s2 sT t Aq xT:Nat}{c:Code}{dst:Option Nat}{e:Env}{f:FuncId}{lv:LV}{new xs zs:List Value}{o:Oper}{Sa:Array Oper}{ra:String}{rest:List Oper}{rs:List ResultVar}{ty:TypeId}{v xv:Value}{w w':World}
def Live.Rd(L:Live)(b n:Nat):Live:=λx=>if x=b then n else L x
theorem D1{o:Obj}(hb:b<w.heap.size):(w.heap.push o)[b]? = w.heap[b]? := by
 rw[Array.getElem?_push,zn (by omega)]
theorem aw{o:Obj}:(w.heap.push o)[w.heap.size]? = some o:=by simp
def World.push(w:World)(o:Obj):World:={ w with heap:=w.heap.push o }
theorem DI(hwf:∀ b,w.heap.size<=b->L b=0)(o:Obj)(n:Nat):Ext w L (World.push w o) (L.Rd w.heap.size n):=by
 refine⟨by simp[World.push],λb hb=>?_,λb i hi=>?_,λb=>?_⟩;exact QI (D1 hb);rcases lt_or_ge b w.heap.size with hb|hb;exact cell_of_heap (D1 hb) i;rw[hwf b hb] at hi;omega;unfold Live.Rd;split
 rename_i h;subst h;rw[hwf _ (Pb _)];omega;exact Pb _
theorem OE(hH:Ta C w L [])(o:Obj)(n:Nat)(H':Heap)(hk:∀ p∈H',p.1=w.heap.size/\tQ (World.push w o) (L.Rd w.heap.size n) w.heap.size p.2)(hn:(H'.map (·.1)).Nodup) :
  Fr (keys []) w L (World.push w o) (L.Rd w.heap.size n) H'/\Ta C (World.push w o) (L.Rd w.heap.size n) H':=by
 have hx:=DI hH.wf o n;refine⟨⟨rfl,rfl,rfl,hx,λb hb _=>D1 hb,λb hb _=>?_,λp hp=>.inr (by rw[(hk p hp).1];exact Pb _)⟩,⟨?_,trivial,?_,λb hb=>?_,hn,λp hp=>?_⟩⟩;simp only[Live.Rd];rw[zn (by omega)];exact hH.base.alloc hH.b0 o;exact Xf hH.b0 hx.size;simp only[World.push,Array.size_push] at hb;simp only[Live.Rd];rw[zn (by omega)];exact hH.wf b ga;obtain⟨h1,h2⟩:=hk p hp;rw[h1];exact⟨hH.b0,by simp[World.push],h2⟩
section steps
variable{C:Ctx}{e:Env}{H:Heap}{dst:Option Nat}{ty:TypeId}{ra:String}{ua:Array Edge}{g:Option (Nat×Bool)}{x y:Operand}{xT:TypeId}{k:IntKind}
 {K:LV->Heap->Prop} {X:List PanicEntry->Heap->Prop}
theorem qqQ(hH:Ta C w L []){t:TypeId}(hr:oa w L cs xs)(hk:∀ b,K (ptr b 0) [(b,.cells t cs)]) :
  Left C w L [] (World.push w (.cells xs.toArray t)) (.pointer (some ⟨w.heap.size,0,none⟩)) K:=by
 have hx:=DI hH.wf (.cells xs.toArray t) 0;have:=OE hH (.cells xs.toArray t) 0 [(w.heap.size,.cells t cs)] (λp hp=>by
  simp only[mem_singleton] at hp;subst hp;exact⟨rfl,by simp[Live.Rd],xs,aw,hr.mono hx _ _⟩) (by simp)
 exact⟨_,_,_,this.1,this.2,Ld,hk _⟩
theorem ab.alloc{t:TypeId}{zs:List Value} [hz:Mi C.P t zs](hk:∀ b,K (ptr b 0) [(b,.cells t (zs.map .atom))]):ab C ⟨dst,.alloc t,ty,ra,ua,g⟩ e [] K X:=λρ w L _ hH=>by
 obtain⟨v,hv,hc⟩:=E0 (P:=C.P) (t:=t) w;have h3:execOp ρ ⟨dst,.alloc t,ty,ra,ua,g⟩=(do Pure.pure (.value (<-Instr.alloc t true (.tuple #[])))):=rfl;have h4:(Instr.alloc t true (.tuple #[])).run C.P w=.ok (.pointer (some ⟨w.heap.size,0,none⟩)) (World.push w (.cells zs.toArray t)):=by simp only[Instr.alloc,Lc,hv,jd,newVar,newRow,hc];rfl
 rw[h3,Lc,h4];exact qqQ hH (Ys zs) hk
theorem ab.box{t:TypeId}{cs:List LV}(hx:(e.ev x).cells? = some cs)(hk:∀ b,K (ptr b 0) [(b,.cells t cs)]):ab C ⟨dst,.box t x,ty,ra,ua,g⟩ e [] K X:=λρ w L h hH=>by
 have hr:=(h x).cells hx;have h3:execOp ρ ⟨dst,.box t x,ty,ra,ua,g⟩=(do Pure.pure (.value (<-Instr.box t (ρ x)))):=rfl;have h4:(Instr.box t (ρ x)).run C.P w=.ok (.pointer (some ⟨w.heap.size,0,none⟩)) (World.push w (.cells (ρ x).cells t)):=by simp only[Instr.box,Lc,newVar,newRow];rfl
 rw[h3,Lc,h4];have:=qqQ (K:=K) hH (t:=t) hr hk;rw[Array.toArray_toList] at this;exact this
def Vs:LV->Bool
 |.agg _|.tuple _|.atom (.agg _)|.atom (.tuple _)=>false
 |_=>true
theorem Fb.flat{c:LV}{x:Value}(h:Fb w L c x)(hc:Vs c=true):(∀ cs,x≠.agg cs)/\(∀ cs,x≠.tuple cs):=by
 cases c <;> simp only[Fb] at h <;> simp only[Vs,Il] at hc
 case atom v=>subst h;cases x <;> simp_all
 case list es=>obtain⟨a,cap,rfl,_⟩:=h;simp
 case app b cap k es=>obtain⟨rfl,_⟩:=h;simp
 case ref cs=>obtain⟨b,off,rfl,_⟩:=h;simp
theorem qjR{a:Addr}{old:Value}(hc:w.cell? a=some old)(hf:w.frozen? a=false)(h1:∀ cs,v≠.agg cs)(h2:∀ cs,v≠.tuple cs):(store a v).run P w=.ok () (w.setCell a v):=by cases v <;> simp_all [store,Sem.run]
theorem qiQ{t:TypeId}{fr:Nat×Nat}(h:w.heap[b]? = some (.cells xs.toArray t fr)) :
  (w.setCell ⟨b,off,none⟩ v).heap[b]? = some (.cells (xs.set off v).toArray t fr):=by
 simp[World.setCell,Array.getElem?_modify,h]
theorem jO{P:Program}{b off:Nat}{t:TypeId}{fr:Nat×Nat}:∀ (vs:List Value) (i:Nat) (w:World) (xs:List Value),w.heap[b]? = some (.cells xs.toArray t fr)->off+i+vs.length<=xs.length ->
  (∀ j,off+i<=j->j<off+i+vs.length->¬ (fr.1<=j/\j<fr.2)) ->
  (∀ v∈vs,(∀ cs,v≠.agg cs)/\(∀ cs,v≠.tuple cs)) ->
  ∃ w',(storeCells ⟨b,off,none⟩ vs i).run P w=.ok () w'/\w'.os=w.os/\w'.tape=w.tape/\w'.output=w.output/\w'.heap.size=w.heap.size/\(∀ c,c≠b->w'.heap[c]? = w.heap[c]?) /\
   w'.heap[b]? = some (.cells (xs.take (off+i)++vs++xs.drop (off+i+vs.length)).toArray t fr)
 |[],i,w,xs,hb,_,_,_=>⟨w,by simp[storeCells],rfl,rfl,rfl,rfl,λ_ _=>rfl,by simpa using hb⟩
 |v::vs,i,w,xs,hb,hl,Vm,hv=>by
  simp only[Ma] at hl Vm;have hc:∃ old,w.cell? ⟨b,off+i,none⟩=some old:=by refine⟨xs[off+i]'(by omega),?_⟩;simp[World.cell?,hb]
  obtain⟨old,hc⟩:=hc;have hf:w.frozen? ⟨b,off+i,none⟩=false:=by obtain⟨lo,hi⟩:=fr;have:=Vm (off+i) ga ga;simp only[World.frozen?,hb];simp only[Bool.and_eq_false_iff,decide_eq_false_iff_not];simp only at this;omega
  have hs:=qjR (P:=P) hc hf (hv v (by simp)).1 (hv v (by simp)).2;obtain⟨w',h1,h2,h3,h4,h5,h6,h7⟩:=jO (P:=P) (off:=off) vs (i+1) (w.setCell ⟨b,off+i,none⟩ v) (xs.set (off+i) v) (qiQ hb) (by simp;omega) (λj h1 h2=>Vm j ga ga) λu hu=>hv u (Oc _ hu);refine⟨w',?_,h2,h3,h4,?_,λc hc=>?_,?_⟩;simp only[storeCells,Pg,Lc,hs,jd,h1];rw[h5];simp[World.setCell];rw[h6 c hc];simp only[World.setCell,Array.getElem?_modify];rw[zn (by simpa using Ne.symm hc)];rw[h7];congr 2
  have e1:(xs.set (off+i) v).take (off+(i+1))=xs.take (off+i)++[v]:=by rw[show off+(i+1)=off+i+1 by omega,List.take_succ_eq_append_getElem (by simp;omega)];simp[List.take_set_of_le]
  have e2:(xs.set (off+i) v).drop (off+(i+1)+vs.length)=xs.drop (off+i+(vs.length+1)):=by rw[List.drop_set_of_lt (by omega),show off+(i+1)+vs.length=off+i+(vs.length+1) by omega]
  rw[e1,e2];simp
theorem TV{w:World}{L:Live}:∀ {cs:List LV} {xs:List Value},oa w L cs xs->(cs.all Vs)=true->∀ v∈xs,(∀ cs,v≠.agg cs)/\(∀ cs,v≠.tuple cs)
 |[],_,h,_=>by simp only[oa] at h;subst h;simp
 |c::cs,_,h,hc=>by simp only[oa] at h;obtain⟨y,ys,rfl,h1,h2⟩:=h;simp only[List.all_cons,Ed] at hc;intro v hv;rcases Dc.1 hv with rfl|hv;exact h1.flat hc.1;exact TV h2 hc.2 v hv
class Kv (P:Program) (t:TypeId) (n:outParam Nat):Prop where
 size:∃ i,P.info? t=some i/\i.size=n
def qty(P:Program)(t n:Nat):Bool:=match P.info? t with|some i=>i.size == n|none=>false
theorem Kv.of(h:qty P t n=true):Kv P t n:=by
 unfold qty at h;cases hi:P.info? t with
 |none=>rw[hi] at h;simp at h
 |some i=>rw[hi] at h;exact⟨i,hi,by simpa using h⟩
theorem wR{t:TypeId}{zP:List Value}(hH:Ta C w L [(b,.cells t cs)])(h1:w'.os=w.os)(h2:w'.tape=w.tape)(h3:w'.output=w.output)
  (h4:w'.heap.size=w.heap.size) (h5:∀ c,c≠b->w'.heap[c]? = w.heap[c]?) (h6:w'.heap[b]? = some (.cells zP.toArray t (0,0))) (h7:zP.length=cs.length)
  (h8:oa w L Zb zP) {v:Value} {lv:LV} (hv:Fb w L lv v) (hk:K lv [(b,.cells t Zb)]):Left C w L [(b,.cells t cs)] w' v K:=by
 obtain⟨Wf,vh,hl,xs,Kd,me⟩:=hH.Bc _ (Sq rfl);simp only at Wf vh hl Kd me;have hx:Ext w L w' L:=by
  refine⟨by rw[h4];exact Pb _,λc hc=>?_,λc i hi=>?_,λ_=>Pb _⟩
  by_cases he:c=b;subst he;simp only[World.shape?,Kd,h6];rw[size_toArray,size_toArray,h7,me.length];exact QI (h5 c he);by_cases he:c=b;subst he;rw[hl] at hi;omega;exact cell_of_heap (h5 c he) i
 refine⟨lv,[(b,.cells t Zb)],L,⟨h1,h2,h3,hx,λc hc hn=>h5 c (by simpa using hn),λ_ _ _=>rfl,λp hp=>.inl (by simp only[mem_singleton] at hp;subst hp;simp)⟩,
  ⟨?_,hH.sj,by rw[h4];exact hH.b0,by rw[h4];exact hH.wf,by simp,λp hp=>?_⟩,hv.mono hx _ _,hk⟩
 exact hH.base.trans ⟨h1,h2,h3,by rw[h4];exact Pb _,λc hc=>h5 c ga⟩;simp only[mem_singleton] at hp;subst hp;exact⟨Wf,by rw[h4];exact vh,hl,zP,h6,h8.mono hx _ _⟩
theorem ab.store{t n:Nat} [ht:Kv C.P t n]{b off Aq:Nat}{cs vs:List LV}(hx:e.ev x=ptr b off)(hy:(e.ev y).cells? = some vs)(hn:vs.length=n)(hl:off+n<=cs.length)(Kc:vs.all Vs=true)
  (hk:K (.atom undef) [(b,.cells Aq (Mh cs off vs))]):ab C ⟨dst,.store t x y,ty,ra,ua,g⟩ e [(b,.cells Aq cs)] K X:=λρ w L h hH=>by
 obtain⟨Wf,vh,hlv,xs,Kd,me⟩:=hH.Bc _ (Sq rfl);simp only at Wf vh hlv Kd me;have hr:=(h y).cells hy;have Tm:=hr.length;have hxl:=me.length;obtain⟨i,hi,ae⟩:=ht.size;obtain⟨w',r1,r2,r3,r4,r5,r6,r7⟩:=jO (P:=C.P) (off:=off) (ρ y).cells.toList 0 w xs Kd ga (λj _ _=>by simp) (TV hr Kc);have h3:execOp ρ ⟨dst,.store t x y,ty,ra,ua,g⟩=(do Instr.storeAt t (ρ x) (ρ y);Pure.pure .skip):=rfl;have hs:(ρ y).cells.size=n:=by rw[<-hn,<-Tm];simp
 rw[h3,nc h hx];simp only[Instr.storeAt,Instr.sureAddr,Lc,Xd,jd,storeVar,MC hi,ae,hs,ne_eq,not_true_eq_false,if_false];rw[r1];refine wR hH r2 r3 r4 r5 r6 r7 ?_ ?_ Ld hk;simp;omega;rw[CV cs off vs (by omega)];rw[Tm,add_zero];exact((me.take off).append hr).append (me.drop _)
class Wb (P:Program) (f:FuncId):Prop where
 out : ∃ fn, P.funcs[f]? = some fn ∧ (fn.name == "runtime.NumGoroutine") = false ∧ fn.body.isNone = false
def qqL (P : Program) (f : FuncId) : Bool := match P.funcs[f]? with | some fn => !(fn.name == "runtime.NumGoroutine") && fn.body.isSome | none => false
theorem Wb.of(h:qqL P f=true):Wb P f:=by
 unfold qqL at h;cases hf:P.funcs[f]? with
 |none=>rw[hf] at h;cases h
 |some fn=>rw[hf] at h;simp only[Ed,Bool.not_eq_true'] at h;exact⟨fn,hf,h.1,by cases hb:fn.body <;> simp_all⟩
theorem P4 [h:Wb P f](args:Array Value)(w:World):(callFunc f args).run P w=.ok (.enter f args) w:=by obtain⟨fn,h1,h2,h3⟩:=h.out;have h0:(program).run P w=.ok P w:=rfl;simp only[callFunc,Lc,h0,jd,h1,h2,h3,Il,if_false,Xd]
theorem ab.Cm{fo:Operand}{f:FuncId} [Wb C.P f]{first db:Array Value}{args:List Operand}(hf:e.ev fo=.atom (.func (.func f) first db))
  (hc:ca C f (first.toList.map .atom++args.map e.ev++db.toList.map .atom) H R) (hk:∀ v H,R (.ret v) H->K v H) (hx:∀ ch H,R (.panic ch) H->X ch H) :
  ab C ⟨dst,.call { callee:=.value fo,args:=args.toArray,argTypes:=nh },ty,ra,ua,g⟩ e H K X:=λρ w L h hH=>by
 have h3:execOp ρ ⟨dst,.call { callee:=.value fo,args:=args.toArray,argTypes:=nh },ty,ra,ua,g⟩=(do let d <-Deferred.ofValue (ρ fo) (args.toArray.map ρ);invoke d.target d.args):=rfl;rw[h3,nc h hf];simp only[Deferred.ofValue,Lc,Xd,jd,invoke,P4];refine⟨rfl,?_⟩;have:=hc (first.toList++args.map ρ++db.toList) w L ((((Ys _).append (JQ h _))).append (Ys _)) hH;simp only[<-List.append_toArray,Array.toArray_toList] at this;simp only[map_toArray];exact this.mono (AB.mono (λv H hv=>hk v H hv) λch H hv=>hx ch H hv)
theorem ab.call{f:FuncId} [Wb C.P f]{args:List Operand}{nh:Array TypeId}{R:Pe->Heap->Prop}
  (hc:ca C f (args.map e.ev) H R) (hk:∀ v H,R (.ret v) H->K v H) (hx:∀ ch H,R (.panic ch) H->X ch H) :
  ab C ⟨dst,.call { callee:=.value (.func f),args:=args.toArray,argTypes:=nh },ty,ra,ua,g⟩ e H K X:=
 ab.Cm (f:=f) (first:=#[]) (db:=#[]) rfl (by simpa using hc) hk hx
theorem ab.panic{t:TypeId}{v:Value}(hx:e.ev x=.atom (.iface t v))(hk:X [{ v:=.iface t v,recovered:=false }] H):ab C ⟨dst,.panic x,ty,ra,ua,g⟩ e H K X:=λρ w L h hH=>by have h3:execOp ρ ⟨dst,.panic x,ty,ra,ua,g⟩=(do Pure.pure (.value (<-Instr.panic (ρ x)))):=rfl;rw[h3,nc h hx];simp only[Instr.panic,goPanic,Lc,Sem.run_halt,Result.andThen_halt];exact⟨H,L,Fr.refl _ _ _,hH,hk⟩
theorem qqM{size:Nat}:∀ (vs:List Value) (i:Nat) (xs:List Value),(∀ v∈vs,v.cells.size=size)->(i+vs.length) * size<=xs.length ->
  Instr.fill (λi=>some (i * size,size)) xs.toArray ((List.range' i vs.length).zip vs)=some (xs.take (i * size)++vs.flatMap (λv=>v.cells.toList)++xs.drop ((i+vs.length) * size)).toArray
 |[],i,xs,_,_=>by simp[Instr.fill]
 |v::vs,i,xs,h,hl=>by
  have hv:=h v (by simp);simp only[Ma] at hl;have az:i * size+size+vs.length * size<=xs.length:=by
   have:(i+(vs.length+1)) * size=i * size+size+vs.length * size:=by rw[add_mul,add_mul];omega
   omega
  simp only[Ma,List.range'_succ,List.zip_cons_cons,Instr.fill];rw[zn (by simp[hv];omega)];have he:(v.cells.zipIdx.foldl (λcs (c,j)=>cs.setIfInBounds (i * size+j) c) xs.toArray)=(xs.take (i * size)++v.cells.toList++xs.drop (i * size+size)).toArray:=by rw[<-Array.foldl_toList,Array.toList_zipIdx];have:=Y2 (i * size) v.cells.toList 0 xs (by simp[hv];omega);rw[add_zero] at this;rw[this];simp[hv]
  rw[he];have ha:(i+1) * size=i * size+size:=by rw[add_mul];omega
  have hb:(i+1+vs.length) * size=i * size+size+vs.length * size:=by rw[add_mul,add_mul];omega
  have hc:(i+(vs.length+1)) * size=i * size+size+vs.length * size:=by rw[add_mul,add_mul];omega
  have ma:(xs.take (i * size)++v.cells.toList++xs.drop (i * size+size)).length=xs.length:=by simp[hv];omega
  rw[qqM vs (i+1) _ (λu hu=>h u (Oc _ hu)) (by rw[ma,hb];omega)];congr 2
  have e1:(xs.take (i * size)++v.cells.toList++xs.drop (i * size+size)).take ((i+1) * size)=xs.take (i * size)++v.cells.toList:=by rw[ha,List.take_append_of_le_length (by simp[hv];omega),List.take_of_length_le (by simp[hv];omega)]
  have e2:(xs.take (i * size)++v.cells.toList++xs.drop (i * size+size)).drop ((i+1+vs.length) * size)=xs.drop ((i+(vs.length+1)) * size):=by rw[hb,hc,List.drop_append,List.drop_eq_nil_of_le (by simp[hv];omega)];simp[hv,List.drop_drop];congr 1;omega
  rw[e1,e2];simp
theorem Tb.of_heap{w:World}{L:Live}{b:Nat}{t:TypeId}{fr:Nat×Nat}:∀ {cs:List LV} {off:Nat} {ys:List Value} (pre post:List Value),w.heap[b]? = some (.cells (pre++ys++post).toArray t fr)->pre.length=off->off+ys.length<=L b ->
  oa w L cs ys->Tb w L b off cs
 |[],_,_,_,_,_,_,_,_=>by simp[Tb]
 |c::cs,off,ys,pre,post,hb,hp,hl,h=>by simp only[oa] at h;obtain⟨y,iY,rfl,h1,h2⟩:=h;simp only[Ma] at hl;simp only[Tb];refine⟨by omega,⟨y,?_,h1⟩,Tb.of_heap (pre++[y]) post (by simpa using hb) (by simp[hp]) ga h2⟩;simp only[World.cell?,hb];subst hp;simp
theorem Zc.of_heap{w:World}{L:Live}{b k:Nat}{t:TypeId}{fr:Nat×Nat}:∀ {es:List LV} {off:Nat} {vs:List Value} (pre post:List Value),w.heap[b]? = some (.cells (pre++vs.flatMap (λv=>v.cells.toList)++post).toArray t fr)->pre.length=off ->
  off+es.length * k<=L b->(∀ v∈es,v.cells? = some v.cells/\v.cells.length=k)->oa w L es vs->Zc w L b k off es
 |[],_,_,_,_,_,_,_,_,_=>by simp[Zc]
 |c::cs,off,vs,pre,post,hb,hp,hl,hk,h=>by
  simp only[oa] at h;obtain⟨y,iY,rfl,h1,h2⟩:=h;have hc:=hk c (by simp);have hr:=h1.cells hc.1;have bH:y.cells.size=k:=by rw[<-hc.2,<-hr.length];simp
  simp only[Ma,add_mul,Nat.one_mul] at hl;refine Zc.cons hc.2 (Tb.of_heap (t:=t) (fr:=fr) pre (iY.flatMap (λv=>v.cells.toList)++post) (by simpa using hb) hp (by simp[bH];omega) hr) ?_;exact Zc.of_heap (t:=t) (fr:=fr) (pre++y.cells.toList) post (by simpa using hb) (by simp[hp,bH]) ga (λv hv=>hk v (Oc _ hv)) h2
def uB(s:Nat)(es:List LV):Prop:=∀ v∈es,v.cells? = some v.cells/\v.cells.length=s
theorem pj:uB s []:=by simp[uB]
theorem Qd{e:LV}(h1:e.cells? = some e.cells)(h2:e.cells.length=s)(h:uB s es):uB s (e::es):=λv hv=>by rcases Dc.1 hv with rfl|hv;exact⟨h1,h2⟩;exact h v hv
theorem qgI{s:Nat}:∀ (vs:List Value),(∀ v∈vs,v.cells.size=s)->(vs.flatMap λv=>v.cells.toList).length=vs.length * s
 |[],_=>by simp
 |v::vs,h=>by have ih:=qgI vs λu hu=>h u (Oc _ hu);have hv:=h v (by simp);simp only[flatMap_cons,Ga,ih,Ma,Array.length_toList,hv,add_mul];omega
theorem O3{w:World}{L:Live}{s:Nat}:∀ {es:List LV} {vs:List Value},oa w L es vs->uB s es->∀ v∈vs,v.cells.size=s
 |[],_,h,_=>by simp only[oa] at h;subst h;simp
 |c::cs,_,h,hc=>by simp only[oa] at h;obtain⟨y,ys,rfl,h1,h2⟩:=h;intro v hv;rcases Dc.1 hv with rfl|hv;have:=hc c (by simp);rw[<-this.2,<-(h1.cells this.1).length];simp;exact O3 h2 (λu hu=>hc u (Oc _ hu)) v hv
theorem qj7(hH:Ta C w L []){vs rest:List Value}(hr:oa w L es vs)(Kc:uB s es)(ri:es.length<=cap)(ae:cap * s<=es.length * s+rest.length)
  (hk:∀ b,K (.app b cap s es) [(b,.row (es.length * s))]) :
  Left C w L [] (World.push w (.cells (vs.flatMap (λv=>v.cells.toList)++rest).toArray t)) (.slice (some ⟨w.heap.size,0,none⟩) es.length cap) K:=by
 have hl:=hr.length;have yl:=qgI vs (O3 hr Kc);rw[hl] at yl;have hx:=DI hH.wf (.cells (vs.flatMap (λv=>v.cells.toList)++rest).toArray t) (es.length * s);have:=OE hH (.cells (vs.flatMap (λv=>v.cells.toList)++rest).toArray t) (es.length * s) [(w.heap.size,.row (es.length * s))] (λp hp=>by
  simp only[mem_singleton] at hp;subst hp;exact⟨rfl,by simp[Live.Rd],_,t,(0,0),aw,by simp only[size_toArray,Ga,yl];omega,Nat.zero_le _⟩) (by simp)
 refine⟨.app w.heap.size cap s es,_,_,this.1,this.2,?_,hk _⟩;simp only[Fb];refine⟨trivial,ri,?_,t,_,by simp only[World.shape?,World.push];rw[aw],by simp only[size_toArray,Ga,yl];exact ae⟩;exact Zc.of_heap (t:=t) (fr:=(0,0)) [] rest (by simp only[World.push,nil_append];exact aw) rfl (by simp[Live.Rd]) Kc (hr.mono hx _ _)
theorem ab.buildSlice{t el s:Nat}{zs:List Value} [ht:Qa C.P t el s] [hz:Mi C.P el zs]{xs:List Operand}(Kc:uB s (xs.map e.ev))(ae:xs.length * s<=16777216){parts:List (Nat×Operand)}(hp:parts=(List.range xs.length).zip xs)
  {len:Nat} (ma:len=xs.length) (hk:∀ b,K (.app b len s (xs.map e.ev)) [(b,.row (len * s))]):ab C ⟨dst,.buildSlice t len parts.toArray,ty,ra,ua,g⟩ e [] K X:=λρ w L h hH=>by
 subst ma hp;obtain⟨i,hi,I7⟩:=ht.size;obtain⟨v0,eH,iM⟩:=E0 (P:=C.P) (t:=el) w;have hr:=JQ h xs;have oX:=O3 hr Kc;have h3:execOp ρ ⟨dst,.buildSlice t xs.length ((List.range xs.length).zip xs).toArray,ty,ra,ua,g⟩=(do Pure.pure (.value (<-Instr.buildSlice t xs.length (((List.range xs.length).zip xs).toArray.map λ(i,x)=>(i,ρ x))))):=rfl
 have dv:(((List.range xs.length).zip xs).map λp=>(p.1,ρ p.2))=(List.range' 0 (xs.map ρ).length).zip (xs.map ρ):=by rw[Mb,<-List.range_eq_range',List.zip_map_right];try rfl
 have key:∀ (aC:Array Value),Instr.fill (λi=>some (i * s,s)) ((Array.range (xs.length * s)).map (aC[· % aC.size]!)) (((List.range xs.length).zip xs).toArray.map λ(i,x)=>(i,ρ x)).toList =
   some ((xs.map ρ).flatMap λv=>Value.cells v |>.toList).toArray:=λaC=>by
  have bM:=qqM (size:=s) (xs.map ρ) 0 ((Array.range (xs.length * s)).map (aC[· % aC.size]!)).toList oX (by simp);rw[Array.toArray_toList] at bM;have dw:(((List.range xs.length).zip xs).toArray.map λ(i,x)=>(i,ρ x)).toList=(List.range' 0 (xs.map ρ).length).zip (xs.map ρ):=by rw[<-dv];simp
  rw[dw,bM];simp
 have jM:(Instr.buildSlice t xs.length (((List.range xs.length).zip xs).toArray.map λ(i,x)=>(i,ρ x))).run C.P w =
   .ok (.slice (some ⟨w.heap.size,0,none⟩) xs.length xs.length) (World.push w (.cells ((xs.map ρ).flatMap λv=>Value.cells v |>.toList).toArray el)):=by
  have hg:¬ (xs.length * s > 2 ^ 24):=by simp;omega
  simp only[Instr.buildSlice,Lc,Fe ht.af,jd,MC hi,I7];rw[zn hg];by_cases h0:xs.length * s=0;rw[zp h0];simp only[Lc,Xd,jd,key #[]];rfl;rw[zn h0];simp only[Lc,Xd,jd,eH,key v0.cells];rfl
 rw[h3,Lc,jM];have:=qj7 (K:=K) (t:=el) (cap:=xs.length) (rest:=[]) hH hr Kc (by simp) (by simp) (by simpa using hk);simp only[ue,Mb] at this;exact this
theorem Tb.append{w:World}{L:Live}{b:Nat}:∀ {Sc bs:List LV} {off:Nat},Tb w L b off Sc->Tb w L b (off+Sc.length) bs->Tb w L b off (Sc++bs)
 |[],_,_,_,h=>by simpa using h
 |a::Sc,bs,off,h1,h2=>by simp only[Tb,List.cons_append] at h1 ⊢;refine⟨h1.1,h1.2.1,Tb.append h1.2.2 ?_⟩;simpa [show off+1+Sc.length=off+(Sc.length+1) by omega] using h2
theorem Tb.left{bs:List LV}(h:Tb w L b off (Sc++bs)):Tb w L b off Sc:=by have:=h.take Sc.length;simpa using this
theorem Tb.right{bs:List LV}(h:Tb w L b off (Sc++bs)):Tb w L b (off+Sc.length) bs:=by have:=h.drop Sc.length;simpa using this
theorem Zc.H9{w:World}{L:Live}{b k:Nat}:∀ {es:List LV} {off:Nat},Zc w L b k off es->Tb w L b off (es.flatMap LV.cells)
 |[],_,_=>by simp[Tb]
 |e::es,off,h=>by have h1:=h.cell;rw[flatMap_cons];refine Tb.append h1.2 ?_;rw[h1.1];exact Zc.H9 h.tail
theorem Zc.gX{w:World}{L:Live}{b k:Nat}:∀ {es:List LV} {off:Nat},(∀ e∈es,e.cells.length=k)->Tb w L b off (es.flatMap LV.cells)->Zc w L b k off es
 |[],_,_,_=>by simp[Zc]
 |e::es,off,hk,h=>by rw[flatMap_cons] at h;have h1:=hk e (by simp);refine Zc.cons h1 h.left (Zc.gX (λv hv=>hk v (Oc _ hv)) ?_);rw[<-h1];exact h.right
theorem Zc.sy{w:World}{L:Live}{b k:Nat}:∀ {es:List LV} {off:Nat},Zc w L b k off es->∀ e∈es,e.cells.length=k
 |[],_,_=>by simp
 |e::es,_,h=>λv hv=>by rcases Dc.1 hv with rfl|hv;exact h.cell.1;exact Zc.sy h.tail v hv
theorem VN{k:Nat}:∀ {es:List LV},(∀ e∈es,e.cells.length=k)->(es.flatMap LV.cells).length=es.length * k
 |[],_=>by simp
 |e::es,h=>by rw[flatMap_cons,Ga,h e (by simp),VN λv hv=>h v (Oc _ hv),Ma,add_mul];omega
theorem Tb.Gi{w:World}{L:Live}{b:Nat}:∀ {cs:List LV} {off:Nat} {ys:List Value},oa w L cs ys->off+ys.length<=L b->(∀ j x,ys[j]? = some x->w.cell? ⟨b,off+j,none⟩=some x)->Tb w L b off cs
 |[],_,_,_,_,_=>by simp[Tb]
 |c::cs,off,_,h,hl,hc=>by
  simp only[oa] at h;obtain⟨y,ys,rfl,h1,h2⟩:=h;simp only[Ma] at hl;simp only[Tb];refine⟨by omega,⟨y,hc 0 y rfl,h1⟩,Tb.Gi h2 ga λj x hx=>?_⟩;have:=hc (j+1) x (by simpa using hx)
  rwa [show off+(j+1)=off+1+j by omega] at this
class ui (P:Program) (el:TypeId) (s bytes:outParam Nat):Prop where
 out:∃ i v,P.info? el=some i/\i.size=s/\i.bytes=bytes/\0<bytes/\i.zero=some v/\v.cells.size=s
def Z'(P:Program)(el s bytes:Nat):Bool:=
 match P.info? el with
 |some i=>i.size == s && i.bytes == bytes && Nat.blt 0 bytes && (match i.zero with|some v=>v.cells.size == s|none=>false)
 |none=>false
theorem ui.of(h:Z' P el s bytes=true):ui P el s bytes:=by
 unfold Z' at h;cases hi:P.info? el with
 |none=>rw[hi] at h;simp at h
 |some i=>
  rw[hi] at h;simp only[Ed,beq_iff_eq] at h;obtain⟨⟨⟨h1,h2⟩,h3⟩,h4⟩:=h;cases hz:i.zero with
  |none=>rw[hz] at h4;simp at h4
  |some v=>rw[hz] at h4;exact⟨i,v,hi,h1,h2,by simpa using h3,hz,by simpa using h4⟩
theorem ZW{xT:Nat} [ht:Qa P sT el s] [hr:ui P el s bytes]{a:Option Addr}
  (Sy:P.underlying xT=some .string∨∃ e2,P.underlying xT=some (.slice e2)) (ma:∀ w':World,(Builtin.lenOf xv).run P w'=.ok n w')
  (qm:∀ w':World,w'.heap=w.heap->(Builtin.firstCells s n xv).run P w'=.ok new.toArray w') (hc:len+n<=cap) :
  (Builtin.append_ #[sT,xT] ty #[.slice a len cap,xv]).run P w =
   ((match a with|some a=>storeCells (a.add (len * s)) new|none=>Pure.pure ()).run P w).andThen λ_ w'=>.ok (.slice a (len+n) cap) w':=by
 obtain⟨i,z,hi,hs,hb,Wf,hz,lX⟩:=hr.out;subst hs;have hn:=qm w rfl;rcases Sy with hd|⟨e2,hd⟩ <;> cases a <;> simp[Builtin.append_,Fe ht.af,Fe hd,sizeOf,typeInfo,hi,ma,hc,hn]
theorem RI{xT:Nat} [ht:Qa P sT el s] [hr:ui P el s bytes]{a:Option Addr}{old:List Value}
  (Sy:P.underlying xT=some .string∨∃ e2,P.underlying xT=some (.slice e2)) (ma:∀ w':World,(Builtin.lenOf xv).run P w'=.ok n w')
  (qm:∀ w':World,w'.heap=w.heap->(Builtin.firstCells s n xv).run P w'=.ok new.toArray w') (hold:∀ w':World,w'.heap=w.heap->(Builtin.firstCells s len (.slice a len cap)).run P w'=.ok old.toArray w')
  (Wa:(len+n) * bytes<=140737488355328) (hc:cap<len+n) :
  ∃ nf rest,len+n<=nf/\rest.length=(nf-(len+n)) * s/\(Builtin.append_ #[sT,xT] ty #[.slice a len cap,xv]).run P w =
   .ok (.slice (some ⟨w.heap.size,0,none⟩) (len+n) nf) (World.push w.drew (.cells (old++new++rest).toArray el)):=by
 obtain⟨i,z,hi,hs,hb,Wf,hz,lX⟩:=hr.out;subst hs;have hn':¬ (len+n<=cap):=by omega
 have hmul:len+n<=(len+n) * bytes:=Nat.le_mul_of_pos_right _ Wf;have wM:¬ (9223372036854775807<((len:Int)+(n:Int))):=by omega
 have Ge:=growslice_fits (bytes:=bytes) hc Wa;have yM:¬ (281474976710656<Builtin.nextslicecap (len+n) cap * i.bytes):=by rw[hb];omega
 have hf:=qm w.drew rfl;have hfo:=hold w.drew rfl;refine⟨grownCap w (len+n) cap el,(Builtin.zeroCells z.cells (grownCap w (len+n) cap el-(len+n))).toList,?_,?_,?_⟩;simp[grownCap,Question.cut];simp[Builtin.zeroCells,lX];rcases Sy with hd|⟨e2,hd⟩;all_goals
  simp[Builtin.append_,Fe ht.af,Fe hd,sizeOf,typeInfo,zeroValue,hi,hz,ma,hn',wM,yM,Question.forced,hf,hfo,newRow,grownCap];show World.push w.drew _=World.push w.drew _;congr 2;apply Array.ext';simp
theorem Fr.wide{K K':List Nat}{L':Live}(h:Fr K w L w' L' H')(hk:∀ b∈K,b∈K'):Fr K' w L w' L' H':=
 ⟨h.os,h.tape,h.output,h.ext,λb hb hn=>h.block b hb λk=>hn (hk b k),λb hb hn=>h.fk b hb λk=>hn (hk b k),λp hp=>(h.mD p hp).imp (hk _) id⟩
theorem Fr.xf{K:List Nat}{L':Live}(h:Fr K w.drew L w' L' H'):Fr K w L w' L' H':=
 ⟨h.os,h.tape,h.output,⟨h.ext.size,h.ext.shape,h.ext.live,h.ext.mono⟩,h.block,h.fk,h.mD⟩
theorem zI(w:World)(L:Live):Ext w L w.drew L:=⟨Pb _,λ_ _=>rfl,λ_ _ _=>rfl,λ_=>Pb _⟩
theorem Ta.drew{w:World}{L:Live}(h:Ta C w L H):Ta C w.drew L H:=
 ⟨h.base.drew,h.sj,h.b0,h.wf,h.nodup,λp hp=>⟨(h.Bc p hp).1,(h.Bc p hp).2.1,(h.Bc p hp).2.2.IL (zI w L) rfl rfl⟩⟩
theorem qi8(hH:Ta C w L []){es:List LV}{rest:List Value}(hr:oa w L (es.flatMap LV.cells) xs)(Kc:∀ v∈es,v.cells.length=s)(ri:es.length<=cap)(ae:cap * s<=es.length * s+rest.length)
  (hk:∀ b,K (.app b cap s es) [(b,.row (es.length * s))]) :
  Left C w L [] (World.push w (.cells (xs++rest).toArray t)) (.slice (some ⟨w.heap.size,0,none⟩) es.length cap) K:=by
 have hl:xs.length=es.length * s:=by rw[hr.length,VN Kc]
 have hx:=DI hH.wf (.cells (xs++rest).toArray t) (es.length * s);have:=OE hH (.cells (xs++rest).toArray t) (es.length * s) [(w.heap.size,.row (es.length * s))] (λp hp=>by
  simp only[mem_singleton] at hp;subst hp;exact⟨rfl,by simp[Live.Rd],_,t,(0,0),aw,by simp only[size_toArray,Ga,hl];omega,Nat.zero_le _⟩) (by simp)
 refine⟨.app w.heap.size cap s es,_,_,this.1,this.2,?_,hk _⟩;simp only[Fb];refine⟨trivial,ri,?_,t,_,by simp only[World.shape?,World.push];rw[aw],by simp only[size_toArray,Ga,hl];exact ae⟩;refine Zc.gX Kc (Tb.Gi (hr.mono hx _ _) (by simp[Live.Rd,hl]) λj x hj=>?_);have hb:(World.push w (.cells (xs++rest).toArray t)).heap[w.heap.size]? = some (.cells (xs++rest).toArray t (0,0)):=aw;simp only[World.cell?,hb];simp only[isSome_none,Il,if_false,zero_add,List.getElem?_toArray];rw[List.getElem?_append_left (List.getElem?_eq_some_iff.1 hj).1];exact hj
theorem ZK{v:Value}{es:List LV}(h:Fb w L lv v)(he:elems lv=some es)(hs:∀ v∈es,v.cells.length=s) :
  ∃ a cap xs,v=.slice a es.length cap/\es.length<=cap/\oa w L (es.flatMap LV.cells) xs/\xs.length=es.length * s /\
   ∀ (P:Program) (w':World),w'.heap=w.heap->(Builtin.firstCells s es.length v).run P w'=.ok xs.toArray w':=by
 obtain⟨a,cap,rfl,hc,hr⟩:=h.elems he;by_cases xb:es=[];subst xb;refine⟨a,cap,[],rfl,hc,by simp[oa],by simp,λP w' _=>?_⟩;cases a <;> simp[Builtin.firstCells,loadCells,loadCellsFrom];obtain⟨b,off,k,rfl,mH⟩:=hr xb
 have hk:k=s:=by obtain⟨e0,rest,he⟩:=List.exists_cons_of_ne_nil xb;subst he;exact mH.cell.1.symm.trans (hs e0 (by simp))
 subst hk;obtain⟨xs,h1,h2⟩:=mH.H9.values;have hl:xs.length=es.length * k:=by rw[h1.length,VN hs]
 refine⟨_,cap,xs,rfl,hc,h1,hl,λP w' hw=>?_⟩
 have:=kO (P:=P) (w:=w') (b:=b) (off:=off) (es.length * k) 0 #[] xs hl (λj x hj=>by
  have:=(h2 j x hj).2;simp only[World.cell?] at this ⊢;rw[hw];simpa using this)
 simp only[Builtin.firstCells,loadCells,this];simp
theorem ab.OA{xT:Nat} [ht:Qa C.P sT el s] [hr:ui C.P el s bytes](RD:nh=#[sT,xT])(Sy:∃ e2,C.P.underlying xT=some (.slice e2)){ms:List LV}
  (hx:e.ev x=fc) (hy:elems (e.ev y)=some ms) (xb:ms≠[]) (hs:∀ v∈ms,v.cells.length=s) (Wa:ms.length * bytes<=140737488355328)
  (hk:∀ b cap,K (.app b cap s ms) [(b,.row (ms.length * s))]) :
  ab C ⟨dst,.call { callee:=.builtin .append,args:=#[x,y],argTypes:=nh },ty,ra,ua,g⟩ e [] K X:=λρ w L h hH=>by
 subst RD;obtain⟨a,cap,xs,hv,hc,h1,h2,h3⟩:=ZK (h y) hy hs;have h0:∀ (cs:Array Bool) (args:Array Value),builtin .append #[sT,xT] ty cs args=(do Pure.pure (.value (<-Builtin.append_ #[sT,xT] ty args))):=λ_ _=>rfl;have AA:0<ms.length:=List.length_pos_iff.2 xb
 obtain⟨nf,rest,r1,r2,r3⟩:=RI (ty:=ty) (P:=C.P) (w:=w) (sT:=sT) (xT:=xT) (a:=none) (len:=0) (cap:=0) (n:=ms.length) (xv:=ρ y) (old:=[]) (new:=xs) (.inr Sy) (λw'=>by rw[hv];try rfl) (λw' hw=>h3 C.P w' hw)
  (λw' _=>by simp[Builtin.firstCells]) (by simpa using Wa) ga
 rw[Xs,h0];simp only[map_toArray,yd,map_nil,Lc,nc h hx,r3,jd,Xd,nil_append,zero_add];obtain⟨lv,H',L',g1,g2,g3,g4⟩:=qi8 (K:=K) (t:=el) (cap:=nf) (rest:=rest) hH.drew (h1.mono (zI w L) _ _) hs ga (by
  rw[r2,<-add_mul];exact Nat.mul_le_mul_right _ ga) λb=>hk b nf
 exact⟨lv,H',L',g1.xf,g2,g3,g4⟩
theorem Zc.append{w:World}{L:Live}{b k:Nat}:∀ {Sc bs:List LV} {off:Nat},Zc w L b k off Sc->Zc w L b k (off+Sc.length * k) bs->Zc w L b k off (Sc++bs)
 |[],_,_,_,h=>by simpa using h
 |a::Sc,bs,off,h1,h2=>by rw[List.cons_append];refine Zc.cons h1.cell.1 h1.cell.2 (Zc.append h1.tail ?_);simpa [add_mul,Nat.add_assoc,Nat.add_comm,Nat.add_left_comm] using h2
theorem qui{m:Nat}{ms:List LV}{xs:Array Value}{t:TypeId}{fr:Nat×Nat}{news:List Value}(hH:Ta C w L [(b,.row n)])(hn:n=es.length * s)(hm:m=ms.length * s)
  (hb:w.heap[b]? = some (.cells xs t fr)) (ae:cap * s<=xs.size) (ri:es.length+ms.length<=cap) (yD:Zc w L b s 0 es) (hs:∀ v∈ms,v.cells.length=s) (nJ:oa w L (ms.flatMap LV.cells) news)
  (h1:w'.os=w.os) (h2:w'.tape=w.tape) (h3:w'.output=w.output) (h4:w'.heap.size=w.heap.size) (h5:∀ c,c≠b->w'.heap[c]? = w.heap[c]?)
  (h6:w'.heap[b]? = some (.cells (xs.toList.take n++news++xs.toList.drop (n+news.length)).toArray t fr)) (hk:K (.app b cap s (es++ms)) [(b,.row ((es++ms).length * s))]) :
  Left C w L [(b,.row n)] w' (.slice (some ⟨b,0,none⟩) (es.length+ms.length) cap) K:=by
 obtain⟨Wf,vh,hl,xs2,t2,fr2,Kd,me,Uy⟩:=hH.Bc _ (Sq rfl);simp only at Wf vh hl Kd me Uy;rw[hb] at Kd;simp only[Ym,Obj.cells.injEq] at Kd;obtain⟨rfl,rfl,rfl⟩:=Kd;have Ir:news.length=m:=by rw[nJ.length,VN hs,hm]
 have PL:n+m<=cap * s:=by rw[hn,hm,<-add_mul];exact Nat.mul_le_mul_right _ ri
 have vD:(xs.toList.take n++news++xs.toList.drop (n+news.length)).toArray.size=xs.size:=by simp[Ir];omega
 have hx:Ext w L w' (L.Rd b (n+m)):=by
  refine⟨by rw[h4];exact Pb _,λc hc=>?_,λc i hi=>?_,λc=>?_⟩
  by_cases he:c=b;subst he;simp only[World.shape?,hb,h6,vD];exact QI (h5 c he);by_cases he:c=b;subst he;rw[hl] at hi;simp only[World.cell?,hb,h6,isSome_none,Il,if_false,List.getElem?_toArray];rw[Yc,List.getElem?_append_left (by simp;omega),List.getElem?_take,zp hi];simp;exact cell_of_heap (h5 c he) i;unfold Live.Rd;split;rename_i h;subst h;omega;exact Pb _
 have sD:(es++ms).length * s=n+m:=by rw[Ga,add_mul,<-hn,<-hm]
 refine⟨.app b cap s (es++ms),[(b,.row ((es++ms).length * s))],L.Rd b (n+m),⟨h1,h2,h3,hx,λc hc hn=>h5 c (by simpa using hn),λc hc hn=>?_,λp hp=>.inl (by simp only[mem_singleton] at hp;subst hp;simp)⟩,
  ⟨?_,trivial,by rw[h4];exact hH.b0,λc hc=>?_,by simp,λp hp=>?_⟩,?_,hk⟩
 have xb:c≠b:=by simpa using hn
 simp only[Live.Rd,zn xb];exact hH.base.trans ⟨h1,h2,h3,by rw[h4];exact Pb _,λc hc=>h5 c ga⟩;rw[h4] at hc;have xb:c≠b:=by omega
 simp only[Live.Rd,zn xb];exact hH.wf c hc;simp only[mem_singleton] at hp;subst hp;refine⟨Wf,by rw[h4];exact vh,by simp only[Live.Rd,if_true];exact sD.symm,_,t,fr,h6,by rw[vD,sD];omega,by omega⟩;simp only[Fb];refine⟨by simp,by simp;exact ri,Zc.append (yD.mono hx _ _ _ _) (Zc.gX hs (Tb.Gi (nJ.mono hx _ _) ?_ λj x hj=>?_)),t,_,by simp only[World.shape?,h6];rfl,by rw[vD];exact ae⟩;simp[Live.Rd,<-hn,Ir];have hjl:=(List.getElem?_eq_some_iff.1 hj).1;simp only[World.cell?,h6,isSome_none,Il,if_false,List.getElem?_toArray,zero_add,<-hn];rw[Yc,List.getElem?_append_right (by simp;omega),List.getElem?_append_left (by simp;omega)]
 simp;rw[show n+j-min n xs.size=j by omega];exact hj
theorem qpO{xT:Nat} [ht:Qa C.P sT el s] [hr:ui C.P el s bytes](Sy:C.P.underlying xT=some .string∨∃ e2,C.P.underlying xT=some (.slice e2)){ms:List LV}{new:List Value}
  (hH:Ta C w L [(b,.row (es.length * s))]) (gJ:Fb w L (.app b cap s es) (.slice (some ⟨b,0,none⟩) es.length cap)) (ma:∀ w':World,(Builtin.lenOf xv).run C.P w'=.ok ms.length w')
  (qm:∀ w':World,w'.heap=w.heap->(Builtin.firstCells s ms.length xv).run C.P w'=.ok new.toArray w') (ox:oa w L (ms.flatMap LV.cells) new) (hs:∀ v∈ms,v.cells.length=s)
  (MD:∀ v∈new,(∀ cs,v≠.agg cs)/\(∀ cs,v≠.tuple cs)) (Wa:(es.length+ms.length) * bytes<=140737488355328)
  (hk:∀ b' nf,K (.app b' nf s (es++ms)) [(b',.row ((es++ms).length * s))]) :
  ∃ v w',(Builtin.append_ #[sT,xT] ty #[.slice (some ⟨b,0,none⟩) es.length cap,xv]).run C.P w=.ok v w'/\Left C w L [(b,.row (es.length * s))] w' v K:=by
 have E6:=gJ;simp only[Fb] at gJ;obtain⟨_,cf,yD,te,ts,wD,dz⟩:=gJ;obtain⟨Wf,vh,hl,xs,t,fr,Kd,me,Uy⟩:=hH.Bc _ (Sq rfl);simp only at Wf vh hl Kd me Uy;simp only[World.shape?,Kd,Ym,Prod.mk.injEq] at wD;obtain⟨rfl,rfl⟩:=wD;have Ir:new.length=ms.length * s:=by rw[ox.length,VN hs]
 by_cases hc:es.length+ms.length<=cap;have Cf:=ZW (ty:=ty) (P:=C.P) (w:=w) (sT:=sT) (xT:=xT) (a:=some ⟨b,0,none⟩) (len:=es.length) (cap:=cap) Sy ma qm hc;have PL:es.length * s+ms.length * s<=cap * s:=by rw[<-add_mul];exact Nat.mul_le_mul_right _ hc
 obtain⟨w',r1,r2,r3,r4,r5,r6,r7⟩:=jO (P:=C.P) (b:=b) (off:=0+es.length * s) (t:=t) (fr:=fr) new 0 w xs.toList (by simpa using Kd) (by simp;omega) (λj h1 h2 h3=>by omega) MD;refine⟨_,w',?_,qui (cap:=cap) (news:=new) (xs:=xs) hH rfl rfl Kd dz hc yD hs ox r2 r3 r4 r5 r6 (by simpa using r7) (hk b cap)⟩;rw[Cf];simp only[Pg,r1,jd];obtain⟨a2,iU,old,hv,We,h1,h2,h3⟩:=ZK E6 (es:=es) (s:=s) rfl yD.sy;simp only[Value.slice.injEq] at hv;obtain⟨rfl,_,rfl⟩:=hv;obtain⟨nf,rest,r1,r2,r3⟩:=RI (ty:=ty) (P:=C.P) (w:=w) (sT:=sT) (xT:=xT) (a:=some ⟨b,0,none⟩) (len:=es.length) (cap:=cap) Sy ma qm (λw' hw=>h3 C.P w' hw) Wa ga;refine⟨_,_,r3,?_⟩;have XD:Ta C w L []:=hH.sub (nil_sublist _);obtain⟨lv,H',L',g1,g2,g3,g4⟩:=qi8 (K:=K) (t:=el) (s:=s) (cap:=nf) (es:=es++ms) (rest:=rest) XD.drew (by
   rw[List.flatMap_append];exact(h1.append ox).mono (zI w L) _ _) (λv hv=>by
   rcases xj hv with hv|hv;exact yD.sy v hv;exact hs v hv) (by simp;omega) (by
   rw[r2,<-add_mul,Ga];exact Nat.mul_le_mul_right _ ga) λb'=>hk b' nf
 rw[Ga] at g3;exact⟨lv,H',L',g1.xf.wide (by simp),g2,g3,g4⟩
theorem ab.PA{xT:Nat} [ht:Qa C.P sT el s] [hr:ui C.P el s bytes](RD:nh=#[sT,xT])(Sy:∃ e2,C.P.underlying xT=some (.slice e2)){ms:List LV}
  (hx:e.ev x=.app b cap s es) (hn:n=es.length * s) (hy:elems (e.ev y)=some ms) (hs:∀ v∈ms,v.cells.length=s) (Kc:(ms.flatMap LV.cells).all Vs=true) (Wa:(es.length+ms.length) * bytes<=140737488355328)
  (hk:∀ b' nf,K (.app b' nf s (es++ms)) [(b',.row ((es++ms).length * s))]) :
  ab C ⟨dst,.call { callee:=.builtin .append,args:=#[x,y],argTypes:=nh },ty,ra,ua,g⟩ e [(b,.row n)] K X:=λρ w L h hH=>by
 subst RD hn;obtain⟨a,iU,xs,hv,hc,h1,h2,h3⟩:=ZK (h y) hy hs;have gJ:=h x;rw[hx] at gJ;have hxv:ρ x=.slice (some ⟨b,0,none⟩) es.length cap:=by have h':=gJ;simp only[Fb] at h';exact h'.1
 rw[hxv] at gJ;have h0:∀ (cs:Array Bool) (args:Array Value),builtin .append #[sT,xT] ty cs args=(do Pure.pure (.value (<-Builtin.append_ #[sT,xT] ty args))):=λ_ _=>rfl;obtain⟨v,w',r1,r2⟩:=qpO (ty:=ty) (K:=K) (sT:=sT) (xT:=xT) (.inr Sy) hH gJ (xv:=ρ y) (ms:=ms) (λw'=>by rw[hv];try rfl) (λw' hw=>h3 C.P w' hw) h1 hs (TV h1 Kc) Wa hk;rw[Xs,h0];simp only[map_toArray,yd,map_nil,Lc,hxv,r1,jd,Xd];exact r2
theorem ab.Em{xT:Nat} [ht:Qa C.P sT el s](RD:nh=#[sT,xT])(Sy:∃ e2,C.P.underlying xT=some (.slice e2))(hx:e.ev x=fc)(hy:elems (e.ev y)=some [])(hk:K fc H) :
  ab C ⟨dst,.call { callee:=.builtin .append,args:=#[x,y],argTypes:=nh },ty,ra,ua,g⟩ e H K X:=λρ w L h hH=>by
 subst RD;obtain⟨a,cap,hv,_⟩:=(h y).elems hy;obtain⟨i,hi,I7⟩:=ht.size;obtain⟨e2,Sy⟩:=Sy;have h0:∀ (cs:Array Bool) (args:Array Value),builtin .append #[sT,xT] ty cs args=(do Pure.pure (.value (<-Builtin.append_ #[sT,xT] ty args))):=λ_ _=>rfl
 have hr:(Builtin.append_ #[sT,xT] ty #[.slice none 0 0,.slice a 0 cap]).run C.P w=.ok (.slice none 0 0) w:=by cases a <;> simp[Builtin.append_,Fe ht.af,Fe Sy,sizeOf,typeInfo,hi,Builtin.lenOf,Builtin.firstCells,loadCells,loadCellsFrom]
 rw[Xs,h0];simp only[map_toArray,yd,map_nil,Lc,nc h hx,hv,qc,hr,jd,Xd];exact⟨_,H,L,Fr.refl _ _ _,hH,Ld,hk⟩
end steps
class Yt (P:Program):Prop where
 out:P.follows .mixedOrders=true
def QC(C:Ctx)(w:World)(L:Live)(w':World):Prop:=∃ L',Fr (keys []) w L w' L' []/\Ta C w' L' []
theorem QC.agree(h:QC C w L w')(hH:Ta C w L H):Ps w L H w':=
 let ⟨_,f,_⟩:=h
 ⟨λp hp=>f.block p.1 (hH.Bc p hp).2.1 (by simp),f.ext.live⟩
theorem Ta.empty(h:Ta C w L H):Ta C w L []:=h.sub (nil_sublist _)
def LQ(C:Ctx)(n:Nat)(Sa:Array Oper)(K:Env->Prop)(rest:List Oper)(e:Env)(H:Heap):Prop:=
 ∀ a w L,Ec n a e w L->Ta C w L H->wpQuiet C.P Sa (QC C w L) (λa'=>∃ e',Ec n a' e' w L/\K e') rest a
section quiet
variable{C:Ctx}{n:Nat}{Sa:Array Oper}{K:Env->Prop}{e:Env}{H:Heap}{dst:Option Nat}{op:Op}{ty:TypeId}{ra:String}{ua:Array Edge}{rest:List Oper}
theorem LQ.nil(h:K e):LQ C n Sa K [] e H:=λ_ _ _ hE _=>⟨e,hE,h⟩
theorem qpg{C:World->Prop}{Q:Act->Prop}{a:Act}(hg:Region.wanted o (yielded Sa a.tmps)=true)(h:∀ w',C w'->o.quietAt P a C w' v)(k:wpQuiet P Sa C Q rest (a.put o.dst v)):wpQuiet P Sa C Q (o::rest) a:=by unfold wpQuiet;rw[zp hg];exact⟨v,h,k⟩
theorem qP(h:Pure C ⟨dst,op,ty,ra,ua,none⟩ e H lv)(hd:Im n dst)(k:LQ C n Sa K rest (e.put dst lv) H):LQ C n Sa K (⟨dst,op,ty,ra,ua,none⟩::rest) e H:=λa w L hE hH=>by obtain⟨v,hv,hr⟩:=h a.eval w L hE.ev hH;refine qpg (by simp[Region.wanted]) (v:=v) (λw' tO=>?_) (k _ w L (hE.put hd hv) hH);unfold Oper.quietAt;rw[hr w' (tO.agree hH)];exact⟨rfl,rfl⟩
theorem LQ.want{b:Bool}(hj:(Sa[j]?).bind (·.dst)=some d)(hb:e.s d=.atom (.bool b))
  (k:LQ C n Sa K (⟨dst,op,ty,ra,ua,none⟩::rest) e H):LQ C n Sa K (⟨dst,op,ty,ra,ua,some (j,b)⟩::rest) e H:=λa w L hE hH=>by
 have:=k a w L hE hH;unfold wpQuiet at this ⊢;rw[zp (by simp[Region.wanted])] at this;rw[zp (by simp[Region.wanted,bL hE hj hb])];exact this
theorem LQ.skip{b c:Bool}(hj:(Sa[j]?).bind (·.dst)=some d)(hb:e.s d=.atom (.bool b))(xb:b=!c)(hd:Im n dst)
  (k:LQ C n Sa K rest (e.put dst (.atom undef)) H):LQ C n Sa K (⟨dst,op,ty,ra,ua,some (j,c)⟩::rest) e H:=λa w L hE hH=>by
 unfold wpQuiet;rw[zn (by subst xb;cases c <;> simp[Region.wanted,bL hE hj hb])];exact k _ w L (hE.put hd Ld) hH
theorem kb.quiet [hm:Yt C.P] {id:Nat} {l:List Oper}  (hB:Region.lexB .any l.toArray=true) (h:LQ C n l.toArray (λe'=>Q .normal e' H) l e H):kb C n (.region id l.toArray true) Q e H:=λa w L hE hH=>by
 refine wp_region_quiet (C:=QC C w L) hm.out hB ⟨L,⟨rfl,rfl,rfl,zI w L,λ_ _ _=>rfl,λ_ _ _=>rfl,by simp⟩,hH.empty.drew⟩ ?_
 have hq:∀ a' w',QC C w L w'->(∃ e',Ec n a' e' w L/\Q .normal e' H)->lift C n w L (keys H) Q .normal a' w':=by rintro a' w' ⟨L',f1,f2⟩ ⟨e',h1,h2⟩;have:=Ta.frame (H:=[]) (F:=H) (by simpa using hH) f1 f2;exact⟨e',H,L',by simpa using this.2,by simpa using this.1,h1.mono f1.ext,h2⟩
 have mono:∀ (l2:List Oper) (a:Act),wpQuiet C.P l.toArray (QC C w L) (λa'=>∃ e',Ec n a' e' w L/\Q .normal e' H) l2 a->wpQuiet C.P l.toArray (QC C w L) (λa'=>∀ w',QC C w L w'->lift C n w L (keys H) Q .normal a' w') l2 a:=by
  intro l2;induction l2 with
  |nil=>exact λa h w' tO=>hq a w' tO h
  |cons o l2 ih=>intro a h;unfold wpQuiet at h ⊢;split at h;rename_i hw;rw[zp hw];exact Oper.quiet_mono ih h;rename_i hw;rw[zn hw];exact ih _ h
 exact mono _ a (by simpa using h a w L hE hH)
end quiet
def Rb(C:Ctx)(n:Nat)(Sa:Array Oper)(Q:Vc)(HF:Heap)(Ba:Nat)(Da:Array Bool)(e:Env)(H:Heap):Prop:=
 ∀ a w L,Ec n a e w L->Ta C w L H->wpAnyH C.P .any Sa (lift C n w L (keys H) Q) (Ps w L HF) Ba Da a w
def oi(C:Ctx)(n:Nat)(Sa:Array Oper)(Q:Vc)(HF:Heap)(Ba:Nat)(Da:Array Bool)(e:Env)(H:Heap):Prop:=
 ∀ w0 L0 a w L,(∀ b,L0 b<=L b)->Ps w0 L0 HF w->(∀ p∈HF,p.1<w.heap.size)->Ec n a e w L->Ta C w L H->wpAnyH C.P .any Sa (lift C n w L (keys H) Q) (Ps w0 L0 HF) Ba Da a w
theorem Ps.refl(w:World)(L:Live)(H:Heap):Ps w L H w:=⟨λ_ _=>rfl,λ_ _ _=>rfl⟩
theorem HSub.mem{H':Heap}(h:HSub H' H):∀ p∈H',p∈H:=λ_ hp=>
 let ⟨_,hG⟩:=h
 hG.mem_iff.2 (List.mem_append_left _ hp)
theorem YK{P:Program}{md:Region.Mode}{Sa:Array Oper}{Q Q':Exit->Act->World->Prop}{S:World->Prop}(h:∀ e a w,Q e a w->Q' e a w):∀ (Ba:Nat) (Da:Array Bool) (a:Act) (w:World),
  wpAnyH P md Sa Q S Ba Da a w->wpAnyH P md Sa Q' S Ba Da a w
 |0,_,_,_,k=>⟨k.1,h _ _ _ k.2⟩
 |Ba+1,Da,a,w,k=>by
  refine⟨λh0=>h _ _ _ (k.1 h0),λi hi=>?_⟩;have ki:=k.2 i hi;unfold wpOp at ki ⊢;split at ki;exact⟨ki.1,YK h Ba _ _ _ ki.2⟩;split at ki
  rename_i hw;rw[zp hw];rcases ki with ki|⟨k1,a0,w0,k2⟩;refine .inl ?_;unfold Oper.wp at ki ⊢;generalize (execOp _ _).run P w=r at ki ⊢;cases r with
  |ok x w'=>
   cases x <;> simp only[Oper.upon] at ki ⊢ <;> first
    |exact⟨ki.1,YK h Ba _ _ _ ki.2⟩
    |(refine Calls.mono ki λe EP he=>?_;cases e with
      |returned v=>exact⟨he.1,YK h Ba _ _ _ he.2⟩
      |panicked ch=>exact h _ _ _ he
      |outgrown=>obtain⟨a0,w0,he⟩:=he;exact⟨a0,w0,h _ _ _ he⟩)
    |exact Rows.mono ki λ_ _ he=>⟨he.1,YK h Ba _ _ _ he.2⟩
  |halt x w'=>cases x <;> simp only[Oper.upon] at ki ⊢ <;> exact h _ _ _ ki
  exact .inr ⟨k1,a0,w0,h _ _ _ k2⟩;rename_i hw;rw[zn hw];exact⟨ki.1,YK h Ba _ _ _ ki.2⟩
section any
variable{C:Ctx}{n:Nat}{Sa:Array Oper}{Q:Vc}{HF:Heap}{Ba:Nat}{Da:Array Bool}{e:Env}{H:Heap}
theorem qqd(dst:Option Nat)(v:Value):∀ c a w',lift C n w L K Q (.panic c) (a.put dst v) w'->lift C n w L K Q (.panic c) a w':=by rintro c a w' ⟨e',H',L',h1,h2,h3,h4⟩;refine⟨e',H',L',h1,h2,?_,h4⟩;cases dst <;> exact h3
theorem quy{op:Op}{g:Option (Nat×Bool)}{a:Act}(hE:Ec n a e w L)(hH:Ta C w L H)(Kt:HSub HF H)
  (hi:Sa[i]? = some ⟨dst,op,ty,ra,ua,g⟩) (hs:Region.noSelect Sa=true) (hf:Region.free .any Sa Da i=true) (hr:(Region.ready .any Sa Da).contains i=true) (hd:Im n dst)
  (hp:Pure C ⟨dst,op,ty,ra,ua,g⟩ e HF lv) (hw:Region.wanted ⟨dst,op,ty,ra,ua,g⟩ (yielded Sa a.tmps)=true)
  (k:Rb C n Sa Q HF Ba (Da.setIfInBounds i true) (e.put dst lv) H):wpAnyH C.P .any Sa (lift C n w L (keys H) Q) (Ps w L HF) (Ba+1) Da a w:=by
 obtain⟨v,hv,Cf⟩:=hp a.eval w L hE.ev (hH.Yb Kt);exact wpAnyH_take hi hs hf hr (qqd _ _) (.inl ⟨hw,Cf⟩) (Ps.refl _ _ _) (k _ w L (hE.put hd hv) hH)
theorem Rb.take{op:Op}(Kt:HSub HF H)
  (hi:Sa[i]? = some ⟨dst,op,ty,ra,ua,none⟩) (hs:Region.noSelect Sa=true) (hf:Region.free .any Sa Da i=true) (hr:(Region.ready .any Sa Da).contains i=true) (hd:Im n dst)
  (hp:Pure C ⟨dst,op,ty,ra,ua,none⟩ e HF lv) (k:Rb C n Sa Q HF Ba (Da.setIfInBounds i true) (e.put dst lv) H):Rb C n Sa Q HF (Ba+1) Da e H:=λ_ _ _ hE hH=>
 quy hE hH Kt hi hs hf hr hd hp (by simp[Region.wanted]) k
theorem Rb.Ip{b:Bool}{op:Op}(Kt:HSub HF H)
  (hi:Sa[i]? = some ⟨dst,op,ty,ra,ua,some (j,b)⟩) (hj:(Sa[j]?).bind (·.dst)=some d) (hb:e.s d=.atom (.bool b)) (hs:Region.noSelect Sa=true) (hf:Region.free .any Sa Da i=true) (hr:(Region.ready .any Sa Da).contains i=true) (hd:Im n dst)
  (hp:Pure C ⟨dst,op,ty,ra,ua,some (j,b)⟩ e HF lv) (k:Rb C n Sa Q HF Ba (Da.setIfInBounds i true) (e.put dst lv) H):Rb C n Sa Q HF (Ba+1) Da e H:=λ_ _ _ hE hH=>
 quy hE hH Kt hi hs hf hr hd hp (by simp[Region.wanted,bL hE hj hb]) k
theorem Rb.Ai{b c:Bool}{op:Op}
  (hi:Sa[i]? = some ⟨dst,op,ty,ra,ua,some (j,c)⟩) (hj:(Sa[j]?).bind (·.dst)=some d) (hb:e.s d=.atom (.bool b)) (xb:b=!c) (hs:Region.noSelect Sa=true) (hf:Region.free .any Sa Da i=true) (hr:(Region.ready .any Sa Da).contains i=true) (hd:Im n dst)
  (k:Rb C n Sa Q HF Ba (Da.setIfInBounds i true) (e.put dst (.atom undef)) H):Rb C n Sa Q HF (Ba+1) Da e H:=λa w L hE hH=>
 wpAnyH_take hi hs hf hr (qqd _ _) (.inr ⟨by subst xb;cases c <;> simp[Region.wanted,bL hE hj hb],rfl⟩) (Ps.refl _ _ _) (k _ w L (hE.put hd Ld) hH)
theorem aL(h:oi C n Sa Q HF Ba Da e H)(Kt:HSub HF H):Rb C n Sa Q HF Ba Da e H:=λa w L hE hH=>
 h w L a w L (λ_=>Pb _) (Ps.refl _ _ _) (λp hp=>(hH.Bc p (Kt.mem p hp)).2.1) hE hH
theorem lD(hr:Region.ready .any Sa Da=[])(h:Q .normal e H):oi C n Sa Q HF Ba Da e H:=λ_ _ _ _ L _ _ _ hE hH=>
 wpAnyH_done hr ⟨e,H,L,Fr.refl _ _ _,hH,hE,h⟩ Ba
theorem cD [hm:Yt C.P] {id:Nat} {l:List Oper} {m:Nat} (hl:m=l.length) (HF:Heap) (h:Rb C n l.toArray Q HF m (Array.replicate m false) e H):kb C n (.region id l.toArray true) Q e H:=λa w L hE hH=>by subst hl;have:=h a w.drew L (hE.mono (zI w L)) hH.drew;refine wp_region_held (S:=Ps w.drew L HF) hm.out ?_;refine YK (λx a' w' hq=>?_) _ _ _ _ (by simpa using this);obtain⟨e',H',L',h1,h2,h3,h4⟩:=hq;exact⟨e',H',L',h1.xf,h2,h3,h4⟩
end any
section pure
variable{C:Ctx}{e:Env}{H:Heap}{dst:Option Nat}{ty:TypeId}{ra:String}{ua:Array Edge}{g:Option (Nat×Bool)}{x y c a b:Operand}{xT:TypeId}{k:IntKind}{lv:LV}
theorem Cc(hx:e.ev x=lv):Pure C ⟨dst,.move x,ty,ra,ua,g⟩ e H lv:=hx▸Pure.move
theorem pA(hx:e.ev x=lv):Pure C ⟨dst,.assign x,ty,ra,ua,g⟩ e H lv:=hx▸Pure.assign
theorem Pure.Wp(hc:e.ev c=bool true)(ha:e.ev a=lv):Pure C ⟨dst,.pick c a b,ty,ra,ua,g⟩ e H lv:=by have:=Pure.pick (C:=C) (H:=H) (dst:=dst) (ty:=ty) (ra:=ra) (ua:=ua) (g:=g) (a:=a) (b:=b) hc;simp only[if_true] at this;exact ha▸this
theorem Pure.Yl(hc:e.ev c=bool false)(hb:e.ev b=lv):Pure C ⟨dst,.pick c a b,ty,ra,ua,g⟩ e H lv:=by have:=Pure.pick (C:=C) (H:=H) (dst:=dst) (ty:=ty) (ra:=ra) (ua:=ua) (g:=g) (a:=a) (b:=b) hc;simp only[Il,if_false] at this;exact hb▸this
theorem pR [ep C.P t n](hx:e.ev x=.ref cs)(hn:Nat.ble n cs.length=true)(hc:cs.take n=Zb):Pure C ⟨dst,.load t x,ty,ra,ua,g⟩ e H (.agg Zb):=by subst hc;exact Pure.Zw hx (by simpa using hn)
theorem pG [ep C.P t n]{b:Nat}(hx:e.ev x=ptr b off)(hm:(b,ja.cells Aq cs)∈H)(hn:Nat.ble (off+n) cs.length=true)(hc:(cs.drop off).take n=Zb) :
  Pure C ⟨dst,.load t x,ty,ra,ua,g⟩ e H (.agg Zb):=by
 subst hc;exact Pure.fD hx hm (by simpa using hn)
theorem xR [ht:Qa C.P t el s]{n:Int}{Ud:LV}(hx:elems (e.ev x)=some es)(hy:e.ev y=int k n)(h0:0<=n)(hn:es[n.toNat]? = some Ud)(hc:Ud.cells=cs)(hs:cs.length=s) :
  Pure C ⟨dst,.indexAddr t x y,ty,ra,ua,g⟩ e H (.ref cs):=by
 subst hc;exact Pure.indexAddr hx hy h0 hn hs
theorem Pure.Cl{f:Nat} [Fl C.P s f n](hx:e.ev x=.ref cs)(hc:cs.drop n=Zb):Pure C ⟨dst,.fieldAddr s x f,ty,ra,ua,g⟩ e H (.ref Zb):=by subst hc;exact Pure.dE hx
theorem pB{t:TypeId}{pl:List (Nat×Nat)} [hs:Fm C.P t pl] [hz:Mi C.P t zs](parts:List (Nat×Operand))
  (h:RM pl (zs.map .atom) (parts.map λp=>(p.1,e.ev p.2))=some cs):Pure C ⟨dst,.build t parts.toArray,ty,ra,ua,g⟩ e H (.agg cs):=Pure.build h
end pure
section steps
variable{C:Ctx}{e:Env}{H H':Heap}{dst:Option Nat}{op:Op}{ty:TypeId}{ra:String}{ua:Array Edge}{g:Option (Nat×Bool)}{x y:Operand}{K K':LV->Heap->Prop}{X:List PanicEntry->Heap->Prop}
theorem ab.qd(h:ab C o e H K X)(hk:∀ lv H',K lv H'->∃ zL Kh,lv.Sub zL/\HSub Kh H'/\K' zL Kh):ab C o e H K' X:=λρ w L h1 h2=>by
 have:=h ρ w L h1 h2;have lf:∀ {w' v},Left C w L H w' v K->Left C w L H w' v K':=λh=>by obtain⟨lv,H',L',r1,r2,r3,r4⟩:=h;obtain⟨zL,Kh,s1,s2,s3⟩:=hk _ _ r4;exact⟨zL,Kh,L',r1.Yb s2,r2.Yb s2,s1 _ _ _ r3,s3⟩
 unfold rG at this ⊢;split at this;exact lf this;exact lf this;refine⟨this.1,this.2.mono λe w' he=>?_⟩
 cases e with
 |returned v=>exact lf he
 |panicked ch=>exact he
 |outgrown=>exact he
 exact this;exact this.elim
theorem ab.DM{p:Nat×ja}(hp:xd p H F)(h:ab C o e [p] (λlv H'=>K lv (H'++F)) λch H'=>X ch (H'++F)):ab C o e H K X:=ab.frame (H:=[p]) hp h
theorem ab.rF(h:ab C o e [] (λlv H'=>K lv (H'++H)) λch H'=>X ch (H'++H)):ab C o e H K X:=ab.frame (H:=[]) (List.Perm.refl _) h
theorem Sd{t:TypeId} [hz:Mi C.P t zs](hk:∀ b,K (ptr b 0) ((b,.cells t (zs.map .atom))::H)):ab C ⟨dst,.alloc t,ty,ra,ua,g⟩ e H K X:=ab.rF (ab.alloc hk)
theorem sB{t:TypeId}(hx:(e.ev x).cells? = some cs)(hk:∀ b,K (ptr b 0) ((b,.cells t cs)::H)):ab C ⟨dst,.box t x,ty,ra,ua,g⟩ e H K X:=ab.rF (ab.box hx hk)
theorem sL [ht:Qa C.P t el s] [hz:Mi C.P el zs](xs:List Operand)(Fx:xs.map e.ev=es)(Kc:uB s es){parts:List (Nat×Operand)}(hp:parts=(List.range xs.length).zip xs)(ma:len=xs.length)
  (ae:Nat.ble (len * s) 16777216=true) (hk:K (.list es) H):ab C ⟨dst,.buildSlice t len parts.toArray,ty,ra,ua,g⟩ e H K X:=by
 subst Fx;refine ab.rF (ab.qd (K:=λlv H'=>∃ b,lv=.app b len s (xs.map e.ev)) (ab.buildSlice Kc (by subst ma;simpa using ae) hp ma λb=>⟨b,rfl⟩) ?_);rintro lv H' ⟨b,rfl⟩;exact⟨_,[],LV.Sub.app _ _ _ _,HSub.nil _,hk⟩
theorem S.tA [ht:Qa C.P t el s] [hz:Mi C.P el zs](xs:List Operand)(Fx:xs.map e.ev=es)(Kc:uB s es){parts:List (Nat×Operand)}(hp:parts=(List.range xs.length).zip xs)(ma:len=xs.length)
  (ae:Nat.ble (len * s) 16777216=true) (hk:∀ b,K (.app b len s es) ((b,.row (len * s))::H)):ab C ⟨dst,.buildSlice t len parts.toArray,ty,ra,ua,g⟩ e H K X:=by
 subst Fx;exact ab.rF (ab.buildSlice Kc (by subst ma;simpa using ae) hp ma λb=>hk b)
theorem sS [ht:Kv C.P t n](hx:e.ev x=ptr b off)(hp:xd (b,.cells Aq cs) H F)(hy:(e.ev y).cells? = some vs)(hn:vs.length=n)(hl:Nat.ble (off+n) cs.length=true)(Kc:vs.all Vs=true)
  (hc:Mh cs off vs=Zb) (hk:K (.atom undef) ((b,.cells Aq Zb)::F)):ab C ⟨dst,.store t x y,ty,ra,ua,g⟩ e H K X:=by
 subst hc;exact ab.DM hp (ab.store hx hy hn (by simpa using hl) Kc hk)
theorem S.EM [ht:Qa C.P sT el s] [hr:ui C.P el s bytes] [me:Qa C.P xT e2 s2]{ms:List LV}
  (hx:e.ev x=fc) (hy:elems (e.ev y)=some ms) (xb:ms≠[]) (hs:∀ v∈ms,v.cells.length=s) (Wa:ms.length * bytes<=140737488355328)
  (hk:∀ b cap,K (.app b cap s ms) ((b,.row (ms.length * s))::H)):ab C ⟨dst,.call { callee:=.builtin .append,args:=#[x,y],argTypes:=#[sT,xT] },ty,ra,ua,g⟩ e H K X:=
 ab.rF (ab.OA rfl ⟨e2,me.af⟩ hx hy xb hs Wa λb cap=>hk b cap)
theorem S.app{sT xT el s bytes:Nat} [ht:Qa C.P sT el s] [hr:ui C.P el s bytes]{e2 s2:Nat} [me:Qa C.P xT e2 s2]{b cap n:Nat}{es ms:List LV}{F:Heap}
  (hx:e.ev x=.app b cap s es) (hp:xd (b,.row n) H F) (hn:n=es.length * s) (hy:elems (e.ev y)=some ms) (hs:∀ v∈ms,v.cells.length=s) (Kc:(ms.flatMap LV.cells).all Vs=true) (Wa:(es.length+ms.length) * bytes<=140737488355328)
  (hk:∀ b' nf,K (.app b' nf s (es++ms)) ((b',.row ((es++ms).length * s))::F)):ab C ⟨dst,.call { callee:=.builtin .append,args:=#[x,y],argTypes:=#[sT,xT] },ty,ra,ua,g⟩ e H K X:=
 ab.DM hp (ab.PA rfl ⟨e2,me.af⟩ hx hn hy hs Kc Wa λb' nf=>hk b' nf)
theorem S.TA [ht:Qa C.P sT el s] [me:Qa C.P xT e2 s2](hx:e.ev x=fc)(hy:elems (e.ev y)=some [])(hk:K fc H) :
  ab C ⟨dst,.call { callee:=.builtin .append,args:=#[x,y],argTypes:=#[sT,xT] },ty,ra,ua,g⟩ e H K X:=ab.Em rfl ⟨e2,me.af⟩ hx hy hk
inductive Acc (s:Nat):LV->List LV->Heap->Heap->Prop
 |nil {F:Heap}:Acc s fc [] F F
 |row {b cap:Nat} {es:List LV} {F:Heap}:Acc s (.app b cap s es) es ((b,.row (es.length * s))::F) F
theorem Acc.sub(h:Acc s lv es H F):lv.Sub (.list es):=by
 cases h with
 |nil=>exact vN
 |row=>exact LV.Sub.app _ _ _ _
theorem Acc.uD(h:Acc s lv es H F):HSub F H:=by
 cases h with
 |nil=>exact bc _
 |row=>exact Yg (bc _)
theorem Acc.elems{s:Nat}{lv:LV}{es:List LV}{H F:Heap}(h:Acc s lv es H F):GL.elems lv=some es:=by cases h <;> rfl
theorem S.acc [ht:Qa C.P sT el s] [hr:ui C.P el s bytes] [me:Qa C.P xT e2 s2]{v:LV}{ms:List LV}
  (hx:e.ev x=v) (ha:Acc s v es H F) (hy:GL.elems (e.ev y)=some ms) (hs:∀ v∈ms,v.cells.length=s) (Kc:(ms.flatMap LV.cells).all Vs=true) (Wa:(es.length+ms.length) * bytes<=140737488355328)
  (hk:∀ v' H',Acc s v' (es++ms) H' F->K v' H'):ab C ⟨dst,.call { callee:=.builtin .append,args:=#[x,y],argTypes:=#[sT,xT] },ty,ra,ua,g⟩ e H K X:=by
 cases ha with
 |nil=>
  by_cases xb:ms=[];subst xb;exact S.TA hx hy (hk _ _ (by simpa using Acc.nil));refine S.EM hx hy xb hs (by simpa using Wa) λb cap=>hk _ _ ?_
  exact Acc.row
 |row=>exact S.app hx pH rfl hy hs Kc Wa λb' nf=>hk _ _ Acc.row
theorem S.Wr{f:FuncId} [Wb C.P f](args:List Operand)(has:args.map e.ev=Sc)
  (hc:ca C f Sc [] R) (hk:∀ v H',R (.ret v) H'->K v (H'++H)) (hx:∀ ch H',R (.panic ch) H'->X ch (H'++H)) :
  ab C ⟨dst,.call { callee:=.value (.func f),args:=args.toArray,argTypes:=nh },ty,ra,ua,g⟩ e H K X:=by
 subst has;exact ab.rF (ab.call hc hk hx)
theorem S.MJ{f:FuncId} [Wb C.P f](args:List Operand){p:Nat×ja}(has:args.map e.ev=Sc)(hp:xd p H F)
  (hc:ca C f Sc [p] R) (hk:∀ v H',R (.ret v) H'->K v (H'++F)) (hx:∀ ch H',R (.panic ch) H'->X ch (H'++F)) :
  ab C ⟨dst,.call { callee:=.value (.func f),args:=args.toArray,argTypes:=nh },ty,ra,ua,g⟩ e H K X:=by
 subst has;exact ab.DM hp (ab.call hc hk hx)
theorem S.Uc{f:FuncId} [Wb C.P f](args:List Operand){H1:Heap}(has:args.map e.ev=Sc)(hp:H.Perm (H1++F))
  (hc:ca C f Sc H1 R) (hk:∀ v H',R (.ret v) H'->K v (H'++F)) (hx:∀ ch H',R (.panic ch) H'->X ch (H'++F)) :
  ab C ⟨dst,.call { callee:=.value (.func f),args:=args.toArray,argTypes:=nh },ty,ra,ua,g⟩ e H K X:=by
 subst has;exact ab.frame hp (ab.call hc hk hx)
theorem S.Cm{fo:Operand}{f:FuncId} [Wb C.P f]{first db:Array Value}(args:List Operand){nh:Array TypeId}{Sc:List LV}{R:Pe->Heap->Prop}{H1 F:Heap}(hf:e.ev fo=.atom (.func (.func f) first db))
  (has:first.toList.map .atom++args.map e.ev++db.toList.map .atom=Sc) (hp:H.Perm (H1++F)) (hc:ca C f Sc H1 R) (hk:∀ v H',R (.ret v) H'->K v (H'++F)) (hx:∀ ch H',R (.panic ch) H'->X ch (H'++F)) :
  ab C ⟨dst,.call { callee:=.value fo,args:=args.toArray,argTypes:=nh },ty,ra,ua,g⟩ e H K X:=by
 subst has;exact ab.frame hp (ab.Cm hf hc hk hx)
end steps
section ret
variable{C:Ctx}{n:Nat}{e:Env}{H H':Heap}{R:Pe->Heap->Prop}
theorem rN:tn C n e H [] []:=trivial
theorem rC{r:ResultVar}{v:LV}(h:pn C n e H r v)(k:tn C n e H rs vs):tn C n e H (r::rs) (v::vs):=⟨h,k⟩
theorem rR(hd:e.ds=[])(h:tn C n e H rs vs)(hH:HSub H' H)(hR:R (.ret (Oh vs)) H'):ke C n rs R .ret e H:=⟨hd,vs,H',h,hH,hR⟩
theorem rO(hd:e.ds=[])(h:tn C n e H rs vs)(hH:HSub H' H)(hR:R (.ret (Oh vs)) H'):ke C n rs R .normal e H:=⟨hd,vs,H',h,hH,hR⟩
theorem ke.panic{rs:List ResultVar}{ch:List PanicEntry}(hd:e.ds=[])(hH:HSub H' H)(hR:R (.panic ch) H'):ke C n rs R (.panic ch) e H:=⟨hd,H',hH,hR⟩
theorem rA{a k:Nat} [ep C.P t k](hx:e.s a=ptr b off)(hm:(b,ja.cells Aq cs)∈H)(hn:Nat.ble (off+k) cs.length=true)(hs:(LV.agg ((cs.drop off).take k)).Sub lv):pn C n e H (.cell a t) lv:=λac w L hE hH=>by
 obtain⟨xs,h1,h2⟩:=hH.cells hm;have hl:=h2.length;have hn':off+k<=cs.length:=by simpa using hn
 have hv:=hE.zj a;rw[hx] at hv;simp only[Fb] at hv;refine⟨.agg ((xs.drop off).take k).toArray,?_,hs _ _ _ (by simp only[Fb];exact⟨_,rfl,(h2.drop off).take k⟩)⟩;have ma:((xs.drop off).take k).length=k:=by simp;omega
 simp only[rn,hv,asAddr,Lc,Xd,jd];exact Z3 (t:=t) (w:=w) (b:=b) (off:=off) ma (λj y hy=>by
  rw[List.getElem?_take] at hy;split at hy;simpa [World.cell?,h1,List.getElem?_drop] using hy;cases hy)
theorem pn.Ic{a:Nat} [lr C.P t]{c:LV}(hx:e.s a=ptr b off)(hm:(b,ja.cells Aq cs)∈H)(hc:cs[off]? = some c)(hs:c.Sub lv):pn C n e H (.cell a t) lv:=λac w L hE hH=>by
 obtain⟨xs,h1,h2⟩:=hH.cells hm;obtain⟨v,h3,h4⟩:=h2.get hc;have hv:=hE.zj a;rw[hx] at hv;simp only[Fb] at hv;refine⟨v,?_,hs _ _ _ h4⟩;have Xo:w.cell? ⟨b,off,none⟩=some v:=by simp[World.cell?,h1,h3]
 simp only[rn,hv,asAddr,Lc,Xd,jd];exact D4 Xo
end ret
theorem cJ{fn:Func}{args:List LV}(hf:C.P.funcs[f]? = some fn)(h:kb C n c (ke C n fn.results.toList R) (tI args) H)(hb:fn.body=some c:=by exact rfl)(hn:fn.ntmps=n:=by exact rfl)(h3:Nat.ble fn.results.size 3=true:=by exact rfl)(hl:Nat.ble args.length n=true:=by exact rfl):ca C f args H R:=jb hf hb hn h3 hl h
theorem ob:HSub H H:=bc _
theorem sd:HSub [] H:=HSub.nil _
theorem Gd{p:Nat×ja}:HSub [p] (p::H):=Fc pH (HSub.nil _)
theorem ie{v:LV}:v.Sub v:=vR _
theorem Vd{p a:Nat×ja}:xd p (a::p::F) (a::F):=(pT pH)
theorem Hl{p a b:Nat×ja}:xd p (a::b::p::F) (a::b::F):=(pT (pT pH))
theorem XB{p a b c:Nat×ja}:xd p (a::b::c::p::F) (a::b::c::F):=(pT (pT (pT pH)))
theorem UO{p a b c d:Nat×ja}:xd p (a::b::c::d::p::F) (a::b::c::d::F):=(pT (pT (pT (pT pH))))
theorem ZX{p a b c d e:Nat×ja}:xd p (a::b::c::d::e::p::F) (a::b::c::d::e::F):=(pT (pT (pT (pT (pT pH)))))
theorem zp6{p a b c d e f:Nat×ja}:xd p (a::b::c::d::e::f::p::F) (a::b::c::d::e::f::F):=(pT (pT (pT (pT (pT (pT pH))))))
theorem zp7{p a b c d e f g:Nat×ja}:xd p (a::b::c::d::e::f::g::p::F) (a::b::c::d::e::f::g::F):=(pT (pT (pT (pT (pT (pT (pT pH)))))))
theorem zp8{p a b c d e f g h:Nat×ja}:xd p (a::b::c::d::e::f::g::h::p::F) (a::b::c::d::e::f::g::h::F):=(pT (pT (pT (pT (pT (pT (pT (pT pH))))))))
theorem Xc(h:e.s t=.atom v):pn C n e H (.tmp t) (.atom v):=rT h (vR _)
theorem eb(h:e.s t=.atom v):tn C n e H [.tmp t] [.atom v]:=rC (rT h (vR _)) rN
@[reducible] def Ub(v:LV):Pe->Heap->Prop:=λr H=>r=.ret v/\H=[]
@[reducible] def wy(p:LV->Prop):Pe->Heap->Prop:=λr H=>∃ v,r=.ret v/\p v/\H=[]
section
variable{C:Ctx}{e:Env}{H:Heap}{dst:Option Nat}{ty:TypeId}{ra:String}{ua:Array Edge}{g:Option (Nat×Bool)}{K:LV->Heap->Prop}{X:List PanicEntry->Heap->Prop}
theorem sF{f:FuncId} [Wb C.P f](args:List Operand)(has:args.map e.ev=Sc)(hc:ca C f Sc [] (Ub lv))(hk:K lv H) :
  ab C ⟨dst,.call { callee:=.value (.func f),args:=args.toArray,argTypes:=nh },ty,ra,ua,g⟩ e H K X:=
 S.Wr args has hc (by rintro v H' ⟨h,rfl⟩;cases h;exact hk) (by rintro ch H' ⟨h,_⟩;cases h)
theorem S.Ki{f:FuncId} [Wb C.P f](args:List Operand){p:LV->Prop}(has:args.map e.ev=Sc)(hc:ca C f Sc [] (wy p))(hk:∀ lv,p lv->K lv H) :
  ab C ⟨dst,.call { callee:=.value (.func f),args:=args.toArray,argTypes:=nh },ty,ra,ua,g⟩ e H K X:=
 S.Wr args has hc (by rintro v H' ⟨u,h,hp,rfl⟩;cases h;exact hk _ hp) (by rintro ch H' ⟨u,h,_⟩;cases h)
theorem S.qF{fo:Operand} [Wb C.P f]{first db:Array Value}(args:List Operand)(hf:e.ev fo=.atom (.func (.func f) first db))
  (has:first.toList.map .atom++args.map e.ev++db.toList.map .atom=Sc) (hc:ca C f Sc [] (Ub lv)) (hk:K lv H) :
  ab C ⟨dst,.call { callee:=.value fo,args:=args.toArray,argTypes:=nh },ty,ra,ua,g⟩ e H K X:=
 S.Cm (H1:=[]) (F:=H) args hf has dc hc (by rintro v H' ⟨h,rfl⟩;cases h;exact hk) (by rintro ch H' ⟨h,_⟩;cases h)
theorem qb(hd:e.ds=[])(h:tn C n e H rs vs)(hv:Oh vs=lv):ke C n rs (Ub lv) .ret e H:=
 rR hd h sd ⟨by rw[hv],rfl⟩
theorem Iy{p:LV->Prop}(hd:e.ds=[])(h:tn C n e H rs vs)(hv:p (Oh vs)):ke C n rs (wy p) .ret e H:=
 rR hd h sd ⟨_,rfl,hv,rfl⟩
end
theorem eW(hH:Ta C w L [])(h:Below w.heap.size w w'):Fr (keys []) w L w' L []/\Ta C w' L []:=by
 refine⟨⟨h.os,h.tape,h.output,⟨h.size,λb hb=>QI (h.block b hb),λb i hi=>?_,λ_=>Pb _⟩,λb hb _=>h.block b hb,λ_ _ _=>rfl,by simp⟩,
  ⟨hH.base.trans (h.mono hH.b0),hH.sj,Xf hH.b0 h.size,λb hb=>hH.wf b (Xf h.size hb),List.nodup_nil,by simp⟩⟩
 have hb:b<w.heap.size:=by rcases lt_or_ge b w.heap.size with h1|h1;exact h1;have:=hH.wf b h1;omega
 exact cell_of_heap (h.block b hb) i
theorem ca.VC{vs:List Value}{p:Value->Prop}
  (h:∀ w,Below C.B0 C.w0 w->Calls C.P f vs.toArray w λe w'=>∃ v,e=.returned v/\p v/\Below w.heap.size w w'):ca C f (vs.map .atom) [] (λr H=>∃ v,r=.ret (.atom v)/\p v/\H=[]):=λxs w L hv hH=>by
 have hx:xs=vs:=by
  clear h hH;induction vs generalizing xs with
  |nil=>simpa [oa] using hv
  |cons v vs ih=>simp only[yd,oa,Fb] at hv;obtain⟨y,ys,rfl,rfl,hv⟩:=hv;rw[ih _ hv]
 subst hx;refine(h w hH.base).mono λe w' he=>?_;obtain⟨v,rfl,hp,hb⟩:=he;obtain⟨h1,h2⟩:=eW hH hb;exact⟨.atom v,[],L,h1,h2,Ld,v,rfl,hp,rfl⟩
theorem ca.uh{vs:List Value}{p:List Value->Prop}
  (h:∀ w,Below C.B0 C.w0 w->Calls C.P f vs.toArray w λe w'=>∃ us:List Value,e=.returned (.tuple us.toArray)/\p us/\Below w.heap.size w w'):ca C f (vs.map .atom) [] (wy λlv=>∃ us,p us/\lv=.tuple (us.map .atom)):=λxs w L hv hH=>by
 have hx:xs=vs:=by
  clear h hH;induction vs generalizing xs with
  |nil=>simpa [oa] using hv
  |cons v vs ih=>simp only[yd,oa,Fb] at hv;obtain⟨y,ys,rfl,rfl,hv⟩:=hv;rw[ih _ hv]
 subst hx;refine(h w hH.base).mono λe w' he=>?_;obtain⟨us,rfl,hp,hb⟩:=he;obtain⟨h1,h2⟩:=eW hH hb;exact⟨.tuple (us.map .atom),[],L,h1,h2,by simp only[Fb];exact⟨us,rfl,Ys _⟩,_,rfl,⟨us,hp,rfl⟩,rfl⟩
theorem ca.dn{vs:List Value}{u:Value}
  (h:∀ w,Below C.B0 C.w0 w->Calls C.P f vs.toArray w λe w'=>e=.returned u/\Below w.heap.size w w'):ca C f (vs.map .atom) [] (Ub (.atom u)):=
 ca.mono (ca.VC (p:=λv=>v=u) λw hw=>(h w hw).mono λe w' he=>⟨u,he.1,rfl,he.2⟩) λr H' ⟨v,h1,h2,h3⟩=>⟨by rw[h1,h2],h3⟩
def Jy(e:Env):List (Nat×LV)->Prop
 |[]=>True
 |(d,v)::r=>e.s d=v/\Jy e r
theorem Jy.mem{e:Env}:∀ {l:List (Nat×LV)},Jy e l->∀ p∈l,e.s p.1=p.2
 |[],_,p,hp=>by cases hp
 |(d,v)::r,h,p,hp=>by rcases Dc.1 hp with rfl|hp;exact h.1;exact Jy.mem h.2 p hp
def AY(I:Nat->List (Nat×LV)->Heap->Prop)(k:Nat)(ds:List Deferred)(e':Env)(H':Heap):Prop:=
 ∃ m l' Kh,m<k/\I m l' Kh/\Jy e' l'/\HSub Kh H'/\e'.ds=ds
theorem oL{H:Heap}(I:Nat->List (Nat×LV)->Heap->Prop)(h0:∃ k l H0,I k l H0/\Jy e l/\HSub H0 H)
  (round:∀ k l H,I k l H->∀ j:Env,j.ds=e.ds->kb C n c (Ie (AY I k e.ds) Q) (Env.Tj j l) H):kb C n (.loop c) Q e H:=by
 obtain⟨k,l,H0,h0,h1,h2⟩:=h0;refine cW h2 (kb.loop (λk e' H'=>∃ l H0,I k l H0/\Jy e' l/\HSub H0 H'/\e'.ds=e.ds) k ⟨l,H0,h0,h1,bc _,rfl⟩ ?_);rintro k e' H' ⟨l,H0,g0,g1,g2,g3⟩;have:=round k l H0 g0 e' g3;rw[Env.Ce g1.mem] at this;refine cW g2 (kb.qd this ?_);rintro ex e2 H2 hq;cases ex with
 |normal=>obtain⟨m,l',H3,r1,r2,r3,r4,r5⟩:=hq;exact⟨m,r1,l',H3,r2,r3,r4,r5⟩
 |exit id=>exact hq
 |goto id=>exact hq
 |ret=>exact hq
 |panic ch=>exact hq
 |outgrown=>exact hq
theorem Re{a b:Bool}(h:a=b):bool a=bool b:=by rw[h]
def At(l:List (Nat×LV))(H1:Heap)(ds:List Deferred)(e':Env)(H':Heap):Prop:=Jy e' l/\H'=H1/\e'.ds=ds
theorem Ea.oE{k:Env->Heap->Prop}(l:List (Nat×LV))(H1:Heap)
  (hx:Ea C n Sa (Ie (At l H1 e.ds) Q) rest e H) (hy:∀ j:Env,j.ds=e.ds->k (Env.Tj j l) H1):Ea C n Sa (Ie k Q) rest e H:=by
 refine Ea.qd hx ?_;rintro ex e' H' hq;cases ex with
 |normal=>obtain⟨h1,rfl,h3⟩:=hq;have:=hy e' h3;rw[Env.Ce h1.mem] at this;exact this
 |exit id=>exact hq
 |goto id=>exact hq
 |ret=>exact hq
 |panic ch=>exact hq
 |outgrown=>exact hq
theorem kb.oE{k:Env->Heap->Prop}(l:List (Nat×LV))(H1:Heap)
  (hx:kb C n c (Ie (At l H1 e.ds) Q) e H) (hy:∀ j:Env,j.ds=e.ds->k (Env.Tj j l) H1):kb C n c (Ie k Q) e H:=by
 refine kb.qd hx ?_;rintro ex e' H' hq;cases ex with
 |normal=>obtain⟨h1,rfl,h3⟩:=hq;have:=hy e' h3;rw[Env.Ce h1.mem] at this;exact this
 |exit id=>exact hq
 |goto id=>exact hq
 |ret=>exact hq
 |panic ch=>exact hq
 |outgrown=>exact hq
theorem Ea.cut{k:Env->Heap->Prop}(l:List (Nat×LV))
  (hx:Ea C n Sa (Ie (At l H e.ds) Q) rest e H) (hy:∀ j:Env,j.ds=e.ds->k (Env.Tj j l) H):Ea C n Sa (Ie k Q) rest e H:=Ea.oE l H hx hy
theorem ZB{k:Env->Heap->Prop}(l:List (Nat×LV))
  (hx:kb C n c (Ie (At l H e.ds) Q) e H) (hy:∀ j:Env,j.ds=e.ds->k (Env.Tj j l) H):kb C n c (Ie k Q) e H:=kb.oE l H hx hy
theorem ql8{a:Act}(hE:Ec n a e w L)(hj:(Sa[j]?).bind (·.dst)=some d)(hb:e.s d=.atom undef):yielded Sa a.tmps j=none:=by
 have h:=hE.zj d;rw[hb] at h;simp only[Fb] at h;unfold yielded;rw[hj];simp only[Option.bind_some];rw[Array.getD_eq_getD_getElem?] at h;cases hx:a.tmps[d]? with
 |none=>rfl
 |some x=>rw[hx] at h;simp only[getD_some] at h;subst h;rfl
theorem Ea.UH{op:Op}{c:Bool}
  (hj:(Sa[j]?).bind (·.dst)=some d) (hb:e.s d=.atom undef) (hd:Im n dst)
  (k:Ea C n Sa Q rest (e.put dst (.atom undef)) H):Ea C n Sa Q (⟨dst,op,ty,ra,ua,some (j,c)⟩::rest) e H:=λa w L hE hH=>by
 unfold wpList;rw[zn (by simp[Region.wanted,ql8 hE hj hb])];exact k _ w L (hE.put hd (by simp only[Fb])) hH
theorem qf{k:IntKind}{a b:Int}(h:a=b):int k a=int k b:=by rw[h]
theorem Kb{e:Env}{l:List (Nat×LV)}(h:Jy e l:=by repeat first|exact trivial|refine⟨rfl,?_⟩|refine⟨qf ga,?_⟩):Jy e l:=h
class Hh (P:Program) (t:TypeId):Prop where
 af:∃ ms,P.underlying t=some (.interface ms)
def qqV(P:Program)(t:Nat):Bool:=match P.underlying t with|some (.interface _)=>true|_=>false
theorem Hh.of(h:qqV P t=true):Hh P t:=by
 unfold qqV at h;refine⟨?_⟩;cases hu:P.underlying t with
 |none=>rw[hu] at h;simp at h
 |some d=>rw[hu] at h;cases d <;> simp_all
section
variable{C:Ctx}{e:Env}{H:Heap}{dst:Option Nat}{ty:TypeId}{ra:String}{ua:Array Edge}{g:Option (Nat×Bool)}{xT yT:TypeId}{x:Operand}
theorem CW(t:TypeId)(x y:Value):Op.equal t x y=Op.equalIn (9999+1) t x y:=rfl
theorem qlU{t:TypeId} [h:Hh P t](w:World):(Op.equal t .nilIface .nilIface).run P w=.ok true w:=by obtain⟨ms,hu⟩:=h.af;rw[CW,Op.equalIn];simp only[Lc,Fe hu,jd,Xd]
theorem qkJ{t:TypeId} [h:Hh P t](u:TypeId)(p:Value)(w:World):(Op.equal t (.iface u p) .nilIface).run P w=.ok false w:=by obtain⟨ms,hu⟩:=h.af;rw[CW,Op.equalIn];simp only[Lc,Fe hu,jd,Xd]
theorem Pure.lA [Hh C.P xT] (hx:e.ev x=.atom .nilIface):Pure C ⟨dst,.binOp .neq xT x (.const .nilIface) yT,ty,ra,ua,g⟩ e H (bool false):=
 .Xa λρ _ _ h=>⟨_,Ld,λw'=>by
  have h1:=nc h hx;have h2:=nc h (x:=.const .nilIface) rfl;have he:eqGuard .neq xT x (.const .nilIface) .nilIface .nilIface=Pure.pure ():=by simp[eqGuard]
  have hb:binOp .neq xT .nilIface .nilIface=(do Pure.pure (.bool (!(<-Op.equal xT .nilIface .nilIface)))):=rfl;simp only[execOp,h1,h2,he,hb,Lc,Xd,jd,qlU,Bool.not_true]⟩
theorem Pure.Xu [Hh C.P xT] {u:TypeId} {p:Value} (hx:e.ev x=.atom (.iface u p)):Pure C ⟨dst,.binOp .neq xT x (.const .nilIface) yT,ty,ra,ua,g⟩ e H (bool true):=
 .Xa λρ _ _ h=>⟨_,Ld,λw'=>by
  have h1:=nc h hx;have h2:=nc h (x:=.const .nilIface) rfl;have he:eqGuard .neq xT x (.const .nilIface) (.iface u p) .nilIface=Pure.pure ():=by simp[eqGuard]
  have hb:binOp .neq xT (.iface u p) .nilIface=(do Pure.pure (.bool (!(<-Op.equal xT (.iface u p) .nilIface)))):=rfl;simp only[execOp,h1,h2,he,hb,Lc,Xd,jd,qkJ,Bool.not_false]⟩
theorem vQ{a b:List UInt8}(h:a=b):str a=str b:=by rw[h]
theorem Pure.nE{k k0 k':IntKind}{s d:TypeId}{n:Int} [hs:uj C.P s k0] [hd:uj C.P d k'](hx:e.ev x=int k n):Pure C ⟨dst,.convert s d x,ty,ra,ua,g⟩ e H (int k' (k'.wrap n)):=Pure.KH ⟨_,hs.af⟩ hx
end
end Go.GL
namespace Go.GL
open Go.RowKit
variable{C:Ctx}{F H H1 HF:Heap}{P:Program}{Q:Vc}{ua:Array Edge}{b Ba i l n:Nat}{dst:Option Nat}{e:Env}{Da:Array Bool}{lv:LV}{Sa:Array Oper}{ra:String}{ty:TypeId}{w:World}
section any
variable{C:Ctx}{n:Nat}{Sa:Array Oper}{Q:Vc}{HF:Heap}{Ba:Nat}{Da:Array Bool}{e:Env}{H:Heap}
def Nj(C:Ctx)(n:Nat)(Sa:Array Oper)(Q:Vc)(HF:Heap)(Ba:Nat)(Da:Array Bool)(e:Env)(H:Heap)(i:Nat):Prop:=
 ∀ w0 L0 a w L,(∀ b,L0 b<=L b)->Ps w0 L0 HF w->(∀ p∈HF,p.1<w.heap.size)->Ec n a e w L->Ta C w L H ->
  wpOp C.P Sa (lift C n w L (keys H) Q) i (λa' w'=>Ps w0 L0 HF w'/\wpAnyH C.P .any Sa (lift C n w L (keys H) Q) (Ps w0 L0 HF) Ba (Da.setIfInBounds i true) a' w') a w
theorem oi.all{is:List Nat}(hr:Region.ready .any Sa Da=is)(xb:is≠[])(h:∀ i∈is,Nj C n Sa Q HF Ba Da e H i):oi C n Sa Q HF (Ba+1) Da e H:=λw0 L0 a w L hL hA ae hE hH=>
 wpAnyH_all hr xb λj hj=>h j hj w0 L0 a w L hL hA ae hE hH
theorem lS{op:Op}{g:Option (Nat×Bool)}(hi:Sa[i]? = some ⟨dst,op,ty,ra,ua,g⟩)(hg:g=none∨∃ j b d,g=some (j,b)/\(Sa[j]?).bind (·.dst)=some d/\e.s d=.atom (.bool b))(hd:Im n dst)
  (p:H.Perm (H1++F)) (Kt:HSub HF F)
  (h:ab C ⟨dst,op,ty,ra,ua,g⟩ e H1 (λlv H'=>oi C n Sa Q HF Ba (Da.setIfInBounds i true) (e.put dst lv) (H'++F)) λch H'=>∀ e',e'.ds=e.ds->Q (.panic ch) e' (H'++F)) :
  Nj C n Sa Q HF Ba Da e H i:=λw0 L0 a w L hL hA ae hE hH=>by
 have kF:=hH.perm p;have hn:(keys H1++keys F).Nodup:=by simpa [keys] using kF.nodup
 have Ix:∀ q∈HF,q.1 ∉ keys H1:=λq hq hm=>(On hn).2.2 _ hm _ (List.mem_map_of_mem (Kt.mem q hq)) rfl
 have hw:Region.wanted ⟨dst,op,ty,ra,ua,g⟩ (yielded Sa a.tmps)=true:=by rcases hg with rfl|⟨j,b,d,rfl,hj,hb⟩;simp[Region.wanted];simp[Region.wanted,bL hE hj hb]
 unfold wpOp;rw[hi];simp only;rw[zp hw];refine .inl (quT (H:=H1) h hd hE kF.left (λlv H' L' w' a' h1 h2 h3 h4=>?_) λch H' L' w' h1 h2 h3=>?_);have Vm:=kF.frame h1 h2;have hag:Ps w0 L0 HF w':=⟨λq hq=>(h1.block q.1 (ae q hq) (Ix q hq)).trans (hA.1 q hq),λb i hi=>(h1.ext.live b i (Nat.lt_of_lt_of_le hi (hL b))).trans (hA.2 b i hi)⟩;exact⟨hag,YK (λ_ _ _=>cO (Vm.2.perm p.symm)) _ _ _ _ (h4 w0 L0 a' w' L' (λb=>Xf (hL b) (h1.ext.mono b)) hag (λq hq=>Nat.lt_of_lt_of_le (ae q hq) h1.ext.size) h3 Vm.1)⟩;have Vm:=kF.frame h1 h2;exact⟨e,H'++F,L',Vm.2.perm p.symm,Vm.1,hE.ds,h3 e rfl⟩
theorem Ck(hr:Region.ready .any Sa Da=[i])(h:Nj C n Sa Q HF Ba Da e H i):oi C n Sa Q HF (Ba+1) Da e H:=
 oi.all hr (by simp) λj hj=>by obtain rfl:=aj hj;exact h
theorem wq{j:Nat}(hr:Region.ready .any Sa Da=[i,j])(h:Nj C n Sa Q HF Ba Da e H i)(h':Nj C n Sa Q HF Ba Da e H j):oi C n Sa Q HF (Ba+1) Da e H:=
 oi.all hr (by simp) λk hk=>by rcases Dc.1 hk with rfl|hk;exact h;obtain rfl:=aj hk;exact h'
theorem lW{op:Op}{g:Option (Nat×Bool)}(hi:Sa[i]? = some ⟨dst,op,ty,ra,ua,g⟩)(hg:g=none∨∃ j b d,g=some (j,b)/\(Sa[j]?).bind (·.dst)=some d/\e.s d=.atom (.bool b))(hd:Im n dst)
  (h:ab C ⟨dst,op,ty,ra,ua,g⟩ e H (λlv H'=>oi C n Sa Q [] Ba (Da.setIfInBounds i true) (e.put dst lv) H') λch H'=>∀ e',e'.ds=e.ds->Q (.panic ch) e' H') :
  Nj C n Sa Q [] Ba Da e H i:=lS (H1:=H) (F:=[]) hi hg hd (by simp) sd (by simpa using h)
theorem Nj.pure{op:Op}(hi:Sa[i]? = some ⟨dst,op,ty,ra,ua,none⟩)(hd:Im n dst)(Kt:HSub HF H)
  (h:Pure C ⟨dst,op,ty,ra,ua,none⟩ e [] lv) (k:oi C n Sa Q HF Ba (Da.setIfInBounds i true) (e.put dst lv) H):Nj C n Sa Q HF Ba Da e H i:=
 lS (H1:=[]) (F:=H) hi (.inl rfl) hd dc Kt (Pure.step h k)
end any
theorem LQ.NJ{K:Env->Prop}{rest:List Oper}(d:Nat){b:Bool}(hb:e.s d=bool b)(ht:b=true->LQ C n Sa K rest (e.Rd d (bool true)) H)(hf:b=false->LQ C n Sa K rest (e.Rd d (bool false)) H):LQ C n Sa K rest e H:=by cases b;have:=hf rfl;rwa [Env.Qj hb] at this;have:=ht rfl;rwa [Env.Qj hb] at this
section pure
variable{C:Ctx}{e:Env}{H:Heap}{dst:Option Nat}{ty:TypeId}{ra:String}{ua:Array Edge}{g:Option (Nat×Bool)}{xT yT:TypeId}{x y:Operand}{k:IntKind}{a b:Int}
theorem Pure.qE{s d el:TypeId} [hs:Qa C.P s el 1] [he:uj C.P el .u8] [hd:cp C.P d]{l:List UInt8}(hx:elems (e.ev x)=some (l.map λb=>int .u8 b.toNat))(xb:l≠[]) :
  Pure C ⟨dst,.convert s d x,ty,ra,ua,g⟩ e H (str l):=λρ w L h _=>by
 obtain⟨a,cap,hv,ri,hr⟩:=(h x).elems hx;obtain⟨b,off,k',rfl,mH⟩:=hr (by simpa using xb);refine⟨_,Ld,λw' ha=>?_⟩;have h0:execOp ρ ⟨dst,.convert s d x,ty,ra,ua,g⟩=(do Pure.pure (.value (<-convert s d (ρ x)))):=rfl;have ma:(l.map λb=>int .u8 b.toNat).length=l.length:=by simp
 have:=run_convert_bytes_back (P:=C.P) w' s d el ⟨b,off,none⟩ cap l hs.af he.af hd.af (λj hj=>by
  obtain⟨h1,h2⟩:=mH.get (i:=j) (e:=int .u8 l[j].toNat) (by simp[hj]);simp only[LV.cells,Tb,List.length_singleton] at h1 h2;obtain⟨h3,⟨v,h4,h5⟩,_⟩:=h2;simp only[Fb] at h5;subst h5;subst h1;rw[mul_one] at h3 h4;rw[Pg];rw[ha.2 b _ h3];exact h4)
 rw[h0,hv,ma];simp only[Lc,this,jd,Xd]
end pure
theorem aT(i:Nat){op:Op}
  (hi:Sa[i]? = some ⟨dst,op,ty,ra,ua,none⟩) (hd:Im n dst) (hp:Pure C ⟨dst,op,ty,ra,ua,none⟩ e HF lv) (k:Rb C n Sa Q HF Ba (Da.setIfInBounds i true) (e.put dst lv) H) (hs:Region.noSelect Sa=true:=by kernel_rfl) (hf:Region.free .any Sa Da i=true:=by kernel_rfl) (hr:(Region.ready .any Sa Da).contains i=true:=by kernel_rfl)
  (Kt:HSub HF H:=by first|exact HSub.nil _|exact bc _|exact Yg ob|exact Fc pH sd|exact Fc Vd sd|exact Fc Hl sd|exact Fc pH Gd|exact⟨_,List.Perm.refl _⟩):Rb C n Sa Q HF (Ba+1) Da e H:=Rb.take Kt hi hs hf hr hd hp k
theorem Rb.su(i:Nat){j d:Nat}{b:Bool}{op:Op}
  (hi:Sa[i]? = some ⟨dst,op,ty,ra,ua,some (j,b)⟩) (hj:(Sa[j]?).bind (·.dst)=some d) (hb:e.s d=.atom (.bool b)) (hd:Im n dst) (hp:Pure C ⟨dst,op,ty,ra,ua,some (j,b)⟩ e HF lv) (k:Rb C n Sa Q HF Ba (Da.setIfInBounds i true) (e.put dst lv) H) (hs:Region.noSelect Sa=true:=by kernel_rfl) (hf:Region.free .any Sa Da i=true:=by kernel_rfl) (hr:(Region.ready .any Sa Da).contains i=true:=by kernel_rfl)
  (Kt:HSub HF H:=by first|exact HSub.nil _|exact bc _|exact Yg ob|exact Fc pH sd|exact Fc Vd sd|exact Fc Hl sd|exact Fc pH Gd|exact⟨_,List.Perm.refl _⟩):Rb C n Sa Q HF (Ba+1) Da e H:=Rb.Ip Kt hi hj hb hs hf hr hd hp k
theorem lO(i:Nat)(h:Nj C n Sa Q HF Ba Da e H i)(hr:Region.ready .any Sa Da=[i]:=by kernel_rfl):oi C n Sa Q HF (Ba+1) Da e H:=Ck hr h
section
variable{C:Ctx}{e:Env}{H:Heap}{dst:Option Nat}{ty:TypeId}{ra:String}{ua:Array Edge}{g:Option (Nat×Bool)}{K:LV->Heap->Prop}{X:List PanicEntry->Heap->Prop}{x y:Operand}
theorem sG{sT xT el s bytes:Nat} [ht:Qa C.P sT el s] [hr:ui C.P el s bytes]{e2 s2:Nat} [me:Qa C.P xT e2 s2]{v:LV}{es ms:List LV}{A:Heap}
  (hp:H.Perm (H1++A)) (hx:e.ev x=v) (ha:Acc s v es H1 F) (hy:GL.elems (e.ev y)=some ms) (hs:∀ v∈ms,v.cells.length=s) (Kc:(ms.flatMap LV.cells).all Vs=true) (Wa:(es.length+ms.length) * bytes<=140737488355328)
  (hk:∀ v' H',Acc s v' (es++ms) H' F->K v' (A++H')):ab C ⟨dst,.call { callee:=.builtin .append,args:=#[x,y],argTypes:=#[sT,xT] },ty,ra,ua,g⟩ e H K X:=by
 refine ab.qd (K:=λlv H'=>∃ H2,H'=H2++A/\Acc s lv (es++ms) H2 F) (ab.frame hp (S.acc hx ha hy hs Kc Wa λv' H' h=>⟨H',rfl,h⟩)) ?_;rintro lv H' ⟨H2,rfl,h⟩;exact⟨lv,A++H2,vR _,⟨[],by simpa using Lh⟩,hk _ _ h⟩
theorem S.Yx{sT xT el s bytes:Nat} [ht:Qa C.P sT el s] [hr:ui C.P el s bytes]{e2 s2:Nat} [me:Qa C.P xT e2 s2]{v:LV}{es ms:List LV}{q:Nat×ja}
  (hx:e.ev x=v) (ha:Acc s v es H1 F) (hy:GL.elems (e.ev y)=some ms) (hs:∀ v∈ms,v.cells.length=s) (Kc:(ms.flatMap LV.cells).all Vs=true) (Wa:(es.length+ms.length) * bytes<=140737488355328)
  (hk:∀ v' H',Acc s v' (es++ms) H' F->K v' (q::H')):ab C ⟨dst,.call { callee:=.builtin .append,args:=#[x,y],argTypes:=#[sT,xT] },ty,ra,ua,g⟩ e (q::H1) K X:=
 sG (A:=[q]) ((List.perm_append_singleton _ _).symm) hx ha hy hs Kc Wa hk
end
def uI:Obj->Bool
 |.cells _ _ _=>false
 |_=>true
theorem YN{o:Obj}(h:w.heap[b]? = some o)(ho:uI o=true):w.shape? b=none:=by simp only[World.shape?,h];cases o <;> simp_all [uI]
section
variable{C:Ctx}{e:Env}{H:Heap}{dst:Option Nat}{ty:TypeId}{ra:String}{ua:Array Edge}{g:Option (Nat×Bool)}{K:LV->Heap->Prop}{X:List PanicEntry->Heap->Prop}{x y:Operand}
theorem qjS{L:Live}(hH:Ta C w L []){o:Obj}(ho:uI o=true){v:Value}(hk:K (.atom v) [(w.heap.size,.obj o)]):Left C w L [] (World.push w o) v K:=by
 have:=OE hH o 0 [(w.heap.size,.obj o)] (λp hp=>by
  simp only[mem_singleton] at hp;subst hp;exact⟨rfl,by simp[Live.Rd],aw,YN aw ho⟩) (by simp)
 exact⟨_,_,_,this.1,this.2,Ld,hk⟩
theorem SQ{w':World}{L:Live}{o o':Obj}(hH:Ta C w L [(b,.obj o)])(yX:uI o'=true)(h1:w'.os=w.os)(h2:w'.tape=w.tape)(h3:w'.output=w.output)
  (h4:w'.heap.size=w.heap.size) (h5:∀ c,c≠b->w'.heap[c]? = w.heap[c]?) (h6:w'.heap[b]? = some o') {v:Value} {lv:LV} (hv:∀ L,Fb w' L lv v) (hk:K lv [(b,.obj o')]):Left C w L [(b,.obj o)] w' v K:=by
 obtain⟨Wf,vh,hl,Kd,me⟩:=hH.Bc _ (Sq rfl);simp only at Wf vh hl Kd me;have hx:Ext w L w' L:=by
  refine⟨by rw[h4];exact Pb _,λc hc=>?_,λc i hi=>?_,λ_=>Pb _⟩
  by_cases he:c=b;subst he;rw[me];exact YN h6 yX;exact QI (h5 c he);by_cases he:c=b;subst he;rw[hl] at hi;omega;exact cell_of_heap (h5 c he) i
 refine⟨lv,[(b,.obj o')],L,⟨h1,h2,h3,hx,λc hc hn=>h5 c (by simpa using hn),λ_ _ _=>rfl,λp hp=>.inl (by simp only[mem_singleton] at hp;subst hp;simp)⟩,
  ⟨?_,hH.sj,by rw[h4];exact hH.b0,by rw[h4];exact hH.wf,by simp,λp hp=>?_⟩,hv L,hk⟩
 exact hH.base.trans ⟨h1,h2,h3,by rw[h4];exact Pb _,λc hc=>h5 c zo⟩;simp only[mem_singleton] at hp;subst hp;exact⟨Wf,by rw[h4];exact vh,hl,h6,YN h6 yX⟩
theorem S.makeMap{t:TypeId}(hk:∀ b,K (.atom (.map (some b))) ((b,.obj (.map #[] 0))::H)):ab C ⟨dst,.makeMap t none,ty,ra,ua,g⟩ e H K X:=by refine ab.rF λρ w L _ hH=>?_;have h3:execOp ρ ⟨dst,.makeMap t none,ty,ra,ua,g⟩=(do Pure.pure (.value (<-Instr.makeMap t none))):=rfl;have h4:(Instr.makeMap t none).run C.P w=.ok (.map (some w.heap.size)) (World.push w (.map #[] 0)):=rfl;rw[h3,Lc,h4];exact qjS hH rfl (hk _)
def gi(w:World)(b:Nat)(o:Obj):World:={ w with heap:=w.heap.setIfInBounds b o }
theorem ZN{c:Nat}{o:Obj}(h:c≠b):(gi w b o).heap[c]? = w.heap[c]? := by
 simp only[gi,Array.getElem?_setIfInBounds];rw[zn (Ne.symm h)]
theorem QN{o:Obj}(h:b<w.heap.size):(gi w b o).heap[b]? = some o:=by simp only[gi,Array.getElem?_setIfInBounds];simp[h]
theorem BR{o o':Obj}(h:w.heap[b]? = some o)(ho:uI o=true):(setObj b o').run P w=.ok () (gi w b o'):=by simp only[setObj,Sem.run,h];cases o <;> first|rfl|(simp[uI] at ho)
theorem A4(k:ByteArray):∀ (es:List MapEntry) (i:Nat),(∀ e∈es,∃ s,e.key=.string s/\¬ (k == s)=true)->Instr.findNow .string (.string k) es i=some none
 |[],_,_=>rfl
 |e::es,i,h=>by
  obtain⟨s,hs,xb⟩:=h e mem_cons_self;have tH:(k == s)=false:=by simpa using xb
  simp only[Instr.findNow,hs,Instr.sameNow,tH];exact A4 k es (i+1) λe he=>h e (Oc _ he)
theorem S.insert{t kt el:TypeId}(ht:C.P.underlying t=some (.map kt el))(Vf:C.P.underlying kt=some .string){b ka:Nat}{es:Array MapEntry}{F:Heap}{m z:Operand}{k:ByteArray}{v:Value}(hm:e.ev m=.atom (.map (some b)))(hx:e.ev x=.atom (.string k))(hz:e.ev z=.atom v)
  (hp:xd (b,.obj (.map es ka)) H F) (qm:∀ e∈es.toList,∃ s,e.key=.string s/\¬ (k == s)=true) (hk:K (.atom undef) ((b,.obj (.map (es.push { key:=.string k,val:=v,born:=ka }) (ka+1)))::F)):ab C ⟨dst,.insert t m x z,ty,ra,ua,g⟩ e H K X:=by
 refine ab.DM hp λρ w L h hH=>?_;obtain⟨Wf,vh,hl,Kd,me⟩:=hH.Bc _ (Sq rfl);simp only at Wf vh hl Kd me;have h3:execOp ρ ⟨dst,.insert t m x z,ty,ra,ua,g⟩=(do Instr.mapUpdate t (ρ m) (ρ x) (ρ z);Pure.pure .skip):=rfl
 have hf:(Instr.findKey kt (.string k) es.toList).run C.P w=.ok none w:=by simp only[Instr.findKey,Lc,Fe Vf,jd,A4 k es.toList 0 qm,Xd]
 have hc:(Instr.checkKey false 10000 kt (.string k)).run C.P w=.ok () w:=by have lu:Instr.checkKey false 10000 kt (.string k)=Instr.checkKey false (9999+1) kt (.string k):=rfl;rw[lu,Instr.checkKey];simp only[Lc,Fe Vf,jd,Xd]
 have hg:(getObj b).run C.P w=.ok (.map es ka) w:=by simp only[getObj,Sem.run,Kd]
 rw[h3,nc h hm,nc h hx,nc h hz];simp only[Instr.mapUpdate,Lc,Fe ht,jd,hg,hc,hf];have hs:(setObj b (.map (es.push { key:=.string k,val:=v,born:=ka }) (ka+1))).run C.P w=.ok () (gi w b (.map (es.push { key:=.string k,val:=v,born:=ka }) (ka+1))):=BR Kd rfl;rw[hs];exact SQ (w':=gi w b (.map (es.push { key:=.string k,val:=v,born:=ka }) (ka+1))) hH rfl rfl rfl rfl (by simp[gi]) (λc hc=>ZN hc) (QN vh) (λ_=>Ld) hk
theorem S.range{t kt el:TypeId}(ht:C.P.underlying t=some (.map kt el)){b ka:Nat}{es:Array MapEntry}(hx:e.ev x=.atom (.map (some b)))(hm:(b,.obj (.map es ka))∈H)
  (hk:∀ r,K (ptr r 0) ((r,.obj (.mapIter (some b) ka #[] ka))::H)):ab C ⟨dst,.range t x,ty,ra,ua,g⟩ e H K X:=by
 obtain⟨F,hF⟩:∃ F,H.Perm ((b,.obj (.map es ka))::F):=by obtain⟨l1,l2,rfl⟩:=List.append_of_mem hm;exact⟨l1++l2,List.perm_middle⟩
 have main:∀ X,ab C ⟨dst,.range t x,ty,ra,ua,g⟩ e [(b,.obj (.map es ka))] (λlv H'=>∃ r,lv=ptr r 0/\H'=[(r,.obj (.mapIter (some b) ka #[] ka)),(b,.obj (.map es ka))]) X:=λX ρ w L h hH=>by
  obtain⟨Wf,vh,hl,Kd,me⟩:=hH.Bc _ (Sq rfl);simp only at Wf vh hl Kd me;have h3:execOp ρ ⟨dst,.range t x,ty,ra,ua,g⟩=(do Pure.pure (.value (<-Instr.range t (ρ x)))):=rfl;have hg:(getObj b).run C.P w=.ok (.map es ka) w:=by simp only[getObj,Sem.run,Kd]
  have hn:∀ o,(newObj o).run C.P w=.ok w.heap.size (World.push w o):=λ_=>rfl;rw[h3,nc h hx];simp only[Instr.range,Lc,Fe ht,jd,hg,Xd,hn];have:=Left.frame (F:=[(b,.obj (.map es ka))]) (K:=λlv H'=>∃ r,lv=ptr r 0/\H'=[(r,.obj (.mapIter (some b) ka #[] ka)),(b,.obj (.map es ka))]) (v:=.pointer (some ⟨w.heap.size,0,none⟩)) (by simpa using hH) (qjS (w:=w) (L:=L) (hH.sub (nil_sublist _)) (o:=.mapIter (some b) ka #[] ka) rfl ⟨w.heap.size,rfl,rfl⟩);show Left C w L _ _ _ _;simpa using this
 refine ab.qd (ab.frame (H:=[(b,.obj (.map es ka))]) (F:=F) hF (K:=λlv H'=>∃ r,lv=ptr r 0/\H'=[(r,.obj (.mapIter (some b) ka #[] ka)),(b,.obj (.map es ka))]++F) ?_) ?_;exact ab.qd (main _) (λlv H' ⟨r,h1,h2⟩=>⟨lv,H',vR _,bc _,r,h1,by rw[h2]⟩);rintro lv H' ⟨r,rfl,rfl⟩;exact⟨ptr r 0,_,vR _,⟨[],by simpa using hF.symm⟩,hk r⟩
theorem S.next{r b since last ka:Nat}{seen:Array Nat}{es:Array MapEntry}{F:Heap}(hx:e.ev x=ptr r 0)(hp:H.Perm ((r,.obj (.mapIter (some b) since seen last))::(b,.obj (.map es ka))::F))
  (hold:∀ e∈es.toList,e.born<since/\e.born<last)
  (lJ:es.filter (λe=>!seen.contains e.born)=#[]->K (.tuple [bool false]) ((r,.obj (.mapIter (some b) since seen last))::(b,.obj (.map es ka))::F))
  (iJ:∀ e∈(es.filter λe=>!seen.contains e.born).toList,K (.tuple [bool true,.atom e.key,.atom e.val]) ((r,.obj (.mapIter (some b) since (seen.push e.born) ka))::(b,.obj (.map es ka))::F)) :
  ab C ⟨dst,.next x false,ty,ra,ua,g⟩ e H K X:=by
 refine ab.frame (H:=[(r,.obj (.mapIter (some b) since seen last)),(b,.obj (.map es ka))]) (F:=F) hp λρ w L h hH=>?_;have hr:=hH.Bc (r,.obj (.mapIter (some b) since seen last)) xc;have hb:=hH.Bc (b,.obj (.map es ka)) Xh;obtain⟨_,Pq,_,Ae,_⟩:=hr;obtain⟨_,vh,_,EJ,_⟩:=hb;simp only at Pq Ae vh EJ;have h3:execOp ρ ⟨dst,.next x false,ty,ra,ua,g⟩=(do Pure.pure (.value (<-Instr.next (ρ x) false ty))):=rfl;have M7:(getObj r).run C.P w=.ok (.mapIter (some b) since seen last) w:=by simp only[getObj,Sem.run,Ae]
 have aM:(getObj b).run C.P w=.ok (.map es ka) w:=by simp only[getObj,Sem.run,EJ]
 have jS:(!seen.isEmpty && !es.isEmpty && es.all λe=>decide (e.born ≥ last))=false:=by
  rw[Bool.eq_false_iff];intro Tf;simp only[Ed] at Tf;obtain⟨⟨_,h1⟩,h2⟩:=Tf;have xb:0<es.size:=by rcases Nat.eq_zero_or_pos es.size with h0|h0;have:es=#[]:=Array.eq_empty_of_size_eq_zero h0;subst this;simp at h1;exact h0
  have h3:=(Array.all_eq_true.1 h2) 0 xb;have h4:=(hold es[0] (by simp)).2;simp at h3;omega
 rw[h3,nc h hx];simp only[Instr.next,Lc,jd,M7,aM,jS,Il,if_false];generalize hL:es.filter (λe=>!seen.contains e.born)=left at lJ iJ ⊢;have pi:∀ x∈left.toList,x.born<since:=λx hx=>by subst hL;simp at hx;exact(hold x (by simpa using hx.1)).1
 have e1:left.filter (λx=>decide (x.born<since))=left:=Array.filter_eq_self.2 (λx hx=>by simpa using pi x (by simpa using hx))
 have e2:left.filter (λx=>decide (x.born ≥ since))=#[]:=by rw[Array.filter_eq_empty_iff];intro x hx;have:=pi x (by simpa using hx);simp;omega
 simp only[e1,e2,Array.append_empty];by_cases h0:left.size=0;have:left=#[]:=Array.eq_empty_of_size_eq_zero h0;subst this;have hch:(choose (.mapNext 1)).run C.P w=.ok 0 w:=by simp[choose,Sem.run,Question.forced]
 simp only[Array.isEmpty_empty,if_true,Array.map_empty,Array.append_empty,size_toArray,List.length_singleton,hch,Lc,jd,Xd];exact⟨.tuple [bool false],_,L,Fr.refl _ _ _,hH,by simp only[Fb];exact⟨[.bool false],rfl,by simp only[oa,Fb];exact⟨_,_,rfl,rfl,rfl⟩⟩,lJ rfl⟩;have xb:left.isEmpty=false:=by simp[Array.isEmpty,h0]
 simp only[xb,Il,if_false,Array.empty_append,Array.size_map];obtain⟨j,w1,hj,Vy,Cf⟩:∃ (j:Nat) (w1:World),j<left.size/\(w1=w∨w1=w.drew)/\(choose (Question.mapNext left.size)).run C.P w=.ok j w1:=by
  by_cases hf:left.size<=1;exact⟨0,w,by omega,.inl rfl,by simp[choose,Sem.run,Question.forced,hf]⟩;exact⟨_,w.drew,Nat.mod_lt _ zo,.inr rfl,by
   simp only[choose,Sem.run,Question.forced,Rg,hf,if_false,Question.cut];rfl⟩
 have N6:w1.heap[r]? = some (.mapIter (some b) since seen last):=by rcases Vy with rfl|rfl <;> exact Ae
 have ae:w1.heap.size=w.heap.size:=by rcases Vy with rfl|rfl <;> rfl
 have bT:w1.heap=w.heap:=by rcases Vy with rfl|rfl <;> rfl
 simp only[Cf,Array.getElem?_map,Array.getElem?_eq_getElem hj,map_some,Lc,jd,BR N6 rfl,Xd];have hl:Left C w L [(r,.obj (.mapIter (some b) since seen last))] (gi w1 r (.mapIter (some b) since (seen.push left[j].born) ka)) (.tuple #[.bool true,left[j].key,left[j].val]) (λlv H'=>K lv (H'++[(b,.obj (.map es ka))]++F)):=
  SQ (lv:=.tuple [bool true,.atom left[j].key,.atom left[j].val]) (Ta.left (F:=[(b,.obj (.map es ka))]) hH) rfl (by rcases Vy with rfl|rfl <;> rfl) (by rcases Vy with rfl|rfl <;> rfl) (by rcases Vy with rfl|rfl <;> rfl) (by simp[gi,ae]) (λc hc=>by rw[ZN hc,bT]) (QN zo)
   (λ_=>by simp only[Fb];exact⟨[.bool true,left[j].key,left[j].val],rfl,by simp only[oa,Fb];exact⟨_,_,rfl,rfl,_,_,rfl,rfl,_,_,rfl,rfl,rfl⟩⟩) (iJ left[j] (by simp))
 exact Left.frame (F:=[(b,.obj (.map es ka))]) (K:=λlv H'=>K lv (H'++F)) hH hl
theorem Pure.entry{r b since last ka stamp:Nat}{seen:Array Nat}{es:Array MapEntry}{en:MapEntry}(hx:e.ev x=ptr r 0)(hi:(r,ja.obj (.mapIter (some b) since seen last))∈H)(hm:(b,ja.obj (.map es ka))∈H)
  (hl:ka=last) (hb:seen.back? = some stamp) (hf:es.find? (·.born == stamp)=some en):Pure C ⟨dst,.entry x,ty,ra,ua,g⟩ e H (.tuple [.atom en.key,.atom en.val]):=λρ w L h hH=>by
 refine⟨.tuple #[en.key,en.val],by simp only[Fb];exact⟨[en.key,en.val],rfl,by simp only[oa,Fb];exact⟨_,_,rfl,rfl,_,_,rfl,rfl,rfl⟩⟩,λw' ha=>?_⟩;have h1:w'.heap[r]? = some (.mapIter (some b) since seen last):=(ha.1 _ hi).trans (hH.Bc _ hi).2.2.2.1;have h2:w'.heap[b]? = some (.map es ka):=(ha.1 _ hm).trans (hH.Bc _ hm).2.2.2.1;have h3:execOp ρ ⟨dst,.entry x,ty,ra,ua,g⟩=(do Pure.pure (.value (<-Instr.entry (ρ x)))):=rfl;have M7:(getObj r).run C.P w'=.ok (.mapIter (some b) since seen last) w':=by simp only[getObj,Sem.run,h1]
 have aM:(getObj b).run C.P w'=.ok (.map es ka) w':=by simp only[getObj,Sem.run,h2]
 have xb:(ka != last)=false:=by rw[hl];simp
 rw[h3,nc h hx];simp only[Instr.entry,Lc,jd,M7,hb,aM,xb,Il,if_false,Xd,hf]
theorem lH{op:Op}(hi:Sa[i]? = some ⟨dst,op,ty,ra,ua,none⟩)(hd:Im n dst)
  (hp:Pure C ⟨dst,op,ty,ra,ua,none⟩ e H lv) (k:oi C n Sa Q HF Ba (Da.setIfInBounds i true) (e.put dst lv) H):Nj C n Sa Q HF Ba Da e H i:=λw0 L0 a w L hL hA ae hE hH=>by
 obtain⟨v,hv,Cf⟩:=hp a.eval w L hE.ev hH;unfold wpOp;rw[hi];simp only;rw[zp (by simp[Region.wanted])];refine .inl ?_;unfold Oper.wp;rw[Cf w (Ps.refl _ _ _)];exact⟨hA,k w0 L0 _ w L hL hA ae (hE.put hd hv) hH⟩
end
def yV:Op->Bool
 |.defer _=>false
 |_=>true
theorem qlT{f:FuncId}{args:Array Value}{R:Ending->World->Prop}(h:Calls P f args w R):CallsIn (Fence.wide.inRound l) n P f args w R:=(callsIn_wide (n:=n)).2 h
theorem qnr{row:String}{args:Array Value}{R:Value->World->Prop}(h:Rows P row args w R):RowsIn (Fence.wide.inRound l) n P row args w R:=λc cs _=>
 let ⟨v,w',r,s⟩:=h c cs
 ⟨v,w',r,stepsIn_wide.2 s⟩
theorem qmW{o:Oper}{a:Act}{w:World}{next next':Act->World->Prop}{Q:Exit->Act->World->Prop}(ho:yV o.op=true)
  (hn:∀ a w,next a w->next' a w) (h:o.wp P a w next Q):o.wpIn (Fence.wide.inRound l) n P a w next' Q:=by
 refine⟨λ_ _=>trivial,?_⟩;have hs:o.semAt (Fence.wide.inRound l).round a.eval=execOp a.eval o:=Oper.semAt_eq _ _ _ λc hc=>by rw[hc] at ho;cases ho
 rw[hs];unfold Oper.wp at h;revert h;generalize (execOp a.eval o).run P w=r;intro h;cases r with
 |ok x w'=>
  cases x with
  |value v=>exact hn _ _ h
  |skip=>exact hn _ _ h
  |defer d=>exact hn _ _ h
  |enter f args=>
   refine⟨λhd=>(by cases hd),qlT (Calls.mono h ?_)⟩;intro e EP he
   cases e with
   |returned v=>exact hn _ _ he
   |panicked ch=>exact he
   |outgrown=>exact he
  |row row args=>
   refine⟨λhd=>(by cases hd),qnr (Rows.mono h ?_)⟩;intro v EP he
   exact hn _ _ he
  |_=>exact h.elim
 |halt x w'=>cases x <;> first|exact h|exact h.elim
theorem S4{l n:Nat}{P:Program}{Sa:Array Oper}{Q:Exit->Act->World->Prop}(hQ:¬ LetsOut Q):∀ (rest:List Oper) (a:Act) (w:World),(∀ o∈rest,yV o.op=true)->wpList P Sa Q rest a w->wpListIn (Fence.wide.inRound l) n P Sa Q rest a w
 |[],_,_,_,h=>h
 |o::rest,a,w,ho,h=>by
  unfold wpList at h;unfold wpListIn;split at h;rename_i hw;rw[zp hw];rcases h with h|⟨_,h⟩;exact qmW (ho o mem_cons_self) (λa w h=>S4 hQ rest a w (λo h=>ho o (Oc _ h)) h) h;exact absurd h hQ
  rename_i hw;rw[zn hw];exact⟨λ_ _=>trivial,S4 hQ rest _ _ (λo h=>ho o (Oc _ h)) h⟩
theorem qkV{id:Nat}{Sa:List Oper}{Q:Exit->Act->World->Prop}{a:Act}(hQ:¬ LetsOut Q)(ho:Sa.all (λo=>yV o.op)=true)(h:wpList P Sa.toArray Q Sa a w) :
  (Code.region id Sa.toArray false).wpIn (Fence.wide.inRound l) n P Q a w:=wpIn_region_lit (S4 hQ Sa a w (by simpa using ho) h)
end Go.GL
namespace Go.GL
open Go.RowKit
variable{C:Ctx}{F:Heap}{L:Live}{b n ty:Nat}{c:Code}{cs Zb:List LV}{w:World}
theorem ZV{o o':Obj}(hH:Ta C w L ((b,.obj o)::F))(yX:uI o'=true) :
  Fr (keys ((b,ja.obj o)::F)) w L (w.putObj b o') L ((b,.obj o')::F)/\Ta C (w.putObj b o') L ((b,.obj o')::F):=by
 have h1:Ta C w L ([(b,.obj o)]++F):=hH;have Ka:b<w.heap.size:=(hH.Bc _ mem_cons_self).2.1;have h2:Left C w L [(b,.obj o)] (w.putObj b o') undef (λ_ H'=>H'=[(b,.obj o')]):=
  SQ (w':=w.putObj b o') h1.left yX rfl rfl rfl (by simp[World.putObj]) (λc hc=>World.putObj_heap_other hc) (World.putObj_heap_same Ka) (v:=undef) (lv:=.atom undef) (λ_=>Ld) rfl
 obtain⟨lv,H',L',g1,g2,g3,rfl⟩:=h2;have hL:L'=L:=by funext c;obtain⟨_,_,hl,_⟩:=h1.left.Bc _ mem_cons_self;obtain⟨_,_,az,_⟩:=g2.Bc _ mem_cons_self;by_cases he:c=b;subst he;rw[hl,az];rcases lt_or_ge c w.heap.size with hc|hc;exact g1.fk c hc (by simpa using he);rw[h1.wf c hc,g2.wf c (by simpa [World.putObj] using hc)]
 subst hL;have:=h1.frame g1 g2;exact⟨this.2,this.1⟩
theorem qn7{o:Obj}(hH:Ta C w L F)(ho:uI o=true) :
  ∃ L',Fr (keys F) w L (w.alloc o) L' ((w.heap.size,.obj o)::F)/\Ta C (w.alloc o) L' ((w.heap.size,.obj o)::F):=by
 have h1:Ta C w L ([]++F):=hH;have:=OE h1.left o 0 [(w.heap.size,.obj o)] (λp hp=>by
  simp only[mem_singleton] at hp;subst hp;exact⟨rfl,by simp[Live.Rd],aw,YN aw ho⟩) (by simp)
 have:=h1.frame this.1 this.2;exact⟨_,this.2,this.1⟩
def Au(C:Ctx)(l n:Nat)(c:Code)(Q:Vc)(e:Env)(H:Heap):Prop:=
 ∀ a w L,Ec n a e w L->Ta C w L H->∀ m,c.wpIn (Fence.wide.inRound l) m C.P (lift C n w L (keys H) Q) a w
def SH(k:Env->Heap->Prop):Vc
 |.normal,e,H=>k e H
 |_,_,_=>False
section round
variable{C:Ctx}{l n:Nat}{e:Env}{H:Heap}{k:Env->Heap->Prop}
theorem Au.region{id:Nat}{Sa:List Oper}(ho:Sa.all (λo=>yV o.op)=true)(h:Ea C n Sa.toArray (Ie k (SH k)) Sa e H):Au C l n (.region id Sa.toArray false) (SH k) e H:=λa w L hE hH m=>by refine qkV ?_ ho (NC ?_ _ _ _ (h a w L hE hH));rintro⟨a',w',e',H',L',_,_,_,hq⟩;exact hq;rintro ex a' w' hq;refine Z2 ?_ hq;intro x e H h;cases x <;> exact h
theorem Au.seq{x y:Code}(h:Au C l n x (SH λe H=>Au C l n y (SH k) e H) e H):Au C l n (.seq x y) (SH k) e H:=λa w L hE hH m=>by
 refine wpIn_seq (wpIn_mono (h a w L hE hH m) λex a' w' hq=>?_);obtain⟨e',H',L',h1,h2,h3,h4⟩:=hq
 cases ex with
 |normal=>exact wpIn_mono (h4 a' w' L' h3 h2 m) λ_ _ _=>cO h1
 |exit id=>exact h4.elim
 |goto id=>exact h4.elim
 |ret=>exact h4.elim
 |panic ch=>exact h4.elim
 |outgrown=>exact h4.elim
theorem Au.block{id:Nat}{c:Code}(h:Au C l n c (SH k) e H):Au C l n (.block id c) (SH k) e H:=λa w L hE hH m=>by
 refine wpIn_block (wpIn_mono (h a w L hE hH m) λex a' w' hq=>?_);obtain⟨e',H',L',h1,h2,h3,h4⟩:=hq
 cases ex with
 |normal=>exact⟨e',H',L',h1,h2,h3,h4⟩
 |exit id=>exact h4.elim
 |goto id=>exact h4.elim
 |ret=>exact h4.elim
 |panic ch=>exact h4.elim
 |outgrown=>exact h4.elim
end round
theorem qiY{F:Fence}{m:Nat}{P:Program}{l:Nat}{args:Array Value}{W:World}{R R':Ending->World->Prop}(h:YieldAt F m P l args W R)(hr:∀ e w,R e w->R' e w):YieldAt F m P l args W R':=by obtain⟨fn,tmps,assign,body,hy,hR⟩:=h;exact⟨fn,tmps,assign,body,hy,hR.mono hr⟩
def EC(C:Ctx)(l:Nat)(args:List LV)(H:Heap)(K:Heap->Prop):Prop:=
 ∀ (vs:List Value) w L,oa w L args vs->Ta C w L H->∀ m,YieldAt Fence.wide m C.P l vs.toArray w λe w'=>e=.returned (.bool true)/\Js C w L H w' K
theorem EC.frame{C:Ctx}{l:Nat}{args:List LV}{G H F:Heap}{K:Heap->Prop}(p:G.Perm (H++F))(h:EC C l args H λH'=>K (H'++F)):EC C l args G K:=λvs w L h1 h2 m=>by have h3:=h2.perm p;refine qiY (h vs w L h1 h3.left m) ?_;rintro e w' ⟨he,hx⟩;obtain⟨H',L',g1,g2,g3⟩:=Js.frame h3 hx;exact⟨he,H',L',g1.perm p.symm,g2,g3⟩
theorem EC.mono{C:Ctx}{l:Nat}{args:List LV}{H:Heap}{K K':Heap->Prop}(h:EC C l args H K)(hk:∀ H,K H->K' H):EC C l args H K':=λvs w L h1 h2 m=>qiY (h vs w L h1 h2 m) λ_ _ hx=>⟨hx.1,hx.2.mono hk⟩
def l5(C:Ctx)(gf:FuncId)(db:List LV)(Hc:Heap)(N:Nat)(xs:Nat->List LV):Prop:=
 ∀ (l:Nat) (J:Nat->Heap->Prop),(∀ k H,k<N->J k H->EC C l (xs k) H (J (k+1)))->∀ H0,J 0 H0 ->
  ca C gf (.atom (.func (.yield l) #[] #[])::db) (H0++Hc) λr H'=>(∃ v,r=.ret v)/\∃ H1,H'=H1++Hc/\J N H1
def Env.round(j:Env):List (Nat×LV)->Env
 |[]=>j
 |(d,v)::r=>Env.round (j.Rd d v) r
theorem Ec.rounds{n:Nat}{w:World}{L:Live}:∀ (ps:List Nat) (bD:List LV) (vs:List Value) (tmps:Array Value) (j:Env),Ec n { tmps,defers:=[] } j w L->oa w L bD vs->ps.length=bD.length->ps.all (λp=>Nat.blt p n)=true ->
  Ec n { tmps:=(ps.zip vs).foldl (λt p=>t.setIfInBounds p.1 p.2) tmps,defers:=[] } (Env.round j (ps.zip bD)) w L
 |[],bD,vs,tmps,j,h,_,_,_=>by simpa [Env.round] using h
 |p::ps,[],vs,tmps,j,h,_,hl,_=>by simp at hl
 |p::ps,lv::bD,vs,tmps,j,h,hr,hl,hp=>by simp only[oa] at hr;obtain⟨y,ys,rfl,hy,hr⟩:=hr;simp only[List.all_cons,Ed] at hp;have:=Ec.put (dst:=some p) h (by simp only[Im,mE];exact hp.1) hy;simp only[List.zip_cons_cons,List.foldl_cons,Env.round];exact Ec.rounds ps bD ys _ _ this hr (by simpa using hl) hp.2
def Act.flat(a:Act):Env:=⟨λi=>.atom (a.tmps.getD i undef),[]⟩
theorem Act.bE{a:Act}(hn:a.tmps.size=n):Ec n { tmps:=a.tmps,defers:=[] } (Act.flat a) w L:=⟨hn,rfl,λ_=>Ld⟩
section range
variable{C:Ctx}{n:Nat}{e:Env}{H:Heap}{Q:Vc}
theorem kb.rangeFunc{g:Operand}{ps:List Nat}{assign body:Code}{gf:FuncId} [Wb C.P gf]{db:Array Value}(hg:e.ev g=.atom (.func (.func gf) #[] db))(N:Nat)(xs:Nat->List LV)(H0 Hc:Heap)(hp:H.Perm (H0++Hc))
  (XS:l5 C gf (db.toList.map .atom) Hc N xs) (jo:∀ k,k<N->ps.length=(xs k).length) (hpn:ps.all (λp=>Nat.blt p n)=true)
  (J:Nat->Heap->Prop) (h0:J 0 H0)
  (round:∀ k H,k<N->J k H->∀ j:Env,j.ds=[]->(∀ i v,e.s i=.atom v->j.s i=.atom v)->∀ (l D:Nat) (o oD:ja),Au C l n assign (SH λe1 H1=>e1.ds=[]/\∃ gy,H1=(l,o)::(D,oD)::gy/\(∀ o':ja,Au C l n body (SH λ_ H2=>∃ xU,HSub ((l,o')::(D,oD)::xU) H2/\J (k+1) xU) e1 ((l,o')::(D,oD)::gy))) (Env.round j (ps.zip (xs k))) ((l,o)::(D,oD)::H))
  (done:∀ D H',J N H'->Q .normal ⟨e.s,{ target:=.collected D,args:=#[] }::e.ds⟩ ((D,.obj (.deferred (some [])))::(H'++Hc))) :
  kb C n (.rangeFunc g ps.toArray assign body) Q e H:=λa w L hE hH=>by
 refine wpIn_wide (n:=1) |>.1 (wpIn_rangeFunc λfn _=>?_);have hgv:a.eval g=.func (.func gf) #[] db:=by have:=hE.ev g;rw[hg] at this;simpa only[Fb] using this
 obtain⟨rec,px⟩:∃ rec:LoopState->Option Code->Loop,rec=λst pe=>{ state:=st,pending:=pe,fn,tmps:=a.tmps,params:=ps.toArray,assign,body,defers:=w.heap.size }:=⟨_,rfl⟩;obtain⟨L1,f1,r1⟩:=qn7 (o:=.deferred (some [])) (hH.perm hp) rfl;obtain⟨L2,f2,r2⟩:=qn7 (o:=.loop (rec .ready none)) r1 rfl;have ae:(w.alloc (.deferred (some []))).heap.size=w.heap.size+1:=World.size_alloc ..;rw[ae] at f2 r2;have vS:rec .ready none={ state:=.ready,pending:=none,fn,tmps:=a.tmps,params:=ps.toArray,assign,body,defers:=w.heap.size }:=by rw[px]
 refine⟨w.heap.size+1,[{ target:=.collected w.heap.size,args:=#[] }],(w.alloc (.deferred (some []))).alloc (.loop (rec .ready none)),{ target:=.fn (.func gf) db,args:=#[.func (.yield (w.heap.size+1)) #[] #[]] },(w.alloc (.deferred (some []))).alloc (.loop (rec .ready none)),gf,
  #[.func (.yield (w.heap.size+1)) #[] #[]]++db,(w.alloc (.deferred (some []))).alloc (.loop (rec .ready none)),?_,?_,λ_ _=>trivial,?_,λ_=>Pb _,callsIn_wide.2 ?_⟩
 rw[vS];exact run_enterLoop_outer _ _ _ _ _;simp only[resolve,hgv];simp[go_sem];simp only[invoke];exact P4 _ _;obtain⟨l,hl⟩:∃ l,l=w.heap.size+1:=⟨_,rfl⟩;obtain⟨D,hD⟩:∃ D,D=w.heap.size:=⟨_,rfl⟩;rw[<-hl,<-hD] at f2 r2 ⊢;rw[<-hD] at r1 f1;have hc:=XS l (λk H=>∃ H1,H=(l,.obj (.loop (rec .ready none)))::(D,.obj (.deferred (some [])))::H1/\J k H1) ?_ ((l,.obj (.loop (rec .ready none)))::(D,.obj (.deferred (some [])))::H0) ⟨H0,rfl,h0⟩
 ·have h1:=hc (.func (.yield l) #[] #[]::db.toList) _ L2 (by simp only[oa,Fb];exact⟨_,_,rfl,rfl,Ys _⟩) r2
  have e1:(Value.func (.yield l) #[] #[]::db.toList).toArray=#[.func (.yield l) #[] #[]]++db:=by apply Array.ext';simp
  rw[e1] at h1;refine Calls.mono h1 ?_;rintro ex w' hx;cases ex with
  |returned v=>
   obtain⟨lv,H',L',g1,g2,g3,_,H1,rfl,gy,rfl,hJ⟩:=hx;have aE:Ta C w' L' ((l,.obj (.loop (rec .ready none)))::((D,.obj (.deferred (some [])))::(gy++Hc))):=g2;obtain⟨_,_,_,Dt,_⟩:=aE.Bc _ mem_cons_self;have GD:w'.heap[l]? = some (.loop (rec .ready none)):=Dt;have hpe:(rec .ready none).pending=none:=by rw[px]
   have mq:=(run_endLoop (P:=C.P) GD (by rw[px];simp)).trans (congrArg (λp=>Result.ok p _) hpe);have ht:=ZV (o':=.loop { rec .ready none with state:=.exhausted }) aE rfl;refine⟨none,_,mq,?_⟩;have hs:HSub ((D,ja.obj (.deferred (some [])))::(gy++Hc)) ((l,.obj (.loop { rec .ready none with state:=.exhausted }))::((D,.obj (.deferred (some [])))::(gy++Hc))):=Yg ob;refine⟨⟨e.s,{ target:=.collected D,args:=#[] }::e.ds⟩,(D,.obj (.deferred (some [])))::(gy++Hc),L',?_,ht.2.Yb hs,⟨?_,?_,?_⟩,done D gy hJ⟩;exact Fr.perm hp.symm ((f1.trans (f2.trans (g1.trans ht.1))).Yb hs);exact hE.size;show _::a.defers=_;rw[hE.ds];exact λi=>(hE.zj i).mono (f1.ext.trans (f2.ext.trans (g1.ext.trans ht.1.ext))) _ _
  |panicked ch=>obtain⟨H',L',g1,g2,⟨v,hv⟩,_⟩:=hx;cases hv
  |outgrown=>exact hx.elim
 rintro k H hk ⟨H1,rfl,hJ⟩ vs w1 Lw oX hr m;obtain⟨_,_,_,Dt,_⟩:=hr.Bc _ mem_cons_self;have GD:w1.heap[l]? = some (.loop (rec .ready none)):=Dt;have ma:=oX.length;have hpk:=jo k hk;have hy:=run_yield (P:=C.P) (args:=vs.toArray) GD (by rw[px];simp;omega);rw[px] at hy;refine⟨fn,_,assign,body,hy,roundIn_of_wpIn trivial ?_⟩;have htm:Ec n { tmps:=a.tmps,defers:=[] } (Act.flat a) w1 Lw:=Act.bE hE.size;have z6:=Ec.rounds ps (xs k) vs a.tmps (Act.flat a) htm oX hpk hpn;have e2:(ps.toArray.zip vs.toArray).foldl (λtmps (t,a)=>tmps.setIfInBounds t a) a.tmps=(ps.zip vs).foldl (λt p=>t.setIfInBounds p.1 p.2) a.tmps:=by simp
 simp only[e2];refine wpIn_mono (round k H1 hk hJ (Act.flat a) rfl ?_ l D _ _ _ w1 Lw z6 hr m) ?_;intro i v hv;have:=hE.zj i;rw[hv] at this;simp only[Fb] at this;simp only[Act.flat,this];rintro ex a1 w2 ⟨e1,H2,L2',q1,q2,q3,q4⟩;cases ex with
 |normal=>
  obtain⟨Ft,xU,rfl,hb⟩:=q4;obtain⟨_,_,_,y7,_⟩:=q2.Bc _ mem_cons_self;have RS:w2.heap[l]? = some (.loop (rec .ready none)):=y7;have ht:=ZV (o':=.loop { rec .ready none with state:=.busy }) q2 rfl;refine⟨_,run_beginRound RS (by rw[px]),?_⟩;refine wpIn_mono (hb (.obj (.loop { rec .ready none with state:=.busy })) a1 _ L2' (q3.mono ht.1.ext) ht.2 m) ?_;rintro ex a3 w3 ⟨e3,H3,L3,p1,p2,p3,p4⟩;cases ex with
  |normal=>
   obtain⟨H3',vO,hJ3⟩:=p4;have p2':=p2.Yb vO;obtain⟨_,_,_,x7,_⟩:=p2'.Bc _ mem_cons_self;have QS:w3.heap[l]? = some (.loop { rec .ready none with state:=.busy }):=x7;have QL:=ZV (o':=.loop (rec .ready none)) p2' rfl;have mq:=run_endRound (P:=C.P) none QS;have e3:({ { rec .ready none with state:=.busy } with state:=if (none:Option Code).isNone then .ready else .done,pending:=none }:Loop)=rec .ready none:=by rw[px];try rfl
   rw[e3] at mq;refine⟨.bool true,_,mq,rfl,?_⟩;exact⟨_,L3,q1.trans (ht.1.trans ((p1.Yb vO).trans QL.1)),QL.2,H3',rfl,hJ3⟩
  |exit id=>exact p4.elim
  |goto id=>exact p4.elim
  |ret=>exact p4.elim
  |panic ch=>exact p4.elim
  |outgrown=>exact p4.elim
 |exit id=>exact q4.elim
 |goto id=>exact q4.elim
 |ret=>exact q4.elim
 |panic ch=>exact q4.elim
 |outgrown=>exact q4.elim
end range
def xu(C:Ctx)(n:Nat)(Sa:Array Oper)(Q:Vc)(rest:List Oper)(e:Env)(H:Heap):Prop:=
 ∀ a w L,Ec n a e w L->Ta C w L H->wpListIn Fence.wide 1 C.P Sa (lift C n w L (keys H) Q) rest a w
section W
variable{C:Ctx}{n:Nat}{Sa:Array Oper}{Q:Vc}{e:Env}{H:Heap}
theorem xu.nil(h:Q .normal e H):xu C n Sa Q [] e H:=λ_ _ L hE hH=>⟨e,H,L,Fr.refl _ _ _,hH,hE,h⟩
theorem PI{F:Fence}{m:Nat}{P:Program}{Q Q':Exit->Act->World->Prop}(h:∀ e a w,Q e a w->Q' e a w)(ho:LetsOut Q->LetsOut Q'):∀ (l:List Oper) (a:Act) (w:World),wpListIn F m P Sa Q l a w->wpListIn F m P Sa Q' l a w
 |[],_,_,k=>h _ _ _ k
 |o::l,a,w,k=>by
  unfold wpListIn at k ⊢;split at k
  ·rename_i hw
   rw[zp hw];refine⟨k.1,?_⟩;have k2:=k.2;generalize (o.semAt F.round a.eval).run P w=r at k2 ⊢;cases r with
   |ok x w'=>
    cases x with
    |value v=>exact PI h ho l _ _ k2
    |skip=>exact PI h ho l _ _ k2
    |defer d=>exact PI h ho l _ _ k2
    |enter f args=>
     refine⟨k2.1,k2.2.mono λe EP he=>?_⟩
     cases e with
     |returned v=>exact PI h ho l _ _ he
     |panicked ch=>exact h _ _ _ he
     |outgrown=>exact ho he
    |row row args=>
     refine⟨k2.1,λc cs hr=>?_⟩;obtain⟨v,w2,r2,s2⟩:=k2.2 c cs hr
     exact⟨v,w2,PI h ho l _ _ r2,s2⟩
    |round l' f tmps Sc bd=>
     refine⟨k2.1,k2.2.mono λe EP he=>?_⟩
     cases e with
     |returned v=>exact PI h ho l _ _ he
     |panicked ch=>exact h _ _ _ he
     |outgrown=>exact ho he
    |_=>exact k2.elim
   |halt x w'=>cases x <;> first|exact h _ _ _ k2|exact k2.elim
  rename_i hw;rw[zn hw];exact⟨k.1,PI h ho l _ _ k.2⟩
theorem qxs{w1:World}{L1:Live}{K:List Nat}{H1:Heap}(f:Fr K w L w1 L1 H1):LetsOut (lift C n w1 L1 (keys H1) Q)->LetsOut (lift C n w L K Q):=λ⟨a,w',h⟩=>⟨a,w',cO f h⟩
theorem xu.pure{dst:Option Nat}{op:Op}{ty:TypeId}{ra:String}{ua:Array Edge}{rest:List Oper}{lv:LV}
  (h:Pure C ⟨dst,op,ty,ra,ua,none⟩ e H lv) (hd:Im n dst) (k:xu C n Sa Q rest (e.put dst lv) H):xu C n Sa Q (⟨dst,op,ty,ra,ua,none⟩::rest) e H:=λa w L hE hH=>by
 obtain⟨v,hv,hr⟩:=h a.eval w L hE.ev hH;unfold wpListIn;rw[zp (by simp[Region.wanted])];refine⟨λ_ _=>trivial,?_⟩;have hs:Oper.semAt (Fence.wide).round a.eval ⟨dst,op,ty,ra,ua,none⟩=execOp a.eval ⟨dst,op,ty,ra,ua,none⟩:=rfl;rw[hs,hr w ⟨λ_ _=>rfl,λ_ _ _=>rfl⟩];exact k _ w L (hE.put hd hv) hH
theorem xu.yield{dst:Option Nat}{fo:Operand}{l:Nat}{args:List Operand}{nh:Array TypeId}{Sc:List LV}{ty:TypeId}{ra:String}{ua:Array Edge}{rest:List Oper}{K:Heap->Prop}(hf:e.ev fo=.atom (.func (.yield l) #[] #[]))
  (has:args.map e.ev=Sc) (hy:EC C l Sc H K) (hd:Im n dst) (k:∀ H',K H'->xu C n Sa Q rest (e.put dst (bool true)) H'):xu C n Sa Q (⟨dst,.call { callee:=.value fo,args:=args.toArray,argTypes:=nh },ty,ra,ua,none⟩::rest) e H:=λa w L hE hH=>by
 subst has;have hv:=hE.ev fo;rw[hf] at hv;simp only[Fb] at hv;obtain⟨fn,tmps,assign,body,h1,h2⟩:=hy (args.map a.eval) w L (JQ hE.ev _) hH 0;unfold wpListIn;rw[zp (by simp[Region.wanted])];refine⟨λ_ _=>trivial,?_⟩;have h3:Oper.semAt (Fence.wide).round a.eval ⟨dst,.call { callee:=.value fo,args:=args.toArray,argTypes:=nh },ty,ra,ua,none⟩=(do let d <-Deferred.ofValue (a.eval fo) (args.toArray.map a.eval);invoke d.target d.args):=rfl
 have h4:(do let d <-Deferred.ofValue (.func (.yield l) #[] #[]) (args.toArray.map a.eval);invoke d.target d.args:Sem Next).run C.P w=.ok (.round l fn tmps assign body) w:=by simp only[Deferred.ofValue,Lc,Xd,jd,invoke];rw[<-h1];simp
 rw[h3,hv,h4];refine⟨λ_=>Pb _,h2.mono ?_⟩;rintro ex w' ⟨rfl,H',L',g1,g2,g3⟩;exact PI (λ_ _ _=>cO g1) (qxs g1) _ _ _ (k H' g3 _ w' L' ((hE.mono g1.ext).put hd Ld) g2)
theorem kb.aG{id:Nat}{l:List Oper}(h:xu C n l.toArray Q l e H):kb C n (.region id l.toArray false) Q e H:=λa w L hE hH=>wpIn_wide (n:=1) |>.1 (wpIn_region_lit (h a w L hE hH))
end W
def SE(C:Ctx)(n:Nat)(rs:List ResultVar)(R:Pe->Heap->Prop):Vc
 |.normal,e,H|.ret,e,H=>∃ D F,e.ds=[{ target:=.collected D,args:=#[] }]/\H.Perm ((D,.obj (.deferred (some [])))::F)/\∃ vs H',tn C n e F rs vs/\HSub H' F/\R (.ret (Oh vs)) H'
 |.panic ch,e,H=>(e.ds=[]/\∃ H',HSub H' H/\R (.panic ch) H')∨∃ D F,e.ds=[{ target:=.collected D,args:=#[] }]/\H.Perm ((D,.obj (.deferred (some [])))::F)/\∃ H',HSub H' F/\R (.panic ch) H'
 |_,_,_=>False
theorem ca.KL{f:FuncId}{fn:Func}{args:List LV}{H:Heap}{R:Pe->Heap->Prop}(hf:C.P.funcs[f]? = some fn)(hb:fn.body=some c)(hn:fn.ntmps=n)(h3:Nat.ble fn.results.size 3=true)
  (hl:Nat.ble args.length n=true) (h:kb C n c (SE C n fn.results.toList R) (tI args) H):ca C f args H R:=λvs w L hv hH=>by
 subst hn;have az:args.length<=fn.ntmps:=by simpa using hl
 have Nt:fn.results.size<=3:=by simpa using h3
 have ma:=hv.length;refine callsIn_wide.1 (callsIn_of_wp_marks (F:=Fence.wide) (n:=1) hf hb trivial (wpIn_wide.2 (Go.wp_mono (h _ w L ⟨?_,rfl,λi=>?_⟩ hH) λex a' w' hq=>?_)))
 simp;omega;exact kP;obtain⟨e',H',L',g1,g2,g3,g4⟩:=hq;have turn:∀ {D F},H'.Perm ((D,ja.obj (.deferred (some [])))::F)->(Instr.takeDeferred D).run C.P w'=.ok [] (w'.putObj D (.deferred none))/\Fr (keys H) w L (w'.putObj D (.deferred none)) L' F/\Ta C (w'.putObj D (.deferred none)) L' F/\Ext w' L' (w'.putObj D (.deferred none)) L':=λ{D F} hp=>by have aE:=g2.perm hp;obtain⟨_,_,_,Dt,_⟩:=aE.Bc _ mem_cons_self;have GD:w'.heap[D]? = some (.deferred (some [])):=Dt;have ht:=ZV (o':=.deferred none) aE rfl;have hs:HSub F ((D,ja.obj (.deferred none))::F):=Yg ob;have hkp:Fr (keys H) w L w' L' ((D,ja.obj (.deferred (some [])))::F):=g1.Yb ⟨[],by simpa using hp⟩;exact⟨run_takeDeferred GD,(hkp.trans ht.1).Yb hs,ht.2.Yb hs,ht.1.ext⟩
 have ret:Ec fn.ntmps a' e' w' L'->(∃ D F,e'.ds=[{ target:=.collected D,args:=#[] }]/\H'.Perm ((D,.obj (.deferred (some [])))::F)/\∃ vs Kh,tn C fn.ntmps e' F fn.results.toList vs/\HSub Kh F/\R (.ret (Oh vs)) Kh) ->
   LeavesInM Fence.wide 1 C.P fn a'.tmps (AB C w L H (λv=>R (.ret v)) λch=>R (.panic ch)) a'.defers .returning w':=λhE hr=>by
  obtain⟨D,F,h1,hp,EE,Kh,h2,h4,h5⟩:=hr;rw[hE.ds,h1];obtain⟨t1,t2,t3,t4⟩:=turn hp;refine⟨by simp,.inl ⟨D,_,rfl,t1,?_⟩⟩;obtain⟨v,r1,r2⟩:=J3 (hE.mono t4) t3 h2 Nt;exact⟨v,r1,Oh EE,Kh,L',t2.Yb h4,t3.Yb h4,r2,h5⟩
 cases ex with
 |normal=>exact ret g3 g4
 |ret=>exact ret g3 g4
 |panic ch=>rcases g4 with⟨h1,Kh,h4,h5⟩|⟨D,F,h1,hp,Kh,h4,h5⟩;show LeavesInM _ _ _ _ _ _ a'.defers _ _;rw[show a'.defers=[] from(show a'.defers=e'.ds from g3).trans h1];exact⟨Kh,L',g1.Yb h4,g2.Yb h4,h5⟩;show LeavesInM _ _ _ _ _ _ a'.defers _ _;rw[show a'.defers=[{ target:=.collected D,args:=#[] }] from(show a'.defers=e'.ds from g3).trans h1];obtain⟨t1,t2,t3,t4⟩:=turn hp;exact⟨by simp,.inl ⟨D,_,rfl,t1,⟨Kh,L',t2.Yb h4,t3.Yb h4,h5⟩⟩⟩
 |exit id=>exact g4.elim
 |goto id=>exact g4.elim
 |outgrown=>exact g4.elim
section
variable{C:Ctx}{n:Nat}{Q:Vc}{e:Env}{H:Heap}{k:Env->Heap->Prop}
theorem kb.mid{A:Type}(l:A->List (Nat×LV))(H1:A->Heap)(F:A->Prop)(hx:kb C n c (Ie (λe' H'=>∃ a,F a/\At (l a) (H1 a) e.ds e' H') Q) e H)(hy:∀ a,F a->∀ j:Env,j.ds=e.ds->k (Env.Tj j (l a)) (H1 a)):kb C n c (Ie k Q) e H:=by
 refine kb.qd hx ?_;rintro ex e' H' hq;cases ex with
 |normal=>obtain⟨a,hF,h1,rfl,h3⟩:=hq;have:=hy a hF e' h3;rw[Env.Ce h1.mem] at this;exact this
 |exit id=>exact hq
 |goto id=>exact hq
 |ret=>exact hq
 |panic ch=>exact hq
 |outgrown=>exact hq
theorem cM{A:Type}{c2:Code}{Q2:Vc}(l:A->List (Nat×LV))(H1:A->Heap)(F:A->Prop)(hx:kb C n c (Ie (λe' H'=>∃ a,F a/\Jy e' (l a)/\HSub (H1 a) H'/\e'.ds=e.ds) Q) e H)(hy:∀ a,F a->∀ j:Env,j.ds=e.ds->kb C n c2 Q2 (Env.Tj j (l a)) (H1 a)):kb C n c (Ie (λe H=>kb C n c2 Q2 e H) Q) e H:=by
 refine kb.qd hx ?_;rintro ex e' H' hq;cases ex with
 |normal=>obtain⟨a,hF,h1,h2,h3⟩:=hq;have:=hy a hF e' h3;rw[Env.Ce h1.mem] at this;exact cW h2 this
 |exit id=>exact hq
 |goto id=>exact hq
 |ret=>exact hq
 |panic ch=>exact hq
 |outgrown=>exact hq
theorem qte(hp:xd (b,.cells ty cs) H F)(hs:dy cs Zb)(hH:Ta C w L H):Ta C w L ((b,.cells ty Zb)::F):=by have h1:=hH.perm hp;refine⟨h1.base,h1.sj,h1.b0,h1.wf,h1.nodup,λp hp=>?_⟩;rcases Dc.1 hp with rfl|hp;obtain⟨r1,r2,r3,xs,r4,r5⟩:=h1.Bc _ mem_cons_self;exact⟨r1,r2,r3,xs,r4,hs.jK r5⟩;exact h1.Bc p (Oc _ hp)
theorem qvO(hp:xd (b,.cells ty cs) H F):∀ x,x∈keys ((b,ja.cells ty Zb)::F)->x∈keys H:=λx hx=>by have:keys ((b,ja.cells ty Zb)::F)=keys ((b,ja.cells ty cs)::F):=rfl;rw[this] at hx;exact((hp.map (·.1)).mem_iff).2 hx
theorem kb.mz(hp:xd (b,.cells ty cs) H F)(hs:dy cs Zb)(h:kb C n c Q e ((b,.cells ty Zb)::F)):kb C n c Q e H:=λa w L hE hH=>
 Go.wp_mono (h a w L hE (qte hp hs hH)) λ_ _ _=>tW (qvO hp)
theorem Ea.perm{Sa:Array Oper}{rest:List Oper}{H':Heap}(s:H.Perm H')(h:Ea C n Sa Q rest e H'):Ea C n Sa Q rest e H:=Ea.Yb ⟨[],by simpa using s⟩ h
end
section
variable{C:Ctx}{e:Env}{H:Heap}{dst:Option Nat}{ty:TypeId}{ra:String}{ua:Array Edge}{g:Option (Nat×Bool)}{x:Operand}
theorem Pure.tq{t xT:TypeId} [ht:ef C.P t]{vs:List Value}(hx:e.ev x=.atom (.iface t (.agg vs.toArray))):Pure C ⟨dst,.typeAssert x xT t true,ty,ra,ua,g⟩ e H (.tuple [.agg (vs.map .atom),bool true]):=
 .Xa λρ w L h=>⟨.tuple #[.agg vs.toArray,.bool true],by
  simp only[Fb];exact⟨[.agg vs.toArray,.bool true],rfl,by simp only[oa,Fb];exact⟨_,_,rfl,⟨vs,rfl,Ys vs⟩,_,_,rfl,rfl,rfl⟩⟩,λw'=>by
  obtain⟨d,hd,hm⟩:=ht.out;have h3:execOp ρ ⟨dst,.typeAssert x xT t true,ty,ra,ua,g⟩=(do Pure.pure (.value (<-Instr.typeAssert (ρ x) xT t true))):=rfl;rw[h3,nc h hx];simp only[Instr.typeAssert,Lc,Fe hd,jd];cases d <;> simp_all⟩
end
theorem oi.three{Sa:Array Oper}{Q:Vc}{HF:Heap}{Ba:Nat}{Da:Array Bool}{e:Env}{H:Heap}{i j k:Nat}(hr:Region.ready .any Sa Da=[i,j,k])(h1:Nj C n Sa Q HF Ba Da e H i)(h2:Nj C n Sa Q HF Ba Da e H j)(h3:Nj C n Sa Q HF Ba Da e H k):oi C n Sa Q HF (Ba+1) Da e H:=
 oi.all hr (by simp) λq hq=>by simp only[Dc,List.not_mem_nil,or_false] at hq;rcases hq with rfl|rfl|rfl;exact h1;exact h2;exact h3
theorem CI(l:List (List UInt8)):∀ v∈l.map str,v.cells.length=1:=λv hv=>by obtain⟨x,_,rfl⟩:=Ni hv;rfl
theorem EK:∀ l:List (List UInt8),((l.map str).flatMap LV.cells).all Vs=true
 |[]=>rfl
 |x::l=>by rw[yd,flatMap_cons,List.all_append,EK l];try rfl
end Go.GL
namespace Go.GL
open Go.RowKit
variable{bytes el sT xT:Nat}{k l m:List UInt8}{kt t:TypeId}{v:Value}
section
variable{C:Ctx}{e:Env}{H:Heap}{dst:Option Nat}{ty:TypeId}{ra:String}{ua:Array Edge}{g:Option (Nat×Bool)}{xT yT:TypeId}{x y:Operand}
end
section
variable{C:Ctx}{e:Env}{H:Heap}{x y:Operand}{dst:Option Nat}{ty:TypeId}{ra:String}{ua:Array Edge}{g:Option (Nat×Bool)}{K:LV->Heap->Prop}{X:List PanicEntry->Heap->Prop}
def ig(l:List UInt8):List LV:=l.map λb=>int .u8 b.toNat
theorem XV(l:List UInt8):(ig l).length=l.length:=Mb _
theorem qqW(l m:List UInt8):ig (l++m)=ig l++ig m:=Te
theorem qmY(l:List UInt8):∀ v∈ig l,v.cells.length=1:=by intro v hv;obtain⟨b,_,rfl⟩:=Ni hv;rfl
theorem qoe(l:List UInt8):(ig l).flatMap LV.cells=ig l:=by
 induction l with
 |nil=>rfl
 |cons b l ih=>have h:ig (b::l)=int .u8 b.toNat::ig l:=rfl;rw[h,flatMap_cons,ih];try rfl
def zc(l:List UInt8):List Value:=l.map λb=>.int .u8 b.toNat
theorem qnn(l:List UInt8):∀ v∈zc l,(∀ cs,v≠Value.agg cs)/\(∀ cs,v≠Value.tuple cs):=by intro v hv;obtain⟨b,_,rfl⟩:=Ni hv;exact And.intro (λ_ h=>by cases h) (λ_ h=>by cases h)
theorem M1{P:Program}(l:List UInt8)(w':World):(Builtin.firstCells 1 l.length (.string ⟨l.toArray⟩)).run P w'=.ok (zc l).toArray w':=by have:=Go.Lib.run_firstCells_string (P:=P) w' 1 ⟨l.toArray⟩;rw[uN] at this;rw[this];try rfl
theorem iO{w:World}{L:Live}:∀ {zs xs:List Value},oa w L (zs.map .atom) xs->xs=zs
 |[],_,h=>by simpa only[map_nil,oa] using h
 |z::zs,xs,h=>by simp only[yd,oa] at h;obtain⟨y,ys,rfl,h1,h2⟩:=h;simp only[Fb] at h1;rw[h1,iO h2]
inductive ph (el:TypeId):Value->List UInt8->Heap->Prop
 |nil:ph el (.slice none 0 0) [] []
 |row {b:Nat} {l:List UInt8} {xs:List Value} (h0:l≠[]) (h1:l.length<=xs.length) (h2:xs.take l.length=zc l):ph el (.slice (some ⟨b,0,none⟩) l.length xs.length) l [(b,.cells el (xs.map .atom))]
theorem fu(l:List UInt8):(zc l).length=l.length:=Mb _
theorem MV(l m:List UInt8):zc (l++m)=zc l++zc m:=Te
theorem pW{w:World}{L:Live}(hH:Ta C w L []){el:TypeId}{xs:List Value}(h0:l≠[])(h1:l.length<=xs.length)(h2:xs.take l.length=zc l)(hk:∀ v' H',ph el v' l H'->K (.atom v') H') :
  Left C w L [] (World.push w (.cells xs.toArray el)) (.slice (some ⟨w.heap.size,0,none⟩) l.length xs.length) K:=by
 have hx:=DI hH.wf (.cells xs.toArray el) 0;have:=OE hH (.cells xs.toArray el) 0 [(w.heap.size,.cells el (xs.map .atom))] (λp hp=>by
  simp only[mem_singleton] at hp;subst hp;exact⟨rfl,by simp[Live.Rd],xs,aw,Ys xs⟩) (by simp)
 exact⟨.atom _,_,_,this.1,this.2,Ld,hk _ _ (ph.row h0 h1 h2)⟩
theorem ab.V8 [ht:Qa C.P sT el 1] [hr:ui C.P el 1 bytes] [me:cp C.P xT]
  (hx:e.ev x=.atom v) (ha:ph el v l H) (hy:e.ev y=str m) (Wa:(l.length+m.length) * bytes<=140737488355328)
  (hk:∀ v' H',ph el v' (l++m) H'->K (.atom v') H'):ab C ⟨dst,.call { callee:=.builtin .append,args:=#[x,y],argTypes:=#[sT,xT] },ty,ra,ua,g⟩ e H K X:=by
 have h0:∀ (cs:Array Bool) (args:Array Value),builtin .append #[sT,xT] ty cs args=(do Pure.pure (.value (<-Builtin.append_ #[sT,xT] ty args))):=λ_ _=>rfl;have ma:∀ w':World,(Builtin.lenOf (.string ⟨m.toArray⟩)).run C.P w'=.ok m.length w':=λw'=>by simp[Builtin.lenOf,uN]
 cases ha with
 |nil=>
  by_cases xb:m=[];subst xb;intro ρ w L h hH;have hr:(Builtin.append_ #[sT,xT] ty #[.slice none 0 0,.string ⟨#[]⟩]).run C.P w=.ok (.slice none 0 0) w:=by obtain⟨i,hi,I7⟩:=ht.size;simp[Builtin.append_,Fe ht.af,Fe me.af,sizeOf,typeInfo,hi,Builtin.lenOf,Builtin.firstCells,show(ByteArray.mk #[]).size=0 from rfl,show((ByteArray.mk #[]).extract 0 0).data=#[] from rfl]
  rw[Xs,h0];simp only[map_toArray,yd,map_nil,Lc,nc h hx,nc h hy,hr,jd,Xd];exact⟨_,[],L,Fr.refl _ _ _,hH,Ld,hk _ _ ph.nil⟩;intro ρ w L h hH;have AA:0<m.length:=List.length_pos_iff.2 xb;obtain⟨nf,rest,r1,r2,r3⟩:=RI (ty:=ty) (P:=C.P) (w:=w) (sT:=sT) (xT:=xT) (a:=none) (len:=0) (cap:=0) (n:=m.length) (xv:=.string ⟨m.toArray⟩) (old:=[]) (new:=zc m) (.inl me.af) ma (λw' _=>M1 m w')
   (λw' _=>by simp[Builtin.firstCells]) (by simpa using Wa) zo
  rw[Xs,h0];simp only[map_toArray,yd,map_nil,Lc,nc h hx,nc h hy,r3,jd,Xd,nil_append,zero_add];have cf:(zc m++rest).length=nf:=by rw[Ga,r2,fu];omega
  obtain⟨lv,H',L',g1,g2,g3,g4⟩:=pW (K:=K) (el:=el) (l:=m) (xs:=zc m++rest) hH.drew xb (by rw[cf];omega) (by rw[take_left' (fu m)]) λv' H' h'=>hk v' H' h';rw[cf] at g3
  exact⟨lv,H',L',g1.xf,g2,g3,g4⟩
 |row xb h1 h2=>
  rename_i b xs;intro ρ w L h hH;obtain⟨Wf,vh,hl,zs,yA,OL⟩:=hH.Bc _ (Sq rfl);have hz:=iO OL;subst hz;simp only at Wf vh hl yA;rw[Xs,h0];simp only[map_toArray,yd,map_nil,Lc,nc h hx,nc h hy];by_cases hc:l.length+m.length<=zs.length;have Cf:=ZW (ty:=ty) (P:=C.P) (w:=w) (sT:=sT) (xT:=xT) (s:=1) (a:=some ⟨b,0,none⟩) (len:=l.length) (cap:=zs.length) (n:=m.length) (xv:=.string ⟨m.toArray⟩) (new:=zc m) (.inl me.af) ma (λw' _=>M1 m w') hc;obtain⟨w',r1,r2,r3,r4,r5,r6,r7⟩:=jO (P:=C.P) (b:=b) (off:=0+l.length * 1) (t:=el) (fr:=(0,0)) (zc m) 0 w zs yA (by rw[fu];omega) (λj _ _=>by simp) (qnn m);rw[Cf];simp only[Pg,r1,jd,Xd];have To:(zs.take (0+l.length * 1+0)++zc m++zs.drop (0+l.length * 1+0+(zc m).length)).length=zs.length:=by simp only[Ga,List.length_take,List.length_drop,fu];omega
  have ND:=wR (v:=.slice (some ⟨b,0,none⟩) (l.length+m.length) zs.length) (lv:=.atom (.slice (some ⟨b,0,none⟩) (l.length+m.length) zs.length)) (K:=K) (Zb:=(zs.take (0+l.length * 1+0)++zc m++zs.drop (0+l.length * 1+0+(zc m).length)).map .atom) hH r2 r3 r4 r5 r6 r7 (by rw[To,Mb]) (Ys _) Ld (by
   have hb:ph el (.slice (some ⟨b,0,none⟩) (l++m).length (zs.take (0+l.length * 1+0)++zc m++zs.drop (0+l.length * 1+0+(zc m).length)).length) (l++m) _:=ph.row (b:=b) (el:=el) (by simp[xb]) (by rw[To,Ga];exact hc) (by
    have he:0+l.length * 1+0=l.length:=by omega
    rw[he,h2,<-MV,take_left' (fu _)])
   rw[To,Ga] at hb;exact hk _ _ hb)
  exact ND;have hold:∀ w':World,w'.heap=w.heap->(Builtin.firstCells 1 l.length (.slice (some ⟨b,0,none⟩) l.length zs.length)).run C.P w'=.ok (zc l).toArray w':=λw' hw=>by
   have:=kO (P:=C.P) (w:=w') (b:=b) (off:=0) l.length 0 #[] (zc l) (fu l) (λj x' hj=>by
    have jF:zs[j]? = some x':=by rw[<-h2,List.getElem?_take] at hj;split at hj;exact hj;cases hj
    simp[World.cell?,hw,yA,jF])
   simp only[Builtin.firstCells,loadCells,mul_one,this];simp
  obtain⟨nf,rest,r1,r2,r3⟩:=RI (ty:=ty) (P:=C.P) (w:=w) (sT:=sT) (xT:=xT) (a:=some ⟨b,0,none⟩) (len:=l.length) (cap:=zs.length) (n:=m.length) (xv:=.string ⟨m.toArray⟩) (old:=zc l) (new:=zc m) (.inl me.af) ma (λw' _=>M1 m w') hold Wa zo;rw[r3];simp only[jd,Xd];have cf:(zc l++zc m++rest).length=nf:=by rw[Ga,Ga,r2,fu,fu];omega
  have XD:Ta C w L []:=hH.sub (nil_sublist _);obtain⟨lv,H',L',g1,g2,g3,g4⟩:=pW (K:=K) (el:=el) (l:=l++m) (xs:=zc l++zc m++rest) XD.drew (by simp[xb]) (by rw[cf,Ga];omega) (by rw[<-MV,take_left' (fu _)]) λv' H' h'=>hk v' H' h';rw[cf,Ga] at g3;exact⟨lv,H',L',g1.xf.wide (by simp),g2,g3,g4⟩
theorem S.nU [ht:Qa C.P sT el 1] [hr:ui C.P el 1 bytes] [me:cp C.P xT]{H1:Heap}{q:Nat×ja}
  (hx:e.ev x=.atom v) (ha:ph el v l H1) (hy:e.ev y=str m) (Wa:(l.length+m.length) * bytes<=140737488355328)
  (hk:∀ v' H',ph el v' (l++m) H'->K (.atom v') (q::H')):ab C ⟨dst,.call { callee:=.builtin .append,args:=#[x,y],argTypes:=#[sT,xT] },ty,ra,ua,g⟩ e (q::H1) K X:=by
 refine ab.qd (K:=λlv H'=>∃ v' H2,lv=.atom v'/\H'=H2++[q]/\ph el v' (l++m) H2) (ab.frame (List.perm_append_singleton _ _).symm (ab.V8 hx ha hy Wa λv' H' h=>⟨v',H',rfl,rfl,h⟩)) ?_;rintro lv H' ⟨v',H2,rfl,rfl,h⟩;exact⟨_,[q]++H2,vR _,⟨[],by simp⟩,hk _ _ h⟩
end
structure Oe(es:Array MapEntry)(p:List UInt8->Bool):Prop where
 keys:∀ e∈es.toList,∃ s:List UInt8,e.key=.string ⟨s.toArray⟩/\e.val=.bool true/\p s=true
 all:∀ s,p s=true->∃ e∈es.toList,e.key=.string ⟨s.toArray⟩
theorem Oe.nil:Oe #[] λ_=>false:=⟨λe he=>by simp at he,λs h=>by cases h⟩
theorem II(a b:List UInt8):((⟨a.toArray⟩:ByteArray) == ⟨b.toArray⟩)=decide (a=b):=by show(a.toArray == b.toArray)=_;rw[Bool.eq_iff_iff];simp
theorem N3(k:List UInt8):∀ (es:List MapEntry) (i:Nat),(∀ e∈es,∃ s:List UInt8,e.key=.string ⟨s.toArray⟩/\e.val=.bool true)->(∃ e∈es,e.key=.string ⟨k.toArray⟩) ->
  ∃ (j:Nat) (e:MapEntry),Instr.findNow .string (.string ⟨k.toArray⟩) es i=some (some (i+j,.bool true))/\es[j]? = some e/\e.key=.string ⟨k.toArray⟩
 |[],_,_,h=>by obtain⟨e,he,_⟩:=h;cases he
 |e::es,i,h,hk=>by
  obtain⟨s,h1,h2⟩:=h e mem_cons_self;by_cases hs:k=s;refine⟨0,e,?_,rfl,by rw[h1,hs]⟩;have hb:((⟨k.toArray⟩:ByteArray) == ⟨s.toArray⟩)=true:=by rw[II,Dg hs]
  simp only[Instr.findNow,h1,Instr.sameNow,hb,h2,add_zero];have hb:((⟨k.toArray⟩:ByteArray) == ⟨s.toArray⟩)=false:=by rw[II,decide_eq_false hs]
  obtain⟨e',Na,Dp⟩:=hk;have Og:e'∈es:=by
   rcases Dc.1 Na with rfl|h3;rw[h1] at Dp;have:s=k:=by simpa using Dp
   exact absurd this.symm hs;exact h3
  obtain⟨j,e2,g1,g2,g3⟩:=N3 k es (i+1) (λx hx=>h x (Oc _ hx)) ⟨e',Og,Dp⟩;refine⟨j+1,e2,?_,g2,g3⟩;simp only[Instr.findNow,h1,Instr.sameNow,hb];rw[g1];congr 3;omega
section
variable{C:Ctx}{e:Env}{H:Heap}{dst:Option Nat}{ty:TypeId}{ra:String}{ua:Array Edge}{g:Option (Nat×Bool)}{K:LV->Heap->Prop}{X:List PanicEntry->Heap->Prop}{x y:Operand}
theorem TI{w:World}(Vf:C.P.underlying kt=some .string)(b:Bool)(k:ByteArray):(Instr.checkKey b 10000 kt (.string k)).run C.P w=.ok () w:=by have lu:Instr.checkKey b 10000 kt (.string k)=Instr.checkKey b (9999+1) kt (.string k):=rfl;rw[lu,Instr.checkKey];simp only[Lc,Fe Vf,jd,Xd]
theorem S.gK{el:TypeId}(ht:C.P.underlying t=some (.map kt el))(Vf:C.P.underlying kt=some .string){b ka:Nat}{es:Array MapEntry}{p:List UInt8->Bool}{F:Heap}{m z:Operand}(hm:e.ev m=.atom (.map (some b)))(hx:e.ev x=str k)(hz:e.ev z=bool true)
  (hp:xd (b,.obj (.map es ka)) H F) (hs:Oe es p) (hk:∀ Am mc,Oe Am (λs=>p s || decide (s=k))->K (.atom undef) ((b,.obj (.map Am mc))::F)):ab C ⟨dst,.insert t m x z,ty,ra,ua,g⟩ e H K X:=by
 by_cases Og:p k=true
 ·refine ab.DM hp λρ w L h hH=>?_;obtain⟨Wf,vh,hl,Kd,me⟩:=hH.Bc _ (Sq rfl);simp only at Wf vh hl Kd me;have h3:execOp ρ ⟨dst,.insert t m x z,ty,ra,ua,g⟩=(do Instr.mapUpdate t (ρ m) (ρ x) (ρ z);Pure.pure .skip):=rfl;obtain⟨j,e2,g1,g2,g3⟩:=N3 k es.toList 0 (λe he=>by obtain⟨s,h1,h2,_⟩:=hs.keys e he;exact⟨s,h1,h2⟩) (hs.all k Og)
  have hf:(Instr.findKey kt (.string ⟨k.toArray⟩) es.toList).run C.P w=.ok (some (0+j,.bool true)) w:=by simp only[Instr.findKey,Lc,Fe Vf,jd,g1,Xd]
  have hg:(getObj b).run C.P w=.ok (.map es ka) w:=by simp only[getObj,Sem.run,Kd]
  have aM:es[j]? = some e2:=by simpa using g2
  have gk:(Instr.keyThatStays (((es[0+j]?).map (·.key)).getD (.string ⟨k.toArray⟩)) (.string ⟨k.toArray⟩)).run C.P w=.ok (.string ⟨k.toArray⟩) w:=by rw[zero_add,aM];simp only[map_some,getD_some,g3];unfold Instr.keyThatStays;rw[zp (by simp only[Instr.sameBits];rw[II];simp)];try rfl
  rw[h3,nc h hm,nc h hx,nc h hz];simp only[Instr.mapUpdate,Lc,Fe ht,jd,hg,TI Vf,hf,gk];have yt:∀ o',(setObj b o').run C.P w=.ok () (gi w b o'):=λo'=>BR Kd rfl;rw[yt];refine SQ (w':=gi w b _) hH rfl rfl rfl rfl (by simp[gi]) (λc hc=>ZN hc) (QN vh) (λ_=>Ld) (hk _ ka ⟨λe' Na=>?_,λs Wy=>?_⟩);rw[zero_add] at Na;obtain⟨i,hi,rfl⟩:=List.mem_iff_getElem.1 Na;simp only[Array.length_toList,Array.size_modify] at hi;rw[Array.getElem_toList,Array.getElem_modify];split;exact⟨k,rfl,rfl,by simp⟩;obtain⟨s,h1,h2,h4⟩:=hs.keys es[i] (by simp);exact⟨s,h1,h2,by simp[h4]⟩
  have jo:p s=true:=by rcases Bool.or_eq_true_iff.1 Wy with h4|h4;exact h4;rw[zt h4];exact Og
  obtain⟨e3,h5,h6⟩:=hs.all s jo;obtain⟨i,hi,rfl⟩:=List.mem_iff_getElem.1 h5;simp only[Array.length_toList] at hi;rw[Array.getElem_toList] at h6;rw[zero_add];by_cases ZS:j=i;refine⟨{ es[i] with key:=.string ⟨k.toArray⟩,val:=.bool true },?_,?_⟩;rw[List.mem_iff_getElem];refine⟨i,by simpa using hi,?_⟩;rw[Array.getElem_toList,Array.getElem_modify,zp ZS];subst ZS;rw[Array.getElem?_eq_getElem hi] at aM;obtain rfl:=Option.some.inj aM;rw[g3] at h6;exact h6;refine⟨es[i],?_,h6⟩;rw[List.mem_iff_getElem];refine⟨i,by simpa using hi,?_⟩;rw[Array.getElem_toList,Array.getElem_modify,zn ZS]
 refine S.insert ht Vf hm hx hz hp (λe he=>?_) (hk _ _ ⟨λe' Na=>?_,λs Wy=>?_⟩);obtain⟨s,h1,_,h2⟩:=hs.keys e he;refine⟨_,h1,?_⟩;rw[II];intro h3;rw[zt h3] at Og;exact Og h2;rw[Array.toList_push] at Na;rcases xj Na with h1|h1;obtain⟨s,h2,h3,h4⟩:=hs.keys e' h1;exact⟨s,h2,h3,by simp[h4]⟩;obtain rfl:=aj h1;exact⟨k,rfl,rfl,by simp⟩;rw[Array.toList_push];rcases Bool.or_eq_true_iff.1 Wy with h4|h4;obtain⟨e,h5,h6⟩:=hs.all s h4;exact⟨e,List.mem_append_left _ h5,h6⟩;exact⟨_,List.mem_append_right _ (Sq rfl),by rw[zt h4]⟩
theorem Pure.Aw{el:TypeId}(ht:C.P.underlying t=some (.map kt el))(Vf:C.P.underlying kt=some .string)(hz:∀ w,(zeroValue el).run C.P w=.ok (.bool false) w){b ka:Nat}{es:Array MapEntry}{p:List UInt8->Bool}(hm:e.ev x=.atom (.map (some b)))(hx:e.ev y=str k)
  (hb:(b,.obj (.map es ka))∈H) (hs:Oe es p):Pure C ⟨dst,.lookup t x y false,ty,ra,ua,g⟩ e H (bool (p k)):=λρ w L h hH=>by
 obtain⟨_,_,_,Kd,_⟩:=hH.Bc _ hb;simp only at Kd;refine⟨.bool (p k),Ld,λw' ha=>?_⟩;have hw:w'.heap[b]? = some (.map es ka):=(ha.1 _ hb).trans Kd;have h3:execOp ρ ⟨dst,.lookup t x y false,ty,ra,ua,g⟩=(do Pure.pure (.value (<-Instr.lookup t (ρ x) (ρ y) false))):=rfl;have hg:(getObj b).run C.P w'=.ok (.map es ka) w':=by simp only[getObj,Sem.run,hw]
 rw[h3,nc h hm,nc h hx];by_cases Og:p k=true;obtain⟨j,e2,g1,g2,g3⟩:=N3 k es.toList 0 (λe he=>by obtain⟨s,h1,h2,_⟩:=hs.keys e he;exact⟨s,h1,h2⟩) (hs.all k Og);have hf:(Instr.findKey kt (.string ⟨k.toArray⟩) es.toList).run C.P w'=.ok (some (0+j,.bool true)) w':=by simp only[Instr.findKey,Lc,Fe Vf,jd,g1,Xd]
 simp only[Instr.lookup,Lc,Fe ht,jd,hg,Xd,TI Vf,hf,Og];rfl;have hf:(Instr.findKey kt (.string ⟨k.toArray⟩) es.toList).run C.P w'=.ok none w':=by
  have NS:=A4 ⟨k.toArray⟩ es.toList 0 λe he=>by obtain⟨s,h1,_,h2⟩:=hs.keys e he;refine⟨_,h1,?_⟩;rw[II];intro h3;rw[zt h3] at Og;exact Og h2
  simp only[Instr.findKey,Lc,Fe Vf,jd,NS,Xd]
 have J7:p k=false:=Bool.eq_false_iff.2 Og;simp only[Instr.lookup,Lc,Fe ht,jd,hg,Xd,TI Vf,hf,hz,J7];rfl
end
section
variable{C:Ctx}{e:Env}{H:Heap}{dst:Option Nat}{ty:TypeId}{ra:String}{ua:Array Edge}{g:Option (Nat×Bool)}{K:LV->Heap->Prop}{X:List PanicEntry->Heap->Prop}{x y:Operand}
theorem Pure.vL{el:TypeId}(ht:C.P.underlying t=some (.map kt el))(Vf:C.P.underlying kt=some .string)(hz:∀ w,(zeroValue el).run C.P w=.ok (.int .i64 0) w)(hm:e.ev x=.atom (.map none))(hx:e.ev y=str k):Pure C ⟨dst,.lookup t x y false,ty,ra,ua,g⟩ e H (int .i64 0):=λρ w L h hH=>by
 refine⟨.int .i64 0,Ld,λw' ha=>?_⟩;have h3:execOp ρ ⟨dst,.lookup t x y false,ty,ra,ua,g⟩=(do Pure.pure (.value (<-Instr.lookup t (ρ x) (ρ y) false))):=rfl;rw[h3,nc h hm,nc h hx]
 have hf:(Instr.findKey kt (.string ⟨k.toArray⟩) []).run C.P w'=.ok none w':=by simp only[Instr.findKey,Lc,Fe Vf,jd,Instr.findNow,Xd]
 simp only[Instr.lookup,Lc,Fe ht,jd,Xd,TI Vf,hf,hz];rfl
end
section
variable{C:Ctx}{e:Env}{H:Heap}{x y:Operand}{dst:Option Nat}{ty:TypeId}{ra:String}{ua:Array Edge}{g:Option (Nat×Bool)}{K:LV->Heap->Prop}{X:List PanicEntry->Heap->Prop}
theorem ab.mU [ht:Qa C.P sT el 1] [hr:ui C.P el 1 bytes]{e2:Nat} [me:Qa C.P xT e2 1]
  (hx:e.ev x=.atom v) (ha:ph el v l H) (hy:GL.elems (e.ev y)=some (ig m)) (ED:m≠[]) (Wa:(l.length+m.length) * bytes<=140737488355328)
  (hk:∀ v' H',ph el v' (l++m) H'->K (.atom v') H'):ab C ⟨dst,.call { callee:=.builtin .append,args:=#[x,y],argTypes:=#[sT,xT] },ty,ra,ua,g⟩ e H K X:=by
 have h0:∀ (cs:Array Bool) (args:Array Value),builtin .append #[sT,xT] ty cs args=(do Pure.pure (.value (<-Builtin.append_ #[sT,xT] ty args))):=λ_ _=>rfl
 cases ha with
 |nil=>
  by_cases xb:m=[];subst xb;exact absurd rfl ED;intro ρ w L h hH;have AA:0<m.length:=List.length_pos_iff.2 xb;obtain⟨ay,cy,jY,zA,dS,nD,bH,fx⟩:=ZK (s:=1) (h y) hy (qmY m);rw[qoe] at nD;have U5:jY=zc m:=iO (zs:=zc m) (by rw[show(zc m).map LV.atom=ig m from by simp[zc,ig,List.map_map,Function.comp_def]];exact nD);subst U5;rw[XV] at zA dS fx;rw[zA] at fx;have ma:∀ w':World,(Builtin.lenOf (.slice ay m.length cy)).run C.P w'=.ok m.length w':=λw'=>by simp[Builtin.lenOf]
  obtain⟨nf,rest,r1,r2,r3⟩:=RI (ty:=ty) (P:=C.P) (w:=w) (sT:=sT) (xT:=xT) (a:=none) (len:=0) (cap:=0) (n:=m.length) (xv:=.slice ay m.length cy) (old:=[]) (new:=zc m) (.inr ⟨_,me.af⟩) ma (λw' hw=>fx C.P w' hw)
   (λw' _=>by simp[Builtin.firstCells]) (by simpa using Wa) zo
  rw[Xs,h0];simp only[map_toArray,yd,map_nil,Lc,nc h hx,zA,r3,jd,Xd,nil_append,zero_add];have cf:(zc m++rest).length=nf:=by rw[Ga,r2,fu];omega
  obtain⟨lv,H',L',g1,g2,g3,g4⟩:=pW (K:=K) (el:=el) (l:=m) (xs:=zc m++rest) hH.drew xb (by rw[cf];omega) (by rw[take_left' (fu m)]) λv' H' h'=>hk v' H' h';rw[cf] at g3
  exact⟨lv,H',L',g1.xf,g2,g3,g4⟩
 |row xb h1 h2=>
  rename_i b xs;intro ρ w L h hH;obtain⟨Wf,vh,hl,zs,yA,OL⟩:=hH.Bc _ (Sq rfl);have hz:=iO OL;subst hz;simp only at Wf vh hl yA;obtain⟨ay,cy,jY,zA,dS,nD,bH,fx⟩:=ZK (s:=1) (h y) hy (qmY m);rw[qoe] at nD;have U5:jY=zc m:=iO (zs:=zc m) (by rw[show(zc m).map LV.atom=ig m from by simp[zc,ig,List.map_map,Function.comp_def]];exact nD);subst U5;rw[XV] at zA dS fx;rw[zA] at fx;have ma:∀ w':World,(Builtin.lenOf (.slice ay m.length cy)).run C.P w'=.ok m.length w':=λw'=>by simp[Builtin.lenOf]
  rw[Xs,h0];simp only[map_toArray,yd,map_nil,Lc,nc h hx,zA];by_cases hc:l.length+m.length<=zs.length;have Cf:=ZW (ty:=ty) (P:=C.P) (w:=w) (sT:=sT) (xT:=xT) (s:=1) (a:=some ⟨b,0,none⟩) (len:=l.length) (cap:=zs.length) (n:=m.length) (xv:=.slice ay m.length cy) (new:=zc m) (.inr ⟨_,me.af⟩) ma (λw' hw=>fx C.P w' hw) hc;obtain⟨w',r1,r2,r3,r4,r5,r6,r7⟩:=jO (P:=C.P) (b:=b) (off:=0+l.length * 1) (t:=el) (fr:=(0,0)) (zc m) 0 w zs yA (by rw[fu];omega) (λj _ _=>by simp) (qnn m);rw[Cf];simp only[Pg,r1,jd,Xd];have To:(zs.take (0+l.length * 1+0)++zc m++zs.drop (0+l.length * 1+0+(zc m).length)).length=zs.length:=by simp only[Ga,List.length_take,List.length_drop,fu];omega
  have ND:=wR (v:=.slice (some ⟨b,0,none⟩) (l.length+m.length) zs.length) (lv:=.atom (.slice (some ⟨b,0,none⟩) (l.length+m.length) zs.length)) (K:=K) (Zb:=(zs.take (0+l.length * 1+0)++zc m++zs.drop (0+l.length * 1+0+(zc m).length)).map .atom) hH r2 r3 r4 r5 r6 r7 (by rw[To,Mb]) (Ys _) Ld (by
   have hb:ph el (.slice (some ⟨b,0,none⟩) (l++m).length (zs.take (0+l.length * 1+0)++zc m++zs.drop (0+l.length * 1+0+(zc m).length)).length) (l++m) _:=ph.row (b:=b) (el:=el) (by simp[xb]) (by rw[To,Ga];exact hc) (by
    have he:0+l.length * 1+0=l.length:=by omega
    rw[he,h2,<-MV,take_left' (fu _)])
   rw[To,Ga] at hb;exact hk _ _ hb)
  exact ND;have hold:∀ w':World,w'.heap=w.heap->(Builtin.firstCells 1 l.length (.slice (some ⟨b,0,none⟩) l.length zs.length)).run C.P w'=.ok (zc l).toArray w':=λw' hw=>by
   have:=kO (P:=C.P) (w:=w') (b:=b) (off:=0) l.length 0 #[] (zc l) (fu l) (λj x' hj=>by
    have jF:zs[j]? = some x':=by rw[<-h2,List.getElem?_take] at hj;split at hj;exact hj;cases hj
    simp[World.cell?,hw,yA,jF])
   simp only[Builtin.firstCells,loadCells,mul_one,this];simp
  obtain⟨nf,rest,r1,r2,r3⟩:=RI (ty:=ty) (P:=C.P) (w:=w) (sT:=sT) (xT:=xT) (a:=some ⟨b,0,none⟩) (len:=l.length) (cap:=zs.length) (n:=m.length) (xv:=.slice ay m.length cy) (old:=zc l) (new:=zc m) (.inr ⟨_,me.af⟩) ma (λw' hw=>fx C.P w' hw) hold Wa zo;rw[r3];simp only[jd,Xd];have cf:(zc l++zc m++rest).length=nf:=by rw[Ga,Ga,r2,fu,fu];omega
  have XD:Ta C w L []:=hH.sub (nil_sublist _);obtain⟨lv,H',L',g1,g2,g3,g4⟩:=pW (K:=K) (el:=el) (l:=l++m) (xs:=zc l++zc m++rest) XD.drew (by simp[xb]) (by rw[cf,Ga];omega) (by rw[<-MV,take_left' (fu _)]) λv' H' h'=>hk v' H' h';rw[cf,Ga] at g3;exact⟨lv,H',L',g1.xf.wide (by simp),g2,g3,g4⟩
theorem S.FM [ht:Qa C.P sT el 1] [hr:ui C.P el 1 bytes]{e2:Nat} [me:Qa C.P xT e2 1]{H1:Heap}{q:Nat×ja}
  (hx:e.ev x=.atom v) (ha:ph el v l H1) (hy:GL.elems (e.ev y)=some (ig m)) (ED:m≠[]) (Wa:(l.length+m.length) * bytes<=140737488355328)
  (hk:∀ v' H',ph el v' (l++m) H'->K (.atom v') (q::H')):ab C ⟨dst,.call { callee:=.builtin .append,args:=#[x,y],argTypes:=#[sT,xT] },ty,ra,ua,g⟩ e (q::H1) K X:=by
 refine ab.qd (K:=λlv H'=>∃ v' H2,lv=.atom v'/\H'=H2++[q]/\ph el v' (l++m) H2) (ab.frame (List.perm_append_singleton _ _).symm (ab.mU hx ha hy ED Wa λv' H' h=>⟨v',H',rfl,rfl,h⟩)) ?_;rintro lv H' ⟨v',H2,rfl,rfl,h⟩;exact⟨_,[q]++H2,vR _,⟨[],by simp⟩,hk _ _ h⟩
theorem Pure.S8{t J8 s:Nat} [Qa C.P t J8 s]{Hv:Heap}(hx:e.ev x=.atom v)(ha:ph el v l Hv):Pure C ⟨dst,.call { callee:=.builtin .len,args:=#[x],argTypes:=#[t] },ty,ra,ua,g⟩ e H (int .i64 l.length):=
 .Xa λρ _ _ h=>⟨_,Ld,λw'=>by
  have hu:=Fe (P:=C.P) (Qa.af (t:=t)) w';rw[Xs,SW];cases ha <;> simp[Builtin.len_,hu,goInt,nc h hx]⟩
