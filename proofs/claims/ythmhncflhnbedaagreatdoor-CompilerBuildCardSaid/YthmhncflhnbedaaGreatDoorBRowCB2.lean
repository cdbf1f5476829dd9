/- Texts joined: GlSteps, GlDraw, GlRules, Types, GlCall, LexSpec2. -/
import Derived.Laws.AppendOwn
import Derived.Test.YthmhncflhnbedaaGreatDoorProg
import Derived.Lib.ParseIntB
import Derived.Lib.ItoaNum
import Derived.Test.YthmhncflhnbedaaGreatDoorBRowCB1
set_option linter.unusedVariables false
set_option linter.unusedSimpArgs false
set_option maxRecDepth 100000
set_option maxHeartbeats 4000000
namespace Go.GL
open Go.RowKit
def Live.upd (L:Live) (b n:Nat):Live:=fun x=>if x=b then n else L x
theorem qiC {w:World} {o:Obj} {b:Nat} (hb:b<w.heap.size):(w.heap.push o)[b]? = w.heap[b]? := by
 rw[Array.getElem?_push,if_neg (by omega)]
theorem qaT {w:World} {o:Obj}:(w.heap.push o)[w.heap.size]? = some o:=by simp
def World.push (w:World) (o:Obj):World:={ w with heap:=w.heap.push o }
theorem qfI {w:World} {L:Live} (hwf:∀ b,w.heap.size<=b->L b=0) (o:Obj) (n:Nat):Ext w L (World.push w o) (L.upd w.heap.size n):=by
 refine ⟨by simp[World.push],fun b hb=>?_,fun b i hi=>?_,fun b=>?_⟩
 ·exact qbO (qiC hb)
 ·rcases Nat.lt_or_ge b w.heap.size with hb|hb
  ·exact cell_of_heap (qiC hb) i
  ·rw[hwf b hb] at hi;omega
 ·unfold Live.upd;split
  ·rename_i h;subst h;rw[hwf _ (zNr _)];omega
  ·exact zNr _
theorem qe3 {C:Ctx} {w:World} {L:Live} (hH:RelH C w L []) (o:Obj) (n:Nat) (H':Heap) (hk:∀ p∈H',p.1=w.heap.size/\qlw (World.push w o) (L.upd w.heap.size n) w.heap.size p.2) (hn:(H'.map (·.1)).Nodup) :
  Fr (keys []) w L (World.push w o) (L.upd w.heap.size n) H'/\RelH C (World.push w o) (L.upd w.heap.size n) H':=by
 have hx:=qfI hH.wf o n;refine ⟨⟨rfl,rfl,rfl,hx,fun b hb _=>qiC hb,fun b hb _=>?_,fun p hp=>.inr (by rw[(hk p hp).1];exact zNr _)⟩,⟨?_,trivial,?_,fun b hb=>?_,hn,fun p hp=>?_⟩⟩
 ·simp only[Live.upd];rw[if_neg (by omega)]
 ·exact hH.base.alloc hH.b0 o
 ·exact zNt hH.b0 hx.size
 ·simp only[World.push,Array.size_push] at hb;simp only[Live.upd];rw[if_neg (by omega)];exact hH.wf b (by omega)
 ·obtain ⟨h1,h2⟩:=hk p hp;rw[h1];exact ⟨hH.b0,by simp[World.push],h2⟩
section steps
variable {C:Ctx} {e:Env} {H:Heap} {dst:Option Nat} {ty:TypeId} {pos:String} {aft:Array Edge} {g:Option (Nat×Bool)} {x y:Operand} {xT:TypeId} {k:IntKind}
 {K:LV->Heap->Prop} {X:List PanicEntry->Heap->Prop}
theorem qmY {w:World} {L:Live} (hH:RelH C w L []) {t:TypeId} {xs:List Value} {cs:List LV} (hr:RepL w L cs xs) (hk:∀ b,K (ptr b 0) [(b,.cells t cs)]) :
  Left C w L [] (World.push w (.cells xs.toArray t)) (.pointer (some ⟨w.heap.size,0,none⟩)) K:=by
 have hx:=qfI hH.wf (.cells xs.toArray t) 0
 have:=qe3 hH (.cells xs.toArray t) 0 [(w.heap.size,.cells t cs)] (fun p hp=>by
  simp only[List.mem_singleton] at hp;subst hp
  exact ⟨rfl,by simp[Live.upd],xs,qaT,hr.mono hx _ _⟩) (by simp)
 exact ⟨_,_,_,this.1,this.2,qar,hk _⟩
theorem qag.alloc {t:TypeId} {zs:List Value} [hz:TZero C.P t zs] (hk:∀ b,K (ptr b 0) [(b,.cells t (zs.map .atom))]):qag C ⟨dst,.alloc t,ty,pos,aft,g⟩ e [] K X:=fun ρ w L _ hH=>by
 obtain ⟨v,hv,hc⟩:=qkO (P:=C.P) (t:=t) w;have h3:execOp ρ ⟨dst,.alloc t,ty,pos,aft,g⟩=(do Pure.pure (.value (<-Instr.alloc t true (.tuple #[])))):=rfl
 have h4:(Instr.alloc t true (.tuple #[])).run C.P w=.ok (.pointer (some ⟨w.heap.size,0,none⟩)) (World.push w (.cells zs.toArray t)):=by
  simp only[Instr.alloc,Sem.run_bind,hv,Result.andThen_ok,newVar,newRow,hc];rfl
 rw[h3,Sem.run_bind,h4];exact qmY hH (qbh zs) hk
theorem qag.box {t:TypeId} {cs:List LV} (hx:(e.ev x).cells? = some cs) (hk:∀ b,K (ptr b 0) [(b,.cells t cs)]):qag C ⟨dst,.box t x,ty,pos,aft,g⟩ e [] K X:=fun ρ w L h hH=>by
 have hr:=(h x).cells hx;have h3:execOp ρ ⟨dst,.box t x,ty,pos,aft,g⟩=(do Pure.pure (.value (<-Instr.box t (ρ x)))):=rfl
 have h4:(Instr.box t (ρ x)).run C.P w=.ok (.pointer (some ⟨w.heap.size,0,none⟩)) (World.push w (.cells (ρ x).cells t)):=by
  simp only[Instr.box,Sem.run_bind,newVar,newRow];rfl
 rw[h3,Sem.run_bind,h4];have:=qmY (K:=K) hH (t:=t) hr hk;rw[Array.toArray_toList] at this;exact this
/-! ### Stores -/
def qd6:LV->Bool
 |.agg _|.tuple _|.atom (.agg _)|.atom (.tuple _)=>false
 |_=>true
theorem Rep.flat {w:World} {L:Live} {c:LV} {x:Value} (h:Rep w L c x) (hc:qd6 c=true):(∀ cs,x≠.agg cs)/\(∀ cs,x≠.tuple cs):=by
 cases c <;> simp only[Rep] at h <;> simp only[qd6,Bool.false_eq_true] at hc
 case atom v=>subst h;cases x <;> simp_all
 case list es=>obtain ⟨a,cap,rfl,_⟩:=h;simp
 case app b cap k es=>obtain ⟨rfl,_⟩:=h;simp
 case ref cs=>obtain ⟨b,off,rfl,_⟩:=h;simp
theorem qin {P:Program} {w:World} {a:Addr} {v old:Value} (hc:w.cell? a=some old) (hf:w.frozen? a=false) (h1:∀ cs,v≠.agg cs) (h2:∀ cs,v≠.tuple cs):(store a v).run P w=.ok () (w.setCell a v):=by
 cases v <;> simp_all [store,Sem.run]
theorem qhj {w:World} {b off:Nat} {v:Value} {xs:List Value} {t:TypeId} {fr:Nat×Nat} (h:w.heap[b]? = some (.cells xs.toArray t fr)) :
  (w.setCell ⟨b,off,none⟩ v).heap[b]? = some (.cells (xs.set off v).toArray t fr):=by
 simp[World.setCell,Array.getElem?_modify,h]
theorem qcB {P:Program} {b off:Nat} {t:TypeId} {fr:Nat×Nat}:∀ (vs:List Value) (i:Nat) (w:World) (xs:List Value),w.heap[b]? = some (.cells xs.toArray t fr)->off+i+vs.length<=xs.length ->
  (∀ j,off+i<=j->j<off+i+vs.length->¬ (fr.1<=j/\j<fr.2)) ->
  (∀ v∈vs,(∀ cs,v≠.agg cs)/\(∀ cs,v≠.tuple cs)) ->
  ∃ w',(storeCells ⟨b,off,none⟩ vs i).run P w=.ok () w'/\w'.os=w.os/\w'.tape=w.tape/\w'.output=w.output/\w'.heap.size=w.heap.size/\(∀ c,c≠b->w'.heap[c]? = w.heap[c]?) /\
   w'.heap[b]? = some (.cells (xs.take (off+i)++vs++xs.drop (off+i+vs.length)).toArray t fr)
 |[],i,w,xs,hb,_,_,_=>⟨w,by simp[storeCells],rfl,rfl,rfl,rfl,fun _ _=>rfl,by simpa using hb⟩
 |v::vs,i,w,xs,hb,hl,hfr,hv=>by
  simp only[zLc] at hl hfr
  have hc:∃ old,w.cell? ⟨b,off+i,none⟩=some old:=by
   refine ⟨xs[off+i]'(by omega),?_⟩;simp[World.cell?,hb]
  obtain ⟨old,hc⟩:=hc
  have hf:w.frozen? ⟨b,off+i,none⟩=false:=by
   obtain ⟨lo,hi⟩:=fr;have:=hfr (off+i) (by omega) (by omega);simp only[World.frozen?,hb];simp only[Bool.and_eq_false_iff,decide_eq_false_iff_not];simp only at this;omega
  have hs:=qin (P:=P) hc hf (hv v (by simp)).1 (hv v (by simp)).2;obtain ⟨w',h1,h2,h3,h4,h5,h6,h7⟩:=qcB (P:=P) (off:=off) vs (i+1) (w.setCell ⟨b,off+i,none⟩ v) (xs.set (off+i) v) (qhj hb) (by simp;omega) (fun j h1 h2=>hfr j (by omega) (by omega)) (fun u hu=>hv u (zMo _ hu));refine ⟨w',?_,h2,h3,h4,?_,fun c hc=>?_,?_⟩
  ·simp only[storeCells,add_mk,Sem.run_bind,hs,Result.andThen_ok,h1]
  ·rw[h5];simp[World.setCell]
  ·rw[h6 c hc];simp only[World.setCell,Array.getElem?_modify];rw[if_neg (by simpa using Ne.symm hc)]
  ·rw[h7];congr 2
   have e1:(xs.set (off+i) v).take (off+(i+1))=xs.take (off+i)++[v]:=by
    rw[show off+(i+1)=off+i+1 by omega,List.take_succ_eq_append_getElem (by simp;omega)];simp[List.take_set_of_le]
   have e2:(xs.set (off+i) v).drop (off+(i+1)+vs.length)=xs.drop (off+i+(vs.length+1)):=by
    rw[List.drop_set_of_lt (by omega),show off+(i+1)+vs.length=off+i+(vs.length+1) by omega]
   rw[e1,e2]
   simp
theorem qks {w:World} {L:Live}:∀ {cs:List LV} {xs:List Value},RepL w L cs xs->(cs.all qd6)=true->∀ v∈xs,(∀ cs,v≠.agg cs)/\(∀ cs,v≠.tuple cs)
 |[],_,h,_=>by simp only[RepL] at h;subst h;simp
 |c::cs,_,h,hc=>by
  simp only[RepL] at h;obtain ⟨y,ys,rfl,h1,h2⟩:=h;simp only[List.all_cons,zBa] at hc;intro v hv;rcases zMi.1 hv with rfl|hv
  ·exact h1.flat hc.1
  ·exact qks h2 hc.2 v hv
class TSize (P:Program) (t:TypeId) (n:outParam Nat):Prop where
 size:∃ i,P.info? t=some i/\i.size=n
def qpT (P:Program) (t n:Nat):Bool:=match P.info? t with|some i=>i.size == n|none=>false
theorem TSize.of {P:Program} {t n:Nat} (h:qpT P t n=true):TSize P t n:=by
 unfold qpT at h
 cases hi:P.info? t with
 |none=>rw[hi] at h;simp at h
 |some i=>rw[hi] at h;exact ⟨i,hi,by simpa using h⟩
theorem qfF {w w':World} {L:Live} {b:Nat} {t:TypeId} {cs cs':List LV} {xs':List Value} (hH:RelH C w L [(b,.cells t cs)]) (h1:w'.os=w.os) (h2:w'.tape=w.tape) (h3:w'.output=w.output)
  (h4:w'.heap.size=w.heap.size) (h5:∀ c,c≠b->w'.heap[c]? = w.heap[c]?) (h6:w'.heap[b]? = some (.cells xs'.toArray t (0,0))) (h7:xs'.length=cs.length)
  (h8:RepL w L cs' xs') {v:Value} {lv:LV} (hv:Rep w L lv v) (hk:K lv [(b,.cells t cs')]):Left C w L [(b,.cells t cs)] w' v K:=by
 obtain ⟨hb0,hbs,hl,xs,hx1,hx2⟩:=hH.objs _ (List.mem_singleton.2 rfl);simp only at hb0 hbs hl hx1 hx2
 have hx:Ext w L w' L:=by
  refine ⟨by rw[h4];exact zNr _,fun c hc=>?_,fun c i hi=>?_,fun _=>zNr _⟩
  ·by_cases he:c=b
   ·subst he;simp only[World.shape?,hx1,h6];rw[List.size_toArray,List.size_toArray,h7,hx2.length]
   ·exact qbO (h5 c he)
  ·by_cases he:c=b
   ·subst he;rw[hl] at hi;omega
   ·exact cell_of_heap (h5 c he) i
 refine ⟨lv,[(b,.cells t cs')],L,⟨h1,h2,h3,hx,fun c hc hn=>h5 c (by simpa using hn),fun _ _ _=>rfl,fun p hp=>.inl (by simp only[List.mem_singleton] at hp;subst hp;simp)⟩,
  ⟨?_,hH.lbase,by rw[h4];exact hH.b0,by rw[h4];exact hH.wf,by simp,fun p hp=>?_⟩,hv.mono hx _ _,hk⟩
 ·exact hH.base.trans ⟨h1,h2,h3,by rw[h4];exact zNr _,fun c hc=>h5 c (by omega)⟩
 ·simp only[List.mem_singleton] at hp;subst hp;exact ⟨hb0,by rw[h4];exact hbs,hl,xs',h6,h8.mono hx _ _⟩
theorem qag.store {t n:Nat} [ht:TSize C.P t n] {b off ty':Nat} {cs vs:List LV} (hx:e.ev x=ptr b off) (hy:(e.ev y).cells? = some vs) (hn:vs.length=n) (hl:off+n<=cs.length) (hok:vs.all qd6=true)
  (hk:K (.atom undef) [(b,.cells ty' (setL cs off vs))]):qag C ⟨dst,.store t x y,ty,pos,aft,g⟩ e [(b,.cells ty' cs)] K X:=fun ρ w L h hH=>by
 obtain ⟨hb0,hbs,hlv,xs,hx1,hx2⟩:=hH.objs _ (List.mem_singleton.2 rfl);simp only at hb0 hbs hlv hx1 hx2;have hr:=(h y).cells hy;have hrl:=hr.length;have hxl:=hx2.length;obtain ⟨i,hi,hsz⟩:=ht.size;obtain ⟨w',r1,r2,r3,r4,r5,r6,r7⟩:=qcB (P:=C.P) (off:=off) (ρ y).cells.toList 0 w xs hx1 (by omega) (fun j _ _=>by simp) (qks hr hok);have h3:execOp ρ ⟨dst,.store t x y,ty,pos,aft,g⟩=(do Instr.storeAt t (ρ x) (ρ y);Pure.pure .skip):=rfl;have hs:(ρ y).cells.size=n:=by rw[<-hn,<-hrl];simp
 rw[h3,qam h hx];simp only[Instr.storeAt,Instr.sureAddr,Sem.run_bind,Sem.run_pure,Result.andThen_ok,storeVar,qce hi,hsz,hs,ne_eq,not_true_eq_false,if_false];rw[r1];refine qfF hH r2 r3 r4 r5 r6 r7 ?_ ?_ qar hk
 ·simp;omega
 ·rw[qj3 cs off vs (by omega)];rw[hrl,Nat.add_zero];exact ((hx2.take off).append hr).append (hx2.drop _)
/-! ### Calls and panics -/
class TEnter (P:Program) (f:FuncId):Prop where
 out : ∃ fn, P.funcs[f]? = some fn ∧ (fn.name == "runtime.NumGoroutine") = false ∧ fn.body.isNone = false
def qns (P : Program) (f : FuncId) : Bool := match P.funcs[f]? with | some fn => !(fn.name == "runtime.NumGoroutine") && fn.body.isSome | none => false
theorem TEnter.of {P:Program} {f:FuncId} (h:qns P f=true):TEnter P f:=by
 unfold qns at h
 cases hf:P.funcs[f]? with
 |none=>rw[hf] at h;cases h
 |some fn=>
  rw[hf] at h;simp only[zBa,Bool.not_eq_true'] at h;exact ⟨fn,hf,h.1,by cases hb:fn.body <;> simp_all⟩
theorem qfn {P:Program} {f:FuncId} [h:TEnter P f] (args:Array Value) (w:World):(callFunc f args).run P w=.ok (.enter f args) w:=by
 obtain ⟨fn,h1,h2,h3⟩:=h.out;have h0:(program).run P w=.ok P w:=rfl;simp only[callFunc,Sem.run_bind,h0,Result.andThen_ok,h1,h2,h3,Bool.false_eq_true,if_false,Sem.run_pure]
theorem qag.callV {fo:Operand} {f:FuncId} [TEnter C.P f] {first caps:Array Value} {args:List Operand} {ats:Array TypeId} {R:LRes->Heap->Prop} (hf:e.ev fo=.atom (.func (.func f) first caps))
  (hc:LCalls C f (first.toList.map .atom++args.map e.ev++caps.toList.map .atom) H R) (hk:∀ v H,R (.ret v) H->K v H) (hx:∀ ch H,R (.panic ch) H->X ch H) :
  qag C ⟨dst,.call { callee:=.value fo,args:=args.toArray,argTypes:=ats },ty,pos,aft,g⟩ e H K X:=fun ρ w L h hH=>by
 have h3:execOp ρ ⟨dst,.call { callee:=.value fo,args:=args.toArray,argTypes:=ats },ty,pos,aft,g⟩=(do let d <-Deferred.ofValue (ρ fo) (args.toArray.map ρ);invoke d.target d.args):=rfl;rw[h3,qam h hf];simp only[Deferred.ofValue,Sem.run_bind,Sem.run_pure,Result.andThen_ok,invoke,qfn];refine ⟨rfl,?_⟩;have:=hc (first.toList++args.map ρ++caps.toList) w L ((((qbh _).append (qii h _))).append (qbh _)) hH;simp only[<-List.append_toArray,Array.toArray_toList] at this;simp only[List.map_toArray];exact this.mono (qcH.mono (fun v H hv=>hk v H hv) (fun ch H hv=>hx ch H hv))
theorem qag.call {f:FuncId} [TEnter C.P f] {args:List Operand} {ats:Array TypeId} {R:LRes->Heap->Prop}
  (hc:LCalls C f (args.map e.ev) H R) (hk:∀ v H,R (.ret v) H->K v H) (hx:∀ ch H,R (.panic ch) H->X ch H) :
  qag C ⟨dst,.call { callee:=.value (.func f),args:=args.toArray,argTypes:=ats },ty,pos,aft,g⟩ e H K X:=
 qag.callV (f:=f) (first:=#[]) (caps:=#[]) rfl (by simpa using hc) hk hx
theorem qag.panic {t:TypeId} {v:Value} (hx:e.ev x=.atom (.iface t v)) (hk:X [{ v:=.iface t v,recovered:=false }] H):qag C ⟨dst,.panic x,ty,pos,aft,g⟩ e H K X:=fun ρ w L h hH=>by
 have h3:execOp ρ ⟨dst,.panic x,ty,pos,aft,g⟩=(do Pure.pure (.value (<-Instr.panic (ρ x)))):=rfl;rw[h3,qam h hx];simp only[Instr.panic,goPanic,Sem.run_bind,Sem.run_halt,Result.andThen_halt];exact ⟨H,L,Fr.refl _ _ _,hH,hk⟩
/-! ### Lists that are made and that grow -/
theorem qnw {size:Nat}:∀ (vs:List Value) (i:Nat) (xs:List Value),(∀ v∈vs,v.cells.size=size)->(i+vs.length) * size<=xs.length ->
  Instr.fill (fun i=>some (i * size,size)) xs.toArray ((List.range' i vs.length).zip vs)=some (xs.take (i * size)++vs.flatMap (fun v=>v.cells.toList)++xs.drop ((i+vs.length) * size)).toArray
 |[],i,xs,_,_=>by simp[Instr.fill]
 |v::vs,i,xs,h,hl=>by
  have hv:=h v (by simp);simp only[zLc] at hl
  have hl':i * size+size+vs.length * size<=xs.length:=by
   have:(i+(vs.length+1)) * size=i * size+size+vs.length * size:=by rw[Nat.add_mul,Nat.add_mul];omega
   omega
  simp only[zLc,List.range'_succ,List.zip_cons_cons,Instr.fill];rw[if_neg (by simp[hv];omega)]
  have he:(v.cells.zipIdx.foldl (fun cs (c,j)=>cs.setIfInBounds (i * size+j) c) xs.toArray)=(xs.take (i * size)++v.cells.toList++xs.drop (i * size+size)).toArray:=by
   rw[<-Array.foldl_toList,Array.toList_zipIdx];have:=qiY (i * size) v.cells.toList 0 xs (by simp[hv];omega);rw[Nat.add_zero] at this;rw[this];simp[hv]
  rw[he];have ha:(i+1) * size=i * size+size:=by rw[Nat.add_mul];omega
  have hb:(i+1+vs.length) * size=i * size+size+vs.length * size:=by rw[Nat.add_mul,Nat.add_mul];omega
  have hc:(i+(vs.length+1)) * size=i * size+size+vs.length * size:=by rw[Nat.add_mul,Nat.add_mul];omega
  have hlen:(xs.take (i * size)++v.cells.toList++xs.drop (i * size+size)).length=xs.length:=by simp[hv];omega
  rw[qnw vs (i+1) _ (fun u hu=>h u (zMo _ hu)) (by rw[hlen,hb];omega)];congr 2
  have e1:(xs.take (i * size)++v.cells.toList++xs.drop (i * size+size)).take ((i+1) * size)=xs.take (i * size)++v.cells.toList:=by
   rw[ha,List.take_append_of_le_length (by simp[hv];omega),List.take_of_length_le (by simp[hv];omega)]
  have e2:(xs.take (i * size)++v.cells.toList++xs.drop (i * size+size)).drop ((i+1+vs.length) * size)=xs.drop ((i+(vs.length+1)) * size):=by
   rw[hb,hc,List.drop_append,List.drop_eq_nil_of_le (by simp[hv];omega)];simp[hv,List.drop_drop];congr 1;omega
  rw[e1,e2]
  simp
theorem RepC.of_heap {w:World} {L:Live} {b:Nat} {t:TypeId} {fr:Nat×Nat}:∀ {cs:List LV} {off:Nat} {ys:List Value} (pre post:List Value),w.heap[b]? = some (.cells (pre++ys++post).toArray t fr)->pre.length=off->off+ys.length<=L b ->
  RepL w L cs ys->RepC w L b off cs
 |[],_,_,_,_,_,_,_,_=>by simp[RepC]
 |c::cs,off,ys,pre,post,hb,hp,hl,h=>by
  simp only[RepL] at h;obtain ⟨y,ys',rfl,h1,h2⟩:=h;simp only[zLc] at hl;simp only[RepC];refine ⟨by omega,⟨y,?_,h1⟩,RepC.of_heap (pre++[y]) post (by simpa using hb) (by simp[hp]) (by omega) h2⟩;simp only[World.cell?,hb];subst hp
  simp
theorem qas.of_heap {w:World} {L:Live} {b k:Nat} {t:TypeId} {fr:Nat×Nat}:∀ {es:List LV} {off:Nat} {vs:List Value} (pre post:List Value),w.heap[b]? = some (.cells (pre++vs.flatMap (fun v=>v.cells.toList)++post).toArray t fr)->pre.length=off ->
  off+es.length * k<=L b->(∀ v∈es,v.cells? = some v.cells/\v.cells.length=k)->RepL w L es vs->qas w L b k off es
 |[],_,_,_,_,_,_,_,_,_=>by simp[qas]
 |c::cs,off,vs,pre,post,hb,hp,hl,hk,h=>by
  simp only[RepL] at h;obtain ⟨y,ys',rfl,h1,h2⟩:=h;have hc:=hk c (by simp);have hr:=h1.cells hc.1;have hyl:y.cells.size=k:=by rw[<-hc.2,<-hr.length];simp
  simp only[zLc,Nat.add_mul,Nat.one_mul] at hl;refine qas.cons hc.2 (RepC.of_heap (t:=t) (fr:=fr) pre (ys'.flatMap (fun v=>v.cells.toList)++post) (by simpa using hb) hp (by simp[hyl];omega) hr) ?_;exact qas.of_heap (t:=t) (fr:=fr) (pre++y.cells.toList) post (by simpa using hb) (by simp[hp,hyl]) (by omega) (fun v hv=>hk v (zMo _ hv)) h2
def qdc (s:Nat) (es:List LV):Prop:=∀ v∈es,v.cells? = some v.cells/\v.cells.length=s
theorem eN {s:Nat}:qdc s []:=by simp[qdc]
theorem zeC {s:Nat} {e:LV} {es:List LV} (h1:e.cells? = some e.cells) (h2:e.cells.length=s) (h:qdc s es):qdc s (e::es):=fun v hv=>by
 rcases zMi.1 hv with rfl|hv
 ·exact ⟨h1,h2⟩
 ·exact h v hv
theorem qfQ {s:Nat}:∀ (vs:List Value),(∀ v∈vs,v.cells.size=s)->(vs.flatMap (fun v=>v.cells.toList)).length=vs.length * s
 |[],_=>by simp
 |v::vs,h=>by
  have ih:=qfQ vs (fun u hu=>h u (zMo _ hu));have hv:=h v (by simp);simp only[List.flatMap_cons,zLa,ih,zLc,Array.length_toList,hv,Nat.add_mul];omega
theorem qgM {w:World} {L:Live} {s:Nat}:∀ {es:List LV} {vs:List Value},RepL w L es vs->qdc s es->∀ v∈vs,v.cells.size=s
 |[],_,h,_=>by simp only[RepL] at h;subst h;simp
 |c::cs,_,h,hc=>by
  simp only[RepL] at h;obtain ⟨y,ys,rfl,h1,h2⟩:=h;intro v hv;rcases zMi.1 hv with rfl|hv
  ·have:=hc c (by simp);rw[<-this.2,<-(h1.cells this.1).length]
   simp
  ·exact qgM h2 (fun u hu=>hc u (zMo _ hu)) v hv
theorem qiv {w:World} {L:Live} (hH:RelH C w L []) {t s cap:Nat} {es:List LV} {vs rest:List Value} (hr:RepL w L es vs) (hok:qdc s es) (hcap:es.length<=cap) (hsz:cap * s<=es.length * s+rest.length)
  (hk:∀ b,K (.app b cap s es) [(b,.row (es.length * s))]) :
  Left C w L [] (World.push w (.cells (vs.flatMap (fun v=>v.cells.toList)++rest).toArray t)) (.slice (some ⟨w.heap.size,0,none⟩) es.length cap) K:=by
 have hl:=hr.length;have hfl:=qfQ vs (qgM hr hok);rw[hl] at hfl;have hx:=qfI hH.wf (.cells (vs.flatMap (fun v=>v.cells.toList)++rest).toArray t) (es.length * s)
 have:=qe3 hH (.cells (vs.flatMap (fun v=>v.cells.toList)++rest).toArray t) (es.length * s) [(w.heap.size,.row (es.length * s))] (fun p hp=>by
  simp only[List.mem_singleton] at hp;subst hp
  exact ⟨rfl,by simp[Live.upd],_,t,(0,0),qaT,by simp only[List.size_toArray,zLa,hfl];omega,Nat.zero_le _⟩) (by simp)
 refine ⟨.app w.heap.size cap s es,_,_,this.1,this.2,?_,hk _⟩;simp only[Rep];refine ⟨trivial,hcap,?_,t,_,by simp only[World.shape?,World.push];rw[qaT],by simp only[List.size_toArray,zLa,hfl];exact hsz⟩;exact qas.of_heap (t:=t) (fr:=(0,0)) [] rest (by simp only[World.push,List.nil_append];exact qaT) rfl (by simp[Live.upd]) hok (hr.mono hx _ _)
theorem qag.buildSlice {t el s:Nat} {zs:List Value} [ht:TSlice C.P t el s] [hz:TZero C.P el zs] {xs:List Operand} (hok:qdc s (xs.map e.ev)) (hsz:xs.length * s<=16777216) {parts:List (Nat×Operand)} (hp:parts=(List.range xs.length).zip xs)
  {len:Nat} (hlen:len=xs.length) (hk:∀ b,K (.app b len s (xs.map e.ev)) [(b,.row (len * s))]):qag C ⟨dst,.buildSlice t len parts.toArray,ty,pos,aft,g⟩ e [] K X:=fun ρ w L h hH=>by
 subst hlen hp;obtain ⟨i,hi,his⟩:=ht.size;obtain ⟨v0,hv0,hc0⟩:=qkO (P:=C.P) (t:=el) w;have hr:=qii h xs;have hvs:=qgM hr hok;have h3:execOp ρ ⟨dst,.buildSlice t xs.length ((List.range xs.length).zip xs).toArray,ty,pos,aft,g⟩=(do Pure.pure (.value (<-Instr.buildSlice t xs.length (((List.range xs.length).zip xs).toArray.map fun (i,x)=>(i,ρ x))))):=rfl
 have hmap:(((List.range xs.length).zip xs).map fun p=>(p.1,ρ p.2))=(List.range' 0 (xs.map ρ).length).zip (xs.map ρ):=by
  rw[zLm,<-List.range_eq_range',List.zip_map_right]
  try rfl
 have key:∀ (zarr:Array Value),Instr.fill (fun i=>some (i * s,s)) ((Array.range (xs.length * s)).map (zarr[· % zarr.size]!)) (((List.range xs.length).zip xs).toArray.map fun (i,x)=>(i,ρ x)).toList =
   some ((xs.map ρ).flatMap (fun v=>Value.cells v |>.toList)).toArray:=fun zarr=>by
  have hfs:=qnw (size:=s) (xs.map ρ) 0 ((Array.range (xs.length * s)).map (zarr[· % zarr.size]!)).toList hvs (by simp);rw[Array.toArray_toList] at hfs
  have hm2:(((List.range xs.length).zip xs).toArray.map fun (i,x)=>(i,ρ x)).toList=(List.range' 0 (xs.map ρ).length).zip (xs.map ρ):=by
   rw[<-hmap]
   simp
  rw[hm2,hfs]
  simp
 have hbuild:(Instr.buildSlice t xs.length (((List.range xs.length).zip xs).toArray.map fun (i,x)=>(i,ρ x))).run C.P w =
   .ok (.slice (some ⟨w.heap.size,0,none⟩) xs.length xs.length) (World.push w (.cells ((xs.map ρ).flatMap (fun v=>Value.cells v |>.toList)).toArray el)):=by
  have hg:¬ (xs.length * s > 2 ^ 24):=by simp;omega
  simp only[Instr.buildSlice,Sem.run_bind,qab ht.und,Result.andThen_ok,qce hi,his];rw[if_neg hg]
  by_cases h0:xs.length * s=0
  ·rw[if_pos h0];simp only[Sem.run_bind,Sem.run_pure,Result.andThen_ok,key #[]];rfl
  ·rw[if_neg h0];simp only[Sem.run_bind,Sem.run_pure,Result.andThen_ok,hv0,key v0.cells];rfl
 rw[h3,Sem.run_bind,hbuild];have:=qiv (K:=K) (t:=el) (cap:=xs.length) (rest:=[]) hH hr hok (by simp) (by simp) (by simpa using hk);simp only[zLz,zLm] at this;exact this
/-! ### append -/
theorem RepC.append {w:World} {L:Live} {b:Nat}:∀ {avs bs:List LV} {off:Nat},RepC w L b off avs->RepC w L b (off+avs.length) bs->RepC w L b off (avs++bs)
 |[],_,_,_,h=>by simpa using h
 |a::avs,bs,off,h1,h2=>by
  simp only[RepC,List.cons_append] at h1 ⊢;refine ⟨h1.1,h1.2.1,RepC.append h1.2.2 ?_⟩;simpa [show off+1+avs.length=off+(avs.length+1) by omega] using h2
theorem RepC.left {w:World} {L:Live} {b off:Nat} {avs bs:List LV} (h:RepC w L b off (avs++bs)):RepC w L b off avs:=by
 have:=h.take avs.length;simpa using this
theorem RepC.right {w:World} {L:Live} {b off:Nat} {avs bs:List LV} (h:RepC w L b off (avs++bs)):RepC w L b (off+avs.length) bs:=by
 have:=h.drop avs.length;simpa using this
theorem qas.toC {w:World} {L:Live} {b k:Nat}:∀ {es:List LV} {off:Nat},qas w L b k off es->RepC w L b off (es.flatMap LV.cells)
 |[],_,_=>by simp[RepC]
 |e::es,off,h=>by
  have h1:=h.cell;rw[List.flatMap_cons];refine RepC.append h1.2 ?_;rw[h1.1];exact qas.toC h.tail
theorem qas.ofC {w:World} {L:Live} {b k:Nat}:∀ {es:List LV} {off:Nat},(∀ e∈es,e.cells.length=k)->RepC w L b off (es.flatMap LV.cells)->qas w L b k off es
 |[],_,_,_=>by simp[qas]
 |e::es,off,hk,h=>by
  rw[List.flatMap_cons] at h;have h1:=hk e (by simp);refine qas.cons h1 h.left (qas.ofC (fun v hv=>hk v (zMo _ hv)) ?_);rw[<-h1];exact h.right
theorem qas.sizes {w:World} {L:Live} {b k:Nat}:∀ {es:List LV} {off:Nat},qas w L b k off es->∀ e∈es,e.cells.length=k
 |[],_,_=>by simp
 |e::es,_,h=>fun v hv=>by
  rcases zMi.1 hv with rfl|hv
  ·exact h.cell.1
  ·exact qas.sizes h.tail v hv
theorem qd7 {k:Nat}:∀ {es:List LV},(∀ e∈es,e.cells.length=k)->(es.flatMap LV.cells).length=es.length * k
 |[],_=>by simp
 |e::es,h=>by
  rw[List.flatMap_cons,zLa,h e (by simp),qd7 (fun v hv=>h v (zMo _ hv)),zLc,Nat.add_mul];omega
theorem RepC.of_cells {w:World} {L:Live} {b:Nat}:∀ {cs:List LV} {off:Nat} {ys:List Value},RepL w L cs ys->off+ys.length<=L b->(∀ j x,ys[j]? = some x->w.cell? ⟨b,off+j,none⟩=some x)->RepC w L b off cs
 |[],_,_,_,_,_=>by simp[RepC]
 |c::cs,off,_,h,hl,hc=>by
  simp only[RepL] at h;obtain ⟨y,ys,rfl,h1,h2⟩:=h;simp only[zLc] at hl;simp only[RepC];refine ⟨by omega,⟨y,hc 0 y rfl,h1⟩,RepC.of_cells h2 (by omega) fun j x hx=>?_⟩;have:=hc (j+1) x (by simpa using hx)
  rwa [show off+(j+1)=off+1+j by omega] at this
class TRow (P:Program) (el:TypeId) (s bytes:outParam Nat):Prop where
 out:∃ i v,P.info? el=some i/\i.size=s/\i.bytes=bytes/\0<bytes/\i.zero=some v/\v.cells.size=s
def qrB (P:Program) (el s bytes:Nat):Bool:=
 match P.info? el with
 |some i=>i.size == s && i.bytes == bytes && Nat.blt 0 bytes && (match i.zero with|some v=>v.cells.size == s|none=>false)
 |none=>false
theorem TRow.of {P:Program} {el s bytes:Nat} (h:qrB P el s bytes=true):TRow P el s bytes:=by
 unfold qrB at h
 cases hi:P.info? el with
 |none=>rw[hi] at h;simp at h
 |some i=>
  rw[hi] at h;simp only[zBa,beq_iff_eq] at h;obtain ⟨⟨⟨h1,h2⟩,h3⟩,h4⟩:=h
  cases hz:i.zero with
  |none=>rw[hz] at h4;simp at h4
  |some v=>rw[hz] at h4;exact ⟨i,v,hi,h1,h2,by simpa using h3,hz,by simpa using h4⟩
theorem qeF {P:Program} {w:World} {sT xT el s bytes:Nat} [ht:TSlice P sT el s] [hr:TRow P el s bytes] {a:Option Addr} {len cap n:Nat} {xv:Value} {new:List Value}
  (hxT:P.underlying xT=some .string∨∃ e2,P.underlying xT=some (.slice e2)) (hlen:∀ w':World,(Builtin.lenOf xv).run P w'=.ok n w')
  (hnew:∀ w':World,w'.heap=w.heap->(Builtin.firstCells s n xv).run P w'=.ok new.toArray w') (hc:len+n<=cap) :
  (Builtin.append_ #[sT,xT] ty #[.slice a len cap,xv]).run P w =
   ((match a with|some a=>storeCells (a.add (len * s)) new|none=>Pure.pure ()).run P w).andThen fun _ w'=>.ok (.slice a (len+n) cap) w':=by
 obtain ⟨i,z,hi,hs,hb,hb0,hz,hzs⟩:=hr.out;subst hs;have hn:=hnew w rfl;rcases hxT with hd|⟨e2,hd⟩ <;> cases a <;> simp[Builtin.append_,qab ht.und,qab hd,sizeOf,typeInfo,hi,hlen,hc,hn]
theorem qb9 {P:Program} {w:World} {sT xT el s bytes:Nat} [ht:TSlice P sT el s] [hr:TRow P el s bytes] {a:Option Addr} {len cap n:Nat} {xv:Value} {old new:List Value}
  (hxT:P.underlying xT=some .string∨∃ e2,P.underlying xT=some (.slice e2)) (hlen:∀ w':World,(Builtin.lenOf xv).run P w'=.ok n w')
  (hnew:∀ w':World,w'.heap=w.heap->(Builtin.firstCells s n xv).run P w'=.ok new.toArray w') (hold:∀ w':World,w'.heap=w.heap->(Builtin.firstCells s len (.slice a len cap)).run P w'=.ok old.toArray w')
  (hroom:(len+n) * bytes<=140737488355328) (hc:cap<len+n) :
  ∃ cap' rest,len+n<=cap'/\rest.length=(cap'-(len+n)) * s/\(Builtin.append_ #[sT,xT] ty #[.slice a len cap,xv]).run P w =
   .ok (.slice (some ⟨w.heap.size,0,none⟩) (len+n) cap') (World.push w.drew (.cells (old++new++rest).toArray el)):=by
 obtain ⟨i,z,hi,hs,hb,hb0,hz,hzs⟩:=hr.out;subst hs;have hn':¬ (len+n<=cap):=by omega
 have hmul:len+n<=(len+n) * bytes:=Nat.le_mul_of_pos_right _ hb0;have h63':¬ (9223372036854775807<((len:Int)+(n:Int))):=by omega
 have hfit:=growslice_fits (bytes:=bytes) hc hroom;have h48':¬ (281474976710656<Builtin.nextslicecap (len+n) cap * i.bytes):=by rw[hb];omega
 have hf:=hnew w.drew rfl;have hfo:=hold w.drew rfl;refine ⟨grownCap w (len+n) cap el,(Builtin.zeroCells z.cells (grownCap w (len+n) cap el-(len+n))).toList,?_,?_,?_⟩
 ·simp[grownCap,Question.cut]
 ·simp[Builtin.zeroCells,hzs]
 ·rcases hxT with hd|⟨e2,hd⟩
  all_goals
   simp[Builtin.append_,qab ht.und,qab hd,sizeOf,typeInfo,zeroValue,hi,hz,hlen,hn',h63',h48',Question.forced,hf,hfo,newRow,grownCap];show World.push w.drew _=World.push w.drew _;congr 2;apply Array.ext'
   simp
theorem Fr.wide {K K':List Nat} {w w':World} {L L':Live} {H':Heap} (h:Fr K w L w' L' H') (hk:∀ b∈K,b∈K'):Fr K' w L w' L' H':=
 ⟨h.os,h.tape,h.output,h.ext,fun b hb hn=>h.block b hb (fun k=>hn (hk b k)),fun b hb hn=>h.lsame b hb (fun k=>hn (hk b k)),fun p hp=>(h.kin p hp).imp (hk _) id⟩
theorem Fr.of_drew {K:List Nat} {w w':World} {L L':Live} {H':Heap} (h:Fr K w.drew L w' L' H'):Fr K w L w' L' H':=
 ⟨h.os,h.tape,h.output,⟨h.ext.size,h.ext.shape,h.ext.live,h.ext.mono⟩,h.block,h.lsame,h.kin⟩
theorem qft (w:World) (L:Live):Ext w L w.drew L:=⟨zNr _,fun _ _=>rfl,fun _ _ _=>rfl,fun _=>zNr _⟩
theorem RelH.drew {w:World} {L:Live} (h:RelH C w L H):RelH C w.drew L H:=
 ⟨h.base.drew,h.lbase,h.b0,h.wf,h.nodup,fun p hp=>⟨(h.objs p hp).1,(h.objs p hp).2.1,(h.objs p hp).2.2.keep (qft w L) rfl rfl⟩⟩
theorem qhp {w:World} {L:Live} (hH:RelH C w L []) {t s cap:Nat} {es:List LV} {xs rest:List Value} (hr:RepL w L (es.flatMap LV.cells) xs) (hok:∀ v∈es,v.cells.length=s) (hcap:es.length<=cap) (hsz:cap * s<=es.length * s+rest.length)
  (hk:∀ b,K (.app b cap s es) [(b,.row (es.length * s))]) :
  Left C w L [] (World.push w (.cells (xs++rest).toArray t)) (.slice (some ⟨w.heap.size,0,none⟩) es.length cap) K:=by
 have hl:xs.length=es.length * s:=by rw[hr.length,qd7 hok]
 have hx:=qfI hH.wf (.cells (xs++rest).toArray t) (es.length * s)
 have:=qe3 hH (.cells (xs++rest).toArray t) (es.length * s) [(w.heap.size,.row (es.length * s))] (fun p hp=>by
  simp only[List.mem_singleton] at hp;subst hp
  exact ⟨rfl,by simp[Live.upd],_,t,(0,0),qaT,by simp only[List.size_toArray,zLa,hl];omega,Nat.zero_le _⟩) (by simp)
 refine ⟨.app w.heap.size cap s es,_,_,this.1,this.2,?_,hk _⟩;simp only[Rep];refine ⟨trivial,hcap,?_,t,_,by simp only[World.shape?,World.push];rw[qaT],by simp only[List.size_toArray,zLa,hl];exact hsz⟩;refine qas.ofC hok (RepC.of_cells (hr.mono hx _ _) (by simp[Live.upd,hl]) fun j x hj=>?_);have hb:(World.push w (.cells (xs++rest).toArray t)).heap[w.heap.size]? = some (.cells (xs++rest).toArray t (0,0)):=qaT;simp only[World.cell?,hb];simp only[Option.isSome_none,Bool.false_eq_true,if_false,Nat.zero_add,List.getElem?_toArray];rw[List.getElem?_append_left (List.getElem?_eq_some_iff.1 hj).1];exact hj
theorem qdV {w:World} {L:Live} {lv:LV} {v:Value} {es:List LV} {s:Nat} (h:Rep w L lv v) (he:elems lv=some es) (hs:∀ v∈es,v.cells.length=s) :
  ∃ a cap xs,v=.slice a es.length cap/\es.length<=cap/\RepL w L (es.flatMap LV.cells) xs/\xs.length=es.length * s /\
   ∀ (P:Program) (w':World),w'.heap=w.heap->(Builtin.firstCells s es.length v).run P w'=.ok xs.toArray w':=by
 obtain ⟨a,cap,rfl,hc,hr⟩:=h.elems he
 by_cases hne:es=[]
 ·subst hne;refine ⟨a,cap,[],rfl,hc,by simp[RepL],by simp,fun P w' _=>?_⟩;cases a <;> simp[Builtin.firstCells,loadCells,loadCellsFrom]
 ·obtain ⟨b,off,k,rfl,hrr⟩:=hr hne
  have hk:k=s:=by
   obtain ⟨e0,rest,he⟩:=List.exists_cons_of_ne_nil hne;subst he;exact hrr.cell.1.symm.trans (hs e0 (by simp))
  subst hk;obtain ⟨xs,h1,h2⟩:=hrr.toC.values;have hl:xs.length=es.length * k:=by rw[h1.length,qd7 hs]
  refine ⟨_,cap,xs,rfl,hc,h1,hl,fun P w' hw=>?_⟩
  have:=qb0 (P:=P) (w:=w') (b:=b) (off:=off) (es.length * k) 0 #[] xs hl (fun j x hj=>by
   have:=(h2 j x hj).2;simp only[World.cell?] at this ⊢;rw[hw]
   simpa using this)
  simp only[Builtin.firstCells,loadCells,this]
  simp
theorem qag.appendNil {sT xT el s bytes:Nat} [ht:TSlice C.P sT el s] [hr:TRow C.P el s bytes] {ats:Array TypeId} (hats:ats=#[sT,xT]) (hxT:∃ e2,C.P.underlying xT=some (.slice e2)) {ms:List LV}
  (hx:e.ev x=qaa) (hy:elems (e.ev y)=some ms) (hne:ms≠[]) (hs:∀ v∈ms,v.cells.length=s) (hroom:ms.length * bytes<=140737488355328)
  (hk:∀ b cap,K (.app b cap s ms) [(b,.row (ms.length * s))]) :
  qag C ⟨dst,.call { callee:=.builtin .append,args:=#[x,y],argTypes:=ats },ty,pos,aft,g⟩ e [] K X:=fun ρ w L h hH=>by
 subst hats;obtain ⟨a,cap,xs,hv,hc,h1,h2,h3⟩:=qdV (h y) hy hs;have h0:∀ (cs:Array Bool) (args:Array Value),builtin .append #[sT,xT] ty cs args=(do Pure.pure (.value (<-Builtin.append_ #[sT,xT] ty args))):=fun _ _=>rfl;have hpos:0<ms.length:=List.length_pos_iff.2 hne
 obtain ⟨cap',rest,r1,r2,r3⟩:=qb9 (ty:=ty) (P:=C.P) (w:=w) (sT:=sT) (xT:=xT) (a:=none) (len:=0) (cap:=0) (n:=ms.length) (xv:=ρ y) (old:=[]) (new:=xs) (.inr hxT) (fun w'=>by rw[hv];try rfl) (fun w' hw=>h3 C.P w' hw)
  (fun w' _=>by simp[Builtin.firstCells]) (by simpa using hroom) (by omega)
 rw[qaI,h0];simp only[List.map_toArray,zMc,List.map_nil,Sem.run_bind,qam h hx,r3,Result.andThen_ok,Sem.run_pure,List.nil_append,Nat.zero_add]
 obtain ⟨lv,H',L',g1,g2,g3,g4⟩:=qhp (K:=K) (t:=el) (cap:=cap') (rest:=rest) hH.drew (h1.mono (qft w L) _ _) hs (by omega) (by
  rw[r2,<-Nat.add_mul]
  exact Nat.mul_le_mul_right _ (by omega)) (fun b=>hk b cap')
 exact ⟨lv,H',L',g1.of_drew,g2,g3,g4⟩
theorem qas.append {w:World} {L:Live} {b k:Nat}:∀ {avs bs:List LV} {off:Nat},qas w L b k off avs->qas w L b k (off+avs.length * k) bs->qas w L b k off (avs++bs)
 |[],_,_,_,h=>by simpa using h
 |a::avs,bs,off,h1,h2=>by
  rw[List.cons_append];refine qas.cons h1.cell.1 h1.cell.2 (qas.append h1.tail ?_);simpa [Nat.add_mul,Nat.add_assoc,Nat.add_comm,Nat.add_left_comm] using h2
theorem qo7 {w w':World} {L:Live} {b n m s cap:Nat} {es ms:List LV} {xs:Array Value} {t:TypeId} {fr:Nat×Nat} {news:List Value} (hH:RelH C w L [(b,.row n)]) (hn:n=es.length * s) (hm:m=ms.length * s)
  (hb:w.heap[b]? = some (.cells xs t fr)) (hsz:cap * s<=xs.size) (hcap:es.length+ms.length<=cap) (hrow:qas w L b s 0 es) (hs:∀ v∈ms,v.cells.length=s) (hnews:RepL w L (ms.flatMap LV.cells) news)
  (h1:w'.os=w.os) (h2:w'.tape=w.tape) (h3:w'.output=w.output) (h4:w'.heap.size=w.heap.size) (h5:∀ c,c≠b->w'.heap[c]? = w.heap[c]?)
  (h6:w'.heap[b]? = some (.cells (xs.toList.take n++news++xs.toList.drop (n+news.length)).toArray t fr)) (hk:K (.app b cap s (es++ms)) [(b,.row ((es++ms).length * s))]) :
  Left C w L [(b,.row n)] w' (.slice (some ⟨b,0,none⟩) (es.length+ms.length) cap) K:=by
 obtain ⟨hb0,hbs,hl,xs2,t2,fr2,hx1,hx2,hx3⟩:=hH.objs _ (List.mem_singleton.2 rfl);simp only at hb0 hbs hl hx1 hx2 hx3;rw[hb] at hx1;simp only[Option.some.injEq,Obj.cells.injEq] at hx1;obtain ⟨rfl,rfl,rfl⟩:=hx1;have hnl:news.length=m:=by rw[hnews.length,qd7 hs,hm]
 have htot:n+m<=cap * s:=by rw[hn,hm,<-Nat.add_mul];exact Nat.mul_le_mul_right _ hcap
 have hsize:(xs.toList.take n++news++xs.toList.drop (n+news.length)).toArray.size=xs.size:=by simp[hnl];omega
 have hx:Ext w L w' (L.upd b (n+m)):=by
  refine ⟨by rw[h4];exact zNr _,fun c hc=>?_,fun c i hi=>?_,fun c=>?_⟩
  ·by_cases he:c=b
   ·subst he;simp only[World.shape?,hb,h6,hsize]
   ·exact qbO (h5 c he)
  ·by_cases he:c=b
   ·subst he;rw[hl] at hi;simp only[World.cell?,hb,h6,Option.isSome_none,Bool.false_eq_true,if_false,List.getElem?_toArray];rw[zAs,List.getElem?_append_left (by simp;omega),List.getElem?_take,if_pos hi]
    simp
   ·exact cell_of_heap (h5 c he) i
  ·unfold Live.upd;split
   ·rename_i h;subst h;omega
   ·exact zNr _
 have htl:(es++ms).length * s=n+m:=by rw[zLa,Nat.add_mul,<-hn,<-hm]
 refine ⟨.app b cap s (es++ms),[(b,.row ((es++ms).length * s))],L.upd b (n+m),⟨h1,h2,h3,hx,fun c hc hn=>h5 c (by simpa using hn),fun c hc hn=>?_,fun p hp=>.inl (by simp only[List.mem_singleton] at hp;subst hp;simp)⟩,
  ⟨?_,trivial,by rw[h4];exact hH.b0,fun c hc=>?_,by simp,fun p hp=>?_⟩,?_,hk⟩
 ·have hne:c≠b:=by simpa using hn
  simp only[Live.upd,if_neg hne]
 ·exact hH.base.trans ⟨h1,h2,h3,by rw[h4];exact zNr _,fun c hc=>h5 c (by omega)⟩
 ·rw[h4] at hc;have hne:c≠b:=by omega
  simp only[Live.upd,if_neg hne];exact hH.wf c hc
 ·simp only[List.mem_singleton] at hp;subst hp;refine ⟨hb0,by rw[h4];exact hbs,by simp only[Live.upd,if_true];exact htl.symm,_,t,fr,h6,by rw[hsize,htl];omega,by omega⟩
 ·simp only[Rep];refine ⟨by simp,by simp;exact hcap,qas.append (hrow.mono hx _ _ _ _) (qas.ofC hs (RepC.of_cells (hnews.mono hx _ _) ?_ fun j x hj=>?_)),t,_,by simp only[World.shape?,h6];rfl,by rw[hsize];exact hsz⟩
  ·simp[Live.upd,<-hn,hnl]
  ·have hjl:=(List.getElem?_eq_some_iff.1 hj).1;simp only[World.cell?,h6,Option.isSome_none,Bool.false_eq_true,if_false,List.getElem?_toArray,Nat.zero_add,<-hn];rw[zAs,List.getElem?_append_right (by simp;omega),List.getElem?_append_left (by simp;omega)]
   simp
   rw[show n+j-min n xs.size=j by omega];exact hj
theorem qmO {w:World} {L:Live} {sT xT el s bytes:Nat} [ht:TSlice C.P sT el s] [hr:TRow C.P el s bytes] (hxT:C.P.underlying xT=some .string∨∃ e2,C.P.underlying xT=some (.slice e2)) {b cap:Nat} {es ms:List LV} {xv:Value} {new:List Value}
  (hH:RelH C w L [(b,.row (es.length * s))]) (hsv:Rep w L (.app b cap s es) (.slice (some ⟨b,0,none⟩) es.length cap)) (hlen:∀ w':World,(Builtin.lenOf xv).run C.P w'=.ok ms.length w')
  (hnew:∀ w':World,w'.heap=w.heap->(Builtin.firstCells s ms.length xv).run C.P w'=.ok new.toArray w') (hrep:RepL w L (ms.flatMap LV.cells) new) (hs:∀ v∈ms,v.cells.length=s)
  (hflat:∀ v∈new,(∀ cs,v≠.agg cs)/\(∀ cs,v≠.tuple cs)) (hroom:(es.length+ms.length) * bytes<=140737488355328)
  (hk:∀ b' cap',K (.app b' cap' s (es++ms)) [(b',.row ((es++ms).length * s))]) :
  ∃ v w',(Builtin.append_ #[sT,xT] ty #[.slice (some ⟨b,0,none⟩) es.length cap,xv]).run C.P w=.ok v w'/\Left C w L [(b,.row (es.length * s))] w' v K:=by
 have hsv':=hsv;simp only[Rep] at hsv;obtain ⟨_,hcl,hrow,te,ts,hshape,hcs⟩:=hsv;obtain ⟨hb0,hbs,hl,xs,t,fr,hx1,hx2,hx3⟩:=hH.objs _ (List.mem_singleton.2 rfl);simp only at hb0 hbs hl hx1 hx2 hx3;simp only[World.shape?,hx1,Option.some.injEq,Prod.mk.injEq] at hshape;obtain ⟨rfl,rfl⟩:=hshape;have hnl:new.length=ms.length * s:=by rw[hrep.length,qd7 hs]
 by_cases hc:es.length+ms.length<=cap
 ·have hrun:=qeF (ty:=ty) (P:=C.P) (w:=w) (sT:=sT) (xT:=xT) (a:=some ⟨b,0,none⟩) (len:=es.length) (cap:=cap) hxT hlen hnew hc;have htot:es.length * s+ms.length * s<=cap * s:=by rw[<-Nat.add_mul];exact Nat.mul_le_mul_right _ hc
  obtain ⟨w',r1,r2,r3,r4,r5,r6,r7⟩:=qcB (P:=C.P) (b:=b) (off:=0+es.length * s) (t:=t) (fr:=fr) new 0 w xs.toList (by simpa using hx1) (by simp;omega) (fun j h1 h2 h3=>by omega) hflat;refine ⟨_,w',?_,qo7 (cap:=cap) (news:=new) (xs:=xs) hH rfl rfl hx1 hcs hc hrow hs hrep r2 r3 r4 r5 r6 (by simpa using r7) (hk b cap)⟩;rw[hrun];simp only[add_mk,r1,Result.andThen_ok]
 ·obtain ⟨a2,cap2,old,hv,hc2,h1,h2,h3⟩:=qdV hsv' (es:=es) (s:=s) rfl hrow.sizes;simp only[Value.slice.injEq] at hv;obtain ⟨rfl,_,rfl⟩:=hv;obtain ⟨cap',rest,r1,r2,r3⟩:=qb9 (ty:=ty) (P:=C.P) (w:=w) (sT:=sT) (xT:=xT) (a:=some ⟨b,0,none⟩) (len:=es.length) (cap:=cap) hxT hlen hnew (fun w' hw=>h3 C.P w' hw) hroom (by omega);refine ⟨_,_,r3,?_⟩;have hH0:RelH C w L []:=hH.sub (List.nil_sublist _)
  obtain ⟨lv,H',L',g1,g2,g3,g4⟩:=qhp (K:=K) (t:=el) (s:=s) (cap:=cap') (es:=es++ms) (rest:=rest) hH0.drew (by
    rw[List.flatMap_append];exact (h1.append hrep).mono (qft w L) _ _) (fun v hv=>by
    rcases List.mem_append.1 hv with hv|hv
    ·exact hrow.sizes v hv
    ·exact hs v hv) (by simp;omega) (by
    rw[r2,<-Nat.add_mul,zLa]
    exact Nat.mul_le_mul_right _ (by omega)) (fun b'=>hk b' cap')
  rw[zLa] at g3;exact ⟨lv,H',L',g1.of_drew.wide (by simp),g2,g3,g4⟩
theorem qag.appendApp {sT xT el s bytes:Nat} [ht:TSlice C.P sT el s] [hr:TRow C.P el s bytes] {ats:Array TypeId} (hats:ats=#[sT,xT]) (hxT:∃ e2,C.P.underlying xT=some (.slice e2)) {b cap n:Nat} {es ms:List LV}
  (hx:e.ev x=.app b cap s es) (hn:n=es.length * s) (hy:elems (e.ev y)=some ms) (hs:∀ v∈ms,v.cells.length=s) (hok:(ms.flatMap LV.cells).all qd6=true) (hroom:(es.length+ms.length) * bytes<=140737488355328)
  (hk:∀ b' cap',K (.app b' cap' s (es++ms)) [(b',.row ((es++ms).length * s))]) :
  qag C ⟨dst,.call { callee:=.builtin .append,args:=#[x,y],argTypes:=ats },ty,pos,aft,g⟩ e [(b,.row n)] K X:=fun ρ w L h hH=>by
 subst hats hn;obtain ⟨a,cap2,xs,hv,hc,h1,h2,h3⟩:=qdV (h y) hy hs;have hsv:=h x;rw[hx] at hsv
 have hxv:ρ x=.slice (some ⟨b,0,none⟩) es.length cap:=by
  have h':=hsv;simp only[Rep] at h';exact h'.1
 rw[hxv] at hsv;have h0:∀ (cs:Array Bool) (args:Array Value),builtin .append #[sT,xT] ty cs args=(do Pure.pure (.value (<-Builtin.append_ #[sT,xT] ty args))):=fun _ _=>rfl;obtain ⟨v,w',r1,r2⟩:=qmO (ty:=ty) (K:=K) (sT:=sT) (xT:=xT) (.inr hxT) hH hsv (xv:=ρ y) (ms:=ms) (fun w'=>by rw[hv];try rfl) (fun w' hw=>h3 C.P w' hw) h1 hs (qks h1 hok) hroom hk;rw[qaI,h0];simp only[List.map_toArray,zMc,List.map_nil,Sem.run_bind,hxv,r1,Result.andThen_ok,Sem.run_pure];exact r2
theorem qag.appendNilNil {sT xT el s:Nat} [ht:TSlice C.P sT el s] {ats:Array TypeId} (hats:ats=#[sT,xT]) (hxT:∃ e2,C.P.underlying xT=some (.slice e2)) (hx:e.ev x=qaa) (hy:elems (e.ev y)=some []) (hk:K qaa H) :
  qag C ⟨dst,.call { callee:=.builtin .append,args:=#[x,y],argTypes:=ats },ty,pos,aft,g⟩ e H K X:=fun ρ w L h hH=>by
 subst hats;obtain ⟨a,cap,hv,_⟩:=(h y).elems hy;obtain ⟨i,hi,his⟩:=ht.size;obtain ⟨e2,hxT⟩:=hxT;have h0:∀ (cs:Array Bool) (args:Array Value),builtin .append #[sT,xT] ty cs args=(do Pure.pure (.value (<-Builtin.append_ #[sT,xT] ty args))):=fun _ _=>rfl
 have hr:(Builtin.append_ #[sT,xT] ty #[.slice none 0 0,.slice a 0 cap]).run C.P w=.ok (.slice none 0 0) w:=by
  cases a <;> simp[Builtin.append_,qab ht.und,qab hxT,sizeOf,typeInfo,hi,Builtin.lenOf,Builtin.firstCells,loadCells,loadCellsFrom]
 rw[qaI,h0];simp only[List.map_toArray,zMc,List.map_nil,Sem.run_bind,qam h hx,hv,zLn,hr,Result.andThen_ok,Sem.run_pure];exact ⟨_,H,L,Fr.refl _ _ _,hH,qar,hk⟩
end steps
end Go.GL
namespace Go.GL
open Go.RowKit
class TMixed (P:Program):Prop where
 out:P.follows .mixedOrders=true
def QC (C:Ctx) (w:World) (L:Live) (w':World):Prop:=∃ L',Fr (keys []) w L w' L' []/\RelH C w' L' []
theorem QC.agree {C:Ctx} {w w':World} {L:Live} {H:Heap} (h:QC C w L w') (hH:RelH C w L H):qeH w L H w':=
 let ⟨_,f,_⟩:=h
 ⟨fun p hp=>f.block p.1 (hH.objs p hp).2.1 (by simp),f.ext.live⟩
theorem RelH.empty {C:Ctx} {w:World} {L:Live} {H:Heap} (h:RelH C w L H):RelH C w L []:=h.sub (List.nil_sublist _)
def LQ (C:Ctx) (n:Nat) (ops:Array Oper) (K:Env->Prop) (rest:List Oper) (e:Env) (H:Heap):Prop:=
 ∀ a w L,RelE n a e w L->RelH C w L H->wpQuiet C.P ops (QC C w L) (fun a'=>∃ e',RelE n a' e' w L/\K e') rest a
section quiet
variable {C:Ctx} {n:Nat} {ops:Array Oper} {K:Env->Prop} {e:Env} {H:Heap} {dst:Option Nat} {op:Op} {ty:TypeId} {pos:String} {aft:Array Edge} {rest:List Oper}
theorem LQ.nil (h:K e):LQ C n ops K [] e H:=fun _ _ _ hE _=>⟨e,hE,h⟩
theorem qmU {P:Program} {C:World->Prop} {Q:Act->Prop} {a:Act} {o:Oper} (hg:Region.wanted o (yielded ops a.tmps)=true) {v:Value} (h:∀ w',C w'->o.quietAt P a C w' v) (k:wpQuiet P ops C Q rest (a.put o.dst v)):wpQuiet P ops C Q (o::rest) a:=by
 unfold wpQuiet;rw[if_pos hg];exact ⟨v,h,k⟩
theorem qP {lv:LV} (h:Pure C ⟨dst,op,ty,pos,aft,none⟩ e H lv) (hd:qdg n dst) (k:LQ C n ops K rest (e.put dst lv) H):LQ C n ops K (⟨dst,op,ty,pos,aft,none⟩::rest) e H:=fun a w L hE hH=>by
 obtain ⟨v,hv,hr⟩:=h a.eval w L hE.ev hH;refine qmU (by simp[Region.wanted]) (v:=v) (fun w' hw'=>?_) (k _ w L (hE.put hd hv) hH);unfold Oper.quietAt;rw[hr w' (hw'.agree hH)];exact ⟨rfl,rfl⟩
theorem LQ.want {j d:Nat} {b:Bool} (hj:(ops[j]?).bind (·.dst)=some d) (hb:e.s d=.atom (.bool b))
  (k:LQ C n ops K (⟨dst,op,ty,pos,aft,none⟩::rest) e H):LQ C n ops K (⟨dst,op,ty,pos,aft,some (j,b)⟩::rest) e H:=fun a w L hE hH=>by
 have:=k a w L hE hH;unfold wpQuiet at this ⊢;rw[if_pos (by simp[Region.wanted])] at this;rw[if_pos (by simp[Region.wanted,qcI hE hj hb])];exact this
theorem LQ.skip {j d:Nat} {b c:Bool} (hj:(ops[j]?).bind (·.dst)=some d) (hb:e.s d=.atom (.bool b)) (hne:b=!c) (hd:qdg n dst)
  (k:LQ C n ops K rest (e.put dst (.atom undef)) H):LQ C n ops K (⟨dst,op,ty,pos,aft,some (j,c)⟩::rest) e H:=fun a w L hE hH=>by
 unfold wpQuiet;rw[if_neg (by subst hne;cases c <;> simp[Region.wanted,qcI hE hj hb])];exact k _ w L (hE.put hd qar) hH
theorem qae.quiet [hm:TMixed C.P] {id:Nat} {l:List Oper} {Q:Post} (hB:Region.lexB .any l.toArray=true) (h:LQ C n l.toArray (fun e'=>Q .normal e' H) l e H):qae C n (.region id l.toArray true) Q e H:=fun a w L hE hH=>by
 refine wp_region_quiet (C:=QC C w L) hm.out hB ⟨L,⟨rfl,rfl,rfl,qft w L,fun _ _ _=>rfl,fun _ _ _=>rfl,by simp⟩,hH.empty.drew⟩ ?_
 have hq:∀ a' w',QC C w L w'->(∃ e',RelE n a' e' w L/\Q .normal e' H)->lift C n w L (keys H) Q .normal a' w':=by
  rintro a' w' ⟨L',f1,f2⟩ ⟨e',h1,h2⟩;have:=RelH.frame (H:=[]) (F:=H) (by simpa using hH) f1 f2;exact ⟨e',H,L',by simpa using this.2,by simpa using this.1,h1.mono f1.ext,h2⟩
 have mono:∀ (l2:List Oper) (a:Act),wpQuiet C.P l.toArray (QC C w L) (fun a'=>∃ e',RelE n a' e' w L/\Q .normal e' H) l2 a->wpQuiet C.P l.toArray (QC C w L) (fun a'=>∀ w',QC C w L w'->lift C n w L (keys H) Q .normal a' w') l2 a:=by
  intro l2
  induction l2 with
  |nil=>exact fun a h w' hw'=>hq a w' hw' h
  |cons o l2 ih=>
   intro a h;unfold wpQuiet at h ⊢;split at h
   ·rename_i hw;rw[if_pos hw];exact Oper.quiet_mono ih h
   ·rename_i hw;rw[if_neg hw];exact ih _ h
 exact mono _ a (by simpa using h a w L hE hH)
end quiet
/-! ### Any order: what only computes or reads HF may be taken first -/
def LAny (C:Ctx) (n:Nat) (ops:Array Oper) (Q:Post) (HF:Heap) (fuel:Nat) (listed:Array Bool) (e:Env) (H:Heap):Prop:=
 ∀ a w L,RelE n a e w L->RelH C w L H->wpAnyH C.P .any ops (lift C n w L (keys H) Q) (qeH w L HF) fuel listed a w
def qaF (C:Ctx) (n:Nat) (ops:Array Oper) (Q:Post) (HF:Heap) (fuel:Nat) (listed:Array Bool) (e:Env) (H:Heap):Prop:=
 ∀ w0 L0 a w L,(∀ b,L0 b<=L b)->qeH w0 L0 HF w->(∀ p∈HF,p.1<w.heap.size)->RelE n a e w L->RelH C w L H->wpAnyH C.P .any ops (lift C n w L (keys H) Q) (qeH w0 L0 HF) fuel listed a w
theorem qeH.refl (w:World) (L:Live) (H:Heap):qeH w L H w:=⟨fun _ _=>rfl,fun _ _ _=>rfl⟩
theorem HSub.mem {H' H:Heap} (h:HSub H' H):∀ p∈H',p∈H:=fun _ hp=>
 let ⟨_,hG⟩:=h
 hG.mem_iff.2 (List.mem_append_left _ hp)
theorem qcP {P:Program} {md:Region.Mode} {ops:Array Oper} {Q Q':Exit->Act->World->Prop} {S:World->Prop} (h:∀ e a w,Q e a w->Q' e a w):∀ (fuel:Nat) (listed:Array Bool) (a:Act) (w:World),
  wpAnyH P md ops Q S fuel listed a w->wpAnyH P md ops Q' S fuel listed a w
 |0,_,_,_,k=>⟨k.1,h _ _ _ k.2⟩
 |fuel+1,listed,a,w,k=>by
  refine ⟨fun h0=>h _ _ _ (k.1 h0),fun i hi=>?_⟩;have ki:=k.2 i hi;unfold wpOp at ki ⊢;split at ki
  ·exact ⟨ki.1,qcP h fuel _ _ _ ki.2⟩
  ·split at ki
   ·rename_i hw
    rw[if_pos hw];rcases ki with ki|⟨k1,a0,w0,k2⟩
    ·refine .inl ?_;unfold Oper.wp at ki ⊢;generalize (execOp _ _).run P w=r at ki ⊢
     cases r with
     |ok x w'=>
      cases x <;> simp only[Oper.upon] at ki ⊢ <;> first
       |exact ⟨ki.1,qcP h fuel _ _ _ ki.2⟩
       |(refine Calls.mono ki fun e w'' he=>?_;cases e with
         |returned v=>exact ⟨he.1,qcP h fuel _ _ _ he.2⟩
         |panicked ch=>exact h _ _ _ he
         |outgrown=>obtain ⟨a0,w0,he⟩:=he;exact ⟨a0,w0,h _ _ _ he⟩)
       |exact Rows.mono ki fun _ _ he=>⟨he.1,qcP h fuel _ _ _ he.2⟩
     |halt x w'=>cases x <;> simp only[Oper.upon] at ki ⊢ <;> exact h _ _ _ ki
    ·exact .inr ⟨k1,a0,w0,h _ _ _ k2⟩
   ·rename_i hw
    rw[if_neg hw];exact ⟨ki.1,qcP h fuel _ _ _ ki.2⟩
section any
variable {C:Ctx} {n:Nat} {ops:Array Oper} {Q:Post} {HF:Heap} {fuel:Nat} {listed:Array Bool} {e:Env} {H:Heap}
theorem qnn {w:World} {L:Live} {K:List Nat} (dst:Option Nat) (v:Value):∀ c a w',lift C n w L K Q (.panic c) (a.put dst v) w'->lift C n w L K Q (.panic c) a w':=by
 rintro c a w' ⟨e',H',L',h1,h2,h3,h4⟩;refine ⟨e',H',L',h1,h2,?_,h4⟩;cases dst <;> exact h3
theorem qpZ {i:Nat} {dst:Option Nat} {op:Op} {ty:TypeId} {pos:String} {aft:Array Edge} {g:Option (Nat×Bool)} {lv:LV} {a:Act} {w:World} {L:Live} (hE:RelE n a e w L) (hH:RelH C w L H) (hHF:HSub HF H)
  (hi:ops[i]? = some ⟨dst,op,ty,pos,aft,g⟩) (hs:Region.noSelect ops=true) (hf:Region.free .any ops listed i=true) (hr:(Region.ready .any ops listed).contains i=true) (hd:qdg n dst)
  (hp:Pure C ⟨dst,op,ty,pos,aft,g⟩ e HF lv) (hw:Region.wanted ⟨dst,op,ty,pos,aft,g⟩ (yielded ops a.tmps)=true)
  (k:LAny C n ops Q HF fuel (listed.setIfInBounds i true) (e.put dst lv) H):wpAnyH C.P .any ops (lift C n w L (keys H) Q) (qeH w L HF) (fuel+1) listed a w:=by
 obtain ⟨v,hv,hrun⟩:=hp a.eval w L hE.ev (hH.weak hHF);exact wpAnyH_take hi hs hf hr (qnn _ _) (.inl ⟨hw,hrun⟩) (qeH.refl _ _ _) (k _ w L (hE.put hd hv) hH)
theorem LAny.take {i:Nat} {dst:Option Nat} {op:Op} {ty:TypeId} {pos:String} {aft:Array Edge} {lv:LV} (hHF:HSub HF H)
  (hi:ops[i]? = some ⟨dst,op,ty,pos,aft,none⟩) (hs:Region.noSelect ops=true) (hf:Region.free .any ops listed i=true) (hr:(Region.ready .any ops listed).contains i=true) (hd:qdg n dst)
  (hp:Pure C ⟨dst,op,ty,pos,aft,none⟩ e HF lv) (k:LAny C n ops Q HF fuel (listed.setIfInBounds i true) (e.put dst lv) H):LAny C n ops Q HF (fuel+1) listed e H:=fun _ _ _ hE hH=>
 qpZ hE hH hHF hi hs hf hr hd hp (by simp[Region.wanted]) k
theorem LAny.takeWant {i j d:Nat} {b:Bool} {dst:Option Nat} {op:Op} {ty:TypeId} {pos:String} {aft:Array Edge} {lv:LV} (hHF:HSub HF H)
  (hi:ops[i]? = some ⟨dst,op,ty,pos,aft,some (j,b)⟩) (hj:(ops[j]?).bind (·.dst)=some d) (hb:e.s d=.atom (.bool b)) (hs:Region.noSelect ops=true) (hf:Region.free .any ops listed i=true) (hr:(Region.ready .any ops listed).contains i=true) (hd:qdg n dst)
  (hp:Pure C ⟨dst,op,ty,pos,aft,some (j,b)⟩ e HF lv) (k:LAny C n ops Q HF fuel (listed.setIfInBounds i true) (e.put dst lv) H):LAny C n ops Q HF (fuel+1) listed e H:=fun _ _ _ hE hH=>
 qpZ hE hH hHF hi hs hf hr hd hp (by simp[Region.wanted,qcI hE hj hb]) k
theorem LAny.takeSkip {i j d:Nat} {b c:Bool} {dst:Option Nat} {op:Op} {ty:TypeId} {pos:String} {aft:Array Edge}
  (hi:ops[i]? = some ⟨dst,op,ty,pos,aft,some (j,c)⟩) (hj:(ops[j]?).bind (·.dst)=some d) (hb:e.s d=.atom (.bool b)) (hne:b=!c) (hs:Region.noSelect ops=true) (hf:Region.free .any ops listed i=true) (hr:(Region.ready .any ops listed).contains i=true) (hd:qdg n dst)
  (k:LAny C n ops Q HF fuel (listed.setIfInBounds i true) (e.put dst (.atom undef)) H):LAny C n ops Q HF (fuel+1) listed e H:=fun a w L hE hH=>
 wpAnyH_take hi hs hf hr (qnn _ _) (.inr ⟨by subst hne;cases c <;> simp[Region.wanted,qcI hE hj hb],rfl⟩) (qeH.refl _ _ _) (k _ w L (hE.put hd qar) hH)
theorem aL (h:qaF C n ops Q HF fuel listed e H) (hHF:HSub HF H):LAny C n ops Q HF fuel listed e H:=fun a w L hE hH=>
 h w L a w L (fun _=>zNr _) (qeH.refl _ _ _) (fun p hp=>(hH.objs p (hHF.mem p hp)).2.1) hE hH
theorem lD (hr:Region.ready .any ops listed=[]) (h:Q .normal e H):qaF C n ops Q HF fuel listed e H:=fun _ _ _ _ L _ _ _ hE hH=>
 wpAnyH_done hr ⟨e,H,L,Fr.refl _ _ _,hH,hE,h⟩ fuel
theorem cD [hm:TMixed C.P] {id:Nat} {l:List Oper} {m:Nat} (hl:m=l.length) (HF:Heap) (h:LAny C n l.toArray Q HF m (Array.replicate m false) e H):qae C n (.region id l.toArray true) Q e H:=fun a w L hE hH=>by
 subst hl;have:=h a w.drew L (hE.mono (qft w L)) hH.drew;refine wp_region_held (S:=qeH w.drew L HF) hm.out ?_;refine qcP (fun x a' w' hq=>?_) _ _ _ _ (by simpa using this);obtain ⟨e',H',L',h1,h2,h3,h4⟩:=hq;exact ⟨e',H',L',h1.of_drew,h2,h3,h4⟩
end any
end Go.GL
namespace Go.GL
open Go.RowKit
section pure
variable {C:Ctx} {e:Env} {H:Heap} {dst:Option Nat} {ty:TypeId} {pos:String} {aft:Array Edge} {g:Option (Nat×Bool)} {x y c a b:Operand} {xT:TypeId} {k:IntKind} {lv:LV}
theorem pM (hx:e.ev x=lv):Pure C ⟨dst,.move x,ty,pos,aft,g⟩ e H lv:=hx▸Pure.move
theorem pA (hx:e.ev x=lv):Pure C ⟨dst,.assign x,ty,pos,aft,g⟩ e H lv:=hx▸Pure.assign
theorem Pure.pickT (hc:e.ev c=bool true) (ha:e.ev a=lv):Pure C ⟨dst,.pick c a b,ty,pos,aft,g⟩ e H lv:=by
 have:=Pure.pick (C:=C) (H:=H) (dst:=dst) (ty:=ty) (pos:=pos) (aft:=aft) (g:=g) (a:=a) (b:=b) hc;simp only[if_true] at this;exact ha▸this
theorem Pure.pickF (hc:e.ev c=bool false) (hb:e.ev b=lv):Pure C ⟨dst,.pick c a b,ty,pos,aft,g⟩ e H lv:=by
 have:=Pure.pick (C:=C) (H:=H) (dst:=dst) (ty:=ty) (pos:=pos) (aft:=aft) (g:=g) (a:=a) (b:=b) hc;simp only[Bool.false_eq_true,if_false] at this;exact hb▸this
theorem pR {t n:Nat} [TAgg C.P t n] {cs cs':List LV} (hx:e.ev x=.ref cs) (hn:Nat.ble n cs.length=true) (hc:cs.take n=cs'):Pure C ⟨dst,.load t x,ty,pos,aft,g⟩ e H (.agg cs'):=by
 subst hc;exact Pure.loadRefAgg hx (by simpa using hn)
theorem pG {t n:Nat} [TAgg C.P t n] {b off ty':Nat} {cs cs':List LV} (hx:e.ev x=ptr b off) (hm:(b,LObj.cells ty' cs)∈H) (hn:Nat.ble (off+n) cs.length=true) (hc:(cs.drop off).take n=cs') :
  Pure C ⟨dst,.load t x,ty,pos,aft,g⟩ e H (.agg cs'):=by
 subst hc;exact Pure.loadHAgg hx hm (by simpa using hn)
theorem xR {t el s:Nat} [ht:TSlice C.P t el s] {es:List LV} {n:Int} {el':LV} {cs:List LV} (hx:elems (e.ev x)=some es) (hy:e.ev y=int k n) (h0:0<=n) (hn:es[n.toNat]? = some el') (hc:el'.cells=cs) (hs:cs.length=s) :
  Pure C ⟨dst,.indexAddr t x y,ty,pos,aft,g⟩ e H (.ref cs):=by
 subst hc;exact Pure.indexAddr hx hy h0 hn hs
theorem Pure.field1 {s f n:Nat} [TField C.P s f n] {cs cs':List LV} (hx:e.ev x=.ref cs) (hc:cs.drop n=cs'):Pure C ⟨dst,.fieldAddr s x f,ty,pos,aft,g⟩ e H (.ref cs'):=by
 subst hc;exact Pure.fieldRef hx
theorem pB {t:TypeId} {pl:List (Nat×Nat)} {zs:List Value} [hs:TStruct C.P t pl] [hz:TZero C.P t zs] (parts:List (Nat×Operand)) {cs:List LV}
  (h:qov pl (zs.map .atom) (parts.map fun p=>(p.1,e.ev p.2))=some cs):Pure C ⟨dst,.build t parts.toArray,ty,pos,aft,g⟩ e H (.agg cs):=Pure.build h
end pure
section steps
variable {C:Ctx} {e:Env} {H H':Heap} {dst:Option Nat} {op:Op} {ty:TypeId} {pos:String} {aft:Array Edge} {g:Option (Nat×Bool)} {x y:Operand} {K K':LV->Heap->Prop} {X:List PanicEntry->Heap->Prop}
theorem qag.conseq {o:Oper} (h:qag C o e H K X) (hk:∀ lv H',K lv H'->∃ lv' H'',lv.Sub lv'/\HSub H'' H'/\K' lv' H''):qag C o e H K' X:=fun ρ w L h1 h2=>by
 have:=h ρ w L h1 h2
 have lf:∀ {w' v},Left C w L H w' v K->Left C w L H w' v K':=fun h=>by
  obtain ⟨lv,H',L',r1,r2,r3,r4⟩:=h;obtain ⟨lv',H'',s1,s2,s3⟩:=hk _ _ r4;exact ⟨lv',H'',L',r1.weak s2,r2.weak s2,s1 _ _ _ r3,s3⟩
 unfold qeC at this ⊢;split at this
 ·exact lf this
 ·exact lf this
 ·refine ⟨this.1,this.2.mono fun e w' he=>?_⟩
  cases e with
  |returned v=>exact lf he
  |panicked ch=>exact he
  |outgrown=>exact he
 ·exact this
 ·exact this.elim
theorem qag.at1 {o:Oper} {p:Nat×LObj} {F:Heap} (hp:Pick p H F) (h:qag C o e [p] (fun lv H'=>K lv (H'++F)) (fun ch H'=>X ch (H'++F))):qag C o e H K X:=qag.frame (H:=[p]) hp h
theorem qag.at0 {o:Oper} (h:qag C o e [] (fun lv H'=>K lv (H'++H)) (fun ch H'=>X ch (H'++H))):qag C o e H K X:=qag.frame (H:=[]) (List.Perm.refl _) h
theorem sA {t:TypeId} {zs:List Value} [hz:TZero C.P t zs] (hk:∀ b,K (ptr b 0) ((b,.cells t (zs.map .atom))::H)):qag C ⟨dst,.alloc t,ty,pos,aft,g⟩ e H K X:=qag.at0 (qag.alloc hk)
theorem sB {t:TypeId} {cs:List LV} (hx:(e.ev x).cells? = some cs) (hk:∀ b,K (ptr b 0) ((b,.cells t cs)::H)):qag C ⟨dst,.box t x,ty,pos,aft,g⟩ e H K X:=qag.at0 (qag.box hx hk)
theorem sL {t el s:Nat} {zs:List Value} [ht:TSlice C.P t el s] [hz:TZero C.P el zs] (xs:List Operand) {es:List LV} (hes:xs.map e.ev=es) (hok:qdc s es) {len:Nat} {parts:List (Nat×Operand)} (hp:parts=(List.range xs.length).zip xs) (hlen:len=xs.length)
  (hsz:Nat.ble (len * s) 16777216=true) (hk:K (.list es) H):qag C ⟨dst,.buildSlice t len parts.toArray,ty,pos,aft,g⟩ e H K X:=by
 subst hes;refine qag.at0 (qag.conseq (K:=fun lv H'=>∃ b,lv=.app b len s (xs.map e.ev)) (qag.buildSlice hok (by subst hlen;simpa using hsz) hp hlen fun b=>⟨b,rfl⟩) ?_);rintro lv H' ⟨b,rfl⟩;exact ⟨_,[],LV.Sub.app _ _ _ _,HSub.nil _,hk⟩
theorem S.litA {t el s:Nat} {zs:List Value} [ht:TSlice C.P t el s] [hz:TZero C.P el zs] (xs:List Operand) {es:List LV} (hes:xs.map e.ev=es) (hok:qdc s es) {len:Nat} {parts:List (Nat×Operand)} (hp:parts=(List.range xs.length).zip xs) (hlen:len=xs.length)
  (hsz:Nat.ble (len * s) 16777216=true) (hk:∀ b,K (.app b len s es) ((b,.row (len * s))::H)):qag C ⟨dst,.buildSlice t len parts.toArray,ty,pos,aft,g⟩ e H K X:=by
 subst hes;exact qag.at0 (qag.buildSlice hok (by subst hlen;simpa using hsz) hp hlen fun b=>hk b)
theorem sS {t n:Nat} [ht:TSize C.P t n] {b off ty':Nat} {cs vs cs':List LV} {F:Heap} (hx:e.ev x=ptr b off) (hp:Pick (b,.cells ty' cs) H F) (hy:(e.ev y).cells? = some vs) (hn:vs.length=n) (hl:Nat.ble (off+n) cs.length=true) (hok:vs.all qd6=true)
  (hc:setL cs off vs=cs') (hk:K (.atom undef) ((b,.cells ty' cs')::F)):qag C ⟨dst,.store t x y,ty,pos,aft,g⟩ e H K X:=by
 subst hc;exact qag.at1 hp (qag.store hx hy hn (by simpa using hl) hok hk)
theorem S.appNil {sT xT el s bytes:Nat} [ht:TSlice C.P sT el s] [hr:TRow C.P el s bytes] {e2 s2:Nat} [hx2:TSlice C.P xT e2 s2] {ms:List LV}
  (hx:e.ev x=qaa) (hy:elems (e.ev y)=some ms) (hne:ms≠[]) (hs:∀ v∈ms,v.cells.length=s) (hroom:ms.length * bytes<=140737488355328)
  (hk:∀ b cap,K (.app b cap s ms) ((b,.row (ms.length * s))::H)):qag C ⟨dst,.call { callee:=.builtin .append,args:=#[x,y],argTypes:=#[sT,xT] },ty,pos,aft,g⟩ e H K X:=
 qag.at0 (qag.appendNil rfl ⟨e2,hx2.und⟩ hx hy hne hs hroom fun b cap=>hk b cap)
theorem S.app {sT xT el s bytes:Nat} [ht:TSlice C.P sT el s] [hr:TRow C.P el s bytes] {e2 s2:Nat} [hx2:TSlice C.P xT e2 s2] {b cap n:Nat} {es ms:List LV} {F:Heap}
  (hx:e.ev x=.app b cap s es) (hp:Pick (b,.row n) H F) (hn:n=es.length * s) (hy:elems (e.ev y)=some ms) (hs:∀ v∈ms,v.cells.length=s) (hok:(ms.flatMap LV.cells).all qd6=true) (hroom:(es.length+ms.length) * bytes<=140737488355328)
  (hk:∀ b' cap',K (.app b' cap' s (es++ms)) ((b',.row ((es++ms).length * s))::F)):qag C ⟨dst,.call { callee:=.builtin .append,args:=#[x,y],argTypes:=#[sT,xT] },ty,pos,aft,g⟩ e H K X:=
 qag.at1 hp (qag.appendApp rfl ⟨e2,hx2.und⟩ hx hn hy hs hok hroom fun b' cap'=>hk b' cap')
theorem S.appNilNil {sT xT el s:Nat} [ht:TSlice C.P sT el s] {e2 s2:Nat} [hx2:TSlice C.P xT e2 s2] (hx:e.ev x=qaa) (hy:elems (e.ev y)=some []) (hk:K qaa H) :
  qag C ⟨dst,.call { callee:=.builtin .append,args:=#[x,y],argTypes:=#[sT,xT] },ty,pos,aft,g⟩ e H K X:=qag.appendNilNil rfl ⟨e2,hx2.und⟩ hx hy hk
inductive Acc (s:Nat):LV->List LV->Heap->Heap->Prop
 |nil {F:Heap}:Acc s qaa [] F F
 |row {b cap:Nat} {es:List LV} {F:Heap}:Acc s (.app b cap s es) es ((b,.row (es.length * s))::F) F
theorem Acc.sub {s:Nat} {lv:LV} {es:List LV} {H F:Heap} (h:Acc s lv es H F):lv.Sub (.list es):=by
 cases h with
 |nil=>exact vN
 |row=>exact LV.Sub.app _ _ _ _
theorem Acc.hsub {s:Nat} {lv:LV} {es:List LV} {H F:Heap} (h:Acc s lv es H F):HSub F H:=by
 cases h with
 |nil=>exact zhR _
 |row=>exact zhD (zhR _)
theorem Acc.elems {s:Nat} {lv:LV} {es:List LV} {H F:Heap} (h:Acc s lv es H F):GL.elems lv=some es:=by
 cases h <;> rfl
theorem S.acc {sT xT el s bytes:Nat} [ht:TSlice C.P sT el s] [hr:TRow C.P el s bytes] {e2 s2:Nat} [hx2:TSlice C.P xT e2 s2] {v:LV} {es ms:List LV} {F:Heap}
  (hx:e.ev x=v) (ha:Acc s v es H F) (hy:GL.elems (e.ev y)=some ms) (hs:∀ v∈ms,v.cells.length=s) (hok:(ms.flatMap LV.cells).all qd6=true) (hroom:(es.length+ms.length) * bytes<=140737488355328)
  (hk:∀ v' H',Acc s v' (es++ms) H' F->K v' H'):qag C ⟨dst,.call { callee:=.builtin .append,args:=#[x,y],argTypes:=#[sT,xT] },ty,pos,aft,g⟩ e H K X:=by
 cases ha with
 |nil=>
  by_cases hne:ms=[]
  ·subst hne;exact S.appNilNil hx hy (hk _ _ (by simpa using Acc.nil))
  ·refine S.appNil hx hy hne hs (by simpa using hroom) fun b cap=>hk _ _ ?_
   exact Acc.row
 |row=>exact S.app hx pH rfl hy hs hok hroom fun b' cap'=>hk _ _ Acc.row
theorem S.call0 {f:FuncId} [TEnter C.P f] (args:List Operand) {ats:Array TypeId} {avs:List LV} {R:LRes->Heap->Prop} (has:args.map e.ev=avs)
  (hc:LCalls C f avs [] R) (hk:∀ v H',R (.ret v) H'->K v (H'++H)) (hx:∀ ch H',R (.panic ch) H'->X ch (H'++H)) :
  qag C ⟨dst,.call { callee:=.value (.func f),args:=args.toArray,argTypes:=ats },ty,pos,aft,g⟩ e H K X:=by
 subst has;exact qag.at0 (qag.call hc hk hx)
theorem S.call1 {f:FuncId} [TEnter C.P f] (args:List Operand) {ats:Array TypeId} {avs:List LV} {R:LRes->Heap->Prop} {p:Nat×LObj} {F:Heap} (has:args.map e.ev=avs) (hp:Pick p H F)
  (hc:LCalls C f avs [p] R) (hk:∀ v H',R (.ret v) H'->K v (H'++F)) (hx:∀ ch H',R (.panic ch) H'->X ch (H'++F)) :
  qag C ⟨dst,.call { callee:=.value (.func f),args:=args.toArray,argTypes:=ats },ty,pos,aft,g⟩ e H K X:=by
 subst has;exact qag.at1 hp (qag.call hc hk hx)
theorem S.callH {f:FuncId} [TEnter C.P f] (args:List Operand) {ats:Array TypeId} {avs:List LV} {R:LRes->Heap->Prop} {H1 F:Heap} (has:args.map e.ev=avs) (hp:H.Perm (H1++F))
  (hc:LCalls C f avs H1 R) (hk:∀ v H',R (.ret v) H'->K v (H'++F)) (hx:∀ ch H',R (.panic ch) H'->X ch (H'++F)) :
  qag C ⟨dst,.call { callee:=.value (.func f),args:=args.toArray,argTypes:=ats },ty,pos,aft,g⟩ e H K X:=by
 subst has;exact qag.frame hp (qag.call hc hk hx)
theorem S.callV {fo:Operand} {f:FuncId} [TEnter C.P f] {first caps:Array Value} (args:List Operand) {ats:Array TypeId} {avs:List LV} {R:LRes->Heap->Prop} {H1 F:Heap} (hf:e.ev fo=.atom (.func (.func f) first caps))
  (has:first.toList.map .atom++args.map e.ev++caps.toList.map .atom=avs) (hp:H.Perm (H1++F)) (hc:LCalls C f avs H1 R) (hk:∀ v H',R (.ret v) H'->K v (H'++F)) (hx:∀ ch H',R (.panic ch) H'->X ch (H'++F)) :
  qag C ⟨dst,.call { callee:=.value fo,args:=args.toArray,argTypes:=ats },ty,pos,aft,g⟩ e H K X:=by
 subst has;exact qag.frame hp (qag.callV hf hc hk hx)
end steps
section ret
variable {C:Ctx} {n:Nat} {e:Env} {H H':Heap} {R:LRes->Heap->Prop}
theorem rN:qbF C n e H [] []:=trivial
theorem rC {r:ResultVar} {rs:List ResultVar} {v:LV} {vs:List LV} (h:qdT C n e H r v) (k:qbF C n e H rs vs):qbF C n e H (r::rs) (v::vs):=⟨h,k⟩
theorem rR {rs:List ResultVar} {vs:List LV} (hd:e.ds=[]) (h:qbF C n e H rs vs) (hH:HSub H' H) (hR:R (.ret (qbv vs)) H'):qah C n rs R .ret e H:=⟨hd,vs,H',h,hH,hR⟩
theorem rO {rs:List ResultVar} {vs:List LV} (hd:e.ds=[]) (h:qbF C n e H rs vs) (hH:HSub H' H) (hR:R (.ret (qbv vs)) H'):qah C n rs R .normal e H:=⟨hd,vs,H',h,hH,hR⟩
theorem qah.panic {rs:List ResultVar} {ch:List PanicEntry} (hd:e.ds=[]) (hH:HSub H' H) (hR:R (.panic ch) H'):qah C n rs R (.panic ch) e H:=⟨hd,H',hH,hR⟩
theorem rA {a t k:Nat} [TAgg C.P t k] {b off ty':Nat} {cs:List LV} {lv:LV} (hx:e.s a=ptr b off) (hm:(b,LObj.cells ty' cs)∈H) (hn:Nat.ble (off+k) cs.length=true) (hs:(LV.agg ((cs.drop off).take k)).Sub lv):qdT C n e H (.cell a t) lv:=fun ac w L hE hH=>by
 obtain ⟨xs,h1,h2⟩:=hH.cells hm;have hl:=h2.length;have hn':off+k<=cs.length:=by simpa using hn
 have hv:=hE.vals a;rw[hx] at hv;simp only[Rep] at hv;refine ⟨.agg ((xs.drop off).take k).toArray,?_,hs _ _ _ (by simp only[Rep];exact ⟨_,rfl,(h2.drop off).take k⟩)⟩;have hlen:((xs.drop off).take k).length=k:=by simp;omega
 simp only[qbn,hv,asAddr,Sem.run_bind,Sem.run_pure,Result.andThen_ok]
 exact qf7 (t:=t) (w:=w) (b:=b) (off:=off) hlen (fun j y hy=>by
  rw[List.getElem?_take] at hy;split at hy
  ·simpa [World.cell?,h1,List.getElem?_drop] using hy
  ·cases hy)
theorem qdT.cellOne {a t:Nat} [TOne C.P t] {b off ty':Nat} {c lv:LV} {cs:List LV} (hx:e.s a=ptr b off) (hm:(b,LObj.cells ty' cs)∈H) (hc:cs[off]? = some c) (hs:c.Sub lv):qdT C n e H (.cell a t) lv:=fun ac w L hE hH=>by
 obtain ⟨xs,h1,h2⟩:=hH.cells hm;obtain ⟨v,h3,h4⟩:=h2.get hc;have hv:=hE.vals a;rw[hx] at hv;simp only[Rep] at hv;refine ⟨v,?_,hs _ _ _ h4⟩;have hc':w.cell? ⟨b,off,none⟩=some v:=by simp[World.cell?,h1,h3]
 simp only[qbn,hv,asAddr,Sem.run_bind,Sem.run_pure,Result.andThen_ok];exact qf5 hc'
end ret
theorem zhr {H:Heap}:HSub H H:=zhR _
theorem zhn {H:Heap}:HSub [] H:=HSub.nil _
theorem zhp {p:Nat×LObj} {H:Heap}:HSub [p] (p::H):=zhP pH (HSub.nil _)
theorem zsr {v:LV}:v.Sub v:=vR _
theorem zp1 {p a:Nat×LObj} {F:Heap}:Pick p (a::p::F) (a::F):=(pT pH)
theorem zp2 {p a b:Nat×LObj} {F:Heap}:Pick p (a::b::p::F) (a::b::F):=(pT (pT pH))
theorem zp3 {p a b c:Nat×LObj} {F:Heap}:Pick p (a::b::c::p::F) (a::b::c::F):=(pT (pT (pT pH)))
theorem zp4 {p a b c d:Nat×LObj} {F:Heap}:Pick p (a::b::c::d::p::F) (a::b::c::d::F):=(pT (pT (pT (pT pH))))
theorem zp5 {p a b c d e:Nat×LObj} {F:Heap}:Pick p (a::b::c::d::e::p::F) (a::b::c::d::e::F):=(pT (pT (pT (pT (pT pH)))))
theorem zp6 {p a b c d e f:Nat×LObj} {F:Heap}:Pick p (a::b::c::d::e::f::p::F) (a::b::c::d::e::f::F):=(pT (pT (pT (pT (pT (pT pH))))))
theorem zp7 {p a b c d e f g:Nat×LObj} {F:Heap}:Pick p (a::b::c::d::e::f::g::p::F) (a::b::c::d::e::f::g::F):=(pT (pT (pT (pT (pT (pT (pT pH)))))))
theorem zp8 {p a b c d e f g h:Nat×LObj} {F:Heap}:Pick p (a::b::c::d::e::f::g::h::p::F) (a::b::c::d::e::f::g::h::F):=(pT (pT (pT (pT (pT (pT (pT (pT pH))))))))
theorem zrt {C:Ctx} {n:Nat} {e:Env} {H:Heap} {t:Nat} {v:Value} (h:e.s t=.atom v):qdT C n e H (.tmp t) (.atom v):=rT h (vR _)
theorem zra {C:Ctx} {n:Nat} {e:Env} {H:Heap} {t:Nat} {v:Value} (h:e.s t=.atom v):qbF C n e H [.tmp t] [.atom v]:=rC (rT h (vR _)) rN
end Go.GL
namespace Go.Proofs.YthmhncflhnbedaaGreatDoor
open Go.GL
instance:TMixed Tryz.prog:=⟨by kernel_rfl⟩
instance:TSize Tryz.prog 3 1:=.of zk
instance:TOne Tryz.prog 3:=.of zk
instance:TKind Tryz.prog 3 .i64:=.of zk
instance:TZero Tryz.prog 3 [.int .i64 0]:=.of (v:=.int .i64 0) (n:=1) zk rfl rfl
instance:TRow Tryz.prog 3 1 8:=.of zk
instance:TOne Tryz.prog 4:=.of zk
instance:TKind Tryz.prog 5 .u8:=.of zk
instance:TZero Tryz.prog 5 [.int .u8 0]:=.of (v:=.int .u8 0) (n:=1) zk rfl rfl
instance:TRow Tryz.prog 5 1 1:=.of zk
instance:TSize Tryz.prog 9 1:=.of zk
instance:TOne Tryz.prog 9:=.of zk
instance:TStr Tryz.prog 9:=.of zk
instance:TZero Tryz.prog 9 [.string ⟨#[]⟩]:=.of (v:=.string ⟨#[]⟩) (n:=1) zk rfl rfl
instance:TRow Tryz.prog 9 1 16:=.of zk
instance:TSize Tryz.prog 23 3:=.of zk
instance:TAgg Tryz.prog 23 3:=.of zk
instance:TField Tryz.prog 23 0 0:=.of zk
instance:TField Tryz.prog 23 1 1:=.of zk
instance:TField Tryz.prog 23 2 2:=.of zk
instance:TStruct Tryz.prog 23 [(0,1),(1,1),(2,1)]:=.of zk
instance:TZero Tryz.prog 23 [.int .i64 0,.int .i64 0,.int .i64 0]:=.of (v:=.agg #[.int .i64 0,.int .i64 0,.int .i64 0]) (n:=3) zk rfl rfl
instance:TSize Tryz.prog 25 1:=.of zk
instance:TOne Tryz.prog 25:=.of zk
instance:TZero Tryz.prog 25 [.int .i64 0]:=.of (v:=.int .i64 0) (n:=1) zk rfl rfl
instance:TSize Tryz.prog 30 1:=.of zk
instance:TOne Tryz.prog 30:=.of zk
instance:TSlice Tryz.prog 30 9 1:=.of zk
instance:TZero Tryz.prog 30 [.slice none 0 0]:=.of (v:=.slice none 0 0) (n:=1) zk rfl rfl
instance:TSize Tryz.prog 31 1:=.of zk
instance:TOne Tryz.prog 31:=.of zk
instance:TSlice Tryz.prog 31 79 2:=.of zk
instance:TSize Tryz.prog 32 1:=.of zk
instance:TOne Tryz.prog 32:=.of zk
instance:TSlice Tryz.prog 32 84 4:=.of zk
instance:TSize Tryz.prog 34 3:=.of zk
instance:TAgg Tryz.prog 34 3:=.of zk
instance:TField Tryz.prog 34 0 0:=.of zk
instance:TField Tryz.prog 34 1 1:=.of zk
instance:TField Tryz.prog 34 2 2:=.of zk
instance:TStruct Tryz.prog 34 [(0,1),(1,1),(2,1)]:=.of zk
instance:TZero Tryz.prog 34 [.slice none 0 0,.slice none 0 0,.slice none 0 0]:=.of (v:=.agg #[.slice none 0 0,.slice none 0 0,.slice none 0 0]) (n:=3) zk rfl rfl
instance:TOne Tryz.prog 39:=.of zk
instance:TSlice Tryz.prog 39 62 2:=.of zk
instance:TOne Tryz.prog 42:=.of zk
instance:TSlice Tryz.prog 42 96 3:=.of zk
instance:TSize Tryz.prog 46 2:=.of zk
instance:TConcrete Tryz.prog 46:=.of zk
instance:TField Tryz.prog 46 0 0:=.of zk
instance:TField Tryz.prog 46 1 1:=.of zk
instance:TStruct Tryz.prog 46 [(0,1),(1,1)]:=.of zk
instance:TZero Tryz.prog 46 [.int .i64 0,.int .i64 0]:=.of (v:=.agg #[.int .i64 0,.int .i64 0]) (n:=2) zk rfl rfl
instance:TOne Tryz.prog 48:=.of zk
instance:TField Tryz.prog 50 0 0:=.of zk
instance:TField Tryz.prog 50 1 1:=.of zk
instance:TField Tryz.prog 50 2 2:=.of zk
instance:TStruct Tryz.prog 50 [(0,1),(1,1),(2,1)]:=.of zk
instance:TZero Tryz.prog 50 [.slice none 0 0,.int .i64 0,.int .i64 0]:=.of (v:=.agg #[.slice none 0 0,.int .i64 0,.int .i64 0]) (n:=3) zk rfl rfl
instance:TOne Tryz.prog 54:=.of zk
instance:TOne Tryz.prog 55:=.of zk
instance:TField Tryz.prog 57 0 0:=.of zk
instance:TField Tryz.prog 57 1 1:=.of zk
instance:TField Tryz.prog 57 2 2:=.of zk
instance:TField Tryz.prog 57 3 3:=.of zk
instance:TField Tryz.prog 57 4 4:=.of zk
instance:TField Tryz.prog 57 5 5:=.of zk
instance:TStruct Tryz.prog 57 [(0,1),(1,1),(2,1),(3,1),(4,1),(5,1)]:=.of zk
instance:TZero Tryz.prog 57 [.slice none 0 0,.int .i64 0,.int .i64 0,.map none,.map none,.string ⟨#[]⟩]:=.of (v:=.agg #[.slice none 0 0,.int .i64 0,.int .i64 0,.map none,.map none,.string ⟨#[]⟩]) (n:=6) zk rfl rfl
instance:TSize Tryz.prog 62 2:=.of zk
instance:TAgg Tryz.prog 62 2:=.of zk
instance:TField Tryz.prog 62 0 0:=.of zk
instance:TField Tryz.prog 62 1 1:=.of zk
instance:TStruct Tryz.prog 62 [(0,1),(1,1)]:=.of zk
instance:TZero Tryz.prog 62 [.string ⟨#[]⟩,.int .i64 0]:=.of (v:=.agg #[.string ⟨#[]⟩,.int .i64 0]) (n:=2) zk rfl rfl
instance:TRow Tryz.prog 62 2 24:=.of zk
instance:TSlice Tryz.prog 65 133 2:=.of zk
instance:TField Tryz.prog 73 0 0:=.of zk
instance:TField Tryz.prog 73 1 1:=.of zk
instance:TField Tryz.prog 73 2 2:=.of zk
instance:TField Tryz.prog 73 3 3:=.of zk
instance:TField Tryz.prog 73 4 4:=.of zk
instance:TStruct Tryz.prog 73 [(0,1),(1,1),(2,1),(3,1),(4,1)]:=.of zk
instance:TZero Tryz.prog 73 [.slice none 0 0,.int .i64 0,.int .i64 0,.int .i64 0,.int .i64 0]:=.of (v:=.agg #[.slice none 0 0,.int .i64 0,.int .i64 0,.int .i64 0,.int .i64 0]) (n:=5) zk rfl rfl
instance:TSize Tryz.prog 79 2:=.of zk
instance:TAgg Tryz.prog 79 2:=.of zk
instance:TField Tryz.prog 79 0 0:=.of zk
instance:TField Tryz.prog 79 1 1:=.of zk
instance:TStruct Tryz.prog 79 [(0,1),(1,1)]:=.of zk
instance:TZero Tryz.prog 79 [.string ⟨#[]⟩,.int .i64 0]:=.of (v:=.agg #[.string ⟨#[]⟩,.int .i64 0]) (n:=2) zk rfl rfl
instance:TRow Tryz.prog 79 2 24:=.of zk
instance:TOne Tryz.prog 80:=.of zk
instance:TKind Tryz.prog 80 .u32:=.of zk
instance:TSize Tryz.prog 82 1:=.of zk
instance:TOne Tryz.prog 82:=.of zk
instance:TSlice Tryz.prog 82 179 6:=.of zk
instance:TSize Tryz.prog 84 4:=.of zk
instance:TAgg Tryz.prog 84 4:=.of zk
instance:TField Tryz.prog 84 0 0:=.of zk
instance:TField Tryz.prog 84 1 1:=.of zk
instance:TField Tryz.prog 84 2 2:=.of zk
instance:TField Tryz.prog 84 3 3:=.of zk
instance:TStruct Tryz.prog 84 [(0,1),(1,1),(2,1),(3,1)]:=.of zk
instance:TZero Tryz.prog 84 [.string ⟨#[]⟩,.slice none 0 0,.slice none 0 0,.slice none 0 0]:=.of (v:=.agg #[.string ⟨#[]⟩,.slice none 0 0,.slice none 0 0,.slice none 0 0]) (n:=4) zk rfl rfl
instance:TRow Tryz.prog 84 4 88:=.of zk
instance:TSlice Tryz.prog 88 92 2:=.of zk
instance:TField Tryz.prog 92 0 0:=.of zk
instance:TField Tryz.prog 92 1 1:=.of zk
instance:TStruct Tryz.prog 92 [(0,1),(1,1)]:=.of zk
instance:TZero Tryz.prog 92 [.string ⟨#[]⟩,.int .i64 0]:=.of (v:=.agg #[.string ⟨#[]⟩,.int .i64 0]) (n:=2) zk rfl rfl
instance:TRow Tryz.prog 92 2 24:=.of zk
instance:TSize Tryz.prog 96 3:=.of zk
instance:TAgg Tryz.prog 96 3:=.of zk
instance:TField Tryz.prog 96 0 0:=.of zk
instance:TField Tryz.prog 96 1 1:=.of zk
instance:TField Tryz.prog 96 2 2:=.of zk
instance:TStruct Tryz.prog 96 [(0,1),(1,1),(2,1)]:=.of zk
instance:TZero Tryz.prog 96 [.int .i64 0,.string ⟨#[]⟩,.int .i64 0]:=.of (v:=.agg #[.int .i64 0,.string ⟨#[]⟩,.int .i64 0]) (n:=3) zk rfl rfl
instance:TRow Tryz.prog 96 3 32:=.of zk
instance:TSize Tryz.prog 103 2:=.of zk
instance:TConcrete Tryz.prog 103:=.of zk
instance:TField Tryz.prog 103 0 0:=.of zk
instance:TField Tryz.prog 103 1 1:=.of zk
instance:TStruct Tryz.prog 103 [(0,1),(1,1)]:=.of zk
instance:TZero Tryz.prog 103 [.string ⟨#[]⟩,.int .i64 0]:=.of (v:=.agg #[.string ⟨#[]⟩,.int .i64 0]) (n:=2) zk rfl rfl
instance:TSize Tryz.prog 106 1:=.of zk
instance:TOne Tryz.prog 106:=.of zk
instance:TOne Tryz.prog 107:=.of zk
instance:TField Tryz.prog 109 0 0:=.of zk
instance:TField Tryz.prog 109 1 1:=.of zk
instance:TField Tryz.prog 109 2 2:=.of zk
instance:TField Tryz.prog 109 3 3:=.of zk
instance:TField Tryz.prog 109 4 4:=.of zk
instance:TField Tryz.prog 109 5 5:=.of zk
instance:TField Tryz.prog 109 6 6:=.of zk
instance:TStruct Tryz.prog 109 [(0,1),(1,1),(2,1),(3,1),(4,1),(5,1),(6,1)]:=.of zk
instance:TZero Tryz.prog 109 [.map none,.map none,.map none,.map none,.string ⟨#[]⟩,.map none,.int .i64 0]:=.of (v:=.agg #[.map none,.map none,.map none,.map none,.string ⟨#[]⟩,.map none,.int .i64 0]) (n:=7) zk rfl rfl
instance:TSize Tryz.prog 111 2:=.of zk
instance:TAgg Tryz.prog 111 2:=.of zk
instance:TField Tryz.prog 111 0 0:=.of zk
instance:TField Tryz.prog 111 1 1:=.of zk
instance:TStruct Tryz.prog 111 [(0,1),(1,1)]:=.of zk
instance:TZero Tryz.prog 111 [.int .i64 0,.int .i64 0]:=.of (v:=.agg #[.int .i64 0,.int .i64 0]) (n:=2) zk rfl rfl
instance:TSlice Tryz.prog 112 111 2:=.of zk
instance:TSize Tryz.prog 121 1:=.of zk
instance:TOne Tryz.prog 121:=.of zk
instance:TSlice Tryz.prog 121 5 1:=.of zk
instance:TField Tryz.prog 123 1 1:=.of zk
instance:TZero Tryz.prog 123 [.pointer none,.slice none 0 0]:=.of (v:=.agg #[.pointer none,.slice none 0 0]) (n:=2) zk rfl rfl
instance:TSize Tryz.prog 133 2:=.of zk
instance:TAgg Tryz.prog 133 2:=.of zk
instance:TField Tryz.prog 133 0 0:=.of zk
instance:TField Tryz.prog 133 1 1:=.of zk
instance:TStruct Tryz.prog 133 [(0,1),(1,1)]:=.of zk
instance:TZero Tryz.prog 133 [.string ⟨#[]⟩,.int .i64 0]:=.of (v:=.agg #[.string ⟨#[]⟩,.int .i64 0]) (n:=2) zk rfl rfl
instance:TRow Tryz.prog 133 2 24:=.of zk
instance:TSize Tryz.prog 140 5:=.of zk
instance:TAgg Tryz.prog 140 5:=.of zk
instance:TField Tryz.prog 140 0 0:=.of zk
instance:TField Tryz.prog 140 1 3:=.of zk
instance:TField Tryz.prog 140 2 4:=.of zk
instance:TStruct Tryz.prog 140 [(0,3),(3,1),(4,1)]:=.of zk
instance:TZero Tryz.prog 140 [.int .i64 0,.string ⟨#[]⟩,.int .i64 0,.int .i64 0,.int .i64 0]:=.of (v:=.agg #[.int .i64 0,.string ⟨#[]⟩,.int .i64 0,.int .i64 0,.int .i64 0]) (n:=5) zk rfl rfl
instance:TSize Tryz.prog 145 2:=.of zk
instance:TAgg Tryz.prog 145 2:=.of zk
instance:TField Tryz.prog 145 0 0:=.of zk
instance:TField Tryz.prog 145 1 1:=.of zk
instance:TStruct Tryz.prog 145 [(0,1),(1,1)]:=.of zk
instance:TZero Tryz.prog 145 [.string ⟨#[]⟩,.int .i64 0]:=.of (v:=.agg #[.string ⟨#[]⟩,.int .i64 0]) (n:=2) zk rfl rfl
instance:TSize Tryz.prog 149 6:=.of zk
instance:TAgg Tryz.prog 149 6:=.of zk
instance:TField Tryz.prog 149 0 0:=.of zk
instance:TField Tryz.prog 149 1 1:=.of zk
instance:TField Tryz.prog 149 2 2:=.of zk
instance:TField Tryz.prog 149 3 3:=.of zk
instance:TField Tryz.prog 149 4 4:=.of zk
instance:TField Tryz.prog 149 5 5:=.of zk
instance:TStruct Tryz.prog 149 [(0,1),(1,1),(2,1),(3,1),(4,1),(5,1)]:=.of zk
instance:TZero Tryz.prog 149 [.string ⟨#[]⟩,.slice none 0 0,.slice none 0 0,.slice none 0 0,.slice none 0 0,.slice none 0 0]:=.of (v:=.agg #[.string ⟨#[]⟩,.slice none 0 0,.slice none 0 0,.slice none 0 0,.slice none 0 0,.slice none 0 0]) (n:=6) zk rfl rfl
instance:TSlice Tryz.prog 151 3 1:=.of zk
instance:TField Tryz.prog 155 0 0:=.of zk
instance:TField Tryz.prog 155 1 1:=.of zk
instance:TStruct Tryz.prog 155 [(0,1),(1,1)]:=.of zk
instance:TZero Tryz.prog 155 [.int .i64 0,.int .i64 0]:=.of (v:=.agg #[.int .i64 0,.int .i64 0]) (n:=2) zk rfl rfl
instance:TSlice Tryz.prog 156 155 2:=.of zk
instance:TSize Tryz.prog 158 6:=.of zk
instance:TAgg Tryz.prog 158 6:=.of zk
instance:TField Tryz.prog 158 0 0:=.of zk
instance:TField Tryz.prog 158 1 3:=.of zk
instance:TField Tryz.prog 158 2 4:=.of zk
instance:TField Tryz.prog 158 3 5:=.of zk
instance:TStruct Tryz.prog 158 [(0,3),(3,1),(4,1),(5,1)]:=.of zk
instance:TZero Tryz.prog 158 [.slice none 0 0,.slice none 0 0,.slice none 0 0,.int .i64 0,.slice none 0 0,.string ⟨#[]⟩]:=.of (v:=.agg #[.slice none 0 0,.slice none 0 0,.slice none 0 0,.int .i64 0,.slice none 0 0,.string ⟨#[]⟩]) (n:=6) zk rfl rfl
instance:TSize Tryz.prog 160 2:=.of zk
instance:TAgg Tryz.prog 160 2:=.of zk
instance:TField Tryz.prog 160 0 0:=.of zk
instance:TField Tryz.prog 160 1 1:=.of zk
instance:TStruct Tryz.prog 160 [(0,1),(1,1)]:=.of zk
instance:TZero Tryz.prog 160 [.string ⟨#[]⟩,.int .i64 0]:=.of (v:=.agg #[.string ⟨#[]⟩,.int .i64 0]) (n:=2) zk rfl rfl
instance:TSize Tryz.prog 173 3:=.of zk
instance:TField Tryz.prog 173 0 0:=.of zk
instance:TField Tryz.prog 173 1 1:=.of zk
instance:TField Tryz.prog 173 2 2:=.of zk
instance:TStruct Tryz.prog 173 [(0,1),(1,1),(2,1)]:=.of zk
instance:TZero Tryz.prog 173 [.int .i64 0,.int .i64 0,.int .i64 0]:=.of (v:=.agg #[.int .i64 0,.int .i64 0,.int .i64 0]) (n:=3) zk rfl rfl
instance:TOne Tryz.prog 174:=.of zk
instance:TSlice Tryz.prog 174 30 1:=.of zk
instance:TSize Tryz.prog 177 1:=.of zk
instance:TOne Tryz.prog 177:=.of zk
instance:TSlice Tryz.prog 177 182 4:=.of zk
instance:TSize Tryz.prog 179 6:=.of zk
instance:TAgg Tryz.prog 179 6:=.of zk
instance:TField Tryz.prog 179 0 0:=.of zk
instance:TField Tryz.prog 179 1 1:=.of zk
instance:TField Tryz.prog 179 2 2:=.of zk
instance:TField Tryz.prog 179 3 3:=.of zk
instance:TField Tryz.prog 179 4 4:=.of zk
instance:TField Tryz.prog 179 5 5:=.of zk
instance:TStruct Tryz.prog 179 [(0,1),(1,1),(2,1),(3,1),(4,1),(5,1)]:=.of zk
instance:TZero Tryz.prog 179 [.int .i64 0,.string ⟨#[]⟩,.slice none 0 0,.slice none 0 0,.slice none 0 0,.slice none 0 0]:=.of (v:=.agg #[.int .i64 0,.string ⟨#[]⟩,.slice none 0 0,.slice none 0 0,.slice none 0 0,.slice none 0 0]) (n:=6) zk rfl rfl
instance:TRow Tryz.prog 179 6 120:=.of zk
instance:TSize Tryz.prog 182 4:=.of zk
instance:TAgg Tryz.prog 182 4:=.of zk
instance:TField Tryz.prog 182 0 0:=.of zk
instance:TField Tryz.prog 182 1 1:=.of zk
instance:TField Tryz.prog 182 2 2:=.of zk
instance:TField Tryz.prog 182 3 3:=.of zk
instance:TStruct Tryz.prog 182 [(0,1),(1,1),(2,1),(3,1)]:=.of zk
instance:TZero Tryz.prog 182 [.string ⟨#[]⟩,.int .u32 0,.string ⟨#[]⟩,.slice none 0 0]:=.of (v:=.agg #[.string ⟨#[]⟩,.int .u32 0,.string ⟨#[]⟩,.slice none 0 0]) (n:=4) zk rfl rfl
instance:TRow Tryz.prog 182 4 64:=.of zk
instance:TKind Tryz.prog 195 .u64:=.of zk
instance:TSize Tryz.prog 224 1:=.of zk
instance:TOne Tryz.prog 224:=.of zk
instance:TZero Tryz.prog 224 [.nilFunc]:=.of (v:=.nilFunc) (n:=1) zk rfl rfl
instance:TEnter Tryz.prog 4:=.of zk
instance:TEnter Tryz.prog 5:=.of zk
instance:TEnter Tryz.prog 6:=.of zk
instance:TEnter Tryz.prog 7:=.of zk
instance:TEnter Tryz.prog 8:=.of zk
instance:TEnter Tryz.prog 9:=.of zk
instance:TEnter Tryz.prog 10:=.of zk
instance:TEnter Tryz.prog 11:=.of zk
instance:TEnter Tryz.prog 12:=.of zk
instance:TEnter Tryz.prog 13:=.of zk
instance:TEnter Tryz.prog 14:=.of zk
instance:TEnter Tryz.prog 15:=.of zk
instance:TEnter Tryz.prog 16:=.of zk
instance:TEnter Tryz.prog 17:=.of zk
instance:TEnter Tryz.prog 18:=.of zk
instance:TEnter Tryz.prog 19:=.of zk
instance:TEnter Tryz.prog 20:=.of zk
instance:TEnter Tryz.prog 21:=.of zk
instance:TEnter Tryz.prog 22:=.of zk
instance:TEnter Tryz.prog 23:=.of zk
instance:TEnter Tryz.prog 24:=.of zk
instance:TEnter Tryz.prog 25:=.of zk
instance:TEnter Tryz.prog 26:=.of zk
instance:TEnter Tryz.prog 27:=.of zk
instance:TEnter Tryz.prog 28:=.of zk
instance:TEnter Tryz.prog 29:=.of zk
instance:TEnter Tryz.prog 30:=.of zk
instance:TEnter Tryz.prog 31:=.of zk
instance:TEnter Tryz.prog 32:=.of zk
instance:TEnter Tryz.prog 33:=.of zk
instance:TEnter Tryz.prog 34:=.of zk
instance:TEnter Tryz.prog 35:=.of zk
instance:TEnter Tryz.prog 36:=.of zk
instance:TEnter Tryz.prog 37:=.of zk
instance:TEnter Tryz.prog 38:=.of zk
instance:TEnter Tryz.prog 39:=.of zk
instance:TEnter Tryz.prog 40:=.of zk
instance:TEnter Tryz.prog 41:=.of zk
instance:TEnter Tryz.prog 42:=.of zk
instance:TEnter Tryz.prog 43:=.of zk
instance:TEnter Tryz.prog 44:=.of zk
instance:TEnter Tryz.prog 45:=.of zk
instance:TEnter Tryz.prog 46:=.of zk
instance:TEnter Tryz.prog 47:=.of zk
instance:TEnter Tryz.prog 48:=.of zk
instance:TEnter Tryz.prog 49:=.of zk
instance:TEnter Tryz.prog 50:=.of zk
instance:TEnter Tryz.prog 51:=.of zk
instance:TEnter Tryz.prog 52:=.of zk
instance:TEnter Tryz.prog 53:=.of zk
instance:TEnter Tryz.prog 54:=.of zk
instance:TEnter Tryz.prog 55:=.of zk
instance:TEnter Tryz.prog 56:=.of zk
instance:TEnter Tryz.prog 57:=.of zk
instance:TEnter Tryz.prog 58:=.of zk
instance:TEnter Tryz.prog 59:=.of zk
instance:TEnter Tryz.prog 60:=.of zk
instance:TEnter Tryz.prog 62:=.of zk
instance:TEnter Tryz.prog 63:=.of zk
instance:TEnter Tryz.prog 64:=.of zk
instance:TEnter Tryz.prog 65:=.of zk
instance:TEnter Tryz.prog 66:=.of zk
instance:TEnter Tryz.prog 67:=.of zk
instance:TEnter Tryz.prog 68:=.of zk
instance:TEnter Tryz.prog 69:=.of zk
instance:TEnter Tryz.prog 70:=.of zk
instance:TEnter Tryz.prog 71:=.of zk
instance:TEnter Tryz.prog 72:=.of zk
instance:TEnter Tryz.prog 73:=.of zk
instance:TEnter Tryz.prog 74:=.of zk
instance:TEnter Tryz.prog 75:=.of zk
instance:TEnter Tryz.prog 76:=.of zk
instance:TEnter Tryz.prog 77:=.of zk
instance:TEnter Tryz.prog 78:=.of zk
instance:TEnter Tryz.prog 79:=.of zk
instance:TEnter Tryz.prog 80:=.of zk
instance:TEnter Tryz.prog 81:=.of zk
instance:TEnter Tryz.prog 82:=.of zk
instance:TEnter Tryz.prog 83:=.of zk
instance:TEnter Tryz.prog 84:=.of zk
instance:TEnter Tryz.prog 85:=.of zk
instance:TEnter Tryz.prog 86:=.of zk
instance:TEnter Tryz.prog 87:=.of zk
instance:TEnter Tryz.prog 88:=.of zk
instance:TEnter Tryz.prog 89:=.of zk
instance:TEnter Tryz.prog 90:=.of zk
instance:TEnter Tryz.prog 91:=.of zk
instance:TEnter Tryz.prog 92:=.of zk
instance:TEnter Tryz.prog 93:=.of zk
instance:TEnter Tryz.prog 94:=.of zk
instance:TEnter Tryz.prog 95:=.of zk
instance:TEnter Tryz.prog 96:=.of zk
instance:TEnter Tryz.prog 97:=.of zk
instance:TEnter Tryz.prog 98:=.of zk
instance:TEnter Tryz.prog 99:=.of zk
instance:TEnter Tryz.prog 100:=.of zk
instance:TEnter Tryz.prog 104:=.of zk
instance:TEnter Tryz.prog 105:=.of zk
instance:TEnter Tryz.prog 106:=.of zk
instance:TEnter Tryz.prog 107:=.of zk
instance:TEnter Tryz.prog 108:=.of zk
instance:TEnter Tryz.prog 109:=.of zk
instance:TEnter Tryz.prog 110:=.of zk
instance:TEnter Tryz.prog 111:=.of zk
instance:TEnter Tryz.prog 112:=.of zk
instance:TEnter Tryz.prog 113:=.of zk
instance:TEnter Tryz.prog 114:=.of zk
instance:TEnter Tryz.prog 115:=.of zk
instance:TEnter Tryz.prog 116:=.of zk
instance:TEnter Tryz.prog 117:=.of zk
instance:TEnter Tryz.prog 118:=.of zk
instance:TEnter Tryz.prog 119:=.of zk
instance:TEnter Tryz.prog 120:=.of zk
instance:TEnter Tryz.prog 124:=.of zk
instance:TEnter Tryz.prog 125:=.of zk
instance:TEnter Tryz.prog 126:=.of zk
instance:TEnter Tryz.prog 127:=.of zk
instance:TEnter Tryz.prog 128:=.of zk
instance:TEnter Tryz.prog 129:=.of zk
instance:TEnter Tryz.prog 130:=.of zk
instance:TEnter Tryz.prog 131:=.of zk
instance:TEnter Tryz.prog 132:=.of zk
instance:TEnter Tryz.prog 133:=.of zk
instance:TEnter Tryz.prog 134:=.of zk
instance:TEnter Tryz.prog 135:=.of zk
instance:TEnter Tryz.prog 136:=.of zk
instance:TEnter Tryz.prog 137:=.of zk
instance:TEnter Tryz.prog 138:=.of zk
instance:TEnter Tryz.prog 139:=.of zk
instance:TEnter Tryz.prog 140:=.of zk
instance:TEnter Tryz.prog 141:=.of zk
instance:TEnter Tryz.prog 142:=.of zk
instance:TEnter Tryz.prog 143:=.of zk
instance:TEnter Tryz.prog 144:=.of zk
instance:TEnter Tryz.prog 145:=.of zk
instance:TEnter Tryz.prog 146:=.of zk
instance:TEnter Tryz.prog 147:=.of zk
instance:TEnter Tryz.prog 149:=.of zk
instance:TEnter Tryz.prog 150:=.of zk
instance:TEnter Tryz.prog 151:=.of zk
instance:TEnter Tryz.prog 152:=.of zk
instance:TEnter Tryz.prog 154:=.of zk
instance:TEnter Tryz.prog 155:=.of zk
instance:TEnter Tryz.prog 156:=.of zk
instance:TEnter Tryz.prog 157:=.of zk
instance:TEnter Tryz.prog 159:=.of zk
instance:TEnter Tryz.prog 160:=.of zk
instance:TEnter Tryz.prog 161:=.of zk
instance:TEnter Tryz.prog 174:=.of zk
instance:TEnter Tryz.prog 175:=.of zk
instance:TEnter Tryz.prog 176:=.of zk
instance:TEnter Tryz.prog 177:=.of zk
instance:TEnter Tryz.prog 178:=.of zk
instance:TEnter Tryz.prog 179:=.of zk
instance:TEnter Tryz.prog 180:=.of zk
instance:TEnter Tryz.prog 181:=.of zk
instance:TEnter Tryz.prog 182:=.of zk
instance:TEnter Tryz.prog 183:=.of zk
instance:TEnter Tryz.prog 184:=.of zk
instance:TEnter Tryz.prog 185:=.of zk
instance:TEnter Tryz.prog 188:=.of zk
instance:TEnter Tryz.prog 193:=.of zk
instance:TEnter Tryz.prog 194:=.of zk
instance:TEnter Tryz.prog 195:=.of zk
instance:TEnter Tryz.prog 196:=.of zk
instance:TEnter Tryz.prog 198:=.of zk
instance:TEnter Tryz.prog 199:=.of zk
instance:TEnter Tryz.prog 205:=.of zk
instance:TEnter Tryz.prog 206:=.of zk
instance:TEnter Tryz.prog 207:=.of zk
instance:TEnter Tryz.prog 208:=.of zk
instance:TEnter Tryz.prog 209:=.of zk
instance:TEnter Tryz.prog 222:=.of zk
instance:TEnter Tryz.prog 223:=.of zk
instance:TEnter Tryz.prog 224:=.of zk
instance:TEnter Tryz.prog 225:=.of zk
instance:TEnter Tryz.prog 226:=.of zk
instance:TEnter Tryz.prog 227:=.of zk
instance:TEnter Tryz.prog 228:=.of zk
instance:TEnter Tryz.prog 229:=.of zk
instance:TEnter Tryz.prog 230:=.of zk
instance:TEnter Tryz.prog 231:=.of zk
instance:TEnter Tryz.prog 235:=.of zk
instance:TEnter Tryz.prog 236:=.of zk
instance:TEnter Tryz.prog 244:=.of zk
instance:TEnter Tryz.prog 245:=.of zk
instance:TEnter Tryz.prog 246:=.of zk
instance:TEnter Tryz.prog 247:=.of zk
instance:TEnter Tryz.prog 248:=.of zk
end Go.Proofs.YthmhncflhnbedaaGreatDoor
namespace Go.GL
open Go.RowKit
@[reducible] def Ret (v:LV):LRes->Heap->Prop:=fun r H=>r=.ret v/\H=[]
@[reducible] def qh0 (p:LV->Prop):LRes->Heap->Prop:=fun r H=>∃ v,r=.ret v/\p v/\H=[]
section
variable {C:Ctx} {e:Env} {H:Heap} {dst:Option Nat} {ty:TypeId} {pos:String} {aft:Array Edge} {g:Option (Nat×Bool)} {K:LV->Heap->Prop} {X:List PanicEntry->Heap->Prop}
theorem sF {f:FuncId} [TEnter C.P f] (args:List Operand) {ats:Array TypeId} {avs:List LV} {lv:LV} (has:args.map e.ev=avs) (hc:LCalls C f avs [] (Ret lv)) (hk:K lv H) :
  qag C ⟨dst,.call { callee:=.value (.func f),args:=args.toArray,argTypes:=ats },ty,pos,aft,g⟩ e H K X:=
 S.call0 args has hc (by rintro v H' ⟨h,rfl⟩;cases h;exact hk) (by rintro ch H' ⟨h,_⟩;cases h)
theorem S.fnIf {f:FuncId} [TEnter C.P f] (args:List Operand) {ats:Array TypeId} {avs:List LV} {p:LV->Prop} (has:args.map e.ev=avs) (hc:LCalls C f avs [] (qh0 p)) (hk:∀ lv,p lv->K lv H) :
  qag C ⟨dst,.call { callee:=.value (.func f),args:=args.toArray,argTypes:=ats },ty,pos,aft,g⟩ e H K X:=
 S.call0 args has hc (by rintro v H' ⟨u,h,hp,rfl⟩;cases h;exact hk _ hp) (by rintro ch H' ⟨u,h,_⟩;cases h)
theorem S.fnV {fo:Operand} {f:FuncId} [TEnter C.P f] {first caps:Array Value} (args:List Operand) {ats:Array TypeId} {avs:List LV} {lv:LV} (hf:e.ev fo=.atom (.func (.func f) first caps))
  (has:first.toList.map .atom++args.map e.ev++caps.toList.map .atom=avs) (hc:LCalls C f avs [] (Ret lv)) (hk:K lv H) :
  qag C ⟨dst,.call { callee:=.value fo,args:=args.toArray,argTypes:=ats },ty,pos,aft,g⟩ e H K X:=
 S.callV (H1:=[]) (F:=H) args hf has zpr hc (by rintro v H' ⟨h,rfl⟩;cases h;exact hk) (by rintro ch H' ⟨h,_⟩;cases h)
theorem qac {n:Nat} {rs:List ResultVar} {vs:List LV} {lv:LV} (hd:e.ds=[]) (h:qbF C n e H rs vs) (hv:qbv vs=lv):qah C n rs (Ret lv) .ret e H:=
 rR hd h zhn ⟨by rw[hv],rfl⟩
theorem qb4 {n:Nat} {rs:List ResultVar} {vs:List LV} {p:LV->Prop} (hd:e.ds=[]) (h:qbF C n e H rs vs) (hv:p (qbv vs)):qah C n rs (qh0 p) .ret e H:=
 rR hd h zhn ⟨_,rfl,hv,rfl⟩
end
theorem qhM {C:Ctx} {w w':World} {L:Live} (hH:RelH C w L []) (h:Below w.heap.size w w'):Fr (keys []) w L w' L []/\RelH C w' L []:=by
 refine ⟨⟨h.os,h.tape,h.output,⟨h.size,fun b hb=>qbO (h.block b hb),fun b i hi=>?_,fun _=>zNr _⟩,fun b hb _=>h.block b hb,fun _ _ _=>rfl,by simp⟩,
  ⟨hH.base.trans (h.mono hH.b0),hH.lbase,zNt hH.b0 h.size,fun b hb=>hH.wf b (zNt h.size hb),List.nodup_nil,by simp⟩⟩
 have hb:b<w.heap.size:=by
  rcases Nat.lt_or_ge b w.heap.size with h1|h1
  ·exact h1
  ·have:=hH.wf b h1;omega
 exact cell_of_heap (h.block b hb) i
theorem LCalls.of_below {C:Ctx} {f:FuncId} {vs:List Value} {p:Value->Prop}
  (h:∀ w,Below C.B0 C.w0 w->Calls C.P f vs.toArray w (fun e w'=>∃ v,e=.returned v/\p v/\Below w.heap.size w w')):LCalls C f (vs.map .atom) [] (fun r H=>∃ v,r=.ret (.atom v)/\p v/\H=[]):=fun xs w L hv hH=>by
 have hx:xs=vs:=by
  clear h hH
  induction vs generalizing xs with
  |nil=>simpa [RepL] using hv
  |cons v vs ih=>
   simp only[zMc,RepL,Rep] at hv;obtain ⟨y,ys,rfl,rfl,hv⟩:=hv;rw[ih _ hv]
 subst hx;refine (h w hH.base).mono fun e w' he=>?_;obtain ⟨v,rfl,hp,hb⟩:=he;obtain ⟨h1,h2⟩:=qhM hH hb;exact ⟨.atom v,[],L,h1,h2,qar,v,rfl,hp,rfl⟩
theorem LCalls.of_belowT {C:Ctx} {f:FuncId} {vs:List Value} {p:List Value->Prop}
  (h:∀ w,Below C.B0 C.w0 w->Calls C.P f vs.toArray w (fun e w'=>∃ us:List Value,e=.returned (.tuple us.toArray)/\p us/\Below w.heap.size w w')):LCalls C f (vs.map .atom) [] (qh0 fun lv=>∃ us,p us/\lv=.tuple (us.map .atom)):=fun xs w L hv hH=>by
 have hx:xs=vs:=by
  clear h hH
  induction vs generalizing xs with
  |nil=>simpa [RepL] using hv
  |cons v vs ih=>
   simp only[zMc,RepL,Rep] at hv;obtain ⟨y,ys,rfl,rfl,hv⟩:=hv;rw[ih _ hv]
 subst hx;refine (h w hH.base).mono fun e w' he=>?_;obtain ⟨us,rfl,hp,hb⟩:=he;obtain ⟨h1,h2⟩:=qhM hH hb;exact ⟨.tuple (us.map .atom),[],L,h1,h2,by simp only[Rep];exact ⟨us,rfl,qbh _⟩,_,rfl,⟨us,hp,rfl⟩,rfl⟩
theorem LCalls.ret_of {C:Ctx} {f:FuncId} {vs:List Value} {u:Value}
  (h:∀ w,Below C.B0 C.w0 w->Calls C.P f vs.toArray w (fun e w'=>e=.returned u/\Below w.heap.size w w')):LCalls C f (vs.map .atom) [] (Ret (.atom u)):=
 LCalls.mono (LCalls.of_below (p:=fun v=>v=u) fun w hw=>(h w hw).mono fun e w' he=>⟨u,he.1,rfl,he.2⟩) fun r H' ⟨v,h1,h2,h3⟩=>⟨by rw[h1,h2],h3⟩
def qdn (e:Env):List (Nat×LV)->Prop
 |[]=>True
 |(d,v)::r=>e.s d=v/\qdn e r
theorem qdn.mem {e:Env}:∀ {l:List (Nat×LV)},qdn e l->∀ p∈l,e.s p.1=p.2
 |[],_,p,hp=>by cases hp
 |(d,v)::r,h,p,hp=>by
  rcases zMi.1 hp with rfl|hp
  ·exact h.1
  ·exact qdn.mem h.2 p hp
def qew (I:Nat->List (Nat×LV)->Heap->Prop) (k:Nat) (ds:List Deferred) (e':Env) (H':Heap):Prop:=
 ∃ m l' H'',m<k/\I m l' H''/\qdn e' l'/\HSub H'' H'/\e'.ds=ds
theorem oL {C:Ctx} {n:Nat} {c:Code} {Q:Post} {e:Env} {H:Heap} (I:Nat->List (Nat×LV)->Heap->Prop) (h0:∃ k l H0,I k l H0/\qdn e l/\HSub H0 H)
  (round:∀ k l H,I k l H->∀ j:Env,j.ds=e.ds->qae C n c (qaA (qew I k e.ds) Q) (Env.slots j l) H):qae C n (.loop c) Q e H:=by
 obtain ⟨k,l,H0,h0,h1,h2⟩:=h0;refine cW h2 (qae.loop (fun k e' H'=>∃ l H0,I k l H0/\qdn e' l/\HSub H0 H'/\e'.ds=e.ds) k ⟨l,H0,h0,h1,zhR _,rfl⟩ ?_);rintro k e' H' ⟨l,H0,g0,g1,g2,g3⟩;have:=round k l H0 g0 e' g3;rw[Env.slots_self g1.mem] at this;refine cW g2 (qae.conseq this ?_);rintro ex e2 H2 hq
 cases ex with
 |normal=>
  obtain ⟨m,l',H3,r1,r2,r3,r4,r5⟩:=hq
  exact ⟨m,r1,l',H3,r2,r3,r4,r5⟩
 |exit id=>exact hq
 |goto id=>exact hq
 |ret=>exact hq
 |panic ch=>exact hq
 |outgrown=>exact hq
theorem qai {a b:Bool} (h:a=b):bool a=bool b:=by rw[h]
def At (l:List (Nat×LV)) (H1:Heap) (ds:List Deferred) (e':Env) (H':Heap):Prop:=qdn e' l/\H'=H1/\e'.ds=ds
theorem LOps.cutTo {C:Ctx} {n:Nat} {ops:Array Oper} {rest:List Oper} {Q:Post} {e:Env} {H:Heap} {k:Env->Heap->Prop} (l:List (Nat×LV)) (H1:Heap)
  (hx:LOps C n ops (qaA (At l H1 e.ds) Q) rest e H) (hy:∀ j:Env,j.ds=e.ds->k (Env.slots j l) H1):LOps C n ops (qaA k Q) rest e H:=by
 refine LOps.conseq hx ?_;rintro ex e' H' hq
 cases ex with
 |normal=>
  obtain ⟨h1,rfl,h3⟩:=hq;have:=hy e' h3;rw[Env.slots_self h1.mem] at this
  exact this
 |exit id=>exact hq
 |goto id=>exact hq
 |ret=>exact hq
 |panic ch=>exact hq
 |outgrown=>exact hq
theorem qae.cutTo {C:Ctx} {n:Nat} {c:Code} {Q:Post} {e:Env} {H:Heap} {k:Env->Heap->Prop} (l:List (Nat×LV)) (H1:Heap)
  (hx:qae C n c (qaA (At l H1 e.ds) Q) e H) (hy:∀ j:Env,j.ds=e.ds->k (Env.slots j l) H1):qae C n c (qaA k Q) e H:=by
 refine qae.conseq hx ?_;rintro ex e' H' hq
 cases ex with
 |normal=>
  obtain ⟨h1,rfl,h3⟩:=hq;have:=hy e' h3;rw[Env.slots_self h1.mem] at this
  exact this
 |exit id=>exact hq
 |goto id=>exact hq
 |ret=>exact hq
 |panic ch=>exact hq
 |outgrown=>exact hq
theorem LOps.cut {C:Ctx} {n:Nat} {ops:Array Oper} {rest:List Oper} {Q:Post} {e:Env} {H:Heap} {k:Env->Heap->Prop} (l:List (Nat×LV))
  (hx:LOps C n ops (qaA (At l H e.ds) Q) rest e H) (hy:∀ j:Env,j.ds=e.ds->k (Env.slots j l) H):LOps C n ops (qaA k Q) rest e H:=LOps.cutTo l H hx hy
theorem cC {C:Ctx} {n:Nat} {c:Code} {Q:Post} {e:Env} {H:Heap} {k:Env->Heap->Prop} (l:List (Nat×LV))
  (hx:qae C n c (qaA (At l H e.ds) Q) e H) (hy:∀ j:Env,j.ds=e.ds->k (Env.slots j l) H):qae C n c (qaA k Q) e H:=qae.cutTo l H hx hy
theorem qgk {ops:Array Oper} {n:Nat} {a:Act} {e:Env} {w:World} {L:Live} (hE:RelE n a e w L) {j d:Nat} (hj:(ops[j]?).bind (·.dst)=some d) (hb:e.s d=.atom undef):yielded ops a.tmps j=none:=by
 have h:=hE.vals d;rw[hb] at h;simp only[Rep] at h;unfold yielded;rw[hj];simp only[Option.bind_some];rw[Array.getD_eq_getD_getElem?] at h
 cases hx:a.tmps[d]? with
 |none=>rfl
 |some x=>rw[hx] at h;simp only[Option.getD_some] at h;subst h;rfl
theorem LOps.skipU {C:Ctx} {n:Nat} {ops:Array Oper} {Q:Post} {e:Env} {H:Heap} {dst:Option Nat} {op:Op} {ty:TypeId} {pos:String} {aft:Array Edge} {rest:List Oper} {j d:Nat} {c:Bool}
  (hj:(ops[j]?).bind (·.dst)=some d) (hb:e.s d=.atom undef) (hd:qdg n dst)
  (k:LOps C n ops Q rest (e.put dst (.atom undef)) H):LOps C n ops Q (⟨dst,op,ty,pos,aft,some (j,c)⟩::rest) e H:=fun a w L hE hH=>by
 unfold wpList;rw[if_neg (by simp[Region.wanted,qgk hE hj hb])];exact k _ w L (hE.put hd (by simp only[Rep])) hH
theorem LQ.skipU {C:Ctx} {n:Nat} {ops:Array Oper} {K:Env->Prop} {e:Env} {H:Heap} {dst:Option Nat} {op:Op} {ty:TypeId} {pos:String} {aft:Array Edge} {rest:List Oper} {j d:Nat} {c:Bool} (hj:(ops[j]?).bind (·.dst)=some d) (hb:e.s d=.atom undef) (hd:qdg n dst)
  (k:LQ C n ops K rest (e.put dst (.atom undef)) H):LQ C n ops K (⟨dst,op,ty,pos,aft,some (j,c)⟩::rest) e H:=fun a w L hE hH=>by
 unfold wpQuiet;rw[if_neg (by simp[Region.wanted,qgk hE hj hb])];exact k _ w L (hE.put hd qar) hH
theorem qaf {k:IntKind} {a b:Int} (h:a=b):int k a=int k b:=by rw[h]
end Go.GL
namespace Go.Stele
@[reducible] def cv (c:UInt8):Int:=(c.toNat:Int)
def qao (c:UInt8):Bool:=decide (48<=cv c) && decide (cv c<=57)
def qaz (c:UInt8):Bool:=decide (97<=cv c) && decide (cv c<=122)
def qaH (c:UInt8):Bool:=qaz c || qao c || decide (cv c=95)
def qe8 (c:UInt8):Bool:=!decide (cv c=10)
def qbm (c:UInt8):Bool:=decide (cv c=32) || decide (cv c=9) || decide (cv c=10)
structure Tok where
 kind:Int
 text:List UInt8
 line:Int
 deriving DecidableEq,Inhabited
end Go.Stele
namespace Go.Stele
theorem qbA {p:UInt8->Bool} {s:List UInt8} {m:Nat} (hm:m<s.length) (h:s.takeWhile p=s.take m++(s.drop m).takeWhile p) :
  (p s[m]=true->s.takeWhile p=s.take (m+1)++(s.drop (m+1)).takeWhile p)/\(p s[m]=false->s.takeWhile p=s.take m):=by
 have h1:s.drop m=s[m]::s.drop (m+1):=List.drop_eq_getElem_cons hm;constructor
 ·intro hp;rw[h,h1,List.takeWhile_cons_of_pos hp,List.take_succ_eq_append_getElem hm];simp only[zAs,List.singleton_append]
 ·intro hp;rw[h,h1,List.takeWhile_cons_of_neg (by simp[hp])]
  simp
theorem qdD {p:UInt8->Bool} {s:List UInt8} {m:Nat} (hm:s.length<=m) (h:s.takeWhile p=s.take m++(s.drop m).takeWhile p):s.takeWhile p=s.take m:=by
 rw[h,List.drop_eq_nil_of_le hm]
 simp
def qa4 (s:List UInt8):Nat:=if [47,47].isPrefixOf s then (s.takeWhile qe8).length else (s.takeWhile qbm).length
end Go.Stele
/- What the lexer computes, in plain Lean: tokens. -/
namespace Go.Stele
def qr6:Tok:=⟨0,[],0⟩
abbrev TokR:=Tok×Nat×Int
def qa3 (e:Int):TokR:=(qr6,0,e)
def qc9 (s:List UInt8) (n:Nat):Bool:=match s[n]? with
 |some c=>qaz c || decide (cv c=95)
 |none=>false
def qby (s:List UInt8):TokR:=
 if qc9 s (s.takeWhile qao).length then qa3 3 else
  match Go.Lib.parseUintB 32 (s.takeWhile qao) with
  |.ok u=>(⟨1,Go.Lib.decDigits u,0⟩,(s.takeWhile qao).length,0)
  |_=>qa3 2
def qbi:List UInt8->TokR
 |_::b::c::_=>if (!decide (cv c=39)) || decide (cv b<32) || decide (126<cv b) || decide (cv b=39) || decide (cv b=92) then qa3 3 else (⟨1,Go.Lib.decDigits b.toNat,0⟩,3,0)
 |_=>qa3 3
def qaX:List (List UInt8):=[[97,114,114,97,121],[101,108,115,101],[102,117,110,99],[104,97,108,116],[105,102],[114,101,116,117,114,110],[118,97,114],[119,104,105,108,101]]
def qcL:List (List UInt8):=[[38,38],[124,124],[61,61],[33,61],[60,61],[62,61],[60],[62],[94],[43],[45],[42],[47],[37],[33],[61],[40],[41],[123],[125],[91],[93],[44],[59]]
def qcv (s:List UInt8):TokR:=
 if 24<(s.takeWhile qaH).length then qa3 7 else (⟨if qaX.contains (s.takeWhile qaH) then 3 else 2,s.takeWhile qaH,0⟩,(s.takeWhile qaH).length,0)
def qde (s:List UInt8):TokR:=match qcL.find? (fun x=>x.isPrefixOf s) with
 |some x=>(⟨4,x,0⟩,x.length,0)
 |none=>qa3 3
def qan (s:List UInt8):TokR:=match s with
 |[]=>qa3 3
 |c::_=>if qao c then qby s else if qaz c then qcv s else if decide (cv c=39) then qbi s else qde s
def lexP:Nat->List UInt8->Int->Except (Int×Int) (List Tok)
 |0,_,_=>.ok []
 |fuel+1,s,line=>
  if s=[] then .ok [] else
  if qa4 s=0 then
   if (qan s).2.2≠0 then .error (line,(qan s).2.2)
   else (lexP fuel (s.drop (qan s).2.1) (line+((s.take (qan s).2.1).count 10:Nat))).map ({ (qan s).1 with line:=line }::·)
  else lexP fuel (s.drop (qa4 s)) (line+((s.take (qa4 s)).count 10:Nat))
end Go.Stele
namespace Go.Stele
theorem qfp (p:UInt8->Bool) (s:List UInt8):(s.takeWhile p).length<=s.length:=(List.takeWhile_prefix p).length_le
theorem qdA (s:List UInt8) (h:(qan s).2.2=0):0<(qan s).2.1/\(qan s).2.1<=s.length:=by
 match s with
 |[]=>simp[qan,qa3] at h
 |c::r=>
  simp only[qan] at h ⊢;split at h <;> rename_i hc
  ·rw[if_pos hc];unfold qby at h ⊢;split at h
   ·simp[qa3] at h
   ·rename_i hw
    rw[if_neg hw];split at h
    ·rename_i u hu
     refine ⟨?_,qfp _ _⟩;rw[List.takeWhile_cons_of_pos hc]
     simp
    ·simp[qa3] at h
  ·rw[if_neg hc];split at h <;> rename_i hl
   ·rw[if_pos hl];unfold qcv at h ⊢;split at h
    ·simp[qa3] at h
    ·rename_i hw
     rw[if_neg hw];refine ⟨?_,qfp _ _⟩;rw[List.takeWhile_cons_of_pos (by simp[qaH,hl])]
     simp
   ·rw[if_neg hl];split at h <;> rename_i hq
    ·rw[if_pos hq];unfold qbi at h ⊢;split at h
     ·split at h
      ·simp[qa3] at h
      ·rename_i hx
       rename_i heq
       rw[if_neg hx,heq]
       simp
     ·simp[qa3] at h
    ·rw[if_neg hq];unfold qde at h ⊢;split at h
     ·rename_i x hx
      have h1:=List.find?_some hx;have h2:=List.mem_of_find?_eq_some hx;refine ⟨?_,(List.isPrefixOf_iff_prefix.1 h1).length_le⟩;have:∀ x∈qcL,0<x.length:=by decide
      exact this x h2
     ·simp[qa3] at h
theorem qoj (s:List UInt8):qa4 s<=s.length:=by
 unfold qa4;split <;> exact qfp _ _
end Go.Stele
