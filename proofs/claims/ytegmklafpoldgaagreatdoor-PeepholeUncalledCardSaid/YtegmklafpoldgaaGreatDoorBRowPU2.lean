/- Texts joined: GlSteps, GlDraw, GlRules, Types, GlCall, LexSpec2, Lex1. -/
import Derived.Laws.AppendOwn
import Derived.Test.YtegmklafpoldgaaGreatDoorProg
import Derived.Lib.ParseIntB
import Derived.Lib.ItoaNum
import Derived.Test.YtegmklafpoldgaaGreatDoorBRowPU1
set_option linter.unusedVariables false
set_option linter.unusedSimpArgs false
set_option maxRecDepth 100000
set_option maxHeartbeats 4000000
namespace Go.GL
open Go.RowKit
def Live.upd (L:Live) (b n:Nat):Live:=fun x=>if x=b then n else L x
theorem heap_push {w:World} {o:Obj} {b:Nat} (hb:b<w.heap.size):(w.heap.push o)[b]? = w.heap[b]? := by
 rw[Array.getElem?_push,if_neg (by omega)]
theorem heap_push_self {w:World} {o:Obj}:(w.heap.push o)[w.heap.size]? = some o:=by simp
def World.push (w:World) (o:Obj):World:={ w with heap:=w.heap.push o }
theorem ext_push {w:World} {L:Live} (hwf:∀ b,w.heap.size≤b→L b=0) (o:Obj) (n:Nat):Ext w L (World.push w o) (L.upd w.heap.size n):=by
 refine ⟨by simp[World.push],fun b hb=>?_,fun b i hi=>?_,fun b=>?_⟩
 ·exact shape_of_heap (heap_push hb)
 ·rcases Nat.lt_or_ge b w.heap.size with hb|hb
  ·exact cell_of_heap (heap_push hb) i
  ·rw[hwf b hb] at hi;omega
 ·unfold Live.upd
  split
  ·rename_i h;subst h;rw[hwf _ (zNr _)];omega
  ·exact zNr _
theorem fr_push {C:Ctx} {w:World} {L:Live} (hH:RelH C w L []) (o:Obj) (n:Nat) (H':Heap) (hk:∀ p∈H',p.1=w.heap.size∧RelObj (World.push w o) (L.upd w.heap.size n) w.heap.size p.2) (hn:(H'.map (·.1)).Nodup) :
  Fr (keys []) w L (World.push w o) (L.upd w.heap.size n) H'∧RelH C (World.push w o) (L.upd w.heap.size n) H':=by
 have hx:=ext_push hH.wf o n
 refine ⟨⟨rfl,rfl,rfl,hx,fun b hb _=>heap_push hb,fun b hb _=>?_,fun p hp=>.inr (by rw[(hk p hp).1];exact zNr _)⟩,⟨?_,trivial,?_,fun b hb=>?_,hn,fun p hp=>?_⟩⟩
 ·simp only[Live.upd];rw[if_neg (by omega)]
 ·exact hH.base.alloc hH.b0 o
 ·exact zNt hH.b0 hx.size
 ·simp only[World.push,Array.size_push] at hb
  simp only[Live.upd];rw[if_neg (by omega)];exact hH.wf b (by omega)
 ·obtain ⟨h1,h2⟩:=hk p hp
  rw[h1]
  exact ⟨hH.b0,by simp[World.push],h2⟩
section steps
variable {C:Ctx} {e:Env} {H:Heap} {dst:Option Nat} {ty:TypeId} {pos:String} {aft:Array Edge} {g:Option (Nat×Bool)} {x y:Operand} {xT:TypeId} {k:IntKind}
 {K:LV→Heap→Prop} {X:List PanicEntry→Heap→Prop}
theorem left_new {w:World} {L:Live} (hH:RelH C w L []) {t:TypeId} {xs:List Value} {cs:List LV} (hr:RepL w L cs xs) (hk:∀ b,K (ptr b 0) [(b,.cells t cs)]) :
  Left C w L [] (World.push w (.cells xs.toArray t)) (.pointer (some ⟨w.heap.size,0,none⟩)) K:=by
 have hx:=ext_push hH.wf (.cells xs.toArray t) 0
 have:=fr_push hH (.cells xs.toArray t) 0 [(w.heap.size,.cells t cs)] (fun p hp=>by
  simp only[List.mem_singleton] at hp
  subst hp
  exact ⟨rfl,by simp[Live.upd],xs,heap_push_self,hr.mono hx _ _⟩) (by simp)
 exact ⟨_,_,_,this.1,this.2,rep_atom,hk _⟩
theorem LStep.alloc {t:TypeId} {zs:List Value} [hz:TZero C.P t zs] (hk:∀ b,K (ptr b 0) [(b,.cells t (zs.map .atom))]):LStep C ⟨dst,.alloc t,ty,pos,aft,g⟩ e [] K X:=fun ρ w L _ hH=>by
 obtain ⟨v,hv,hc⟩:=run_zero (P:=C.P) (t:=t) w
 have h3:execOp ρ ⟨dst,.alloc t,ty,pos,aft,g⟩=(do Pure.pure (.value (←Instr.alloc t true (.tuple #[])))):=rfl
 have h4:(Instr.alloc t true (.tuple #[])).run C.P w=.ok (.pointer (some ⟨w.heap.size,0,none⟩)) (World.push w (.cells zs.toArray t)):=by
  simp only[Instr.alloc,Sem.run_bind,hv,Result.andThen_ok,newVar,newRow,hc]
  rfl
 rw[h3,Sem.run_bind,h4]
 exact left_new hH (repL_atoms zs) hk
theorem LStep.box {t:TypeId} {cs:List LV} (hx:(e.ev x).cells? = some cs) (hk:∀ b,K (ptr b 0) [(b,.cells t cs)]):LStep C ⟨dst,.box t x,ty,pos,aft,g⟩ e [] K X:=fun ρ w L h hH=>by
 have hr:=(h x).cells hx
 have h3:execOp ρ ⟨dst,.box t x,ty,pos,aft,g⟩=(do Pure.pure (.value (←Instr.box t (ρ x)))):=rfl
 have h4:(Instr.box t (ρ x)).run C.P w=.ok (.pointer (some ⟨w.heap.size,0,none⟩)) (World.push w (.cells (ρ x).cells t)):=by
  simp only[Instr.box,Sem.run_bind,newVar,newRow]
  rfl
 rw[h3,Sem.run_bind,h4]
 have:=left_new (K:=K) hH (t:=t) hr hk
 rw[Array.toArray_toList] at this
 exact this
/-! ### Stores -/
def cellOk:LV→Bool
 |.agg _|.tuple _|.atom (.agg _)|.atom (.tuple _)=>false
 |_=>true
theorem Rep.flat {w:World} {L:Live} {c:LV} {x:Value} (h:Rep w L c x) (hc:cellOk c=true):(∀ cs,x≠.agg cs)∧(∀ cs,x≠.tuple cs):=by
 cases c <;> simp only[Rep] at h <;> simp only[cellOk,Bool.false_eq_true] at hc
 case atom v=>subst h;cases x <;> simp_all
 case list es=>obtain ⟨a,cap,rfl,_⟩:=h;simp
 case app b cap k es=>obtain ⟨rfl,_⟩:=h;simp
 case ref cs=>obtain ⟨b,off,rfl,_⟩:=h;simp
theorem run_store_plain {P:Program} {w:World} {a:Addr} {v old:Value} (hc:w.cell? a=some old) (hf:w.frozen? a=false) (h1:∀ cs,v≠.agg cs) (h2:∀ cs,v≠.tuple cs):(store a v).run P w=.ok () (w.setCell a v):=by
 cases v <;> simp_all [store,Sem.run]
theorem setCell_heap {w:World} {b off:Nat} {v:Value} {xs:List Value} {t:TypeId} {fr:Nat×Nat} (h:w.heap[b]? = some (.cells xs.toArray t fr)) :
  (w.setCell ⟨b,off,none⟩ v).heap[b]? = some (.cells (xs.set off v).toArray t fr):=by
 simp[World.setCell,Array.getElem?_modify,h]
theorem storeCells_run {P:Program} {b off:Nat} {t:TypeId} {fr:Nat×Nat}:∀ (vs:List Value) (i:Nat) (w:World) (xs:List Value),w.heap[b]? = some (.cells xs.toArray t fr)→off+i+vs.length≤xs.length →
  (∀ j,off+i≤j→j<off+i+vs.length→¬ (fr.1≤j∧j<fr.2)) →
  (∀ v∈vs,(∀ cs,v≠.agg cs)∧(∀ cs,v≠.tuple cs)) →
  ∃ w',(storeCells ⟨b,off,none⟩ vs i).run P w=.ok () w'∧w'.os=w.os∧w'.tape=w.tape∧w'.output=w.output∧w'.heap.size=w.heap.size∧(∀ c,c≠b→w'.heap[c]? = w.heap[c]?) ∧
   w'.heap[b]? = some (.cells (xs.take (off+i)++vs++xs.drop (off+i+vs.length)).toArray t fr)
 |[],i,w,xs,hb,_,_,_=>⟨w,by simp[storeCells],rfl,rfl,rfl,rfl,fun _ _=>rfl,by simpa using hb⟩
 |v::vs,i,w,xs,hb,hl,hfr,hv=>by
  simp only[zLc] at hl hfr
  have hc:∃ old,w.cell? ⟨b,off+i,none⟩=some old:=by
   refine ⟨xs[off+i]'(by omega),?_⟩
   simp[World.cell?,hb]
  obtain ⟨old,hc⟩:=hc
  have hf:w.frozen? ⟨b,off+i,none⟩=false:=by
   obtain ⟨lo,hi⟩:=fr
   have:=hfr (off+i) (by omega) (by omega)
   simp only[World.frozen?,hb]
   simp only[Bool.and_eq_false_iff,decide_eq_false_iff_not]
   simp only at this
   omega
  have hs:=run_store_plain (P:=P) hc hf (hv v (by simp)).1 (hv v (by simp)).2
  obtain ⟨w',h1,h2,h3,h4,h5,h6,h7⟩:=storeCells_run (P:=P) (off:=off) vs (i+1) (w.setCell ⟨b,off+i,none⟩ v) (xs.set (off+i) v) (setCell_heap hb) (by simp;omega) (fun j h1 h2=>hfr j (by omega) (by omega)) (fun u hu=>hv u (zMo _ hu))
  refine ⟨w',?_,h2,h3,h4,?_,fun c hc=>?_,?_⟩
  ·simp only[storeCells,add_mk,Sem.run_bind,hs,Result.andThen_ok,h1]
  ·rw[h5];simp[World.setCell]
  ·rw[h6 c hc]
   simp only[World.setCell,Array.getElem?_modify]
   rw[if_neg (by simpa using Ne.symm hc)]
  ·rw[h7]
   congr 2
   have e1:(xs.set (off+i) v).take (off+(i+1))=xs.take (off+i)++[v]:=by
    rw[show off+(i+1)=off+i+1 by omega,List.take_succ_eq_append_getElem (by simp;omega)]
    simp[List.take_set_of_le]
   have e2:(xs.set (off+i) v).drop (off+(i+1)+vs.length)=xs.drop (off+i+(vs.length+1)):=by
    rw[List.drop_set_of_lt (by omega),show off+(i+1)+vs.length=off+i+(vs.length+1) by omega]
   rw[e1,e2]
   simp
theorem repL_all {w:World} {L:Live}:∀ {cs:List LV} {xs:List Value},RepL w L cs xs→(cs.all cellOk)=true→∀ v∈xs,(∀ cs,v≠.agg cs)∧(∀ cs,v≠.tuple cs)
 |[],_,h,_=>by simp only[RepL] at h;subst h;simp
 |c::cs,_,h,hc=>by
  simp only[RepL] at h
  obtain ⟨y,ys,rfl,h1,h2⟩:=h
  simp only[List.all_cons,zBa] at hc
  intro v hv
  rcases zMi.1 hv with rfl|hv
  ·exact h1.flat hc.1
  ·exact repL_all h2 hc.2 v hv
class TSize (P:Program) (t:TypeId) (n:outParam Nat):Prop where
 size:∃ i,P.info? t=some i∧i.size=n
def chkSize (P:Program) (t n:Nat):Bool:=match P.info? t with|some i=>i.size == n|none=>false
theorem TSize.of {P:Program} {t n:Nat} (h:chkSize P t n=true):TSize P t n:=by
 unfold chkSize at h
 cases hi:P.info? t with
 |none=>rw[hi] at h;simp at h
 |some i=>rw[hi] at h;exact ⟨i,hi,by simpa using h⟩
theorem left_write {w w':World} {L:Live} {b:Nat} {t:TypeId} {cs cs':List LV} {xs':List Value} (hH:RelH C w L [(b,.cells t cs)]) (h1:w'.os=w.os) (h2:w'.tape=w.tape) (h3:w'.output=w.output)
  (h4:w'.heap.size=w.heap.size) (h5:∀ c,c≠b→w'.heap[c]? = w.heap[c]?) (h6:w'.heap[b]? = some (.cells xs'.toArray t (0,0))) (h7:xs'.length=cs.length)
  (h8:RepL w L cs' xs') {v:Value} {lv:LV} (hv:Rep w L lv v) (hk:K lv [(b,.cells t cs')]):Left C w L [(b,.cells t cs)] w' v K:=by
 obtain ⟨hb0,hbs,hl,xs,hx1,hx2⟩:=hH.objs _ (List.mem_singleton.2 rfl)
 simp only at hb0 hbs hl hx1 hx2
 have hx:Ext w L w' L:=by
  refine ⟨by rw[h4];exact zNr _,fun c hc=>?_,fun c i hi=>?_,fun _=>zNr _⟩
  ·by_cases he:c=b
   ·subst he
    simp only[World.shape?,hx1,h6]
    rw[List.size_toArray,List.size_toArray,h7,hx2.length]
   ·exact shape_of_heap (h5 c he)
  ·by_cases he:c=b
   ·subst he;rw[hl] at hi;omega
   ·exact cell_of_heap (h5 c he) i
 refine ⟨lv,[(b,.cells t cs')],L,⟨h1,h2,h3,hx,fun c hc hn=>h5 c (by simpa using hn),fun _ _ _=>rfl,fun p hp=>.inl (by simp only[List.mem_singleton] at hp;subst hp;simp)⟩,
  ⟨?_,hH.lbase,by rw[h4];exact hH.b0,by rw[h4];exact hH.wf,by simp,fun p hp=>?_⟩,hv.mono hx _ _,hk⟩
 ·exact hH.base.trans ⟨h1,h2,h3,by rw[h4];exact zNr _,fun c hc=>h5 c (by omega)⟩
 ·simp only[List.mem_singleton] at hp
  subst hp
  exact ⟨hb0,by rw[h4];exact hbs,hl,xs',h6,h8.mono hx _ _⟩
theorem LStep.store {t n:Nat} [ht:TSize C.P t n] {b off ty':Nat} {cs vs:List LV} (hx:e.ev x=ptr b off) (hy:(e.ev y).cells? = some vs) (hn:vs.length=n) (hl:off+n≤cs.length) (hok:vs.all cellOk=true)
  (hk:K (.atom undef) [(b,.cells ty' (setL cs off vs))]):LStep C ⟨dst,.store t x y,ty,pos,aft,g⟩ e [(b,.cells ty' cs)] K X:=fun ρ w L h hH=>by
 obtain ⟨hb0,hbs,hlv,xs,hx1,hx2⟩:=hH.objs _ (List.mem_singleton.2 rfl)
 simp only at hb0 hbs hlv hx1 hx2
 have hr:=(h y).cells hy
 have hrl:=hr.length
 have hxl:=hx2.length
 obtain ⟨i,hi,hsz⟩:=ht.size
 obtain ⟨w',r1,r2,r3,r4,r5,r6,r7⟩:=storeCells_run (P:=C.P) (off:=off) (ρ y).cells.toList 0 w xs hx1 (by omega) (fun j _ _=>by simp) (repL_all hr hok)
 have h3:execOp ρ ⟨dst,.store t x y,ty,pos,aft,g⟩=(do Instr.storeAt t (ρ x) (ρ y);Pure.pure .skip):=rfl
 have hs:(ρ y).cells.size=n:=by rw[←hn,←hrl];simp
 rw[h3,atom_of h hx]
 simp only[Instr.storeAt,Instr.sureAddr,Sem.run_bind,Sem.run_pure,Result.andThen_ok,storeVar,run_sizeOf' hi,hsz,hs,ne_eq,not_true_eq_false,if_false]
 rw[r1]
 refine left_write hH r2 r3 r4 r5 r6 r7 ?_ ?_ rep_atom hk
 ·simp;omega
 ·rw[setL_eq cs off vs (by omega)]
  rw[hrl,Nat.add_zero]
  exact ((hx2.take off).append hr).append (hx2.drop _)
/-! ### Calls and panics -/
class TEnter (P:Program) (f:FuncId):Prop where
 out : ∃ fn, P.funcs[f]? = some fn ∧ (fn.name == "runtime.NumGoroutine") = false ∧ fn.body.isNone = false
def chkEnter (P : Program) (f : FuncId) : Bool := match P.funcs[f]? with | some fn => !(fn.name == "runtime.NumGoroutine") && fn.body.isSome | none => false
theorem TEnter.of {P:Program} {f:FuncId} (h:chkEnter P f=true):TEnter P f:=by
 unfold chkEnter at h
 cases hf:P.funcs[f]? with
 |none=>rw[hf] at h;cases h
 |some fn=>
  rw[hf] at h
  simp only[zBa,Bool.not_eq_true'] at h
  exact ⟨fn,hf,h.1,by cases hb:fn.body <;> simp_all⟩
theorem run_callFunc {P:Program} {f:FuncId} [h:TEnter P f] (args:Array Value) (w:World):(callFunc f args).run P w=.ok (.enter f args) w:=by
 obtain ⟨fn,h1,h2,h3⟩:=h.out
 have h0:(program).run P w=.ok P w:=rfl
 simp only[callFunc,Sem.run_bind,h0,Result.andThen_ok,h1,h2,h3,Bool.false_eq_true,if_false,Sem.run_pure]
theorem LStep.callV {fo:Operand} {f:FuncId} [TEnter C.P f] {first caps:Array Value} {args:List Operand} {ats:Array TypeId} {R:LRes→Heap→Prop} (hf:e.ev fo=.atom (.func (.func f) first caps))
  (hc:LCalls C f (first.toList.map .atom++args.map e.ev++caps.toList.map .atom) H R) (hk:∀ v H,R (.ret v) H→K v H) (hx:∀ ch H,R (.panic ch) H→X ch H) :
  LStep C ⟨dst,.call { callee:=.value fo,args:=args.toArray,argTypes:=ats },ty,pos,aft,g⟩ e H K X:=fun ρ w L h hH=>by
 have h3:execOp ρ ⟨dst,.call { callee:=.value fo,args:=args.toArray,argTypes:=ats },ty,pos,aft,g⟩=(do let d ←Deferred.ofValue (ρ fo) (args.toArray.map ρ);invoke d.target d.args):=rfl
 rw[h3,atom_of h hf]
 simp only[Deferred.ofValue,Sem.run_bind,Sem.run_pure,Result.andThen_ok,invoke,run_callFunc]
 refine ⟨rfl,?_⟩
 have:=hc (first.toList++args.map ρ++caps.toList) w L ((((repL_atoms _).append (repL_ev h _))).append (repL_atoms _)) hH
 simp only[←List.append_toArray,Array.toArray_toList] at this
 simp only[List.map_toArray]
 exact this.mono (CallPost.mono (fun v H hv=>hk v H hv) (fun ch H hv=>hx ch H hv))
theorem LStep.call {f:FuncId} [TEnter C.P f] {args:List Operand} {ats:Array TypeId} {R:LRes→Heap→Prop}
  (hc:LCalls C f (args.map e.ev) H R) (hk:∀ v H,R (.ret v) H→K v H) (hx:∀ ch H,R (.panic ch) H→X ch H) :
  LStep C ⟨dst,.call { callee:=.value (.func f),args:=args.toArray,argTypes:=ats },ty,pos,aft,g⟩ e H K X:=
 LStep.callV (f:=f) (first:=#[]) (caps:=#[]) rfl (by simpa using hc) hk hx
theorem LStep.panic {t:TypeId} {v:Value} (hx:e.ev x=.atom (.iface t v)) (hk:X [{ v:=.iface t v,recovered:=false }] H):LStep C ⟨dst,.panic x,ty,pos,aft,g⟩ e H K X:=fun ρ w L h hH=>by
 have h3:execOp ρ ⟨dst,.panic x,ty,pos,aft,g⟩=(do Pure.pure (.value (←Instr.panic (ρ x)))):=rfl
 rw[h3,atom_of h hx]
 simp only[Instr.panic,goPanic,Sem.run_bind,Sem.run_halt,Result.andThen_halt]
 exact ⟨H,L,Fr.refl _ _ _,hH,hk⟩
/-! ### Lists that are made and that grow -/
theorem fill_seq {size:Nat}:∀ (vs:List Value) (i:Nat) (xs:List Value),(∀ v∈vs,v.cells.size=size)→(i+vs.length) * size≤xs.length →
  Instr.fill (fun i=>some (i * size,size)) xs.toArray ((List.range' i vs.length).zip vs)=some (xs.take (i * size)++vs.flatMap (fun v=>v.cells.toList)++xs.drop ((i+vs.length) * size)).toArray
 |[],i,xs,_,_=>by simp[Instr.fill]
 |v::vs,i,xs,h,hl=>by
  have hv:=h v (by simp)
  simp only[zLc] at hl
  have hl':i * size+size+vs.length * size≤xs.length:=by
   have:(i+(vs.length+1)) * size=i * size+size+vs.length * size:=by rw[Nat.add_mul,Nat.add_mul];omega
   omega
  simp only[zLc,List.range'_succ,List.zip_cons_cons,Instr.fill]
  rw[if_neg (by simp[hv];omega)]
  have he:(v.cells.zipIdx.foldl (fun cs (c,j)=>cs.setIfInBounds (i * size+j) c) xs.toArray)=(xs.take (i * size)++v.cells.toList++xs.drop (i * size+size)).toArray:=by
   rw[←Array.foldl_toList,Array.toList_zipIdx]
   have:=foldl_set (i * size) v.cells.toList 0 xs (by simp[hv];omega)
   rw[Nat.add_zero] at this
   rw[this]
   simp[hv]
  rw[he]
  have ha:(i+1) * size=i * size+size:=by rw[Nat.add_mul];omega
  have hb:(i+1+vs.length) * size=i * size+size+vs.length * size:=by rw[Nat.add_mul,Nat.add_mul];omega
  have hc:(i+(vs.length+1)) * size=i * size+size+vs.length * size:=by rw[Nat.add_mul,Nat.add_mul];omega
  have hlen:(xs.take (i * size)++v.cells.toList++xs.drop (i * size+size)).length=xs.length:=by simp[hv];omega
  rw[fill_seq vs (i+1) _ (fun u hu=>h u (zMo _ hu)) (by rw[hlen,hb];omega)]
  congr 2
  have e1:(xs.take (i * size)++v.cells.toList++xs.drop (i * size+size)).take ((i+1) * size)=xs.take (i * size)++v.cells.toList:=by
   rw[ha,List.take_append_of_le_length (by simp[hv];omega),List.take_of_length_le (by simp[hv];omega)]
  have e2:(xs.take (i * size)++v.cells.toList++xs.drop (i * size+size)).drop ((i+1+vs.length) * size)=xs.drop ((i+(vs.length+1)) * size):=by
   rw[hb,hc,List.drop_append,List.drop_eq_nil_of_le (by simp[hv];omega)]
   simp[hv,List.drop_drop]
   congr 1
   omega
  rw[e1,e2]
  simp
theorem RepC.of_heap {w:World} {L:Live} {b:Nat} {t:TypeId} {fr:Nat×Nat}:∀ {cs:List LV} {off:Nat} {ys:List Value} (pre post:List Value),w.heap[b]? = some (.cells (pre++ys++post).toArray t fr)→pre.length=off→off+ys.length≤L b →
  RepL w L cs ys→RepC w L b off cs
 |[],_,_,_,_,_,_,_,_=>by simp[RepC]
 |c::cs,off,ys,pre,post,hb,hp,hl,h=>by
  simp only[RepL] at h
  obtain ⟨y,ys',rfl,h1,h2⟩:=h
  simp only[zLc] at hl
  simp only[RepC]
  refine ⟨by omega,⟨y,?_,h1⟩,RepC.of_heap (pre++[y]) post (by simpa using hb) (by simp[hp]) (by omega) h2⟩
  simp only[World.cell?,hb]
  subst hp
  simp
theorem RepRows.of_heap {w:World} {L:Live} {b k:Nat} {t:TypeId} {fr:Nat×Nat}:∀ {es:List LV} {off:Nat} {vs:List Value} (pre post:List Value),w.heap[b]? = some (.cells (pre++vs.flatMap (fun v=>v.cells.toList)++post).toArray t fr)→pre.length=off →
  off+es.length * k≤L b→(∀ v∈es,v.cells? = some v.cells∧v.cells.length=k)→RepL w L es vs→RepRows w L b k off es
 |[],_,_,_,_,_,_,_,_,_=>by simp[RepRows]
 |c::cs,off,vs,pre,post,hb,hp,hl,hk,h=>by
  simp only[RepL] at h
  obtain ⟨y,ys',rfl,h1,h2⟩:=h
  have hc:=hk c (by simp)
  have hr:=h1.cells hc.1
  have hyl:y.cells.size=k:=by rw[←hc.2,←hr.length];simp
  simp only[zLc,Nat.add_mul,Nat.one_mul] at hl
  refine RepRows.cons hc.2 (RepC.of_heap (t:=t) (fr:=fr) pre (ys'.flatMap (fun v=>v.cells.toList)++post) (by simpa using hb) hp (by simp[hyl];omega) hr) ?_
  exact RepRows.of_heap (t:=t) (fr:=fr) (pre++y.cells.toList) post (by simpa using hb) (by simp[hp,hyl]) (by omega) (fun v hv=>hk v (zMo _ hv)) h2
def elemsOk (s:Nat) (es:List LV):Prop:=∀ v∈es,v.cells? = some v.cells∧v.cells.length=s
theorem eN {s:Nat}:elemsOk s []:=by simp[elemsOk]
theorem eC {s:Nat} {e:LV} {es:List LV} (h1:e.cells? = some e.cells) (h2:e.cells.length=s) (h:elemsOk s es):elemsOk s (e::es):=fun v hv=>by
 rcases zMi.1 hv with rfl|hv
 ·exact ⟨h1,h2⟩
 ·exact h v hv
theorem flatMap_length {s:Nat}:∀ (vs:List Value),(∀ v∈vs,v.cells.size=s)→(vs.flatMap (fun v=>v.cells.toList)).length=vs.length * s
 |[],_=>by simp
 |v::vs,h=>by
  have ih:=flatMap_length vs (fun u hu=>h u (zMo _ hu))
  have hv:=h v (by simp)
  simp only[List.flatMap_cons,zLa,ih,zLc,Array.length_toList,hv,Nat.add_mul]
  omega
theorem repL_sizes {w:World} {L:Live} {s:Nat}:∀ {es:List LV} {vs:List Value},RepL w L es vs→elemsOk s es→∀ v∈vs,v.cells.size=s
 |[],_,h,_=>by simp only[RepL] at h;subst h;simp
 |c::cs,_,h,hc=>by
  simp only[RepL] at h
  obtain ⟨y,ys,rfl,h1,h2⟩:=h
  intro v hv
  rcases zMi.1 hv with rfl|hv
  ·have:=hc c (by simp)
   rw[←this.2,←(h1.cells this.1).length]
   simp
  ·exact repL_sizes h2 (fun u hu=>hc u (zMo _ hu)) v hv
theorem left_newRow {w:World} {L:Live} (hH:RelH C w L []) {t s cap:Nat} {es:List LV} {vs rest:List Value} (hr:RepL w L es vs) (hok:elemsOk s es) (hcap:es.length≤cap) (hsz:cap * s≤es.length * s+rest.length)
  (hk:∀ b,K (.app b cap s es) [(b,.row (es.length * s))]) :
  Left C w L [] (World.push w (.cells (vs.flatMap (fun v=>v.cells.toList)++rest).toArray t)) (.slice (some ⟨w.heap.size,0,none⟩) es.length cap) K:=by
 have hl:=hr.length
 have hfl:=flatMap_length vs (repL_sizes hr hok)
 rw[hl] at hfl
 have hx:=ext_push hH.wf (.cells (vs.flatMap (fun v=>v.cells.toList)++rest).toArray t) (es.length * s)
 have:=fr_push hH (.cells (vs.flatMap (fun v=>v.cells.toList)++rest).toArray t) (es.length * s) [(w.heap.size,.row (es.length * s))] (fun p hp=>by
  simp only[List.mem_singleton] at hp
  subst hp
  exact ⟨rfl,by simp[Live.upd],_,t,(0,0),heap_push_self,by simp only[List.size_toArray,zLa,hfl];omega,Nat.zero_le _⟩) (by simp)
 refine ⟨.app w.heap.size cap s es,_,_,this.1,this.2,?_,hk _⟩
 simp only[Rep]
 refine ⟨trivial,hcap,?_,t,_,by simp only[World.shape?,World.push];rw[heap_push_self],by simp only[List.size_toArray,zLa,hfl];exact hsz⟩
 exact RepRows.of_heap (t:=t) (fr:=(0,0)) [] rest (by simp only[World.push,List.nil_append];exact heap_push_self) rfl (by simp[Live.upd]) hok (hr.mono hx _ _)
theorem LStep.buildSlice {t el s:Nat} {zs:List Value} [ht:TSlice C.P t el s] [hz:TZero C.P el zs] {xs:List Operand} (hok:elemsOk s (xs.map e.ev)) (hsz:xs.length * s≤16777216) {parts:List (Nat×Operand)} (hp:parts=(List.range xs.length).zip xs)
  {len:Nat} (hlen:len=xs.length) (hk:∀ b,K (.app b len s (xs.map e.ev)) [(b,.row (len * s))]):LStep C ⟨dst,.buildSlice t len parts.toArray,ty,pos,aft,g⟩ e [] K X:=fun ρ w L h hH=>by
 subst hlen hp
 obtain ⟨i,hi,his⟩:=ht.size
 obtain ⟨v0,hv0,hc0⟩:=run_zero (P:=C.P) (t:=el) w
 have hr:=repL_ev h xs
 have hvs:=repL_sizes hr hok
 have h3:execOp ρ ⟨dst,.buildSlice t xs.length ((List.range xs.length).zip xs).toArray,ty,pos,aft,g⟩=(do Pure.pure (.value (←Instr.buildSlice t xs.length (((List.range xs.length).zip xs).toArray.map fun (i,x)=>(i,ρ x))))):=rfl
 have hmap:(((List.range xs.length).zip xs).map fun p=>(p.1,ρ p.2))=(List.range' 0 (xs.map ρ).length).zip (xs.map ρ):=by
  rw[zLm,←List.range_eq_range',List.zip_map_right]
  try rfl
 have key:∀ (zarr:Array Value),Instr.fill (fun i=>some (i * s,s)) ((Array.range (xs.length * s)).map (zarr[· % zarr.size]!)) (((List.range xs.length).zip xs).toArray.map fun (i,x)=>(i,ρ x)).toList =
   some ((xs.map ρ).flatMap (fun v=>Value.cells v |>.toList)).toArray:=fun zarr=>by
  have hfs:=fill_seq (size:=s) (xs.map ρ) 0 ((Array.range (xs.length * s)).map (zarr[· % zarr.size]!)).toList hvs (by simp)
  rw[Array.toArray_toList] at hfs
  have hm2:(((List.range xs.length).zip xs).toArray.map fun (i,x)=>(i,ρ x)).toList=(List.range' 0 (xs.map ρ).length).zip (xs.map ρ):=by
   rw[←hmap]
   simp
  rw[hm2,hfs]
  simp
 have hbuild:(Instr.buildSlice t xs.length (((List.range xs.length).zip xs).toArray.map fun (i,x)=>(i,ρ x))).run C.P w =
   .ok (.slice (some ⟨w.heap.size,0,none⟩) xs.length xs.length) (World.push w (.cells ((xs.map ρ).flatMap (fun v=>Value.cells v |>.toList)).toArray el)):=by
  have hg:¬ (xs.length * s > 2 ^ 24):=by simp;omega
  simp only[Instr.buildSlice,Sem.run_bind,run_underlying' ht.und,Result.andThen_ok,run_sizeOf' hi,his]
  rw[if_neg hg]
  by_cases h0:xs.length * s=0
  ·rw[if_pos h0]
   simp only[Sem.run_bind,Sem.run_pure,Result.andThen_ok,key #[]]
   rfl
  ·rw[if_neg h0]
   simp only[Sem.run_bind,Sem.run_pure,Result.andThen_ok,hv0,key v0.cells]
   rfl
 rw[h3,Sem.run_bind,hbuild]
 have:=left_newRow (K:=K) (t:=el) (cap:=xs.length) (rest:=[]) hH hr hok (by simp) (by simp) (by simpa using hk)
 simp only[zLz,zLm] at this
 exact this
/-! ### append -/
theorem RepC.append {w:World} {L:Live} {b:Nat}:∀ {avs bs:List LV} {off:Nat},RepC w L b off avs→RepC w L b (off+avs.length) bs→RepC w L b off (avs++bs)
 |[],_,_,_,h=>by simpa using h
 |a::avs,bs,off,h1,h2=>by
  simp only[RepC,List.cons_append] at h1 ⊢
  refine ⟨h1.1,h1.2.1,RepC.append h1.2.2 ?_⟩
  simpa [show off+1+avs.length=off+(avs.length+1) by omega] using h2
theorem RepC.left {w:World} {L:Live} {b off:Nat} {avs bs:List LV} (h:RepC w L b off (avs++bs)):RepC w L b off avs:=by
 have:=h.take avs.length
 simpa using this
theorem RepC.right {w:World} {L:Live} {b off:Nat} {avs bs:List LV} (h:RepC w L b off (avs++bs)):RepC w L b (off+avs.length) bs:=by
 have:=h.drop avs.length
 simpa using this
theorem RepRows.toC {w:World} {L:Live} {b k:Nat}:∀ {es:List LV} {off:Nat},RepRows w L b k off es→RepC w L b off (es.flatMap LV.cells)
 |[],_,_=>by simp[RepC]
 |e::es,off,h=>by
  have h1:=h.cell
  rw[List.flatMap_cons]
  refine RepC.append h1.2 ?_
  rw[h1.1]
  exact RepRows.toC h.tail
theorem RepRows.ofC {w:World} {L:Live} {b k:Nat}:∀ {es:List LV} {off:Nat},(∀ e∈es,e.cells.length=k)→RepC w L b off (es.flatMap LV.cells)→RepRows w L b k off es
 |[],_,_,_=>by simp[RepRows]
 |e::es,off,hk,h=>by
  rw[List.flatMap_cons] at h
  have h1:=hk e (by simp)
  refine RepRows.cons h1 h.left (RepRows.ofC (fun v hv=>hk v (zMo _ hv)) ?_)
  rw[←h1]
  exact h.right
theorem RepRows.sizes {w:World} {L:Live} {b k:Nat}:∀ {es:List LV} {off:Nat},RepRows w L b k off es→∀ e∈es,e.cells.length=k
 |[],_,_=>by simp
 |e::es,_,h=>fun v hv=>by
  rcases zMi.1 hv with rfl|hv
  ·exact h.cell.1
  ·exact RepRows.sizes h.tail v hv
theorem flat_length {k:Nat}:∀ {es:List LV},(∀ e∈es,e.cells.length=k)→(es.flatMap LV.cells).length=es.length * k
 |[],_=>by simp
 |e::es,h=>by
  rw[List.flatMap_cons,zLa,h e (by simp),flat_length (fun v hv=>h v (zMo _ hv)),zLc,Nat.add_mul]
  omega
theorem RepC.of_cells {w:World} {L:Live} {b:Nat}:∀ {cs:List LV} {off:Nat} {ys:List Value},RepL w L cs ys→off+ys.length≤L b→(∀ j x,ys[j]? = some x→w.cell? ⟨b,off+j,none⟩=some x)→RepC w L b off cs
 |[],_,_,_,_,_=>by simp[RepC]
 |c::cs,off,_,h,hl,hc=>by
  simp only[RepL] at h
  obtain ⟨y,ys,rfl,h1,h2⟩:=h
  simp only[zLc] at hl
  simp only[RepC]
  refine ⟨by omega,⟨y,hc 0 y rfl,h1⟩,RepC.of_cells h2 (by omega) fun j x hx=>?_⟩
  have:=hc (j+1) x (by simpa using hx)
  rwa [show off+(j+1)=off+1+j by omega] at this
class TRow (P:Program) (el:TypeId) (s bytes:outParam Nat):Prop where
 out:∃ i v,P.info? el=some i∧i.size=s∧i.bytes=bytes∧0<bytes∧i.zero=some v∧v.cells.size=s
def chkRow (P:Program) (el s bytes:Nat):Bool:=
 match P.info? el with
 |some i=>i.size == s && i.bytes == bytes && Nat.blt 0 bytes && (match i.zero with|some v=>v.cells.size == s|none=>false)
 |none=>false
theorem TRow.of {P:Program} {el s bytes:Nat} (h:chkRow P el s bytes=true):TRow P el s bytes:=by
 unfold chkRow at h
 cases hi:P.info? el with
 |none=>rw[hi] at h;simp at h
 |some i=>
  rw[hi] at h
  simp only[zBa,beq_iff_eq] at h
  obtain ⟨⟨⟨h1,h2⟩,h3⟩,h4⟩:=h
  cases hz:i.zero with
  |none=>rw[hz] at h4;simp at h4
  |some v=>rw[hz] at h4;exact ⟨i,v,hi,h1,h2,by simpa using h3,hz,by simpa using h4⟩
theorem run_append_in {P:Program} {w:World} {sT xT el s bytes:Nat} [ht:TSlice P sT el s] [hr:TRow P el s bytes] {a:Option Addr} {len cap n:Nat} {xv:Value} {new:List Value}
  (hxT:P.underlying xT=some .string∨∃ e2,P.underlying xT=some (.slice e2)) (hlen:∀ w':World,(Builtin.lenOf xv).run P w'=.ok n w')
  (hnew:∀ w':World,w'.heap=w.heap→(Builtin.firstCells s n xv).run P w'=.ok new.toArray w') (hc:len+n≤cap) :
  (Builtin.append_ #[sT,xT] ty #[.slice a len cap,xv]).run P w =
   ((match a with|some a=>storeCells (a.add (len * s)) new|none=>Pure.pure ()).run P w).andThen fun _ w'=>.ok (.slice a (len+n) cap) w':=by
 obtain ⟨i,z,hi,hs,hb,hb0,hz,hzs⟩:=hr.out
 subst hs
 have hn:=hnew w rfl
 rcases hxT with hd|⟨e2,hd⟩ <;> cases a <;> simp[Builtin.append_,run_underlying' ht.und,run_underlying' hd,sizeOf,typeInfo,hi,hlen,hc,hn]
theorem run_append_new {P:Program} {w:World} {sT xT el s bytes:Nat} [ht:TSlice P sT el s] [hr:TRow P el s bytes] {a:Option Addr} {len cap n:Nat} {xv:Value} {old new:List Value}
  (hxT:P.underlying xT=some .string∨∃ e2,P.underlying xT=some (.slice e2)) (hlen:∀ w':World,(Builtin.lenOf xv).run P w'=.ok n w')
  (hnew:∀ w':World,w'.heap=w.heap→(Builtin.firstCells s n xv).run P w'=.ok new.toArray w') (hold:∀ w':World,w'.heap=w.heap→(Builtin.firstCells s len (.slice a len cap)).run P w'=.ok old.toArray w')
  (hroom:(len+n) * bytes≤140737488355328) (hc:cap<len+n) :
  ∃ cap' rest,len+n≤cap'∧rest.length=(cap'-(len+n)) * s∧(Builtin.append_ #[sT,xT] ty #[.slice a len cap,xv]).run P w =
   .ok (.slice (some ⟨w.heap.size,0,none⟩) (len+n) cap') (World.push w.drew (.cells (old++new++rest).toArray el)):=by
 obtain ⟨i,z,hi,hs,hb,hb0,hz,hzs⟩:=hr.out
 subst hs
 have hn':¬ (len+n≤cap):=by omega
 have hmul:len+n≤(len+n) * bytes:=Nat.le_mul_of_pos_right _ hb0
 have h63':¬ (9223372036854775807<((len:Int)+(n:Int))):=by omega
 have hfit:=growslice_fits (bytes:=bytes) hc hroom
 have h48':¬ (281474976710656<Builtin.nextslicecap (len+n) cap * i.bytes):=by rw[hb];omega
 have hf:=hnew w.drew rfl
 have hfo:=hold w.drew rfl
 refine ⟨grownCap w (len+n) cap el,(Builtin.zeroCells z.cells (grownCap w (len+n) cap el-(len+n))).toList,?_,?_,?_⟩
 ·simp[grownCap,Question.cut]
 ·simp[Builtin.zeroCells,hzs]
 ·rcases hxT with hd|⟨e2,hd⟩
  all_goals
   simp[Builtin.append_,run_underlying' ht.und,run_underlying' hd,sizeOf,typeInfo,zeroValue,hi,hz,hlen,hn',h63',h48',Question.forced,hf,hfo,newRow,grownCap]
   show World.push w.drew _=World.push w.drew _
   congr 2
   apply Array.ext'
   simp
theorem Fr.wide {K K':List Nat} {w w':World} {L L':Live} {H':Heap} (h:Fr K w L w' L' H') (hk:∀ b∈K,b∈K'):Fr K' w L w' L' H':=
 ⟨h.os,h.tape,h.output,h.ext,fun b hb hn=>h.block b hb (fun k=>hn (hk b k)),fun b hb hn=>h.lsame b hb (fun k=>hn (hk b k)),fun p hp=>(h.kin p hp).imp (hk _) id⟩
theorem Fr.of_drew {K:List Nat} {w w':World} {L L':Live} {H':Heap} (h:Fr K w.drew L w' L' H'):Fr K w L w' L' H':=
 ⟨h.os,h.tape,h.output,⟨h.ext.size,h.ext.shape,h.ext.live,h.ext.mono⟩,h.block,h.lsame,h.kin⟩
theorem ext_drew (w:World) (L:Live):Ext w L w.drew L:=⟨zNr _,fun _ _=>rfl,fun _ _ _=>rfl,fun _=>zNr _⟩
theorem RelH.drew {w:World} {L:Live} (h:RelH C w L H):RelH C w.drew L H:=
 ⟨h.base.drew,h.lbase,h.b0,h.wf,h.nodup,fun p hp=>⟨(h.objs p hp).1,(h.objs p hp).2.1,(h.objs p hp).2.2.keep (ext_drew w L) rfl rfl⟩⟩
theorem left_newRowC {w:World} {L:Live} (hH:RelH C w L []) {t s cap:Nat} {es:List LV} {xs rest:List Value} (hr:RepL w L (es.flatMap LV.cells) xs) (hok:∀ v∈es,v.cells.length=s) (hcap:es.length≤cap) (hsz:cap * s≤es.length * s+rest.length)
  (hk:∀ b,K (.app b cap s es) [(b,.row (es.length * s))]) :
  Left C w L [] (World.push w (.cells (xs++rest).toArray t)) (.slice (some ⟨w.heap.size,0,none⟩) es.length cap) K:=by
 have hl:xs.length=es.length * s:=by rw[hr.length,flat_length hok]
 have hx:=ext_push hH.wf (.cells (xs++rest).toArray t) (es.length * s)
 have:=fr_push hH (.cells (xs++rest).toArray t) (es.length * s) [(w.heap.size,.row (es.length * s))] (fun p hp=>by
  simp only[List.mem_singleton] at hp
  subst hp
  exact ⟨rfl,by simp[Live.upd],_,t,(0,0),heap_push_self,by simp only[List.size_toArray,zLa,hl];omega,Nat.zero_le _⟩) (by simp)
 refine ⟨.app w.heap.size cap s es,_,_,this.1,this.2,?_,hk _⟩
 simp only[Rep]
 refine ⟨trivial,hcap,?_,t,_,by simp only[World.shape?,World.push];rw[heap_push_self],by simp only[List.size_toArray,zLa,hl];exact hsz⟩
 refine RepRows.ofC hok (RepC.of_cells (hr.mono hx _ _) (by simp[Live.upd,hl]) fun j x hj=>?_)
 have hb:(World.push w (.cells (xs++rest).toArray t)).heap[w.heap.size]? = some (.cells (xs++rest).toArray t (0,0)):=heap_push_self
 simp only[World.cell?,hb]
 simp only[Option.isSome_none,Bool.false_eq_true,if_false,Nat.zero_add,List.getElem?_toArray]
 rw[List.getElem?_append_left (List.getElem?_eq_some_iff.1 hj).1]
 exact hj
theorem slice_cells {w:World} {L:Live} {lv:LV} {v:Value} {es:List LV} {s:Nat} (h:Rep w L lv v) (he:elems lv=some es) (hs:∀ v∈es,v.cells.length=s) :
  ∃ a cap xs,v=.slice a es.length cap∧es.length≤cap∧RepL w L (es.flatMap LV.cells) xs∧xs.length=es.length * s ∧
   ∀ (P:Program) (w':World),w'.heap=w.heap→(Builtin.firstCells s es.length v).run P w'=.ok xs.toArray w':=by
 obtain ⟨a,cap,rfl,hc,hr⟩:=h.elems he
 by_cases hne:es=[]
 ·subst hne
  refine ⟨a,cap,[],rfl,hc,by simp[RepL],by simp,fun P w' _=>?_⟩
  cases a <;> simp[Builtin.firstCells,loadCells,loadCellsFrom]
 ·obtain ⟨b,off,k,rfl,hrr⟩:=hr hne
  have hk:k=s:=by
   obtain ⟨e0,rest,he⟩:=List.exists_cons_of_ne_nil hne
   subst he
   exact hrr.cell.1.symm.trans (hs e0 (by simp))
  subst hk
  obtain ⟨xs,h1,h2⟩:=hrr.toC.values
  have hl:xs.length=es.length * k:=by rw[h1.length,flat_length hs]
  refine ⟨_,cap,xs,rfl,hc,h1,hl,fun P w' hw=>?_⟩
  have:=loadCellsFrom_run (P:=P) (w:=w') (b:=b) (off:=off) (es.length * k) 0 #[] xs hl (fun j x hj=>by
   have:=(h2 j x hj).2
   simp only[World.cell?] at this ⊢
   rw[hw]
   simpa using this)
  simp only[Builtin.firstCells,loadCells,this]
  simp
theorem LStep.appendNil {sT xT el s bytes:Nat} [ht:TSlice C.P sT el s] [hr:TRow C.P el s bytes] {ats:Array TypeId} (hats:ats=#[sT,xT]) (hxT:∃ e2,C.P.underlying xT=some (.slice e2)) {ms:List LV}
  (hx:e.ev x=nilSlice) (hy:elems (e.ev y)=some ms) (hne:ms≠[]) (hs:∀ v∈ms,v.cells.length=s) (hroom:ms.length * bytes≤140737488355328)
  (hk:∀ b cap,K (.app b cap s ms) [(b,.row (ms.length * s))]) :
  LStep C ⟨dst,.call { callee:=.builtin .append,args:=#[x,y],argTypes:=ats },ty,pos,aft,g⟩ e [] K X:=fun ρ w L h hH=>by
 subst hats
 obtain ⟨a,cap,xs,hv,hc,h1,h2,h3⟩:=slice_cells (h y) hy hs
 have h0:∀ (cs:Array Bool) (args:Array Value),builtin .append #[sT,xT] ty cs args=(do Pure.pure (.value (←Builtin.append_ #[sT,xT] ty args))):=fun _ _=>rfl
 have hpos:0<ms.length:=List.length_pos_iff.2 hne
 obtain ⟨cap',rest,r1,r2,r3⟩:=run_append_new (ty:=ty) (P:=C.P) (w:=w) (sT:=sT) (xT:=xT) (a:=none) (len:=0) (cap:=0) (n:=ms.length) (xv:=ρ y) (old:=[]) (new:=xs) (.inr hxT) (fun w'=>by rw[hv];try rfl) (fun w' hw=>h3 C.P w' hw)
  (fun w' _=>by simp[Builtin.firstCells]) (by simpa using hroom) (by omega)
 rw[execOp_builtin',h0]
 simp only[List.map_toArray,zMc,List.map_nil,Sem.run_bind,atom_of h hx,r3,Result.andThen_ok,Sem.run_pure,List.nil_append,Nat.zero_add]
 obtain ⟨lv,H',L',g1,g2,g3,g4⟩:=left_newRowC (K:=K) (t:=el) (cap:=cap') (rest:=rest) hH.drew (h1.mono (ext_drew w L) _ _) hs (by omega) (by
  rw[r2,←Nat.add_mul]
  exact Nat.mul_le_mul_right _ (by omega)) (fun b=>hk b cap')
 exact ⟨lv,H',L',g1.of_drew,g2,g3,g4⟩
theorem RepRows.append {w:World} {L:Live} {b k:Nat}:∀ {avs bs:List LV} {off:Nat},RepRows w L b k off avs→RepRows w L b k (off+avs.length * k) bs→RepRows w L b k off (avs++bs)
 |[],_,_,_,h=>by simpa using h
 |a::avs,bs,off,h1,h2=>by
  rw[List.cons_append]
  refine RepRows.cons h1.cell.1 h1.cell.2 (RepRows.append h1.tail ?_)
  simpa [Nat.add_mul,Nat.add_assoc,Nat.add_comm,Nat.add_left_comm] using h2
theorem left_grow {w w':World} {L:Live} {b n m s cap:Nat} {es ms:List LV} {xs:Array Value} {t:TypeId} {fr:Nat×Nat} {news:List Value} (hH:RelH C w L [(b,.row n)]) (hn:n=es.length * s) (hm:m=ms.length * s)
  (hb:w.heap[b]? = some (.cells xs t fr)) (hsz:cap * s≤xs.size) (hcap:es.length+ms.length≤cap) (hrow:RepRows w L b s 0 es) (hs:∀ v∈ms,v.cells.length=s) (hnews:RepL w L (ms.flatMap LV.cells) news)
  (h1:w'.os=w.os) (h2:w'.tape=w.tape) (h3:w'.output=w.output) (h4:w'.heap.size=w.heap.size) (h5:∀ c,c≠b→w'.heap[c]? = w.heap[c]?)
  (h6:w'.heap[b]? = some (.cells (xs.toList.take n++news++xs.toList.drop (n+news.length)).toArray t fr)) (hk:K (.app b cap s (es++ms)) [(b,.row ((es++ms).length * s))]) :
  Left C w L [(b,.row n)] w' (.slice (some ⟨b,0,none⟩) (es.length+ms.length) cap) K:=by
 obtain ⟨hb0,hbs,hl,xs2,t2,fr2,hx1,hx2,hx3⟩:=hH.objs _ (List.mem_singleton.2 rfl)
 simp only at hb0 hbs hl hx1 hx2 hx3
 rw[hb] at hx1
 simp only[Option.some.injEq,Obj.cells.injEq] at hx1
 obtain ⟨rfl,rfl,rfl⟩:=hx1
 have hnl:news.length=m:=by rw[hnews.length,flat_length hs,hm]
 have htot:n+m≤cap * s:=by rw[hn,hm,←Nat.add_mul];exact Nat.mul_le_mul_right _ hcap
 have hsize:(xs.toList.take n++news++xs.toList.drop (n+news.length)).toArray.size=xs.size:=by simp[hnl];omega
 have hx:Ext w L w' (L.upd b (n+m)):=by
  refine ⟨by rw[h4];exact zNr _,fun c hc=>?_,fun c i hi=>?_,fun c=>?_⟩
  ·by_cases he:c=b
   ·subst he;simp only[World.shape?,hb,h6,hsize]
   ·exact shape_of_heap (h5 c he)
  ·by_cases he:c=b
   ·subst he
    rw[hl] at hi
    simp only[World.cell?,hb,h6,Option.isSome_none,Bool.false_eq_true,if_false,List.getElem?_toArray]
    rw[zAs,List.getElem?_append_left (by simp;omega),List.getElem?_take,if_pos hi]
    simp
   ·exact cell_of_heap (h5 c he) i
  ·unfold Live.upd
   split
   ·rename_i h;subst h;omega
   ·exact zNr _
 have htl:(es++ms).length * s=n+m:=by rw[zLa,Nat.add_mul,←hn,←hm]
 refine ⟨.app b cap s (es++ms),[(b,.row ((es++ms).length * s))],L.upd b (n+m),⟨h1,h2,h3,hx,fun c hc hn=>h5 c (by simpa using hn),fun c hc hn=>?_,fun p hp=>.inl (by simp only[List.mem_singleton] at hp;subst hp;simp)⟩,
  ⟨?_,trivial,by rw[h4];exact hH.b0,fun c hc=>?_,by simp,fun p hp=>?_⟩,?_,hk⟩
 ·have hne:c≠b:=by simpa using hn
  simp only[Live.upd,if_neg hne]
 ·exact hH.base.trans ⟨h1,h2,h3,by rw[h4];exact zNr _,fun c hc=>h5 c (by omega)⟩
 ·rw[h4] at hc
  have hne:c≠b:=by omega
  simp only[Live.upd,if_neg hne]
  exact hH.wf c hc
 ·simp only[List.mem_singleton] at hp
  subst hp
  refine ⟨hb0,by rw[h4];exact hbs,by simp only[Live.upd,if_true];exact htl.symm,_,t,fr,h6,by rw[hsize,htl];omega,by omega⟩
 ·simp only[Rep]
  refine ⟨by simp,by simp;exact hcap,RepRows.append (hrow.mono hx _ _ _ _) (RepRows.ofC hs (RepC.of_cells (hnews.mono hx _ _) ?_ fun j x hj=>?_)),t,_,by simp only[World.shape?,h6];rfl,by rw[hsize];exact hsz⟩
  ·simp[Live.upd,←hn,hnl]
  ·have hjl:=(List.getElem?_eq_some_iff.1 hj).1
   simp only[World.cell?,h6,Option.isSome_none,Bool.false_eq_true,if_false,List.getElem?_toArray,Nat.zero_add,←hn]
   rw[zAs,List.getElem?_append_right (by simp;omega),List.getElem?_append_left (by simp;omega)]
   simp
   rw[show n+j-min n xs.size=j by omega]
   exact hj
theorem left_append {w:World} {L:Live} {sT xT el s bytes:Nat} [ht:TSlice C.P sT el s] [hr:TRow C.P el s bytes] (hxT:C.P.underlying xT=some .string∨∃ e2,C.P.underlying xT=some (.slice e2)) {b cap:Nat} {es ms:List LV} {xv:Value} {new:List Value}
  (hH:RelH C w L [(b,.row (es.length * s))]) (hsv:Rep w L (.app b cap s es) (.slice (some ⟨b,0,none⟩) es.length cap)) (hlen:∀ w':World,(Builtin.lenOf xv).run C.P w'=.ok ms.length w')
  (hnew:∀ w':World,w'.heap=w.heap→(Builtin.firstCells s ms.length xv).run C.P w'=.ok new.toArray w') (hrep:RepL w L (ms.flatMap LV.cells) new) (hs:∀ v∈ms,v.cells.length=s)
  (hflat:∀ v∈new,(∀ cs,v≠.agg cs)∧(∀ cs,v≠.tuple cs)) (hroom:(es.length+ms.length) * bytes≤140737488355328)
  (hk:∀ b' cap',K (.app b' cap' s (es++ms)) [(b',.row ((es++ms).length * s))]) :
  ∃ v w',(Builtin.append_ #[sT,xT] ty #[.slice (some ⟨b,0,none⟩) es.length cap,xv]).run C.P w=.ok v w'∧Left C w L [(b,.row (es.length * s))] w' v K:=by
 have hsv':=hsv
 simp only[Rep] at hsv
 obtain ⟨_,hcl,hrow,te,ts,hshape,hcs⟩:=hsv
 obtain ⟨hb0,hbs,hl,xs,t,fr,hx1,hx2,hx3⟩:=hH.objs _ (List.mem_singleton.2 rfl)
 simp only at hb0 hbs hl hx1 hx2 hx3
 simp only[World.shape?,hx1,Option.some.injEq,Prod.mk.injEq] at hshape
 obtain ⟨rfl,rfl⟩:=hshape
 have hnl:new.length=ms.length * s:=by rw[hrep.length,flat_length hs]
 by_cases hc:es.length+ms.length≤cap
 ·have hrun:=run_append_in (ty:=ty) (P:=C.P) (w:=w) (sT:=sT) (xT:=xT) (a:=some ⟨b,0,none⟩) (len:=es.length) (cap:=cap) hxT hlen hnew hc
  have htot:es.length * s+ms.length * s≤cap * s:=by rw[←Nat.add_mul];exact Nat.mul_le_mul_right _ hc
  obtain ⟨w',r1,r2,r3,r4,r5,r6,r7⟩:=storeCells_run (P:=C.P) (b:=b) (off:=0+es.length * s) (t:=t) (fr:=fr) new 0 w xs.toList (by simpa using hx1) (by simp;omega) (fun j h1 h2 h3=>by omega) hflat
  refine ⟨_,w',?_,left_grow (cap:=cap) (news:=new) (xs:=xs) hH rfl rfl hx1 hcs hc hrow hs hrep r2 r3 r4 r5 r6 (by simpa using r7) (hk b cap)⟩
  rw[hrun]
  simp only[add_mk,r1,Result.andThen_ok]
 ·obtain ⟨a2,cap2,old,hv,hc2,h1,h2,h3⟩:=slice_cells hsv' (es:=es) (s:=s) rfl hrow.sizes
  simp only[Value.slice.injEq] at hv
  obtain ⟨rfl,_,rfl⟩:=hv
  obtain ⟨cap',rest,r1,r2,r3⟩:=run_append_new (ty:=ty) (P:=C.P) (w:=w) (sT:=sT) (xT:=xT) (a:=some ⟨b,0,none⟩) (len:=es.length) (cap:=cap) hxT hlen hnew (fun w' hw=>h3 C.P w' hw) hroom (by omega)
  refine ⟨_,_,r3,?_⟩
  have hH0:RelH C w L []:=hH.sub (List.nil_sublist _)
  obtain ⟨lv,H',L',g1,g2,g3,g4⟩:=left_newRowC (K:=K) (t:=el) (s:=s) (cap:=cap') (es:=es++ms) (rest:=rest) hH0.drew (by
    rw[List.flatMap_append]
    exact (h1.append hrep).mono (ext_drew w L) _ _) (fun v hv=>by
    rcases List.mem_append.1 hv with hv|hv
    ·exact hrow.sizes v hv
    ·exact hs v hv) (by simp;omega) (by
    rw[r2,←Nat.add_mul,zLa]
    exact Nat.mul_le_mul_right _ (by omega)) (fun b'=>hk b' cap')
  rw[zLa] at g3
  exact ⟨lv,H',L',g1.of_drew.wide (by simp),g2,g3,g4⟩
theorem LStep.appendApp {sT xT el s bytes:Nat} [ht:TSlice C.P sT el s] [hr:TRow C.P el s bytes] {ats:Array TypeId} (hats:ats=#[sT,xT]) (hxT:∃ e2,C.P.underlying xT=some (.slice e2)) {b cap n:Nat} {es ms:List LV}
  (hx:e.ev x=.app b cap s es) (hn:n=es.length * s) (hy:elems (e.ev y)=some ms) (hs:∀ v∈ms,v.cells.length=s) (hok:(ms.flatMap LV.cells).all cellOk=true) (hroom:(es.length+ms.length) * bytes≤140737488355328)
  (hk:∀ b' cap',K (.app b' cap' s (es++ms)) [(b',.row ((es++ms).length * s))]) :
  LStep C ⟨dst,.call { callee:=.builtin .append,args:=#[x,y],argTypes:=ats },ty,pos,aft,g⟩ e [(b,.row n)] K X:=fun ρ w L h hH=>by
 subst hats hn
 obtain ⟨a,cap2,xs,hv,hc,h1,h2,h3⟩:=slice_cells (h y) hy hs
 have hsv:=h x
 rw[hx] at hsv
 have hxv:ρ x=.slice (some ⟨b,0,none⟩) es.length cap:=by
  have h':=hsv
  simp only[Rep] at h'
  exact h'.1
 rw[hxv] at hsv
 have h0:∀ (cs:Array Bool) (args:Array Value),builtin .append #[sT,xT] ty cs args=(do Pure.pure (.value (←Builtin.append_ #[sT,xT] ty args))):=fun _ _=>rfl
 obtain ⟨v,w',r1,r2⟩:=left_append (ty:=ty) (K:=K) (sT:=sT) (xT:=xT) (.inr hxT) hH hsv (xv:=ρ y) (ms:=ms) (fun w'=>by rw[hv];try rfl) (fun w' hw=>h3 C.P w' hw) h1 hs (repL_all h1 hok) hroom hk
 rw[execOp_builtin',h0]
 simp only[List.map_toArray,zMc,List.map_nil,Sem.run_bind,hxv,r1,Result.andThen_ok,Sem.run_pure]
 exact r2
theorem LStep.appendNilNil {sT xT el s:Nat} [ht:TSlice C.P sT el s] {ats:Array TypeId} (hats:ats=#[sT,xT]) (hxT:∃ e2,C.P.underlying xT=some (.slice e2)) (hx:e.ev x=nilSlice) (hy:elems (e.ev y)=some []) (hk:K nilSlice H) :
  LStep C ⟨dst,.call { callee:=.builtin .append,args:=#[x,y],argTypes:=ats },ty,pos,aft,g⟩ e H K X:=fun ρ w L h hH=>by
 subst hats
 obtain ⟨a,cap,hv,_⟩:=(h y).elems hy
 obtain ⟨i,hi,his⟩:=ht.size
 obtain ⟨e2,hxT⟩:=hxT
 have h0:∀ (cs:Array Bool) (args:Array Value),builtin .append #[sT,xT] ty cs args=(do Pure.pure (.value (←Builtin.append_ #[sT,xT] ty args))):=fun _ _=>rfl
 have hr:(Builtin.append_ #[sT,xT] ty #[.slice none 0 0,.slice a 0 cap]).run C.P w=.ok (.slice none 0 0) w:=by
  cases a <;> simp[Builtin.append_,run_underlying' ht.und,run_underlying' hxT,sizeOf,typeInfo,hi,Builtin.lenOf,Builtin.firstCells,loadCells,loadCellsFrom]
 rw[execOp_builtin',h0]
 simp only[List.map_toArray,zMc,List.map_nil,Sem.run_bind,atom_of h hx,hv,zLn,hr,Result.andThen_ok,Sem.run_pure]
 exact ⟨_,H,L,Fr.refl _ _ _,hH,rep_atom,hk⟩
end steps
end Go.GL
namespace Go.GL
open Go.RowKit
class TMixed (P:Program):Prop where
 out:P.follows .mixedOrders=true
def QC (C:Ctx) (w:World) (L:Live) (w':World):Prop:=∃ L',Fr (keys []) w L w' L' []∧RelH C w' L' []
theorem QC.agree {C:Ctx} {w w':World} {L:Live} {H:Heap} (h:QC C w L w') (hH:RelH C w L H):Agree w L H w':=
 let ⟨_,f,_⟩:=h
 ⟨fun p hp=>f.block p.1 (hH.objs p hp).2.1 (by simp),f.ext.live⟩
theorem RelH.empty {C:Ctx} {w:World} {L:Live} {H:Heap} (h:RelH C w L H):RelH C w L []:=h.sub (List.nil_sublist _)
def LQ (C:Ctx) (n:Nat) (ops:Array Oper) (K:Env→Prop) (rest:List Oper) (e:Env) (H:Heap):Prop:=
 ∀ a w L,RelE n a e w L→RelH C w L H→wpQuiet C.P ops (QC C w L) (fun a'=>∃ e',RelE n a' e' w L∧K e') rest a
section quiet
variable {C:Ctx} {n:Nat} {ops:Array Oper} {K:Env→Prop} {e:Env} {H:Heap} {dst:Option Nat} {op:Op} {ty:TypeId} {pos:String} {aft:Array Edge} {rest:List Oper}
theorem LQ.nil (h:K e):LQ C n ops K [] e H:=fun _ _ _ hE _=>⟨e,hE,h⟩
theorem wpQuiet_one {P:Program} {C:World→Prop} {Q:Act→Prop} {a:Act} {o:Oper} (hg:Region.wanted o (yielded ops a.tmps)=true) {v:Value} (h:∀ w',C w'→o.quietAt P a C w' v) (k:wpQuiet P ops C Q rest (a.put o.dst v)):wpQuiet P ops C Q (o::rest) a:=by
 unfold wpQuiet
 rw[if_pos hg]
 exact ⟨v,h,k⟩
theorem qP {lv:LV} (h:Pure C ⟨dst,op,ty,pos,aft,none⟩ e H lv) (hd:dstOk n dst) (k:LQ C n ops K rest (e.put dst lv) H):LQ C n ops K (⟨dst,op,ty,pos,aft,none⟩::rest) e H:=fun a w L hE hH=>by
 obtain ⟨v,hv,hr⟩:=h a.eval w L hE.ev hH
 refine wpQuiet_one (by simp[Region.wanted]) (v:=v) (fun w' hw'=>?_) (k _ w L (hE.put hd hv) hH)
 unfold Oper.quietAt
 rw[hr w' (hw'.agree hH)]
 exact ⟨rfl,rfl⟩
theorem LQ.want {j d:Nat} {b:Bool} (hj:(ops[j]?).bind (·.dst)=some d) (hb:e.s d=.atom (.bool b))
  (k:LQ C n ops K (⟨dst,op,ty,pos,aft,none⟩::rest) e H):LQ C n ops K (⟨dst,op,ty,pos,aft,some (j,b)⟩::rest) e H:=fun a w L hE hH=>by
 have:=k a w L hE hH
 unfold wpQuiet at this ⊢
 rw[if_pos (by simp[Region.wanted])] at this
 rw[if_pos (by simp[Region.wanted,yielded_env hE hj hb])]
 exact this
theorem LQ.skip {j d:Nat} {b c:Bool} (hj:(ops[j]?).bind (·.dst)=some d) (hb:e.s d=.atom (.bool b)) (hne:b=!c) (hd:dstOk n dst)
  (k:LQ C n ops K rest (e.put dst (.atom undef)) H):LQ C n ops K (⟨dst,op,ty,pos,aft,some (j,c)⟩::rest) e H:=fun a w L hE hH=>by
 unfold wpQuiet
 rw[if_neg (by subst hne;cases c <;> simp[Region.wanted,yielded_env hE hj hb])]
 exact k _ w L (hE.put hd rep_atom) hH
theorem LCode.quiet [hm:TMixed C.P] {id:Nat} {l:List Oper} {Q:Post} (hB:Region.lexB .any l.toArray=true) (h:LQ C n l.toArray (fun e'=>Q .normal e' H) l e H):LCode C n (.region id l.toArray true) Q e H:=fun a w L hE hH=>by
 refine wp_region_quiet (C:=QC C w L) hm.out hB ⟨L,⟨rfl,rfl,rfl,ext_drew w L,fun _ _ _=>rfl,fun _ _ _=>rfl,by simp⟩,hH.empty.drew⟩ ?_
 have hq:∀ a' w',QC C w L w'→(∃ e',RelE n a' e' w L∧Q .normal e' H)→lift C n w L (keys H) Q .normal a' w':=by
  rintro a' w' ⟨L',f1,f2⟩ ⟨e',h1,h2⟩
  have:=RelH.frame (H:=[]) (F:=H) (by simpa using hH) f1 f2
  exact ⟨e',H,L',by simpa using this.2,by simpa using this.1,h1.mono f1.ext,h2⟩
 have mono:∀ (l2:List Oper) (a:Act),wpQuiet C.P l.toArray (QC C w L) (fun a'=>∃ e',RelE n a' e' w L∧Q .normal e' H) l2 a→wpQuiet C.P l.toArray (QC C w L) (fun a'=>∀ w',QC C w L w'→lift C n w L (keys H) Q .normal a' w') l2 a:=by
  intro l2
  induction l2 with
  |nil=>exact fun a h w' hw'=>hq a w' hw' h
  |cons o l2 ih=>
   intro a h
   unfold wpQuiet at h ⊢
   split at h
   ·rename_i hw;rw[if_pos hw];exact Oper.quiet_mono ih h
   ·rename_i hw;rw[if_neg hw];exact ih _ h
 exact mono _ a (by simpa using h a w L hE hH)
end quiet
/-! ### Any order: what only computes or reads HF may be taken first -/
def LAny (C:Ctx) (n:Nat) (ops:Array Oper) (Q:Post) (HF:Heap) (fuel:Nat) (listed:Array Bool) (e:Env) (H:Heap):Prop:=
 ∀ a w L,RelE n a e w L→RelH C w L H→wpAnyH C.P .any ops (lift C n w L (keys H) Q) (Agree w L HF) fuel listed a w
def LLate (C:Ctx) (n:Nat) (ops:Array Oper) (Q:Post) (HF:Heap) (fuel:Nat) (listed:Array Bool) (e:Env) (H:Heap):Prop:=
 ∀ w0 L0 a w L,(∀ b,L0 b≤L b)→Agree w0 L0 HF w→(∀ p∈HF,p.1<w.heap.size)→RelE n a e w L→RelH C w L H→wpAnyH C.P .any ops (lift C n w L (keys H) Q) (Agree w0 L0 HF) fuel listed a w
theorem Agree.refl (w:World) (L:Live) (H:Heap):Agree w L H w:=⟨fun _ _=>rfl,fun _ _ _=>rfl⟩
theorem HSub.mem {H' H:Heap} (h:HSub H' H):∀ p∈H',p∈H:=fun _ hp=>
 let ⟨_,hG⟩:=h
 hG.mem_iff.2 (List.mem_append_left _ hp)
theorem wpAnyH_mono {P:Program} {md:Region.Mode} {ops:Array Oper} {Q Q':Exit→Act→World→Prop} {S:World→Prop} (h:∀ e a w,Q e a w→Q' e a w):∀ (fuel:Nat) (listed:Array Bool) (a:Act) (w:World),
  wpAnyH P md ops Q S fuel listed a w→wpAnyH P md ops Q' S fuel listed a w
 |0,_,_,_,k=>⟨k.1,h _ _ _ k.2⟩
 |fuel+1,listed,a,w,k=>by
  refine ⟨fun h0=>h _ _ _ (k.1 h0),fun i hi=>?_⟩
  have ki:=k.2 i hi
  unfold wpOp at ki ⊢
  split at ki
  ·exact ⟨ki.1,wpAnyH_mono h fuel _ _ _ ki.2⟩
  ·split at ki
   ·rename_i hw
    rw[if_pos hw]
    rcases ki with ki|⟨k1,a0,w0,k2⟩
    ·refine .inl ?_
     unfold Oper.wp at ki ⊢
     generalize (execOp _ _).run P w=r at ki ⊢
     cases r with
     |ok x w'=>
      cases x <;> simp only[Oper.upon] at ki ⊢ <;> first
       |exact ⟨ki.1,wpAnyH_mono h fuel _ _ _ ki.2⟩
       |(refine Calls.mono ki fun e w'' he=>?_;cases e with
         |returned v=>exact ⟨he.1,wpAnyH_mono h fuel _ _ _ he.2⟩
         |panicked ch=>exact h _ _ _ he
         |outgrown=>obtain ⟨a0,w0,he⟩:=he;exact ⟨a0,w0,h _ _ _ he⟩)
       |exact Rows.mono ki fun _ _ he=>⟨he.1,wpAnyH_mono h fuel _ _ _ he.2⟩
     |halt x w'=>cases x <;> simp only[Oper.upon] at ki ⊢ <;> exact h _ _ _ ki
    ·exact .inr ⟨k1,a0,w0,h _ _ _ k2⟩
   ·rename_i hw
    rw[if_neg hw]
    exact ⟨ki.1,wpAnyH_mono h fuel _ _ _ ki.2⟩
section any
variable {C:Ctx} {n:Nat} {ops:Array Oper} {Q:Post} {HF:Heap} {fuel:Nat} {listed:Array Bool} {e:Env} {H:Heap}
theorem lift_put {w:World} {L:Live} {K:List Nat} (dst:Option Nat) (v:Value):∀ c a w',lift C n w L K Q (.panic c) (a.put dst v) w'→lift C n w L K Q (.panic c) a w':=by
 rintro c a w' ⟨e',H',L',h1,h2,h3,h4⟩
 refine ⟨e',H',L',h1,h2,?_,h4⟩
 cases dst <;> exact h3
theorem wp_take {i:Nat} {dst:Option Nat} {op:Op} {ty:TypeId} {pos:String} {aft:Array Edge} {g:Option (Nat×Bool)} {lv:LV} {a:Act} {w:World} {L:Live} (hE:RelE n a e w L) (hH:RelH C w L H) (hHF:HSub HF H)
  (hi:ops[i]? = some ⟨dst,op,ty,pos,aft,g⟩) (hs:Region.noSelect ops=true) (hf:Region.free .any ops listed i=true) (hr:(Region.ready .any ops listed).contains i=true) (hd:dstOk n dst)
  (hp:Pure C ⟨dst,op,ty,pos,aft,g⟩ e HF lv) (hw:Region.wanted ⟨dst,op,ty,pos,aft,g⟩ (yielded ops a.tmps)=true)
  (k:LAny C n ops Q HF fuel (listed.setIfInBounds i true) (e.put dst lv) H):wpAnyH C.P .any ops (lift C n w L (keys H) Q) (Agree w L HF) (fuel+1) listed a w:=by
 obtain ⟨v,hv,hrun⟩:=hp a.eval w L hE.ev (hH.weak hHF)
 exact wpAnyH_take hi hs hf hr (lift_put _ _) (.inl ⟨hw,hrun⟩) (Agree.refl _ _ _) (k _ w L (hE.put hd hv) hH)
theorem LAny.take {i:Nat} {dst:Option Nat} {op:Op} {ty:TypeId} {pos:String} {aft:Array Edge} {lv:LV} (hHF:HSub HF H)
  (hi:ops[i]? = some ⟨dst,op,ty,pos,aft,none⟩) (hs:Region.noSelect ops=true) (hf:Region.free .any ops listed i=true) (hr:(Region.ready .any ops listed).contains i=true) (hd:dstOk n dst)
  (hp:Pure C ⟨dst,op,ty,pos,aft,none⟩ e HF lv) (k:LAny C n ops Q HF fuel (listed.setIfInBounds i true) (e.put dst lv) H):LAny C n ops Q HF (fuel+1) listed e H:=fun _ _ _ hE hH=>
 wp_take hE hH hHF hi hs hf hr hd hp (by simp[Region.wanted]) k
theorem LAny.takeWant {i j d:Nat} {b:Bool} {dst:Option Nat} {op:Op} {ty:TypeId} {pos:String} {aft:Array Edge} {lv:LV} (hHF:HSub HF H)
  (hi:ops[i]? = some ⟨dst,op,ty,pos,aft,some (j,b)⟩) (hj:(ops[j]?).bind (·.dst)=some d) (hb:e.s d=.atom (.bool b)) (hs:Region.noSelect ops=true) (hf:Region.free .any ops listed i=true) (hr:(Region.ready .any ops listed).contains i=true) (hd:dstOk n dst)
  (hp:Pure C ⟨dst,op,ty,pos,aft,some (j,b)⟩ e HF lv) (k:LAny C n ops Q HF fuel (listed.setIfInBounds i true) (e.put dst lv) H):LAny C n ops Q HF (fuel+1) listed e H:=fun _ _ _ hE hH=>
 wp_take hE hH hHF hi hs hf hr hd hp (by simp[Region.wanted,yielded_env hE hj hb]) k
theorem LAny.takeSkip {i j d:Nat} {b c:Bool} {dst:Option Nat} {op:Op} {ty:TypeId} {pos:String} {aft:Array Edge}
  (hi:ops[i]? = some ⟨dst,op,ty,pos,aft,some (j,c)⟩) (hj:(ops[j]?).bind (·.dst)=some d) (hb:e.s d=.atom (.bool b)) (hne:b=!c) (hs:Region.noSelect ops=true) (hf:Region.free .any ops listed i=true) (hr:(Region.ready .any ops listed).contains i=true) (hd:dstOk n dst)
  (k:LAny C n ops Q HF fuel (listed.setIfInBounds i true) (e.put dst (.atom undef)) H):LAny C n ops Q HF (fuel+1) listed e H:=fun a w L hE hH=>
 wpAnyH_take hi hs hf hr (lift_put _ _) (.inr ⟨by subst hne;cases c <;> simp[Region.wanted,yielded_env hE hj hb],rfl⟩) (Agree.refl _ _ _) (k _ w L (hE.put hd rep_atom) hH)
theorem aL (h:LLate C n ops Q HF fuel listed e H) (hHF:HSub HF H):LAny C n ops Q HF fuel listed e H:=fun a w L hE hH=>
 h w L a w L (fun _=>zNr _) (Agree.refl _ _ _) (fun p hp=>(hH.objs p (hHF.mem p hp)).2.1) hE hH
theorem lD (hr:Region.ready .any ops listed=[]) (h:Q .normal e H):LLate C n ops Q HF fuel listed e H:=fun _ _ _ _ L _ _ _ hE hH=>
 wpAnyH_done hr ⟨e,H,L,Fr.refl _ _ _,hH,hE,h⟩ fuel
theorem cD [hm:TMixed C.P] {id:Nat} {l:List Oper} {m:Nat} (hl:m=l.length) (HF:Heap) (h:LAny C n l.toArray Q HF m (Array.replicate m false) e H):LCode C n (.region id l.toArray true) Q e H:=fun a w L hE hH=>by
 subst hl
 have:=h a w.drew L (hE.mono (ext_drew w L)) hH.drew
 refine wp_region_held (S:=Agree w.drew L HF) hm.out ?_
 refine wpAnyH_mono (fun x a' w' hq=>?_) _ _ _ _ (by simpa using this)
 obtain ⟨e',H',L',h1,h2,h3,h4⟩:=hq
 exact ⟨e',H',L',h1.of_drew,h2,h3,h4⟩
end any
end Go.GL
namespace Go.GL
open Go.RowKit
section pure
variable {C:Ctx} {e:Env} {H:Heap} {dst:Option Nat} {ty:TypeId} {pos:String} {aft:Array Edge} {g:Option (Nat×Bool)} {x y c a b:Operand} {xT:TypeId} {k:IntKind} {lv:LV}
theorem pM (hx:e.ev x=lv):Pure C ⟨dst,.move x,ty,pos,aft,g⟩ e H lv:=hx▸Pure.move
theorem pA (hx:e.ev x=lv):Pure C ⟨dst,.assign x,ty,pos,aft,g⟩ e H lv:=hx▸Pure.assign
theorem Pure.pickT (hc:e.ev c=bool true) (ha:e.ev a=lv):Pure C ⟨dst,.pick c a b,ty,pos,aft,g⟩ e H lv:=by
 have:=Pure.pick (C:=C) (H:=H) (dst:=dst) (ty:=ty) (pos:=pos) (aft:=aft) (g:=g) (a:=a) (b:=b) hc
 simp only[if_true] at this
 exact ha▸this
theorem Pure.pickF (hc:e.ev c=bool false) (hb:e.ev b=lv):Pure C ⟨dst,.pick c a b,ty,pos,aft,g⟩ e H lv:=by
 have:=Pure.pick (C:=C) (H:=H) (dst:=dst) (ty:=ty) (pos:=pos) (aft:=aft) (g:=g) (a:=a) (b:=b) hc
 simp only[Bool.false_eq_true,if_false] at this
 exact hb▸this
theorem pR {t n:Nat} [TAgg C.P t n] {cs cs':List LV} (hx:e.ev x=.ref cs) (hn:Nat.ble n cs.length=true) (hc:cs.take n=cs'):Pure C ⟨dst,.load t x,ty,pos,aft,g⟩ e H (.agg cs'):=by
 subst hc;exact Pure.loadRefAgg hx (by simpa using hn)
theorem pG {t n:Nat} [TAgg C.P t n] {b off ty':Nat} {cs cs':List LV} (hx:e.ev x=ptr b off) (hm:(b,LObj.cells ty' cs)∈H) (hn:Nat.ble (off+n) cs.length=true) (hc:(cs.drop off).take n=cs') :
  Pure C ⟨dst,.load t x,ty,pos,aft,g⟩ e H (.agg cs'):=by
 subst hc;exact Pure.loadHAgg hx hm (by simpa using hn)
theorem xR {t el s:Nat} [ht:TSlice C.P t el s] {es:List LV} {n:Int} {el':LV} {cs:List LV} (hx:elems (e.ev x)=some es) (hy:e.ev y=int k n) (h0:0≤n) (hn:es[n.toNat]? = some el') (hc:el'.cells=cs) (hs:cs.length=s) :
  Pure C ⟨dst,.indexAddr t x y,ty,pos,aft,g⟩ e H (.ref cs):=by
 subst hc;exact Pure.indexAddr hx hy h0 hn hs
theorem Pure.field1 {s f n:Nat} [TField C.P s f n] {cs cs':List LV} (hx:e.ev x=.ref cs) (hc:cs.drop n=cs'):Pure C ⟨dst,.fieldAddr s x f,ty,pos,aft,g⟩ e H (.ref cs'):=by
 subst hc;exact Pure.fieldRef hx
theorem pB {t:TypeId} {pl:List (Nat×Nat)} {zs:List Value} [hs:TStruct C.P t pl] [hz:TZero C.P t zs] (parts:List (Nat×Operand)) {cs:List LV}
  (h:fillL pl (zs.map .atom) (parts.map fun p=>(p.1,e.ev p.2))=some cs):Pure C ⟨dst,.build t parts.toArray,ty,pos,aft,g⟩ e H (.agg cs):=Pure.build h
end pure
section steps
variable {C:Ctx} {e:Env} {H H':Heap} {dst:Option Nat} {op:Op} {ty:TypeId} {pos:String} {aft:Array Edge} {g:Option (Nat×Bool)} {x y:Operand} {K K':LV→Heap→Prop} {X:List PanicEntry→Heap→Prop}
theorem LStep.conseq {o:Oper} (h:LStep C o e H K X) (hk:∀ lv H',K lv H'→∃ lv' H'',lv.Sub lv'∧HSub H'' H'∧K' lv' H''):LStep C o e H K' X:=fun ρ w L h1 h2=>by
 have:=h ρ w L h1 h2
 have lf:∀ {w' v},Left C w L H w' v K→Left C w L H w' v K':=fun h=>by
  obtain ⟨lv,H',L',r1,r2,r3,r4⟩:=h
  obtain ⟨lv',H'',s1,s2,s3⟩:=hk _ _ r4
  exact ⟨lv',H'',L',r1.weak s2,r2.weak s2,s1 _ _ _ r3,s3⟩
 unfold StepOut at this ⊢
 split at this
 ·exact lf this
 ·exact lf this
 ·refine ⟨this.1,this.2.mono fun e w' he=>?_⟩
  cases e with
  |returned v=>exact lf he
  |panicked ch=>exact he
  |outgrown=>exact he
 ·exact this
 ·exact this.elim
theorem LStep.at1 {o:Oper} {p:Nat×LObj} {F:Heap} (hp:Pick p H F) (h:LStep C o e [p] (fun lv H'=>K lv (H'++F)) (fun ch H'=>X ch (H'++F))):LStep C o e H K X:=LStep.frame (H:=[p]) hp h
theorem LStep.at0 {o:Oper} (h:LStep C o e [] (fun lv H'=>K lv (H'++H)) (fun ch H'=>X ch (H'++H))):LStep C o e H K X:=LStep.frame (H:=[]) (List.Perm.refl _) h
theorem sA {t:TypeId} {zs:List Value} [hz:TZero C.P t zs] (hk:∀ b,K (ptr b 0) ((b,.cells t (zs.map .atom))::H)):LStep C ⟨dst,.alloc t,ty,pos,aft,g⟩ e H K X:=LStep.at0 (LStep.alloc hk)
theorem sB {t:TypeId} {cs:List LV} (hx:(e.ev x).cells? = some cs) (hk:∀ b,K (ptr b 0) ((b,.cells t cs)::H)):LStep C ⟨dst,.box t x,ty,pos,aft,g⟩ e H K X:=LStep.at0 (LStep.box hx hk)
theorem sL {t el s:Nat} {zs:List Value} [ht:TSlice C.P t el s] [hz:TZero C.P el zs] (xs:List Operand) {es:List LV} (hes:xs.map e.ev=es) (hok:elemsOk s es) {len:Nat} {parts:List (Nat×Operand)} (hp:parts=(List.range xs.length).zip xs) (hlen:len=xs.length)
  (hsz:Nat.ble (len * s) 16777216=true) (hk:K (.list es) H):LStep C ⟨dst,.buildSlice t len parts.toArray,ty,pos,aft,g⟩ e H K X:=by
 subst hes
 refine LStep.at0 (LStep.conseq (K:=fun lv H'=>∃ b,lv=.app b len s (xs.map e.ev)) (LStep.buildSlice hok (by subst hlen;simpa using hsz) hp hlen fun b=>⟨b,rfl⟩) ?_)
 rintro lv H' ⟨b,rfl⟩
 exact ⟨_,[],LV.Sub.app _ _ _ _,HSub.nil _,hk⟩
theorem S.litA {t el s:Nat} {zs:List Value} [ht:TSlice C.P t el s] [hz:TZero C.P el zs] (xs:List Operand) {es:List LV} (hes:xs.map e.ev=es) (hok:elemsOk s es) {len:Nat} {parts:List (Nat×Operand)} (hp:parts=(List.range xs.length).zip xs) (hlen:len=xs.length)
  (hsz:Nat.ble (len * s) 16777216=true) (hk:∀ b,K (.app b len s es) ((b,.row (len * s))::H)):LStep C ⟨dst,.buildSlice t len parts.toArray,ty,pos,aft,g⟩ e H K X:=by
 subst hes
 exact LStep.at0 (LStep.buildSlice hok (by subst hlen;simpa using hsz) hp hlen fun b=>hk b)
theorem sS {t n:Nat} [ht:TSize C.P t n] {b off ty':Nat} {cs vs cs':List LV} {F:Heap} (hx:e.ev x=ptr b off) (hp:Pick (b,.cells ty' cs) H F) (hy:(e.ev y).cells? = some vs) (hn:vs.length=n) (hl:Nat.ble (off+n) cs.length=true) (hok:vs.all cellOk=true)
  (hc:setL cs off vs=cs') (hk:K (.atom undef) ((b,.cells ty' cs')::F)):LStep C ⟨dst,.store t x y,ty,pos,aft,g⟩ e H K X:=by
 subst hc
 exact LStep.at1 hp (LStep.store hx hy hn (by simpa using hl) hok hk)
theorem S.appNil {sT xT el s bytes:Nat} [ht:TSlice C.P sT el s] [hr:TRow C.P el s bytes] {e2 s2:Nat} [hx2:TSlice C.P xT e2 s2] {ms:List LV}
  (hx:e.ev x=nilSlice) (hy:elems (e.ev y)=some ms) (hne:ms≠[]) (hs:∀ v∈ms,v.cells.length=s) (hroom:ms.length * bytes≤140737488355328)
  (hk:∀ b cap,K (.app b cap s ms) ((b,.row (ms.length * s))::H)):LStep C ⟨dst,.call { callee:=.builtin .append,args:=#[x,y],argTypes:=#[sT,xT] },ty,pos,aft,g⟩ e H K X:=
 LStep.at0 (LStep.appendNil rfl ⟨e2,hx2.und⟩ hx hy hne hs hroom fun b cap=>hk b cap)
theorem S.app {sT xT el s bytes:Nat} [ht:TSlice C.P sT el s] [hr:TRow C.P el s bytes] {e2 s2:Nat} [hx2:TSlice C.P xT e2 s2] {b cap n:Nat} {es ms:List LV} {F:Heap}
  (hx:e.ev x=.app b cap s es) (hp:Pick (b,.row n) H F) (hn:n=es.length * s) (hy:elems (e.ev y)=some ms) (hs:∀ v∈ms,v.cells.length=s) (hok:(ms.flatMap LV.cells).all cellOk=true) (hroom:(es.length+ms.length) * bytes≤140737488355328)
  (hk:∀ b' cap',K (.app b' cap' s (es++ms)) ((b',.row ((es++ms).length * s))::F)):LStep C ⟨dst,.call { callee:=.builtin .append,args:=#[x,y],argTypes:=#[sT,xT] },ty,pos,aft,g⟩ e H K X:=
 LStep.at1 hp (LStep.appendApp rfl ⟨e2,hx2.und⟩ hx hn hy hs hok hroom fun b' cap'=>hk b' cap')
theorem S.appNilNil {sT xT el s:Nat} [ht:TSlice C.P sT el s] {e2 s2:Nat} [hx2:TSlice C.P xT e2 s2] (hx:e.ev x=nilSlice) (hy:elems (e.ev y)=some []) (hk:K nilSlice H) :
  LStep C ⟨dst,.call { callee:=.builtin .append,args:=#[x,y],argTypes:=#[sT,xT] },ty,pos,aft,g⟩ e H K X:=LStep.appendNilNil rfl ⟨e2,hx2.und⟩ hx hy hk
inductive Acc (s:Nat):LV→List LV→Heap→Heap→Prop
 |nil {F:Heap}:Acc s nilSlice [] F F
 |row {b cap:Nat} {es:List LV} {F:Heap}:Acc s (.app b cap s es) es ((b,.row (es.length * s))::F) F
theorem Acc.sub {s:Nat} {lv:LV} {es:List LV} {H F:Heap} (h:Acc s lv es H F):lv.Sub (.list es):=by
 cases h with
 |nil=>exact vN
 |row=>exact LV.Sub.app _ _ _ _
theorem Acc.hsub {s:Nat} {lv:LV} {es:List LV} {H F:Heap} (h:Acc s lv es H F):HSub F H:=by
 cases h with
 |nil=>exact zhR _
 |row=>exact zhD (zhR _)
theorem Acc.elems {s:Nat} {lv:LV} {es:List LV} {H F:Heap} (h:Acc s lv es H F):GL.elems lv=some es:=by
 cases h <;> rfl
theorem S.acc {sT xT el s bytes:Nat} [ht:TSlice C.P sT el s] [hr:TRow C.P el s bytes] {e2 s2:Nat} [hx2:TSlice C.P xT e2 s2] {v:LV} {es ms:List LV} {F:Heap}
  (hx:e.ev x=v) (ha:Acc s v es H F) (hy:GL.elems (e.ev y)=some ms) (hs:∀ v∈ms,v.cells.length=s) (hok:(ms.flatMap LV.cells).all cellOk=true) (hroom:(es.length+ms.length) * bytes≤140737488355328)
  (hk:∀ v' H',Acc s v' (es++ms) H' F→K v' H'):LStep C ⟨dst,.call { callee:=.builtin .append,args:=#[x,y],argTypes:=#[sT,xT] },ty,pos,aft,g⟩ e H K X:=by
 cases ha with
 |nil=>
  by_cases hne:ms=[]
  ·subst hne
   exact S.appNilNil hx hy (hk _ _ (by simpa using Acc.nil))
  ·refine S.appNil hx hy hne hs (by simpa using hroom) fun b cap=>hk _ _ ?_
   exact Acc.row
 |row=>exact S.app hx pH rfl hy hs hok hroom fun b' cap'=>hk _ _ Acc.row
theorem S.call0 {f:FuncId} [TEnter C.P f] (args:List Operand) {ats:Array TypeId} {avs:List LV} {R:LRes→Heap→Prop} (has:args.map e.ev=avs)
  (hc:LCalls C f avs [] R) (hk:∀ v H',R (.ret v) H'→K v (H'++H)) (hx:∀ ch H',R (.panic ch) H'→X ch (H'++H)) :
  LStep C ⟨dst,.call { callee:=.value (.func f),args:=args.toArray,argTypes:=ats },ty,pos,aft,g⟩ e H K X:=by
 subst has
 exact LStep.at0 (LStep.call hc hk hx)
theorem S.call1 {f:FuncId} [TEnter C.P f] (args:List Operand) {ats:Array TypeId} {avs:List LV} {R:LRes→Heap→Prop} {p:Nat×LObj} {F:Heap} (has:args.map e.ev=avs) (hp:Pick p H F)
  (hc:LCalls C f avs [p] R) (hk:∀ v H',R (.ret v) H'→K v (H'++F)) (hx:∀ ch H',R (.panic ch) H'→X ch (H'++F)) :
  LStep C ⟨dst,.call { callee:=.value (.func f),args:=args.toArray,argTypes:=ats },ty,pos,aft,g⟩ e H K X:=by
 subst has
 exact LStep.at1 hp (LStep.call hc hk hx)
theorem S.callH {f:FuncId} [TEnter C.P f] (args:List Operand) {ats:Array TypeId} {avs:List LV} {R:LRes→Heap→Prop} {H1 F:Heap} (has:args.map e.ev=avs) (hp:H.Perm (H1++F))
  (hc:LCalls C f avs H1 R) (hk:∀ v H',R (.ret v) H'→K v (H'++F)) (hx:∀ ch H',R (.panic ch) H'→X ch (H'++F)) :
  LStep C ⟨dst,.call { callee:=.value (.func f),args:=args.toArray,argTypes:=ats },ty,pos,aft,g⟩ e H K X:=by
 subst has
 exact LStep.frame hp (LStep.call hc hk hx)
theorem S.callV {fo:Operand} {f:FuncId} [TEnter C.P f] {first caps:Array Value} (args:List Operand) {ats:Array TypeId} {avs:List LV} {R:LRes→Heap→Prop} {H1 F:Heap} (hf:e.ev fo=.atom (.func (.func f) first caps))
  (has:first.toList.map .atom++args.map e.ev++caps.toList.map .atom=avs) (hp:H.Perm (H1++F)) (hc:LCalls C f avs H1 R) (hk:∀ v H',R (.ret v) H'→K v (H'++F)) (hx:∀ ch H',R (.panic ch) H'→X ch (H'++F)) :
  LStep C ⟨dst,.call { callee:=.value fo,args:=args.toArray,argTypes:=ats },ty,pos,aft,g⟩ e H K X:=by
 subst has
 exact LStep.frame hp (LStep.callV hf hc hk hx)
end steps
section ret
variable {C:Ctx} {n:Nat} {e:Env} {H H':Heap} {R:LRes→Heap→Prop}
theorem rN:AllRes C n e H [] []:=trivial
theorem rC {r:ResultVar} {rs:List ResultVar} {v:LV} {vs:List LV} (h:ResIs C n e H r v) (k:AllRes C n e H rs vs):AllRes C n e H (r::rs) (v::vs):=⟨h,k⟩
theorem rR {rs:List ResultVar} {vs:List LV} (hd:e.ds=[]) (h:AllRes C n e H rs vs) (hH:HSub H' H) (hR:R (.ret (resLV vs)) H'):RetPost C n rs R .ret e H:=⟨hd,vs,H',h,hH,hR⟩
theorem rO {rs:List ResultVar} {vs:List LV} (hd:e.ds=[]) (h:AllRes C n e H rs vs) (hH:HSub H' H) (hR:R (.ret (resLV vs)) H'):RetPost C n rs R .normal e H:=⟨hd,vs,H',h,hH,hR⟩
theorem RetPost.panic {rs:List ResultVar} {ch:List PanicEntry} (hd:e.ds=[]) (hH:HSub H' H) (hR:R (.panic ch) H'):RetPost C n rs R (.panic ch) e H:=⟨hd,H',hH,hR⟩
theorem rA {a t k:Nat} [TAgg C.P t k] {b off ty':Nat} {cs:List LV} {lv:LV} (hx:e.s a=ptr b off) (hm:(b,LObj.cells ty' cs)∈H) (hn:Nat.ble (off+k) cs.length=true) (hs:(LV.agg ((cs.drop off).take k)).Sub lv):ResIs C n e H (.cell a t) lv:=fun ac w L hE hH=>by
 obtain ⟨xs,h1,h2⟩:=hH.cells hm
 have hl:=h2.length
 have hn':off+k≤cs.length:=by simpa using hn
 have hv:=hE.vals a
 rw[hx] at hv
 simp only[Rep] at hv
 refine ⟨.agg ((xs.drop off).take k).toArray,?_,hs _ _ _ (by simp only[Rep];exact ⟨_,rfl,(h2.drop off).take k⟩)⟩
 have hlen:((xs.drop off).take k).length=k:=by simp;omega
 simp only[readRes,hv,asAddr,Sem.run_bind,Sem.run_pure,Result.andThen_ok]
 exact loadVar_agg (t:=t) (w:=w) (b:=b) (off:=off) hlen (fun j y hy=>by
  rw[List.getElem?_take] at hy
  split at hy
  ·simpa [World.cell?,h1,List.getElem?_drop] using hy
  ·cases hy)
theorem ResIs.cellOne {a t:Nat} [TOne C.P t] {b off ty':Nat} {c lv:LV} {cs:List LV} (hx:e.s a=ptr b off) (hm:(b,LObj.cells ty' cs)∈H) (hc:cs[off]? = some c) (hs:c.Sub lv):ResIs C n e H (.cell a t) lv:=fun ac w L hE hH=>by
 obtain ⟨xs,h1,h2⟩:=hH.cells hm
 obtain ⟨v,h3,h4⟩:=h2.get hc
 have hv:=hE.vals a
 rw[hx] at hv
 simp only[Rep] at hv
 refine ⟨v,?_,hs _ _ _ h4⟩
 have hc':w.cell? ⟨b,off,none⟩=some v:=by simp[World.cell?,h1,h3]
 simp only[readRes,hv,asAddr,Sem.run_bind,Sem.run_pure,Result.andThen_ok]
 exact loadVar_one hc'
end ret
theorem zhr {H:Heap}:HSub H H:=zhR _
theorem zhn {H:Heap}:HSub [] H:=HSub.nil _
theorem zhp {p:Nat×LObj} {H:Heap}:HSub [p] (p::H):=zhP pH (HSub.nil _)
theorem zsr {v:LV}:v.Sub v:=vR _
theorem zp1 {p a:Nat×LObj} {F:Heap}:Pick p (a::p::F) (a::F):=(pT pH)
theorem zp2 {p a b:Nat×LObj} {F:Heap}:Pick p (a::b::p::F) (a::b::F):=(pT (pT pH))
theorem zp3 {p a b c:Nat×LObj} {F:Heap}:Pick p (a::b::c::p::F) (a::b::c::F):=(pT (pT (pT pH)))
theorem zp4 {p a b c d:Nat×LObj} {F:Heap}:Pick p (a::b::c::d::p::F) (a::b::c::d::F):=(pT (pT (pT (pT pH))))
theorem zp5 {p a b c d e:Nat×LObj} {F:Heap}:Pick p (a::b::c::d::e::p::F) (a::b::c::d::e::F):=(pT (pT (pT (pT (pT pH)))))
theorem zp6 {p a b c d e f:Nat×LObj} {F:Heap}:Pick p (a::b::c::d::e::f::p::F) (a::b::c::d::e::f::F):=(pT (pT (pT (pT (pT (pT pH))))))
theorem zp7 {p a b c d e f g:Nat×LObj} {F:Heap}:Pick p (a::b::c::d::e::f::g::p::F) (a::b::c::d::e::f::g::F):=(pT (pT (pT (pT (pT (pT (pT pH)))))))
theorem zp8 {p a b c d e f g h:Nat×LObj} {F:Heap}:Pick p (a::b::c::d::e::f::g::h::p::F) (a::b::c::d::e::f::g::h::F):=(pT (pT (pT (pT (pT (pT (pT (pT pH))))))))
theorem zrt {C:Ctx} {n:Nat} {e:Env} {H:Heap} {t:Nat} {v:Value} (h:e.s t=.atom v):ResIs C n e H (.tmp t) (.atom v):=rT h (vR _)
theorem zra {C:Ctx} {n:Nat} {e:Env} {H:Heap} {t:Nat} {v:Value} (h:e.s t=.atom v):AllRes C n e H [.tmp t] [.atom v]:=rC (rT h (vR _)) rN
end Go.GL
namespace Go.Proofs.YtegmklafpoldgaaGreatDoor
open Go.GL
instance:TMixed Tryz.prog:=⟨by kernel_rfl⟩
instance:TSize Tryz.prog 3 1:=.of zk
instance:TOne Tryz.prog 3:=.of zk
instance:TKind Tryz.prog 3 .i64:=.of zk
instance:TZero Tryz.prog 3 [.int .i64 0]:=.of (v:=.int .i64 0) (n:=1) zk rfl rfl
instance:TRow Tryz.prog 3 1 8:=.of zk
instance:TOne Tryz.prog 4:=.of zk
instance:TKind Tryz.prog 5 .u8:=.of zk
instance:TZero Tryz.prog 5 [.int .u8 0]:=.of (v:=.int .u8 0) (n:=1) zk rfl rfl
instance:TRow Tryz.prog 5 1 1:=.of zk
instance:TSize Tryz.prog 9 1:=.of zk
instance:TOne Tryz.prog 9:=.of zk
instance:TStr Tryz.prog 9:=.of zk
instance:TZero Tryz.prog 9 [.string ⟨#[]⟩]:=.of (v:=.string ⟨#[]⟩) (n:=1) zk rfl rfl
instance:TRow Tryz.prog 9 1 16:=.of zk
instance:TSize Tryz.prog 24 1:=.of zk
instance:TOne Tryz.prog 24:=.of zk
instance:TSlice Tryz.prog 24 9 1:=.of zk
instance:TZero Tryz.prog 24 [.slice none 0 0]:=.of (v:=.slice none 0 0) (n:=1) zk rfl rfl
instance:TSize Tryz.prog 25 1:=.of zk
instance:TOne Tryz.prog 25:=.of zk
instance:TSlice Tryz.prog 25 86 2:=.of zk
instance:TSize Tryz.prog 26 1:=.of zk
instance:TOne Tryz.prog 26:=.of zk
instance:TSlice Tryz.prog 26 89 4:=.of zk
instance:TSize Tryz.prog 28 3:=.of zk
instance:TAgg Tryz.prog 28 3:=.of zk
instance:TField Tryz.prog 28 0 0:=.of zk
instance:TField Tryz.prog 28 1 1:=.of zk
instance:TField Tryz.prog 28 2 2:=.of zk
instance:TStruct Tryz.prog 28 [(0,1),(1,1),(2,1)]:=.of zk
instance:TZero Tryz.prog 28 [.slice none 0 0,.slice none 0 0,.slice none 0 0]:=.of (v:=.agg #[.slice none 0 0,.slice none 0 0,.slice none 0 0]) (n:=3) zk rfl rfl
instance:TSize Tryz.prog 29 1:=.of zk
instance:TOne Tryz.prog 29:=.of zk
instance:TZero Tryz.prog 29 [.int .i64 0]:=.of (v:=.int .i64 0) (n:=1) zk rfl rfl
instance:TSize Tryz.prog 35 3:=.of zk
instance:TAgg Tryz.prog 35 3:=.of zk
instance:TField Tryz.prog 35 0 0:=.of zk
instance:TField Tryz.prog 35 1 1:=.of zk
instance:TField Tryz.prog 35 2 2:=.of zk
instance:TStruct Tryz.prog 35 [(0,1),(1,1),(2,1)]:=.of zk
instance:TZero Tryz.prog 35 [.int .i64 0,.int .i64 0,.int .i64 0]:=.of (v:=.agg #[.int .i64 0,.int .i64 0,.int .i64 0]) (n:=3) zk rfl rfl
instance:TSlice Tryz.prog 47 71 2:=.of zk
instance:TOne Tryz.prog 52:=.of zk
instance:TSlice Tryz.prog 52 114 3:=.of zk
instance:TSize Tryz.prog 56 2:=.of zk
instance:TConcrete Tryz.prog 56:=.of zk
instance:TField Tryz.prog 56 0 0:=.of zk
instance:TField Tryz.prog 56 1 1:=.of zk
instance:TStruct Tryz.prog 56 [(0,1),(1,1)]:=.of zk
instance:TZero Tryz.prog 56 [.int .i64 0,.int .i64 0]:=.of (v:=.agg #[.int .i64 0,.int .i64 0]) (n:=2) zk rfl rfl
instance:TOne Tryz.prog 58:=.of zk
instance:TField Tryz.prog 60 0 0:=.of zk
instance:TField Tryz.prog 60 1 1:=.of zk
instance:TField Tryz.prog 60 2 2:=.of zk
instance:TStruct Tryz.prog 60 [(0,1),(1,1),(2,1)]:=.of zk
instance:TZero Tryz.prog 60 [.slice none 0 0,.int .i64 0,.int .i64 0]:=.of (v:=.agg #[.slice none 0 0,.int .i64 0,.int .i64 0]) (n:=3) zk rfl rfl
instance:TOne Tryz.prog 63:=.of zk
instance:TOne Tryz.prog 64:=.of zk
instance:TField Tryz.prog 66 0 0:=.of zk
instance:TField Tryz.prog 66 1 1:=.of zk
instance:TField Tryz.prog 66 2 2:=.of zk
instance:TField Tryz.prog 66 3 3:=.of zk
instance:TField Tryz.prog 66 4 4:=.of zk
instance:TField Tryz.prog 66 5 5:=.of zk
instance:TStruct Tryz.prog 66 [(0,1),(1,1),(2,1),(3,1),(4,1),(5,1)]:=.of zk
instance:TZero Tryz.prog 66 [.slice none 0 0,.int .i64 0,.int .i64 0,.map none,.map none,.string ⟨#[]⟩]:=.of (v:=.agg #[.slice none 0 0,.int .i64 0,.int .i64 0,.map none,.map none,.string ⟨#[]⟩]) (n:=6) zk rfl rfl
instance:TSize Tryz.prog 71 2:=.of zk
instance:TAgg Tryz.prog 71 2:=.of zk
instance:TField Tryz.prog 71 0 0:=.of zk
instance:TField Tryz.prog 71 1 1:=.of zk
instance:TStruct Tryz.prog 71 [(0,1),(1,1)]:=.of zk
instance:TZero Tryz.prog 71 [.string ⟨#[]⟩,.int .i64 0]:=.of (v:=.agg #[.string ⟨#[]⟩,.int .i64 0]) (n:=2) zk rfl rfl
instance:TRow Tryz.prog 71 2 24:=.of zk
instance:TSize Tryz.prog 80 1:=.of zk
instance:TOne Tryz.prog 80:=.of zk
instance:TSlice Tryz.prog 80 5 1:=.of zk
instance:TOne Tryz.prog 84:=.of zk
instance:TKind Tryz.prog 84 .u32:=.of zk
instance:TSize Tryz.prog 86 2:=.of zk
instance:TAgg Tryz.prog 86 2:=.of zk
instance:TField Tryz.prog 86 0 0:=.of zk
instance:TField Tryz.prog 86 1 1:=.of zk
instance:TStruct Tryz.prog 86 [(0,1),(1,1)]:=.of zk
instance:TZero Tryz.prog 86 [.string ⟨#[]⟩,.int .i64 0]:=.of (v:=.agg #[.string ⟨#[]⟩,.int .i64 0]) (n:=2) zk rfl rfl
instance:TRow Tryz.prog 86 2 24:=.of zk
instance:TSize Tryz.prog 87 1:=.of zk
instance:TOne Tryz.prog 87:=.of zk
instance:TSlice Tryz.prog 87 168 6:=.of zk
instance:TSize Tryz.prog 89 4:=.of zk
instance:TAgg Tryz.prog 89 4:=.of zk
instance:TField Tryz.prog 89 0 0:=.of zk
instance:TField Tryz.prog 89 1 1:=.of zk
instance:TField Tryz.prog 89 2 2:=.of zk
instance:TField Tryz.prog 89 3 3:=.of zk
instance:TStruct Tryz.prog 89 [(0,1),(1,1),(2,1),(3,1)]:=.of zk
instance:TZero Tryz.prog 89 [.string ⟨#[]⟩,.slice none 0 0,.slice none 0 0,.slice none 0 0]:=.of (v:=.agg #[.string ⟨#[]⟩,.slice none 0 0,.slice none 0 0,.slice none 0 0]) (n:=4) zk rfl rfl
instance:TRow Tryz.prog 89 4 88:=.of zk
instance:TSize Tryz.prog 99 2:=.of zk
instance:TConcrete Tryz.prog 99:=.of zk
instance:TField Tryz.prog 99 0 0:=.of zk
instance:TField Tryz.prog 99 1 1:=.of zk
instance:TStruct Tryz.prog 99 [(0,1),(1,1)]:=.of zk
instance:TZero Tryz.prog 99 [.string ⟨#[]⟩,.int .i64 0]:=.of (v:=.agg #[.string ⟨#[]⟩,.int .i64 0]) (n:=2) zk rfl rfl
instance:TSize Tryz.prog 102 1:=.of zk
instance:TOne Tryz.prog 102:=.of zk
instance:TOne Tryz.prog 103:=.of zk
instance:TField Tryz.prog 105 0 0:=.of zk
instance:TField Tryz.prog 105 1 1:=.of zk
instance:TField Tryz.prog 105 2 2:=.of zk
instance:TField Tryz.prog 105 3 3:=.of zk
instance:TField Tryz.prog 105 4 4:=.of zk
instance:TField Tryz.prog 105 5 5:=.of zk
instance:TField Tryz.prog 105 6 6:=.of zk
instance:TStruct Tryz.prog 105 [(0,1),(1,1),(2,1),(3,1),(4,1),(5,1),(6,1)]:=.of zk
instance:TZero Tryz.prog 105 [.map none,.map none,.map none,.map none,.string ⟨#[]⟩,.map none,.int .i64 0]:=.of (v:=.agg #[.map none,.map none,.map none,.map none,.string ⟨#[]⟩,.map none,.int .i64 0]) (n:=7) zk rfl rfl
instance:TSlice Tryz.prog 106 150 2:=.of zk
instance:TSize Tryz.prog 114 3:=.of zk
instance:TAgg Tryz.prog 114 3:=.of zk
instance:TField Tryz.prog 114 0 0:=.of zk
instance:TField Tryz.prog 114 1 1:=.of zk
instance:TField Tryz.prog 114 2 2:=.of zk
instance:TStruct Tryz.prog 114 [(0,1),(1,1),(2,1)]:=.of zk
instance:TZero Tryz.prog 114 [.int .i64 0,.string ⟨#[]⟩,.int .i64 0]:=.of (v:=.agg #[.int .i64 0,.string ⟨#[]⟩,.int .i64 0]) (n:=3) zk rfl rfl
instance:TRow Tryz.prog 114 3 32:=.of zk
instance:TSize Tryz.prog 125 2:=.of zk
instance:TAgg Tryz.prog 125 2:=.of zk
instance:TField Tryz.prog 125 0 0:=.of zk
instance:TField Tryz.prog 125 1 1:=.of zk
instance:TStruct Tryz.prog 125 [(0,1),(1,1)]:=.of zk
instance:TZero Tryz.prog 125 [.int .i64 0,.int .i64 0]:=.of (v:=.agg #[.int .i64 0,.int .i64 0]) (n:=2) zk rfl rfl
instance:TSlice Tryz.prog 126 125 2:=.of zk
instance:TField Tryz.prog 134 1 1:=.of zk
instance:TZero Tryz.prog 134 [.pointer none,.slice none 0 0]:=.of (v:=.agg #[.pointer none,.slice none 0 0]) (n:=2) zk rfl rfl
instance:TSize Tryz.prog 150 2:=.of zk
instance:TAgg Tryz.prog 150 2:=.of zk
instance:TField Tryz.prog 150 0 0:=.of zk
instance:TField Tryz.prog 150 1 1:=.of zk
instance:TStruct Tryz.prog 150 [(0,1),(1,1)]:=.of zk
instance:TZero Tryz.prog 150 [.string ⟨#[]⟩,.int .i64 0]:=.of (v:=.agg #[.string ⟨#[]⟩,.int .i64 0]) (n:=2) zk rfl rfl
instance:TRow Tryz.prog 150 2 24:=.of zk
instance:TSlice Tryz.prog 154 155 1:=.of zk
instance:TOne Tryz.prog 155:=.of zk
instance:TZero Tryz.prog 155 [.nilFunc]:=.of (v:=.nilFunc) (n:=1) zk rfl rfl
instance:TAgg Tryz.prog 158 2:=.of zk
instance:TField Tryz.prog 158 0 0:=.of zk
instance:TField Tryz.prog 158 1 1:=.of zk
instance:TStruct Tryz.prog 158 [(0,1),(1,1)]:=.of zk
instance:TZero Tryz.prog 158 [.slice none 0 0,.map none]:=.of (v:=.agg #[.slice none 0 0,.map none]) (n:=2) zk rfl rfl
instance:TSize Tryz.prog 166 1:=.of zk
instance:TOne Tryz.prog 166:=.of zk
instance:TSlice Tryz.prog 166 170 4:=.of zk
instance:TSize Tryz.prog 168 6:=.of zk
instance:TAgg Tryz.prog 168 6:=.of zk
instance:TField Tryz.prog 168 0 0:=.of zk
instance:TField Tryz.prog 168 1 1:=.of zk
instance:TField Tryz.prog 168 2 2:=.of zk
instance:TField Tryz.prog 168 3 3:=.of zk
instance:TField Tryz.prog 168 4 4:=.of zk
instance:TField Tryz.prog 168 5 5:=.of zk
instance:TStruct Tryz.prog 168 [(0,1),(1,1),(2,1),(3,1),(4,1),(5,1)]:=.of zk
instance:TZero Tryz.prog 168 [.int .i64 0,.string ⟨#[]⟩,.slice none 0 0,.slice none 0 0,.slice none 0 0,.slice none 0 0]:=.of (v:=.agg #[.int .i64 0,.string ⟨#[]⟩,.slice none 0 0,.slice none 0 0,.slice none 0 0,.slice none 0 0]) (n:=6) zk rfl rfl
instance:TRow Tryz.prog 168 6 120:=.of zk
instance:TSize Tryz.prog 170 4:=.of zk
instance:TAgg Tryz.prog 170 4:=.of zk
instance:TField Tryz.prog 170 0 0:=.of zk
instance:TField Tryz.prog 170 1 1:=.of zk
instance:TField Tryz.prog 170 2 2:=.of zk
instance:TField Tryz.prog 170 3 3:=.of zk
instance:TStruct Tryz.prog 170 [(0,1),(1,1),(2,1),(3,1)]:=.of zk
instance:TZero Tryz.prog 170 [.string ⟨#[]⟩,.int .u32 0,.string ⟨#[]⟩,.slice none 0 0]:=.of (v:=.agg #[.string ⟨#[]⟩,.int .u32 0,.string ⟨#[]⟩,.slice none 0 0]) (n:=4) zk rfl rfl
instance:TRow Tryz.prog 170 4 64:=.of zk
instance:TSize Tryz.prog 176 3:=.of zk
instance:TField Tryz.prog 176 0 0:=.of zk
instance:TField Tryz.prog 176 1 1:=.of zk
instance:TField Tryz.prog 176 2 2:=.of zk
instance:TStruct Tryz.prog 176 [(0,1),(1,1),(2,1)]:=.of zk
instance:TZero Tryz.prog 176 [.int .i64 0,.int .i64 0,.int .i64 0]:=.of (v:=.agg #[.int .i64 0,.int .i64 0,.int .i64 0]) (n:=3) zk rfl rfl
instance:TOne Tryz.prog 190:=.of zk
instance:TSlice Tryz.prog 190 24 1:=.of zk
instance:TKind Tryz.prog 208 .u64:=.of zk
instance:TSize Tryz.prog 246 1:=.of zk
instance:TOne Tryz.prog 246:=.of zk
instance:TZero Tryz.prog 246 [.nilFunc]:=.of (v:=.nilFunc) (n:=1) zk rfl rfl
instance:TSlice Tryz.prog 270 3 1:=.of zk
instance:TEnter Tryz.prog 6:=.of zk
instance:TEnter Tryz.prog 7:=.of zk
instance:TEnter Tryz.prog 8:=.of zk
instance:TEnter Tryz.prog 9:=.of zk
instance:TEnter Tryz.prog 11:=.of zk
instance:TEnter Tryz.prog 13:=.of zk
instance:TEnter Tryz.prog 16:=.of zk
instance:TEnter Tryz.prog 17:=.of zk
instance:TEnter Tryz.prog 19:=.of zk
instance:TEnter Tryz.prog 20:=.of zk
instance:TEnter Tryz.prog 21:=.of zk
instance:TEnter Tryz.prog 22:=.of zk
instance:TEnter Tryz.prog 23:=.of zk
instance:TEnter Tryz.prog 24:=.of zk
instance:TEnter Tryz.prog 25:=.of zk
instance:TEnter Tryz.prog 26:=.of zk
instance:TEnter Tryz.prog 29:=.of zk
instance:TEnter Tryz.prog 30:=.of zk
instance:TEnter Tryz.prog 34:=.of zk
instance:TEnter Tryz.prog 35:=.of zk
instance:TEnter Tryz.prog 36:=.of zk
instance:TEnter Tryz.prog 37:=.of zk
instance:TEnter Tryz.prog 38:=.of zk
instance:TEnter Tryz.prog 39:=.of zk
instance:TEnter Tryz.prog 40:=.of zk
instance:TEnter Tryz.prog 41:=.of zk
instance:TEnter Tryz.prog 42:=.of zk
instance:TEnter Tryz.prog 43:=.of zk
instance:TEnter Tryz.prog 44:=.of zk
instance:TEnter Tryz.prog 45:=.of zk
instance:TEnter Tryz.prog 46:=.of zk
instance:TEnter Tryz.prog 47:=.of zk
instance:TEnter Tryz.prog 48:=.of zk
instance:TEnter Tryz.prog 49:=.of zk
instance:TEnter Tryz.prog 50:=.of zk
instance:TEnter Tryz.prog 51:=.of zk
instance:TEnter Tryz.prog 52:=.of zk
instance:TEnter Tryz.prog 53:=.of zk
instance:TEnter Tryz.prog 54:=.of zk
instance:TEnter Tryz.prog 55:=.of zk
instance:TEnter Tryz.prog 57:=.of zk
instance:TEnter Tryz.prog 58:=.of zk
instance:TEnter Tryz.prog 77:=.of zk
instance:TEnter Tryz.prog 78:=.of zk
instance:TEnter Tryz.prog 79:=.of zk
instance:TEnter Tryz.prog 80:=.of zk
instance:TEnter Tryz.prog 81:=.of zk
instance:TEnter Tryz.prog 82:=.of zk
instance:TEnter Tryz.prog 83:=.of zk
instance:TEnter Tryz.prog 84:=.of zk
instance:TEnter Tryz.prog 85:=.of zk
instance:TEnter Tryz.prog 86:=.of zk
instance:TEnter Tryz.prog 91:=.of zk
instance:TEnter Tryz.prog 92:=.of zk
instance:TEnter Tryz.prog 93:=.of zk
instance:TEnter Tryz.prog 94:=.of zk
instance:TEnter Tryz.prog 95:=.of zk
instance:TEnter Tryz.prog 96:=.of zk
instance:TEnter Tryz.prog 97:=.of zk
instance:TEnter Tryz.prog 98:=.of zk
instance:TEnter Tryz.prog 99:=.of zk
instance:TEnter Tryz.prog 100:=.of zk
instance:TEnter Tryz.prog 101:=.of zk
instance:TEnter Tryz.prog 102:=.of zk
instance:TEnter Tryz.prog 103:=.of zk
instance:TEnter Tryz.prog 104:=.of zk
instance:TEnter Tryz.prog 105:=.of zk
instance:TEnter Tryz.prog 106:=.of zk
instance:TEnter Tryz.prog 107:=.of zk
instance:TEnter Tryz.prog 108:=.of zk
instance:TEnter Tryz.prog 109:=.of zk
instance:TEnter Tryz.prog 110:=.of zk
instance:TEnter Tryz.prog 111:=.of zk
instance:TEnter Tryz.prog 112:=.of zk
instance:TEnter Tryz.prog 116:=.of zk
instance:TEnter Tryz.prog 117:=.of zk
instance:TEnter Tryz.prog 118:=.of zk
instance:TEnter Tryz.prog 119:=.of zk
instance:TEnter Tryz.prog 120:=.of zk
instance:TEnter Tryz.prog 121:=.of zk
instance:TEnter Tryz.prog 122:=.of zk
instance:TEnter Tryz.prog 123:=.of zk
instance:TEnter Tryz.prog 124:=.of zk
instance:TEnter Tryz.prog 125:=.of zk
instance:TEnter Tryz.prog 126:=.of zk
instance:TEnter Tryz.prog 127:=.of zk
instance:TEnter Tryz.prog 128:=.of zk
instance:TEnter Tryz.prog 131:=.of zk
instance:TEnter Tryz.prog 132:=.of zk
instance:TEnter Tryz.prog 133:=.of zk
instance:TEnter Tryz.prog 134:=.of zk
instance:TEnter Tryz.prog 135:=.of zk
instance:TEnter Tryz.prog 136:=.of zk
instance:TEnter Tryz.prog 137:=.of zk
instance:TEnter Tryz.prog 138:=.of zk
instance:TEnter Tryz.prog 153:=.of zk
instance:TEnter Tryz.prog 154:=.of zk
instance:TEnter Tryz.prog 157:=.of zk
instance:TEnter Tryz.prog 158:=.of zk
instance:TEnter Tryz.prog 159:=.of zk
instance:TEnter Tryz.prog 161:=.of zk
instance:TEnter Tryz.prog 162:=.of zk
instance:TEnter Tryz.prog 163:=.of zk
instance:TEnter Tryz.prog 164:=.of zk
instance:TEnter Tryz.prog 166:=.of zk
instance:TEnter Tryz.prog 167:=.of zk
instance:TEnter Tryz.prog 168:=.of zk
instance:TEnter Tryz.prog 169:=.of zk
instance:TEnter Tryz.prog 170:=.of zk
instance:TEnter Tryz.prog 178:=.of zk
instance:TEnter Tryz.prog 187:=.of zk
instance:TEnter Tryz.prog 199:=.of zk
instance:TEnter Tryz.prog 204:=.of zk
instance:TEnter Tryz.prog 205:=.of zk
instance:TEnter Tryz.prog 206:=.of zk
instance:TEnter Tryz.prog 207:=.of zk
instance:TEnter Tryz.prog 208:=.of zk
instance:TEnter Tryz.prog 212:=.of zk
instance:TEnter Tryz.prog 213:=.of zk
instance:TEnter Tryz.prog 214:=.of zk
instance:TEnter Tryz.prog 215:=.of zk
instance:TEnter Tryz.prog 229:=.of zk
instance:TEnter Tryz.prog 230:=.of zk
instance:TEnter Tryz.prog 231:=.of zk
instance:TEnter Tryz.prog 232:=.of zk
instance:TEnter Tryz.prog 233:=.of zk
instance:TEnter Tryz.prog 234:=.of zk
instance:TEnter Tryz.prog 235:=.of zk
instance:TEnter Tryz.prog 236:=.of zk
instance:TEnter Tryz.prog 242:=.of zk
instance:TEnter Tryz.prog 243:=.of zk
instance:TEnter Tryz.prog 244:=.of zk
end Go.Proofs.YtegmklafpoldgaaGreatDoor
namespace Go.GL
open Go.RowKit
@[reducible] def Ret (v:LV):LRes→Heap→Prop:=fun r H=>r=.ret v∧H=[]
@[reducible] def RetIf (p:LV→Prop):LRes→Heap→Prop:=fun r H=>∃ v,r=.ret v∧p v∧H=[]
section
variable {C:Ctx} {e:Env} {H:Heap} {dst:Option Nat} {ty:TypeId} {pos:String} {aft:Array Edge} {g:Option (Nat×Bool)} {K:LV→Heap→Prop} {X:List PanicEntry→Heap→Prop}
theorem sF {f:FuncId} [TEnter C.P f] (args:List Operand) {ats:Array TypeId} {avs:List LV} {lv:LV} (has:args.map e.ev=avs) (hc:LCalls C f avs [] (Ret lv)) (hk:K lv H) :
  LStep C ⟨dst,.call { callee:=.value (.func f),args:=args.toArray,argTypes:=ats },ty,pos,aft,g⟩ e H K X:=
 S.call0 args has hc (by rintro v H' ⟨h,rfl⟩;cases h;exact hk) (by rintro ch H' ⟨h,_⟩;cases h)
theorem S.fnIf {f:FuncId} [TEnter C.P f] (args:List Operand) {ats:Array TypeId} {avs:List LV} {p:LV→Prop} (has:args.map e.ev=avs) (hc:LCalls C f avs [] (RetIf p)) (hk:∀ lv,p lv→K lv H) :
  LStep C ⟨dst,.call { callee:=.value (.func f),args:=args.toArray,argTypes:=ats },ty,pos,aft,g⟩ e H K X:=
 S.call0 args has hc (by rintro v H' ⟨u,h,hp,rfl⟩;cases h;exact hk _ hp) (by rintro ch H' ⟨u,h,_⟩;cases h)
theorem S.fnV {fo:Operand} {f:FuncId} [TEnter C.P f] {first caps:Array Value} (args:List Operand) {ats:Array TypeId} {avs:List LV} {lv:LV} (hf:e.ev fo=.atom (.func (.func f) first caps))
  (has:first.toList.map .atom++args.map e.ev++caps.toList.map .atom=avs) (hc:LCalls C f avs [] (Ret lv)) (hk:K lv H) :
  LStep C ⟨dst,.call { callee:=.value fo,args:=args.toArray,argTypes:=ats },ty,pos,aft,g⟩ e H K X:=
 S.callV (H1:=[]) (F:=H) args hf has zpr hc (by rintro v H' ⟨h,rfl⟩;cases h;exact hk) (by rintro ch H' ⟨h,_⟩;cases h)
theorem retRet {n:Nat} {rs:List ResultVar} {vs:List LV} {lv:LV} (hd:e.ds=[]) (h:AllRes C n e H rs vs) (hv:resLV vs=lv):RetPost C n rs (Ret lv) .ret e H:=
 rR hd h zhn ⟨by rw[hv],rfl⟩
theorem retRetIf {n:Nat} {rs:List ResultVar} {vs:List LV} {p:LV→Prop} (hd:e.ds=[]) (h:AllRes C n e H rs vs) (hv:p (resLV vs)):RetPost C n rs (RetIf p) .ret e H:=
 rR hd h zhn ⟨_,rfl,hv,rfl⟩
end
theorem fr_below {C:Ctx} {w w':World} {L:Live} (hH:RelH C w L []) (h:Below w.heap.size w w'):Fr (keys []) w L w' L []∧RelH C w' L []:=by
 refine ⟨⟨h.os,h.tape,h.output,⟨h.size,fun b hb=>shape_of_heap (h.block b hb),fun b i hi=>?_,fun _=>zNr _⟩,fun b hb _=>h.block b hb,fun _ _ _=>rfl,by simp⟩,
  ⟨hH.base.trans (h.mono hH.b0),hH.lbase,zNt hH.b0 h.size,fun b hb=>hH.wf b (zNt h.size hb),List.nodup_nil,by simp⟩⟩
 have hb:b<w.heap.size:=by
  rcases Nat.lt_or_ge b w.heap.size with h1|h1
  ·exact h1
  ·have:=hH.wf b h1;omega
 exact cell_of_heap (h.block b hb) i
theorem LCalls.of_below {C:Ctx} {f:FuncId} {vs:List Value} {p:Value→Prop}
  (h:∀ w,Below C.B0 C.w0 w→Calls C.P f vs.toArray w (fun e w'=>∃ v,e=.returned v∧p v∧Below w.heap.size w w')):LCalls C f (vs.map .atom) [] (fun r H=>∃ v,r=.ret (.atom v)∧p v∧H=[]):=fun xs w L hv hH=>by
 have hx:xs=vs:=by
  clear h hH
  induction vs generalizing xs with
  |nil=>simpa [RepL] using hv
  |cons v vs ih=>
   simp only[zMc,RepL,Rep] at hv
   obtain ⟨y,ys,rfl,rfl,hv⟩:=hv
   rw[ih _ hv]
 subst hx
 refine (h w hH.base).mono fun e w' he=>?_
 obtain ⟨v,rfl,hp,hb⟩:=he
 obtain ⟨h1,h2⟩:=fr_below hH hb
 exact ⟨.atom v,[],L,h1,h2,rep_atom,v,rfl,hp,rfl⟩
theorem LCalls.of_belowT {C:Ctx} {f:FuncId} {vs:List Value} {p:List Value→Prop}
  (h:∀ w,Below C.B0 C.w0 w→Calls C.P f vs.toArray w (fun e w'=>∃ us:List Value,e=.returned (.tuple us.toArray)∧p us∧Below w.heap.size w w')):LCalls C f (vs.map .atom) [] (RetIf fun lv=>∃ us,p us∧lv=.tuple (us.map .atom)):=fun xs w L hv hH=>by
 have hx:xs=vs:=by
  clear h hH
  induction vs generalizing xs with
  |nil=>simpa [RepL] using hv
  |cons v vs ih=>
   simp only[zMc,RepL,Rep] at hv
   obtain ⟨y,ys,rfl,rfl,hv⟩:=hv
   rw[ih _ hv]
 subst hx
 refine (h w hH.base).mono fun e w' he=>?_
 obtain ⟨us,rfl,hp,hb⟩:=he
 obtain ⟨h1,h2⟩:=fr_below hH hb
 exact ⟨.tuple (us.map .atom),[],L,h1,h2,by simp only[Rep];exact ⟨us,rfl,repL_atoms _⟩,_,rfl,⟨us,hp,rfl⟩,rfl⟩
theorem LCalls.ret_of {C:Ctx} {f:FuncId} {vs:List Value} {u:Value}
  (h:∀ w,Below C.B0 C.w0 w→Calls C.P f vs.toArray w (fun e w'=>e=.returned u∧Below w.heap.size w w')):LCalls C f (vs.map .atom) [] (Ret (.atom u)):=
 LCalls.mono (LCalls.of_below (p:=fun v=>v=u) fun w hw=>(h w hw).mono fun e w' he=>⟨u,he.1,rfl,he.2⟩) fun r H' ⟨v,h1,h2,h3⟩=>⟨by rw[h1,h2],h3⟩
def AllSlots (e:Env):List (Nat×LV)→Prop
 |[]=>True
 |(d,v)::r=>e.s d=v∧AllSlots e r
theorem AllSlots.mem {e:Env}:∀ {l:List (Nat×LV)},AllSlots e l→∀ p∈l,e.s p.1=p.2
 |[],_,p,hp=>by cases hp
 |(d,v)::r,h,p,hp=>by
  rcases zMi.1 hp with rfl|hp
  ·exact h.1
  ·exact AllSlots.mem h.2 p hp
def Again (I:Nat→List (Nat×LV)→Heap→Prop) (k:Nat) (ds:List Deferred) (e':Env) (H':Heap):Prop:=
 ∃ m l' H'',m<k∧I m l' H''∧AllSlots e' l'∧HSub H'' H'∧e'.ds=ds
theorem oL {C:Ctx} {n:Nat} {c:Code} {Q:Post} {e:Env} {H:Heap} (I:Nat→List (Nat×LV)→Heap→Prop) (h0:∃ k l H0,I k l H0∧AllSlots e l∧HSub H0 H)
  (round:∀ k l H,I k l H→∀ j:Env,j.ds=e.ds→LCode C n c (QThen (Again I k e.ds) Q) (Env.slots j l) H):LCode C n (.loop c) Q e H:=by
 obtain ⟨k,l,H0,h0,h1,h2⟩:=h0
 refine cW h2 (LCode.loop (fun k e' H'=>∃ l H0,I k l H0∧AllSlots e' l∧HSub H0 H'∧e'.ds=e.ds) k ⟨l,H0,h0,h1,zhR _,rfl⟩ ?_)
 rintro k e' H' ⟨l,H0,g0,g1,g2,g3⟩
 have:=round k l H0 g0 e' g3
 rw[Env.slots_self g1.mem] at this
 refine cW g2 (LCode.conseq this ?_)
 rintro ex e2 H2 hq
 cases ex with
 |normal=>
  obtain ⟨m,l',H3,r1,r2,r3,r4,r5⟩:=hq
  exact ⟨m,r1,l',H3,r2,r3,r4,r5⟩
 |exit id=>exact hq
 |goto id=>exact hq
 |ret=>exact hq
 |panic ch=>exact hq
 |outgrown=>exact hq
theorem bool_eq {a b:Bool} (h:a=b):bool a=bool b:=by rw[h]
def At (l:List (Nat×LV)) (H1:Heap) (ds:List Deferred) (e':Env) (H':Heap):Prop:=AllSlots e' l∧H'=H1∧e'.ds=ds
theorem LOps.cutTo {C:Ctx} {n:Nat} {ops:Array Oper} {rest:List Oper} {Q:Post} {e:Env} {H:Heap} {k:Env→Heap→Prop} (l:List (Nat×LV)) (H1:Heap)
  (hx:LOps C n ops (QThen (At l H1 e.ds) Q) rest e H) (hy:∀ j:Env,j.ds=e.ds→k (Env.slots j l) H1):LOps C n ops (QThen k Q) rest e H:=by
 refine LOps.conseq hx ?_
 rintro ex e' H' hq
 cases ex with
 |normal=>
  obtain ⟨h1,rfl,h3⟩:=hq
  have:=hy e' h3
  rw[Env.slots_self h1.mem] at this
  exact this
 |exit id=>exact hq
 |goto id=>exact hq
 |ret=>exact hq
 |panic ch=>exact hq
 |outgrown=>exact hq
theorem LCode.cutTo {C:Ctx} {n:Nat} {c:Code} {Q:Post} {e:Env} {H:Heap} {k:Env→Heap→Prop} (l:List (Nat×LV)) (H1:Heap)
  (hx:LCode C n c (QThen (At l H1 e.ds) Q) e H) (hy:∀ j:Env,j.ds=e.ds→k (Env.slots j l) H1):LCode C n c (QThen k Q) e H:=by
 refine LCode.conseq hx ?_
 rintro ex e' H' hq
 cases ex with
 |normal=>
  obtain ⟨h1,rfl,h3⟩:=hq
  have:=hy e' h3
  rw[Env.slots_self h1.mem] at this
  exact this
 |exit id=>exact hq
 |goto id=>exact hq
 |ret=>exact hq
 |panic ch=>exact hq
 |outgrown=>exact hq
theorem LOps.cut {C:Ctx} {n:Nat} {ops:Array Oper} {rest:List Oper} {Q:Post} {e:Env} {H:Heap} {k:Env→Heap→Prop} (l:List (Nat×LV))
  (hx:LOps C n ops (QThen (At l H e.ds) Q) rest e H) (hy:∀ j:Env,j.ds=e.ds→k (Env.slots j l) H):LOps C n ops (QThen k Q) rest e H:=LOps.cutTo l H hx hy
theorem cC {C:Ctx} {n:Nat} {c:Code} {Q:Post} {e:Env} {H:Heap} {k:Env→Heap→Prop} (l:List (Nat×LV))
  (hx:LCode C n c (QThen (At l H e.ds) Q) e H) (hy:∀ j:Env,j.ds=e.ds→k (Env.slots j l) H):LCode C n c (QThen k Q) e H:=LCode.cutTo l H hx hy
theorem yielded_undef {ops:Array Oper} {n:Nat} {a:Act} {e:Env} {w:World} {L:Live} (hE:RelE n a e w L) {j d:Nat} (hj:(ops[j]?).bind (·.dst)=some d) (hb:e.s d=.atom undef):yielded ops a.tmps j=none:=by
 have h:=hE.vals d
 rw[hb] at h
 simp only[Rep] at h
 unfold yielded
 rw[hj]
 simp only[Option.bind_some]
 rw[Array.getD_eq_getD_getElem?] at h
 cases hx:a.tmps[d]? with
 |none=>rfl
 |some x=>rw[hx] at h;simp only[Option.getD_some] at h;subst h;rfl
theorem LOps.skipU {C:Ctx} {n:Nat} {ops:Array Oper} {Q:Post} {e:Env} {H:Heap} {dst:Option Nat} {op:Op} {ty:TypeId} {pos:String} {aft:Array Edge} {rest:List Oper} {j d:Nat} {c:Bool}
  (hj:(ops[j]?).bind (·.dst)=some d) (hb:e.s d=.atom undef) (hd:dstOk n dst)
  (k:LOps C n ops Q rest (e.put dst (.atom undef)) H):LOps C n ops Q (⟨dst,op,ty,pos,aft,some (j,c)⟩::rest) e H:=fun a w L hE hH=>by
 unfold wpList
 rw[if_neg (by simp[Region.wanted,yielded_undef hE hj hb])]
 exact k _ w L (hE.put hd (by simp only[Rep])) hH
theorem int_eq {k:IntKind} {a b:Int} (h:a=b):int k a=int k b:=by rw[h]
end Go.GL
namespace Go.Stele
@[reducible] def cv (c:UInt8):Int:=(c.toNat:Int)
def isDigit (c:UInt8):Bool:=decide (48≤cv c) && decide (cv c≤57)
def isLetter (c:UInt8):Bool:=decide (97≤cv c) && decide (cv c≤122)
def isInner (c:UInt8):Bool:=isLetter c || isDigit c || decide (cv c=95)
def notNl (c:UInt8):Bool:=!decide (cv c=10)
def isWhite (c:UInt8):Bool:=decide (cv c=32) || decide (cv c=9) || decide (cv c=10)
structure Tok where
 kind:Int
 text:List UInt8
 line:Int
 deriving DecidableEq,Inhabited
end Go.Stele
namespace Go.Stele
theorem takeWhile_step {p:UInt8→Bool} {s:List UInt8} {m:Nat} (hm:m<s.length) (h:s.takeWhile p=s.take m++(s.drop m).takeWhile p) :
  (p s[m]=true→s.takeWhile p=s.take (m+1)++(s.drop (m+1)).takeWhile p)∧(p s[m]=false→s.takeWhile p=s.take m):=by
 have h1:s.drop m=s[m]::s.drop (m+1):=List.drop_eq_getElem_cons hm
 constructor
 ·intro hp
  rw[h,h1,List.takeWhile_cons_of_pos hp,List.take_succ_eq_append_getElem hm]
  simp only[zAs,List.singleton_append]
 ·intro hp
  rw[h,h1,List.takeWhile_cons_of_neg (by simp[hp])]
  simp
theorem takeWhile_end {p:UInt8→Bool} {s:List UInt8} {m:Nat} (hm:s.length≤m) (h:s.takeWhile p=s.take m++(s.drop m).takeWhile p):s.takeWhile p=s.take m:=by
 rw[h,List.drop_eq_nil_of_le hm]
 simp
def skipLen (s:List UInt8):Nat:=if [47,47].isPrefixOf s then (s.takeWhile notNl).length else (s.takeWhile isWhite).length
end Go.Stele
/- What the lexer computes, in plain Lean: tokens. -/
namespace Go.Stele
def zeroTok:Tok:=⟨0,[],0⟩
abbrev TokR:=Tok×Nat×Int
def tokErr (e:Int):TokR:=(zeroTok,0,e)
def wordNext (s:List UInt8) (n:Nat):Bool:=match s[n]? with
 |some c=>isLetter c || decide (cv c=95)
 |none=>false
def lexNumber (s:List UInt8):TokR:=
 if wordNext s (s.takeWhile isDigit).length then tokErr 3 else
  match Go.Lib.parseUintB 32 (s.takeWhile isDigit) with
  |.ok u=>(⟨1,Go.Lib.decDigits u,0⟩,(s.takeWhile isDigit).length,0)
  |_=>tokErr 2
def lexLiteral:List UInt8→TokR
 |_::b::c::_=>if (!decide (cv c=39)) || decide (cv b<32) || decide (126<cv b) || decide (cv b=39) || decide (cv b=92) then tokErr 3 else (⟨1,Go.Lib.decDigits b.toNat,0⟩,3,0)
 |_=>tokErr 3
def keywords:List (List UInt8):=[[97,114,114,97,121],[101,108,115,101],[102,117,110,99],[104,97,108,116],[105,102],[114,101,116,117,114,110],[118,97,114],[119,104,105,108,101]]
def signs:List (List UInt8):=[[38,38],[124,124],[61,61],[33,61],[60,61],[62,61],[60],[62],[94],[43],[45],[42],[47],[37],[33],[61],[40],[41],[123],[125],[91],[93],[44],[59]]
def lexName (s:List UInt8):TokR:=
 if 24<(s.takeWhile isInner).length then tokErr 7 else (⟨if keywords.contains (s.takeWhile isInner) then 3 else 2,s.takeWhile isInner,0⟩,(s.takeWhile isInner).length,0)
def lexSign (s:List UInt8):TokR:=match signs.find? (fun x=>x.isPrefixOf s) with
 |some x=>(⟨4,x,0⟩,x.length,0)
 |none=>tokErr 3
def lexToken (s:List UInt8):TokR:=match s with
 |[]=>tokErr 3
 |c::_=>if isDigit c then lexNumber s else if isLetter c then lexName s else if decide (cv c=39) then lexLiteral s else lexSign s
def lexP:Nat→List UInt8→Int→Except (Int×Int) (List Tok)
 |0,_,_=>.ok []
 |fuel+1,s,line=>
  if s=[] then .ok [] else
  if skipLen s=0 then
   if (lexToken s).2.2≠0 then .error (line,(lexToken s).2.2)
   else (lexP fuel (s.drop (lexToken s).2.1) (line+((s.take (lexToken s).2.1).count 10:Nat))).map ({ (lexToken s).1 with line:=line }::·)
  else lexP fuel (s.drop (skipLen s)) (line+((s.take (skipLen s)).count 10:Nat))
end Go.Stele
namespace Go.Stele
theorem takeWhile_le (p:UInt8→Bool) (s:List UInt8):(s.takeWhile p).length≤s.length:=(List.takeWhile_prefix p).length_le
theorem lexToken_size (s:List UInt8) (h:(lexToken s).2.2=0):0<(lexToken s).2.1∧(lexToken s).2.1≤s.length:=by
 match s with
 |[]=>simp[lexToken,tokErr] at h
 |c::r=>
  simp only[lexToken] at h ⊢
  split at h <;> rename_i hc
  ·rw[if_pos hc]
   unfold lexNumber at h ⊢
   split at h
   ·simp[tokErr] at h
   ·rename_i hw
    rw[if_neg hw]
    split at h
    ·rename_i u hu
     refine ⟨?_,takeWhile_le _ _⟩
     rw[List.takeWhile_cons_of_pos hc]
     simp
    ·simp[tokErr] at h
  ·rw[if_neg hc]
   split at h <;> rename_i hl
   ·rw[if_pos hl]
    unfold lexName at h ⊢
    split at h
    ·simp[tokErr] at h
    ·rename_i hw
     rw[if_neg hw]
     refine ⟨?_,takeWhile_le _ _⟩
     rw[List.takeWhile_cons_of_pos (by simp[isInner,hl])]
     simp
   ·rw[if_neg hl]
    split at h <;> rename_i hq
    ·rw[if_pos hq]
     unfold lexLiteral at h ⊢
     split at h
     ·split at h
      ·simp[tokErr] at h
      ·rename_i hx
       rename_i heq
       rw[if_neg hx,heq]
       simp
     ·simp[tokErr] at h
    ·rw[if_neg hq]
     unfold lexSign at h ⊢
     split at h
     ·rename_i x hx
      have h1:=List.find?_some hx
      have h2:=List.mem_of_find?_eq_some hx
      refine ⟨?_,(List.isPrefixOf_iff_prefix.1 h1).length_le⟩
      have:∀ x∈signs,0<x.length:=by decide
      exact this x h2
     ·simp[tokErr] at h
theorem skipLen_le (s:List UInt8):skipLen s≤s.length:=by
 unfold skipLen
 split <;> exact takeWhile_le _ _
end Go.Stele
namespace Go.Proofs.YtegmklafpoldgaaGreatDoor
open Go.GL Go.RowKit Go.Stele
noncomputable abbrev KC (B0:Nat) (w0:World):Ctx:=⟨Tryz.prog,B0,w0⟩
attribute [local irreducible] LOps LCode LStep LCalls Go.GL.Pure QThen QBlock RetPost
section
variable {B0:Nat} {w0:World}
theorem digit_spec (c:UInt8):LCalls (KC B0 w0) 107 [int .u8 c.toNat] [] (Ret (bool (isDigit c))):=by
 refine cI Tryz.func107 rfl (n:=9) rfl rfl rfl ?_
 refine gcl ?_
 refine oB 5 rfl (fun ht=>?_) (fun ht=>?_)
 ·refine gcm ?_
  exact retRet rfl (zra rfl) (by simp[resLV,isDigit,ht])
 ·refine gaz ?_
  exact retRet rfl (zra rfl) (by simp[resLV,isDigit,ht])
theorem letter_spec (c:UInt8):LCalls (KC B0 w0) 109 [int .u8 c.toNat] [] (Ret (bool (isLetter c))):=by
 refine cI Tryz.func109 rfl (n:=9) rfl rfl rfl ?_
 refine gcl ?_
 refine oB 5 rfl (fun ht=>?_) (fun ht=>?_)
 ·refine gcm ?_
  exact retRet rfl (zra rfl) (by simp[resLV,isLetter,ht])
 ·refine gaz ?_
  exact retRet rfl (zra rfl) (by simp[resLV,isLetter,ht])
theorem notNl_spec (c:UInt8):LCalls (KC B0 w0) 105 [int .u8 c.toNat] [] (Ret (bool (notNl c))):=by
 refine cI Tryz.func105 rfl (n:=5) rfl rfl rfl ?_
 refine gf3 ?_
 exact retRet rfl (zra rfl) rfl
theorem inner_spec (c:UInt8):LCalls (KC B0 w0) 163 [int .u8 c.toNat] [] (Ret (bool (isInner c))):=by
 refine cI Tryz.func163 rfl (n:=13) rfl rfl rfl ?_
 refine gal ?_
 refine oS (sF [_] rfl (letter_spec c) ?_) rfl
 refine gat ?_
 refine oB 5 rfl (fun ht=>?_) (fun ht=>?_)
 ·refine gdi ?_
  exact retRet rfl (zra rfl) (by simp[resLV,isInner,ht])
 ·refine gaj ?_
  refine oS (sF [_] rfl (digit_spec c) ?_) rfl
  refine gf4 ?_
  refine oB 9 rfl (fun hd=>?_) (fun hd=>?_)
  ·refine gdj ?_
   exact retRet rfl (zra rfl) (by simp[resLV,isInner,ht,hd])
  ·refine gdk ?_
   exact retRet rfl (zra rfl) (by simp[resLV,isInner,ht,hd])
theorem white_spec (c:UInt8):LCalls (KC B0 w0) 106 [int .u8 c.toNat] [] (Ret (bool (isWhite c))):=by
 refine cI Tryz.func106 rfl (n:=13) rfl rfl rfl ?_
 refine gdl ?_
 refine oB 5 rfl (fun ht=>?_) (fun ht=>?_)
 ·refine gdi ?_
  exact retRet rfl (zra rfl) (by simp[resLV,isWhite,ht])
 ·refine gdm ?_
  refine oB 9 rfl (fun hd=>?_) (fun hd=>?_)
  ·refine gdj ?_
   exact retRet rfl (zra rfl) (by simp[resLV,isWhite,ht,hd])
  ·refine gdk ?_
   exact retRet rfl (zra rfl) (by simp[resLV,isWhite,ht,hd])
end
end Go.Proofs.YtegmklafpoldgaaGreatDoor
