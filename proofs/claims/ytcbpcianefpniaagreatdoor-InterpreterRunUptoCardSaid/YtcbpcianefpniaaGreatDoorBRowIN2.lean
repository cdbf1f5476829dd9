/- Texts joined: GlKv, GlArith, GlRows, GlStr, InpSpec, ChkSpec, FmtSpec, LexCat, ParTok, LexJoin, ParFuel, ParNodes, RtPrint, InpLaw, ChkRef, ChkRef2, InpKey, InpBnd, InpNodup, InpValid, InpAwake. -/
import Derived.StillTail
import Derived.Lib.Builder
import Derived.Lib.AppendStr
import Derived.Lib.Join
import Derived.KernelRfl
import Derived.Lib.Replace
import Derived.Test.YtcbpcianefpniaaGreatDoorBRowIN1
set_option linter.unusedVariables false
set_option linter.unusedSimpArgs false
namespace Go.GL
open Go.RowKit
abbrev KV:=List (List UInt8×LV)
@[reducible] def strV (k:List UInt8):Value:=.string ⟨k.toArray⟩
def kvs (m:KV):List (Value×LV):=m.map fun p=>(strV p.1,p.2)
def kvGet:KV→List UInt8→Option LV
 |[],_=>none
 |p::r,k=>if p.1=k then some p.2 else kvGet r k
def kvPut:KV→List UInt8→LV→KV
 |[],k,v=>[(k,v)]
 |p::r,k,v=>if p.1=k then (k,v)::r else p::kvPut r k v
theorem kvGet_put (k k':List UInt8) (v:LV):∀ m:KV,kvGet (kvPut m k v) k'=if k=k' then some v else kvGet m k'
 |[]=>by simp only[kvPut,kvGet]
 |p::r=>by
  unfold kvPut
  by_cases h:p.1=k
  ·rw[if_pos h]
   by_cases h':k=k'
   ·simp only[kvGet,if_pos h']
   ·simp only[kvGet,if_neg h']
    rw[if_neg (by rw[h];exact h')]
  ·rw[if_neg h]
   simp only[kvGet]
   rw[kvGet_put k k' v r]
   by_cases h2:p.1=k'
   ·rw[if_pos h2,if_neg (by rw[←h2];exact fun h3=>h h3.symm)]
    simp only[if_pos h2]
   ·simp only[if_neg h2]
theorem kv_find (k:List UInt8):∀ (m:KV) (es:List MapEntry) (i:Nat),es.map (·.key)=(kvs m).map (·.1) →
  (kvGet m k=none∧(∀ v,kvPut m k v=m++[(k,v)])∧Instr.findNow .string (strV k) es i=some none) ∨
  ∃ (j:Nat) (e:MapEntry) (v:LV),Instr.findNow .string (strV k) es i=some (some (i+j,e.val))∧es[j]? = some e∧m[j]? = some (k,v)∧kvGet m k=some v∧∀ v',kvPut m k v'=m.set j (k,v')
 |[],[],i,_=>.inl ⟨rfl,fun _=>rfl,rfl⟩
 |[],_::_,_,h=>by cases h
 |_::_,[],_,h=>by cases h
 |p::m,e::es,i,h=>by
  have h1:e.key=strV p.1:=by
   have:=(List.cons.inj h).1
   exact this
  have h2:es.map (·.key)=(kvs m).map (·.1):=(List.cons.inj h).2
  by_cases hs:p.1=k
  ·right
   have hb:((⟨k.toArray⟩:ByteArray) == ⟨p.1.toArray⟩)=true:=by rw[bytes_beq,decide_eq_true hs.symm]
   refine ⟨0,e,p.2,?_,rfl,by rw[←hs];rfl,by simp only[kvGet,if_pos hs],fun v'=>by simp only[kvPut,if_pos hs];rfl⟩
   simp only[Instr.findNow,h1,Instr.sameNow,hb,Nat.add_zero]
  ·have hb:((⟨k.toArray⟩:ByteArray) == ⟨p.1.toArray⟩)=false:=by rw[bytes_beq,decide_eq_false (fun h3=>hs h3.symm)]
   rcases kv_find k m es (i+1) h2 with ⟨g1,g2,g3⟩|⟨j,e2,v,g1,g2,g3,g4,g5⟩
   ·left
    refine ⟨by simp only[kvGet,if_neg hs];exact g1,fun v=>by simp only[kvPut,if_neg hs,g2];rfl,?_⟩
    simp only[Instr.findNow,h1,Instr.sameNow,hb]
    exact g3
   ·right
    refine ⟨j+1,e2,v,?_,g2,g3,by simp only[kvGet,if_neg hs];exact g4,fun v'=>by simp only[kvPut,if_neg hs,g5];rfl⟩
    simp only[Instr.findNow,h1,Instr.sameNow,hb]
    rw[g1]
    congr 3
    omega
theorem RepL.setAt {w:World} {L:Live}:∀ {cs:List LV} {xs:List Value},RepL w L cs xs→∀ (j:Nat) {c:LV} {x:Value},Rep w L c x→RepL w L (cs.set j c) (xs.set j x)
 |[],xs,h,j,c,x,hr=>by
  simp only[RepL] at h
  subst h
  simp only[List.set_nil,RepL]
 |d::cs,xs,h,j,c,x,hr=>by
  simp only[RepL] at h
  obtain ⟨y,ys,rfl,h1,h2⟩:=h
  cases j with
  |zero=>
   simp only[List.set_cons_zero,RepL]
   exact ⟨x,ys,rfl,hr,h2⟩
  |succ j=>
   simp only[List.set_cons_succ,RepL]
   exact ⟨y,_,rfl,h1,h2.setAt j hr⟩
section
variable {C:Ctx} {e:Env} {H:Heap} {dst:Option Nat} {ty:TypeId} {pos:String} {aft:Array Edge} {g:Option (Nat×Bool)} {K:LV→Heap→Prop} {X:List PanicEntry→Heap→Prop} {x y:Operand}
theorem left_map {w w':World} {L:Live} {b clock clock':Nat} {es es':List (Value×LV)} (hH:RelH C w L [(b,.map es clock)]) (h1:w'.os=w.os) (h2:w'.tape=w.tape) (h3:w'.output=w.output)
  (h4:w'.heap.size=w.heap.size) (h5:∀ c,c≠b→w'.heap[c]? = w.heap[c]?) (avs:List MapEntry) (h6:w'.heap[b]? = some (.map avs.toArray clock')) (h7:avs.map (·.key)=es'.map (·.1)) (h8:RepL w L (es'.map (·.2)) (avs.map (·.val)))
  (h9:∀ e∈avs,e.born<clock') (h10:(avs.map (·.born)).Nodup) {v:Value} {lv:LV} (hv:∀ L,Rep w' L lv v) (hk:K lv [(b,.map es' clock')]):Left C w L [(b,.map es clock)] w' v K:=by
 obtain ⟨hb0,hbs,hl,xs,hx1,_⟩:=hH.objs _ (List.mem_singleton.2 rfl)
 simp only at hb0 hbs hl hx1
 have hx:Ext w L w' L:=by
  refine ⟨by rw[h4];exact Nat.le_refl _,fun c hc=>?_,fun c i hi=>?_,fun _=>Nat.le_refl _⟩
  ·by_cases he:c=b
   ·subst he
    rw[shape_none hx1 rfl]
    exact shape_none h6 rfl
   ·exact shape_of_heap (h5 c he)
  ·by_cases he:c=b
   ·subst he;rw[hl] at hi;omega
   ·exact cell_of_heap (h5 c he) i
 refine ⟨lv,[(b,.map es' clock')],L,⟨h1,h2,h3,hx,fun c hc hn=>h5 c (by simpa using hn),fun _ _ _=>rfl,fun p hp=>.inl (by simp only[List.mem_singleton] at hp;subst hp;simp)⟩,
  ⟨?_,hH.lbase,by rw[h4];exact hH.b0,by rw[h4];exact hH.wf,by simp,fun p hp=>?_⟩,hv L,hk⟩
 ·exact hH.base.trans ⟨h1,h2,h3,by rw[h4];exact Nat.le_refl _,fun c hc=>h5 c zo⟩
 ·simp only[List.mem_singleton] at hp
  subst hp
  exact ⟨hb0,by rw[h4];exact hbs,hl,avs,h6,h7,RepL.mono hx _ _ h8,h9,h10⟩
theorem S.kvNew {t:TypeId} (hk:∀ b,K (.atom (.map (some b))) ((b,.map (kvs []) 0)::H)):LStep C ⟨dst,.makeMap t none,ty,pos,aft,g⟩ e H K X:=by
 refine LStep.at0 fun ρ w L _ hH=>?_
 have h3:execOp ρ ⟨dst,.makeMap t none,ty,pos,aft,g⟩=(do Pure.pure (.value (←Instr.makeMap t none))):=rfl
 have h4:(Instr.makeMap t none).run C.P w=.ok (.map (some w.heap.size)) (World.push w (.map #[] 0)):=rfl
 rw[h3,Sem.run_bind,h4]
 have:=fr_push hH (.map #[] 0) 0 [(w.heap.size,.map (kvs []) 0)] (fun p hp=>by
  simp only[List.mem_singleton] at hp
  subst hp
  refine ⟨rfl,by simp[Live.upd],[],heap_push_self,rfl,?_,(fun e he=>by cases he),List.nodup_nil⟩
  show RepL _ _ [] []
  simp only[RepL]) (by simp)
 exact ⟨_,_,_,this.1,this.2,rep_atom,hk _⟩
theorem S.kvPut {t kt el:TypeId} (ht:C.P.underlying t=some (.map kt el)) (hkt:C.P.underlying kt=some .string) {b clock:Nat} {m:KV} {F:Heap} {mo z:Operand} {k:List UInt8} {lv:LV} (hm:e.ev mo=.atom (.map (some b))) (hx:e.ev x=str k) (hz:e.ev z=lv)
  (hp:Pick (b,.map (kvs m) clock) H F) (hk:∀ clock',K (.atom undef) ((b,.map (kvs (GL.kvPut m k lv)) clock')::F)):LStep C ⟨dst,.mapUpdate t mo x z,ty,pos,aft,g⟩ e H K X:=by
 refine LStep.at1 hp fun ρ w L h hH=>?_
 obtain ⟨hb0,hbs,hl,avs,hx1,hx2,hx3,hx4,hx5⟩:=hH.objs _ (List.mem_singleton.2 rfl)
 simp only at hb0 hbs hl hx1 hx2 hx3
 have hrz:Rep w L lv (ρ z):=hz▸h z
 have h3:execOp ρ ⟨dst,.mapUpdate t mo x z,ty,pos,aft,g⟩=(do Instr.mapUpdate t (ρ mo) (ρ x) (ρ z);Pure.pure .skip):=rfl
 have hg:(getObj b).run C.P w=.ok (.map avs.toArray clock) w:=by simp only[getObj,Sem.run,hx1]
 have hset:∀ o',(setObj b o').run C.P w=.ok () (setW w b o'):=fun o'=>run_setObj hx1 rfl
 rw[h3,atom_of h hm,atom_of h hx]
 rcases kv_find k m avs 0 hx2 with ⟨g1,g2,g3⟩|⟨j,e2,v,g1,g2,g3,g4,g5⟩
 ·have hf:(Instr.findKey kt (strV k) avs.toArray.toList).run C.P w=.ok none w:=by
   simp only[Instr.findKey,Sem.run_bind,run_underlying' hkt,Result.andThen_ok,g3,Sem.run_pure]
  simp only[Instr.mapUpdate,Sem.run_bind,run_underlying' ht,Result.andThen_ok,hg,run_checkStr hkt,hf]
  rw[hset]
  refine left_map (w':=setW w b _) hH rfl rfl rfl (by simp[setW]) (fun c hc=>setW_other hc) (avs++[⟨strV k,ρ z,clock⟩]) (clock':=clock+1) ((setW_self hbs).trans (by simp)) (es':=kvs (GL.kvPut m k lv)) ?_ ?_ ?_ ?_ (fun _=>rep_atom) (hk _)
  ·rw[g2,kvs,List.map_append,List.map_append,List.map_append,←kvs,hx2]
   rfl
  ·rw[g2,kvs,List.map_append,List.map_append,List.map_append,←kvs]
   refine RepL.append hx3 ?_
   simp only[List.map_cons,List.map_nil,RepL]
   exact ⟨_,_,rfl,hrz,rfl⟩
  ·intro e' he'
   rcases List.mem_append.1 he' with h1|h1
   ·exact Nat.lt_succ_of_lt (hx4 e' h1)
   ·obtain rfl:=List.mem_singleton.1 h1
    exact Nat.lt_succ_self _
  ·rw[List.map_append,List.nodup_append]
   refine ⟨hx5,by simp,fun a ha b' hb' he=>?_⟩
   obtain ⟨e',h1,rfl⟩:=List.mem_map.1 ha
   simp only[List.map_cons,List.map_nil,List.mem_singleton] at hb'
   have:=hx4 e' h1
   omega
 ·have hf:(Instr.findKey kt (strV k) avs.toArray.toList).run C.P w=.ok (some (0+j,e2.val)) w:=by
   simp only[Instr.findKey,Sem.run_bind,run_underlying' hkt,Result.andThen_ok,g1,Sem.run_pure]
  have hkey:e2.key=strV k:=by
   have h1:(avs.map (·.key))[j]? = some e2.key:=by rw[List.getElem?_map,g2];rfl
   rw[hx2,kvs,List.map_map,List.getElem?_map,g3] at h1
   exact (Option.some.inj h1).symm
  have hst:(Instr.keyThatStays (((avs.toArray[0+j]?).map (·.key)).getD (strV k)) (strV k)).run C.P w=.ok (strV k) w:=by
   rw[Nat.zero_add,List.getElem?_toArray,g2]
   simp only[Option.map_some,Option.getD_some,hkey]
   unfold Instr.keyThatStays
   rw[if_pos (by simp only[Instr.sameBits];rw[bytes_beq];simp)]
   rfl
  simp only[Instr.mapUpdate,Sem.run_bind,run_underlying' ht,Result.andThen_ok,hg,run_checkStr hkt,hf,hst]
  rw[hset]
  have hmod:avs.toArray.modify (0+j) (fun e=>{ e with key:=strV k,val:=ρ z })=(avs.set j { e2 with key:=strV k,val:=ρ z }).toArray:=by
   rw[Nat.zero_add]
   apply Array.ext'
   simp only[Array.toList_modify]
   refine List.ext_getElem? fun i=>?_
   rw[List.getElem?_modify,List.getElem?_set]
   by_cases hi:j=i
   ·subst hi
    have hlt:j<avs.length:=(List.getElem?_eq_some_iff.1 g2).1
    rw[if_pos rfl,g2,if_pos hlt]
    show some _=_
    simp
   ·rw[if_neg hi]
    cases avs[i]? with
    |none=>rfl
    |some a=>
     show some _=_
     simp[hi]
  refine left_map (w':=setW w b _) hH rfl rfl rfl (by simp[setW]) (fun c hc=>setW_other hc) (avs.set j { e2 with key:=strV k,val:=ρ z }) ((setW_self hbs).trans (by rw[hmod])) (es':=kvs (GL.kvPut m k lv)) ?_ ?_ ?_ ?_ (fun _=>rep_atom) (hk _)
  ·rw[g5,kvs,List.map_set,List.map_set,List.map_set,hx2]
   rfl
  ·rw[g5,kvs,List.map_set,List.map_set,List.map_set]
   exact RepL.setAt hx3 j hrz
  ·intro e' he'
   rcases List.mem_or_eq_of_mem_set he' with h1|h1
   ·exact hx4 e' h1
   ·rw[h1]
    exact hx4 e2 (List.mem_of_getElem? g2)
  ·rw[List.map_set]
   have:(avs.map (·.born)).set j e2.born=avs.map (·.born):=by
    refine List.ext_getElem? fun i=>?_
    rw[List.getElem?_set]
    split
    ·rename_i h1
     subst h1
     split
     ·rw[List.getElem?_map,g2];rfl
     ·rename_i h2
      rw[List.getElem?_eq_none zo]
    ·rfl
   rw[this]
   exact hx5
theorem kv_look {t kt el:TypeId} (ht:C.P.underlying t=some (.map kt el)) (hkt:C.P.underlying kt=some .string) {zv:Value} {zl:LV} (hz:∀ w,(zeroValue el).run C.P w=.ok zv w) (hzl:∀ w L,Rep w L zl zv) {b clock:Nat} {m:KV} {k:List UInt8} {w:World} {L:Live}
  (hH:RelH C w L H) (hb:(b,.map (kvs m) clock)∈H):∃ v,Rep w L ((kvGet m k).getD zl) v∧∀ w',Agree w L H w'→∀ c,(Instr.lookup t (.map (some b)) (strV k) c).run C.P w'=.ok (if c=true then .tuple #[v,.bool (kvGet m k).isSome] else v) w':=by
 obtain ⟨_,_,_,avs,hx1,hx2,hx3,_⟩:=hH.objs _ hb
 simp only at hx1
 rcases kv_find k m avs 0 hx2 with ⟨g1,g2,g3⟩|⟨j,e2,v,g1,g2,g3,g4,g5⟩
 ·refine ⟨zv,by rw[g1];exact hzl w L,fun w' ha c=>?_⟩
  have hw:w'.heap[b]? = some (.map avs.toArray clock):=(ha.1 _ hb).trans hx1
  have hg:(getObj b).run C.P w'=.ok (.map avs.toArray clock) w':=by simp only[getObj,Sem.run,hw]
  have hf:(Instr.findKey kt (strV k) avs.toArray.toList).run C.P w'=.ok none w':=by
   simp only[Instr.findKey,Sem.run_bind,run_underlying' hkt,Result.andThen_ok,g3,Sem.run_pure]
  simp only[Instr.lookup,Sem.run_bind,run_underlying' ht,Result.andThen_ok,hg,Sem.run_pure,run_checkStr hkt,hf,hz,g1]
  rfl
 ·refine ⟨e2.val,?_,fun w' ha c=>?_⟩
  ·rw[g4]
   obtain ⟨x,h1,h2⟩:=hx3.get (i:=j) (c:=v) (by rw[kvs,List.map_map,List.getElem?_map,g3];rfl)
   rw[List.getElem?_map,g2] at h1
   obtain rfl:=Option.some.inj h1
   exact h2
  ·have hw:w'.heap[b]? = some (.map avs.toArray clock):=(ha.1 _ hb).trans hx1
   have hg:(getObj b).run C.P w'=.ok (.map avs.toArray clock) w':=by simp only[getObj,Sem.run,hw]
   have hf:(Instr.findKey kt (strV k) avs.toArray.toList).run C.P w'=.ok (some (0+j,e2.val)) w':=by
    simp only[Instr.findKey,Sem.run_bind,run_underlying' hkt,Result.andThen_ok,g1,Sem.run_pure]
   simp only[Instr.lookup,Sem.run_bind,run_underlying' ht,Result.andThen_ok,hg,Sem.run_pure,run_checkStr hkt,hf,g4]
   rfl
theorem Pure.kvGet {t kt el:TypeId} (ht:C.P.underlying t=some (.map kt el)) (hkt:C.P.underlying kt=some .string) {zv:Value} {zl:LV} (hz:∀ w,(zeroValue el).run C.P w=.ok zv w) (hzl:∀ w L,Rep w L zl zv) {b clock:Nat} {m:KV} {k:List UInt8} (hm:e.ev x=.atom (.map (some b))) (hx:e.ev y=str k)
  (hb:(b,.map (kvs m) clock)∈H):Pure C ⟨dst,.lookup t x y false,ty,pos,aft,g⟩ e H ((GL.kvGet m k).getD zl):=fun ρ w L h hH=>by
 obtain ⟨v,h1,h2⟩:=kv_look ht hkt hz hzl (k:=k) hH hb
 refine ⟨v,h1,fun w' ha=>?_⟩
 have h3:execOp ρ ⟨dst,.lookup t x y false,ty,pos,aft,g⟩=(do Pure.pure (.value (←Instr.lookup t (ρ x) (ρ y) false))):=rfl
 rw[h3,atom_of h hm,atom_of h hx,Sem.run_bind,h2 w' ha false]
 rfl
theorem Pure.kvGet2 {t kt el:TypeId} (ht:C.P.underlying t=some (.map kt el)) (hkt:C.P.underlying kt=some .string) {zv:Value} {zl:LV} (hz:∀ w,(zeroValue el).run C.P w=.ok zv w) (hzl:∀ w L,Rep w L zl zv) {b clock:Nat} {m:KV} {k:List UInt8} (hm:e.ev x=.atom (.map (some b))) (hx:e.ev y=str k)
  (hb:(b,.map (kvs m) clock)∈H):Pure C ⟨dst,.lookup t x y true,ty,pos,aft,g⟩ e H (.tuple [(GL.kvGet m k).getD zl,bool (GL.kvGet m k).isSome]):=fun ρ w L h hH=>by
 obtain ⟨v,h1,h2⟩:=kv_look ht hkt hz hzl (k:=k) hH hb
 refine ⟨.tuple #[v,.bool (GL.kvGet m k).isSome],?_,fun w' ha=>?_⟩
 ·simp only[Rep]
  refine ⟨[v,.bool (GL.kvGet m k).isSome],rfl,?_⟩
  simp only[RepL]
  exact ⟨_,_,rfl,h1,_,_,rfl,rfl,rfl⟩
 ·have h3:execOp ρ ⟨dst,.lookup t x y true,ty,pos,aft,g⟩=(do Pure.pure (.value (←Instr.lookup t (ρ x) (ρ y) true))):=rfl
  rw[h3,atom_of h hm,atom_of h hx,Sem.run_bind,h2 w' ha true]
  rfl
end
/-! ### The same, by instances -/
class TMap (P:Program) (t:TypeId) (el:outParam TypeId) (zv:outParam Value) (zl:outParam LV):Prop where
 und:∃ kt,P.underlying t=some (.map kt el)∧P.underlying kt=some .string
 zero:∀ w,(zeroValue el).run P w=.ok zv w
 rep:∀ w L,Rep w L zl zv
theorem rep_aggs (w:World) (L:Live) (zs:List Value):Rep w L (.agg (zs.map .atom)) (.agg zs.toArray):=by
 simp only[Rep]
 exact ⟨zs,rfl,repL_atoms zs⟩
section
variable {C:Ctx} {e:Env} {H:Heap} {dst:Option Nat} {ty:TypeId} {pos:String} {aft:Array Edge} {g:Option (Nat×Bool)} {K:LV→Heap→Prop} {X:List PanicEntry→Heap→Prop} {x y:Operand}
theorem Pure.kvHit {t el:TypeId} {zv:Value} {zl lv:LV} [h:TMap C.P t el zv zl] {b clock:Nat} {m:KV} {k:List UInt8} (hm:e.ev x=.atom (.map (some b))) (hx:e.ev y=str k) (hb:(b,.map (kvs m) clock)∈H) (hg:GL.kvGet m k=some lv) :
  Pure C ⟨dst,.lookup t x y false,ty,pos,aft,g⟩ e H lv:=by
 obtain ⟨kt,h1,h2⟩:=h.und
 have:=Pure.kvGet (dst:=dst) (ty:=ty) (pos:=pos) (aft:=aft) (g:=g) h1 h2 h.zero h.rep hm hx hb
 rwa [hg] at this
theorem Pure.kvMiss {t el:TypeId} {zv:Value} {zl:LV} [h:TMap C.P t el zv zl] {b clock:Nat} {m:KV} {k:List UInt8} (hm:e.ev x=.atom (.map (some b))) (hx:e.ev y=str k) (hb:(b,.map (kvs m) clock)∈H) (hg:GL.kvGet m k=none) :
  Pure C ⟨dst,.lookup t x y false,ty,pos,aft,g⟩ e H zl:=by
 obtain ⟨kt,h1,h2⟩:=h.und
 have:=Pure.kvGet (dst:=dst) (ty:=ty) (pos:=pos) (aft:=aft) (g:=g) h1 h2 h.zero h.rep hm hx hb
 rwa [hg] at this
theorem Pure.kvHit2 {t el:TypeId} {zv:Value} {zl lv:LV} [h:TMap C.P t el zv zl] {b clock:Nat} {m:KV} {k:List UInt8} (hm:e.ev x=.atom (.map (some b))) (hx:e.ev y=str k) (hb:(b,.map (kvs m) clock)∈H) (hg:GL.kvGet m k=some lv) :
  Pure C ⟨dst,.lookup t x y true,ty,pos,aft,g⟩ e H (.tuple [lv,bool true]):=by
 obtain ⟨kt,h1,h2⟩:=h.und
 have:=Pure.kvGet2 (dst:=dst) (ty:=ty) (pos:=pos) (aft:=aft) (g:=g) h1 h2 h.zero h.rep hm hx hb
 rwa [hg] at this
theorem Pure.kvMiss2 {t el:TypeId} {zv:Value} {zl:LV} [h:TMap C.P t el zv zl] {b clock:Nat} {m:KV} {k:List UInt8} (hm:e.ev x=.atom (.map (some b))) (hx:e.ev y=str k) (hb:(b,.map (kvs m) clock)∈H) (hg:GL.kvGet m k=none) :
  Pure C ⟨dst,.lookup t x y true,ty,pos,aft,g⟩ e H (.tuple [zl,bool false]):=by
 obtain ⟨kt,h1,h2⟩:=h.und
 have:=Pure.kvGet2 (dst:=dst) (ty:=ty) (pos:=pos) (aft:=aft) (g:=g) h1 h2 h.zero h.rep hm hx hb
 rwa [hg] at this
theorem S.kvSet {t el:TypeId} {zv:Value} {zl:LV} [h:TMap C.P t el zv zl] {b clock:Nat} {m:KV} {F:Heap} {mo z:Operand} {k:List UInt8} {lv:LV} (hm:e.ev mo=.atom (.map (some b))) (hx:e.ev x=str k) (hz:e.ev z=lv)
  (hp:Pick (b,.map (kvs m) clock) H F) (hk:∀ clock',K (.atom undef) ((b,.map (kvs (GL.kvPut m k lv)) clock')::F)):LStep C ⟨dst,.mapUpdate t mo x z,ty,pos,aft,g⟩ e H K X:=by
 obtain ⟨kt,h1,h2⟩:=h.und
 exact S.kvPut h1 h2 hm hx hz hp hk
theorem S.kvIns {t el:TypeId} {zv:Value} {zl:LV} [h:TMap C.P t el zv zl] {b clock:Nat} {m:KV} {F:Heap} {mo z:Operand} {k:List UInt8} {lv:LV} (hm:e.ev mo=.atom (.map (some b))) (hx:e.ev x=str k) (hz:e.ev z=lv)
  (hp:Pick (b,.map (kvs m) clock) H F) (hk:∀ clock',K (.atom undef) ((b,.map (kvs (GL.kvPut m k lv)) clock')::F)):LStep C ⟨dst,.insert t mo x z,ty,pos,aft,g⟩ e H K X:=
 fun ρ w L h1 h2=>(S.kvSet (dst:=dst) (ty:=ty) (pos:=pos) (aft:=aft) (g:=g) (X:=X) hm hx hz hp hk) ρ w L h1 h2
theorem S.kvInsE {t el:TypeId} {zv:Value} {zl:LV} [h:TMap C.P t el zv zl] {b clock:Nat} {m:KV} {F:Heap} {mo z:Operand} {k:List UInt8} {lv:LV} (m':KV) (hm:e.ev mo=.atom (.map (some b))) (hx:e.ev x=str k) (hz:e.ev z=lv)
  (hp:Pick (b,.map (kvs m) clock) H F) (he:GL.kvPut m k lv=m') (hk:∀ clock',K (.atom undef) ((b,.map (kvs m') clock')::F)):LStep C ⟨dst,.insert t mo x z,ty,pos,aft,g⟩ e H K X:=
 S.kvIns hm hx hz hp (he▸hk)
theorem kv_hit {A:Type} (key:A→List UInt8) (f:A→LV):∀ {l:List A} {q:A},(l.map key).Nodup→q∈l→GL.kvGet (l.map fun q=>(key q,f q)) (key q)=some (f q)
 |[],q,_,h=>by cases h
 |a::l,q,hn,h=>by
  rw[List.map_cons,List.nodup_cons] at hn
  rw[List.map_cons,GL.kvGet]
  rcases List.mem_cons.1 h with rfl|h
  ·rw[if_pos rfl]
  ·rw[if_neg (fun he=>hn.1 (by rw[show key a=key q from he];exact List.mem_map_of_mem h))]
   exact kv_hit key f hn.2 h
theorem kv_miss {A:Type} (key:A→List UInt8) (f:A→LV) {k:List UInt8}:∀ {l:List A},k ∉ l.map key→GL.kvGet (l.map fun q=>(key q,f q)) k=none
 |[],_=>rfl
 |a::l,h=>by
  rw[List.map_cons,GL.kvGet,if_neg (fun he=>h (by rw[List.map_cons];exact List.mem_cons.2 (.inl he.symm)))]
  exact kv_miss key f (fun hm=>h (by rw[List.map_cons];exact List.mem_cons_of_mem _ hm))
theorem kv_new {k:List UInt8} {v:LV}:∀ {m:KV},k ∉ m.map (·.1)→GL.kvPut m k v=m++[(k,v)]
 |[],_=>rfl
 |p::r,h=>by
  rw[GL.kvPut,if_neg (fun he=>h (by rw[List.map_cons];exact List.mem_cons.2 (.inl he.symm))),kv_new (fun hm=>h (by rw[List.map_cons];exact List.mem_cons_of_mem _ hm))]
  rfl
end
end Go.GL
namespace Go.GL
open Go.RowKit
section
variable {C:Ctx} {e:Env} {H:Heap} {dst:Option Nat} {ty:TypeId} {pos:String} {aft:Array Edge} {g:Option (Nat×Bool)} {xT yT:TypeId} {x y:Operand} {k k2:IntKind} {a b:Int}
theorem run_int2 {P:Program} {op:BinOp} {xT yT:TypeId} {x y:Operand} {k k2:IntKind} {a b:Int} {ρ:Operand→Value} (hx:ρ x=.int k a) (hy:ρ y=.int k2 b) {s:Sem Value}
  (h:(binOp op xT (.int k a) (.int k2 b))=s) {v:Value} (hv:∀ w,s.run P w=.ok v w) (w:World):(execOp ρ ⟨dst,.binOp op xT x y yT,ty,pos,aft,g⟩).run P w=.ok (.value v) w:=by
 subst h
 have he:eqGuard op xT x y (.int k a) (.int k2 b)=Pure.pure ():=by
  unfold eqGuard
  cases op <;> rfl
 simp only[execOp,hx,hy,he,Sem.run_bind,Sem.run_pure,Result.andThen_ok,hv]
theorem Pure.quoW (hx:e.ev x=int k a) (hy:e.ev y=int k b) (hb:b≠0):Pure C ⟨dst,.binOp .quo xT x y yT,ty,pos,aft,g⟩ e H (int k (k.wrap (a.tdiv b))):=
 .of_any fun _ _ _ h=>⟨_,rep_atom,run_int2 (atom_of h hx) (atom_of h hy) (s:=Op.intDiv .quo k a b) (by simp only[binOp,ne_eq,not_true_eq_false,if_false]) (fun _=>by simp only[Op.intDiv,if_neg hb,Sem.run_pure])⟩
theorem Pure.remW (hx:e.ev x=int k a) (hy:e.ev y=int k b) (hb:b≠0):Pure C ⟨dst,.binOp .rem xT x y yT,ty,pos,aft,g⟩ e H (int k (a.tmod b)):=
 .of_any fun _ _ _ h=>⟨_,rep_atom,run_int2 (atom_of h hx) (atom_of h hy) (s:=Op.intDiv .rem k a b) (by simp only[binOp,ne_eq,not_true_eq_false,if_false]) (fun _=>by simp only[Op.intDiv,if_neg hb,Sem.run_pure])⟩
theorem Pure.xorW (hx:e.ev x=int k a) (hy:e.ev y=int k b):Pure C ⟨dst,.binOp .xor xT x y yT,ty,pos,aft,g⟩ e H (int k (k.wrap ((BitVec.ofInt k.bits a ^^^ BitVec.ofInt k.bits b).toNat:Nat))):=
 .of_any fun _ _ _ h=>⟨_,rep_atom,run_int2 (atom_of h hx) (atom_of h hy) (s:=Op.intBits .xor k a b) (by simp only[binOp,ne_eq,not_true_eq_false,if_false]) (fun _=>rfl)⟩
end
/-! ### A drawn region whose last operations stand in a row: what is ahead of them only computes or reads. -/
def LS (C:Ctx) (n:Nat) (ops:Array Oper) (K:Env→Prop) (rest:List Oper) (e:Env) (H:Heap):Prop:=
 ∀ a w L,RelE n a e w L→RelH C w L H→wpStill C.P ops w (fun a'=>∃ e',RelE n a' e' w L∧K e') rest a
section still
variable {C:Ctx} {n:Nat} {ops:Array Oper} {K:Env→Prop} {e:Env} {H:Heap} {dst:Option Nat} {op:Op} {ty:TypeId} {pos:String} {aft:Array Edge} {rest:List Oper}
theorem LS.nil (h:K e):LS C n ops K [] e H:=fun _ _ _ hE _=>⟨e,hE,h⟩
theorem still_one {P:Program} {Q:Act→Prop} {a:Act} {w:World} {o:Oper} (hg:Region.wanted o (yielded ops a.tmps)=true) {v:Value} (h:(execOp a.eval o).run P w=.ok (.value v) w) (k:wpStill P ops w Q rest (a.put o.dst v)):wpStill P ops w Q (o::rest) a:=by
 unfold wpStill
 rw[if_pos hg]
 unfold Oper.still
 rw[h]
 exact ⟨rfl,k⟩
theorem LS.pure {lv:LV} (h:Pure C ⟨dst,op,ty,pos,aft,none⟩ e H lv) (hd:dstOk n dst) (k:LS C n ops K rest (e.put dst lv) H):LS C n ops K (⟨dst,op,ty,pos,aft,none⟩::rest) e H:=fun a w L hE hH=>by
 obtain ⟨v,hv,hr⟩:=h a.eval w L hE.ev hH
 exact still_one (by simp[Region.wanted]) (hr w (Agree.refl _ _ _)) (k _ w L (hE.put hd hv) hH)
theorem wpStill_mono {P:Program} {w:World} {Q Q':Act→Prop} (h:∀ a,Q a→Q' a):∀ (l:List Oper) (a:Act),wpStill P ops w Q l a→wpStill P ops w Q' l a
 |[],a,k=>h a k
 |o::l,a,k=>by
  unfold wpStill at k ⊢
  split at k
  ·rename_i hw
   rw[if_pos hw]
   exact Oper.still_mono (fun a=>wpStill_mono h l a) k
  ·rename_i hw
   rw[if_neg hw]
   exact wpStill_mono h l _ k
theorem LCode.tail [hm:TMixed C.P] {id:Nat} {l:List Oper} {Q:Post} (m:Nat) (hB:Region.lexTailB .any l.toArray m=true) (h:LS C n l.toArray (fun e'=>LOps C n l.toArray Q (l.drop m) e' H) (l.take m) e H):LCode C n (.region id l.toArray true) Q e H:=fun a w L hE hH=>by
 refine wp_region_still_tail m hm.out hB ?_
 refine wpStill_mono (fun a' h'=>?_) _ _ (h a w.drew L (hE.mono (ext_drew w L)) hH.drew)
 obtain ⟨e',hE',hk⟩:=h'
 refine wpList_mono (fun x a2 w' hq=>?_) _ _ _ (hk a' w.drew L hE' hH.drew)
 obtain ⟨e2,H',L',h1,h2,h3,h4⟩:=hq
 exact ⟨e2,H',L',h1.of_drew,h2,h3,h4⟩
end still
end Go.GL
namespace Go.GL
open Go.RowKit
@[reducible] def rowV (b n:Nat):LV:=.atom (.slice (some ⟨b,0,none⟩) n n)
section
variable {C:Ctx} {e:Env} {H:Heap} {dst:Option Nat} {ty:TypeId} {pos:String} {aft:Array Edge} {g:Option (Nat×Bool)} {K:LV→Heap→Prop} {X:List PanicEntry→Heap→Prop} {x y:Operand}
theorem range_zero (n:Nat) (z:Value):(Array.range n).map (fun i=>(if n * 1=0 then #[] else #[z])[i % (if n * 1=0 then (#[]:Array Value) else #[z]).size]!)=(List.replicate n z).toArray:=by
 rcases Nat.eq_zero_or_pos n with rfl|hn
 ·simp
 ·rw[if_neg zo]
  apply Array.ext
  ·simp
  ·intro i h1 h2
   simp[Nat.mod_one]
theorem S.makeRow {t el bytes:Nat} {zv:Value} [ht:TSlice C.P t el 1] [hr:TRow C.P el 1 bytes] [hz:TZero C.P el [zv]] {n:Nat} {k k2:IntKind} (hx:e.ev x=int k n) (hy:e.ev y=int k2 n) (hb:bytes * n≤100000000000) (hn:n≤100000000000)
  (hk:∀ b,K (rowV b n) ((b,.cells el (List.replicate n (.atom zv)))::H)):LStep C ⟨dst,.makeSlice t x y,ty,pos,aft,g⟩ e H K X:=by
 refine LStep.at0 fun ρ w L h hH=>?_
 have h3:execOp ρ ⟨dst,.makeSlice t x y,ty,pos,aft,g⟩=(do Pure.pure (.value (←Instr.makeSlice t (ρ x) (ρ y)))):=rfl
 obtain ⟨i,z,hi,hs,hby,hb0,hzz,hzs⟩:=hr.out
 obtain ⟨i',z',hi',hz',hc',hs'⟩:=hz.out
 rw[hi] at hi'
 obtain rfl:=Option.some.inj hi'
 rw[hzz] at hz'
 obtain rfl:=Option.some.inj hz'
 have wn:IntKind.i64.wrap (n:Int)=n:=wrap_i64 zo
 have n1:¬ ((n:Int)<0):=by omega
 have n2:¬ ((281474976710656:Int)<(i.bytes:Int) * n):=by
  rw[hby]
  have:((bytes * n:Nat):Int)≤100000000000:=by omega
  rw[Int.natCast_mul] at this
  omega
 have n3:¬ (n * i.bytes > roomBytes):=by
  rw[hby,Nat.mul_comm]
  unfold roomBytes
  omega
 have hrun:(Instr.makeSlice t (.int k n) (.int k2 n)).run C.P w=.ok (.slice (some ⟨w.heap.size,0,none⟩) n n) (World.push w (.cells (List.replicate n zv).toArray el)):=by
  have hrz:=range_zero n zv
  by_cases h0:n=0
  ·subst h0
   have wz:IntKind.i64.wrap 0=0:=wrap_i64 zo
   simp[Instr.makeSlice,run_underlying' ht.und,asInt,asIntOf,run_typeInfo' hi,run_sizeOf' hi,hs,wz,newRow,askRoom,roomBytes,newObj,World.push,Sem.run_bind,Sem.run_pure]
   have e0:(Array.range 0).map (fun _=>(default:Value))=#[]:=by simp
   rw[e0]
   rfl
  ·simp only[Nat.mul_one,h0,if_false] at hrz
   simp[Instr.makeSlice,run_underlying' ht.und,asInt,asIntOf,run_typeInfo' hi,run_sizeOf' hi,hs,wn,n1,n2,n3,h0,zeroValue,hzz,hc',newRow,askRoom,newObj,World.push,Sem.run_bind,Sem.run_pure,hrz]
   simp at hrz
   rw[hrz]
   rfl
 rw[h3,atom_of h hx,atom_of h hy,Sem.run_bind,hrun]
 have hrep:RepL w L (List.replicate n (.atom zv)) (List.replicate n zv):=by
  have:=repL_atoms (w:=w) (L:=L) (List.replicate n zv)
  rwa [List.map_replicate] at this
 have hx':=ext_push hH.wf (.cells (List.replicate n zv).toArray el) 0
 have:=fr_push hH (.cells (List.replicate n zv).toArray el) 0 [(w.heap.size,.cells el (List.replicate n (.atom zv)))] (fun p hp=>by
  simp only[List.mem_singleton] at hp
  subst hp
  exact ⟨rfl,by simp[Live.upd],List.replicate n zv,heap_push_self,hrep.mono hx' _ _⟩) (by simp)
 exact ⟨_,_,_,this.1,this.2,rep_atom,hk _⟩
theorem Pure.indexRow {t el s:Nat} [ht:TSlice C.P t el s] {b off m cap:Nat} {n:Int} {k:IntKind} (hx:e.ev x=.atom (.slice (some ⟨b,off,none⟩) m cap)) (hy:e.ev y=int k n) (h0:0≤n) (hn:n<m) :
  Pure C ⟨dst,.indexAddr t x y,ty,pos,aft,g⟩ e H (ptr b (off+n.toNat * s)):=.of_any fun ρ w L h=>by
 obtain ⟨i,hi,hsz⟩:=ht.size
 refine ⟨_,rep_atom,fun w'=>?_⟩
 have h3:execOp ρ ⟨dst,.indexAddr t x y,ty,pos,aft,g⟩=(do Pure.pure (.value (←Instr.indexAt t (ρ x) (ρ y)))):=rfl
 rw[h3,atom_of h hx,atom_of h hy]
 have hc:0≤n∧n<(m:Int):=⟨h0,hn⟩
 simp[Instr.indexAt,asIntOf,run_underlying' ht.und,hc,run_sizeOf' hi,add_mk,hsz]
theorem Pure.rowLen {t el s:Nat} [TSlice C.P t el s] {a:Option Addr} {m cap:Nat} (hx:e.ev x=.atom (.slice a m cap)):Pure C ⟨dst,.call { callee:=.builtin .len,args:=#[x],argTypes:=#[t] },ty,pos,aft,g⟩ e H (int .i64 m):=
 .of_any fun ρ _ _ h=>⟨_,rep_atom,fun w'=>by
  have hu:=run_underlying' (P:=C.P) (TSlice.und (t:=t)) w'
  rw[execOp_builtin',builtin_len']
  simp[Builtin.len_,hu,goInt,atom_of h hx]⟩
theorem Pure.negW {xT:TypeId} {k:IntKind} {a:Int} (hx:e.ev x=int k a):Pure C ⟨dst,.unOp .neg xT x,ty,pos,aft,g⟩ e H (int k (k.wrap (0-a))):=
 .of_any fun ρ _ _ h=>⟨_,rep_atom,fun w'=>by simp only[execOp,atom_of h hx,Op.unary];rfl⟩
end
section shut
variable {C:Ctx} {n:Nat} {Q:Post} {e:Env} {H F:Heap}
theorem row_shut {w:World} {L:Live} {b el:Nat} {vs:List Value} (hp:Pick (b,.cells el (vs.map .atom)) H F) (hH:RelH C w L H) :
  RelH C w (L.upd b vs.length) F∧Ext w L w (L.upd b vs.length)∧Rep w (L.upd b vs.length) (.list (vs.map .atom)) (.slice (some ⟨b,0,none⟩) vs.length vs.length):=by
 have hH1:=hH.perm hp
 obtain ⟨hb0,hbs,hl,xs,hx1,hx2⟩:=hH1.objs _ List.mem_cons_self
 simp only at hb0 hbs hl hx1 hx2
 have hxs:xs=vs:=RepL.atoms hx2
 subst hxs
 have hx:Ext w L w (L.upd b xs.length):=⟨Nat.le_refl _,fun _ _=>rfl,fun _ _ _=>rfl,fun c=>by
  unfold Live.upd
  split
  ·rename_i h;subst h;rw[hl];exact Nat.zero_le _
  ·exact Nat.le_refl _⟩
 have hne:∀ p∈F,p.1≠b:=fun p hp' he=>by
  have:=hH1.nodup
  rw[List.map_cons,List.nodup_cons] at this
  exact this.1 (List.mem_map.2 ⟨p,hp',he⟩)
 refine ⟨⟨hH1.base,trivial,hH1.b0,fun c hc=>?_,?_,fun p hp'=>?_⟩,hx,?_⟩
 ·unfold Live.upd
  rw[if_neg zo]
  exact hH1.wf c hc
 ·have:=hH1.nodup
  rw[List.map_cons,List.nodup_cons] at this
  exact this.2
 ·obtain ⟨g1,g2,g3⟩:=hH1.objs p (List.mem_cons_of_mem _ hp')
  exact ⟨g1,g2,g3.keep hx rfl (by unfold Live.upd;rw[if_neg (hne p hp')])⟩
 ·have hL:(L.upd b xs.length) b=xs.length:=by unfold Live.upd;rw[if_pos rfl]
  have hlen:(xs.map LV.atom).length=xs.length:=List.length_map _
  simp only[Rep]
  refine ⟨some ⟨b,0,none⟩,xs.length,by rw[hlen],by rw[hlen];exact Nat.le_refl _,fun _=>⟨b,0,1,rfl,?_⟩⟩
  have hflat:∀ l:List Value,(l.map LV.atom).flatMap LV.cells=l.map LV.atom:=fun l=>by
   induction l with
   |nil=>rfl
   |cons a l ih=>simp only[List.map_cons,List.flatMap_cons,ih];rfl
  refine RepRows.ofC (fun v hv=>?_) ?_
  ·obtain ⟨a,_,rfl⟩:=List.mem_map.1 hv
   rfl
  ·rw[hflat]
   refine RepC.of_cells (repL_atoms xs) (by rw[hL];omega) fun j x hx=>?_
   simp only[World.cell?,hx1,Nat.zero_add]
   simpa using hx
theorem lift_shut {w:World} {L:Live} {b el:Nat} {vs:List Value} (hp:Pick (b,.cells el (vs.map .atom)) H F) (hH:RelH C w L H) {x:Exit} {a:Act} {w':World} (h:lift C n w (L.upd b vs.length) (keys F) Q x a w'):lift C n w L (keys H) Q x a w':=by
 obtain ⟨e',H',L',h1,h2,h3,h4⟩:=h
 have hx:=(row_shut hp hH).2.1
 have hin:∀ c,c∈keys F→c∈keys H:=fun c hc=>by
  obtain ⟨p,hp',rfl⟩:=List.mem_map.1 hc
  exact List.mem_map_of_mem (hp.mem_iff.2 (List.mem_cons_of_mem _ hp'))
 have hb:b∈keys H:=List.mem_map.2 ⟨_,hp.mem_iff.2 List.mem_cons_self,rfl⟩
 refine ⟨e',H',L',⟨h1.os,h1.tape,h1.output,hx.trans h1.ext,fun c hc hn=>h1.block c hc (fun k=>hn (hin c k)),fun c hc hn=>?_,fun p hp'=>(h1.kin p hp').imp (hin _) id⟩,h2,h3,h4⟩
 rw[h1.lsame c hc (fun k=>hn (hin c k))]
 unfold Live.upd
 rw[if_neg (fun he=>hn (by rw[he];exact hb))]
theorem relE_shut {a:Act} {w:World} {L:Live} {b el d:Nat} {vs:List Value} (hp:Pick (b,.cells el (vs.map .atom)) H F) (hd:e.s d=rowV b vs.length) (hE:RelE n a e w L) (hH:RelH C w L H):RelE n a (e.upd d (.list (vs.map .atom))) w (L.upd b vs.length):=by
 obtain ⟨_,hx,hr⟩:=row_shut hp hH
 refine ⟨hE.size,hE.ds,fun i=>?_⟩
 have hv:=hE.vals i
 simp only[Env.upd]
 cases hb:Nat.beq i d with
 |false=>exact hv.mono hx _ _
 |true=>
  have hi:=Nat.eq_of_beq_eq_true hb
  subst hi
  rw[hd] at hv
  simp only[Rep] at hv
  rw[hv]
  exact hr
theorem LCode.rowShut {c:Code} (d:Nat) {b el:Nat} {vs:List Value} (hp:Pick (b,.cells el (vs.map .atom)) H F) (hd:e.s d=rowV b vs.length) (h:LCode C n c Q (e.upd d (.list (vs.map .atom))) F):LCode C n c Q e H:=fun a w L hE hH=>
 Go.wp_mono (h a w _ (relE_shut hp hd hE hH) (row_shut hp hH).1) fun _ _ _=>lift_shut hp hH
end shut
end Go.GL
namespace Go.GL
open Go.RowKit
section
variable {C:Ctx} {e:Env} {H:Heap} {x y:Operand} {dst:Option Nat} {ty:TypeId} {pos:String} {aft:Array Edge} {g:Option (Nat×Bool)} {K:LV→Heap→Prop} {X:List PanicEntry→Heap→Prop}
def byts (l:List UInt8):List LV:=l.map fun b=>int .u8 b.toNat
theorem byts_len (l:List UInt8):(byts l).length=l.length:=List.length_map _
theorem byts_app (l m:List UInt8):byts (l++m)=byts l++byts m:=List.map_append
/-! ### A buffer whose cells are all known: it can be frozen -/
end
end Go.GL
namespace Go.Stele
structure IS where
 sc:List UInt8→Nat
 ar:List UInt8→List Nat
 inp:List Nat
 out:List UInt8
 left:Nat
inductive IR (A:Type) where
 |ok (v:A) (s:IS)
 |stop (e:Int) (s:IS)
def IR.bind {A B:Type} (r:IR A) (f:A→IS→IR B):IR B:=match r with
 |.ok v s=>f v s
 |.stop e s=>.stop e s
def IR.st {A:Type}:IR A→IS
 |.ok _ s=>s
 |.stop _ s=>s
def tick (s:IS):IR Unit:=if s.left=0 then .stop 13 s else .ok () { s with left:=s.left-1 }
def b2n (b:Bool):Nat:=if b=true then 1 else 0
def binI (op:List UInt8) (a b:Nat):Option Nat:=
 if op=[43] then some ((a+b) % 4294967296)
 else if op=[45] then some ((a+4294967296-b) % 4294967296)
 else if op=[42] then some (a * b % 4294967296)
 else if op=[94] then some (a ^^^ b)
 else if op=[61,61] then some (b2n (decide (a=b)))
 else if op=[33,61] then some (b2n (decide (a≠b)))
 else if op=[60] then some (b2n (decide (a<b)))
 else if op=[62] then some (b2n (decide (b<a)))
 else if op=[60,61] then some (b2n (decide (a≤b)))
 else if op=[62,61] then some (b2n (decide (b≤a)))
 else if op=[38,38] then some (b2n (decide (a≠0∧b≠0)))
 else if op=[124,124] then some (b2n (decide (a≠0∨b≠0)))
 else if b=0 then none
 else if op=[47] then some (a / b) else some (a % b)
def keyI (f:FnD) (name:List UInt8):List UInt8:=if name∈f.params∨name∈f.locals then f.name++[46]++name else name
def fnI (P:Pr) (name:List UInt8):FnD:=(P.funcs.find? fun f=>decide (f.name=name)).getD ⟨[],[],[],[]⟩
def setSc (s:IS) (k:List UInt8) (v:Nat):IS:={ s with sc:=fun x=>if x=k then v else s.sc x }
def setPs (f:FnD):List (List UInt8)→List Nat→IS→IS
 |p::ps,v::vs,s=>setPs f ps vs (setSc s (keyI f p) v)
 |_,_,s=>s
def mapR {A:Type} (g:A→IS→IR Nat):List A→IS→IR (List Nat)
 |[],s=>.ok [] s
 |a::l,s=>(g a s).bind fun v s=>(mapR g l s).bind fun vs s=>.ok (v::vs) s
def blkR (g:Sm→IS→IR (Option Nat)):List Sm→IS→IR (Option Nat)
 |[],s=>.ok none s
 |a::l,s=>(g a s).bind fun r s=>match r with
  |some v=>.ok (some v) s
  |none=>blkR g l s
def whlR (c:IS→IR Nat) (b:IS→IR (Option Nat)):Nat→Nat→IS→IR (Option Nat)
 |0,v,s=>if v=0 then .ok none s else .stop 13 s
 |m+1,v,s=>if v=0 then .ok none s else (b s).bind fun r s=>match r with
  |some x=>.ok (some x) s
  |none=>(c s).bind fun v s=>whlR c b m v s
def callI (P:Pr) (g:FnD→Sm→IS→IR (Option Nat)) (name:List UInt8) (vs:List Nat) (s:IS):IR Nat:=
 if name=[105,110] then (match s.inp with
  |[]=>.ok 4294967295 s
  |v::r=>.ok v { s with inp:=r })
 else if name=[111,117,116] then .ok 0 { s with out:=s.out++[UInt8.ofNat (vs.headD 0)] }
 else (blkR (g (fnI P name)) (fnI P name).body (setPs (fnI P name) (fnI P name).params vs s)).bind fun r s=>.ok (r.getD 0) s
def opI (P:Pr) (g:FnD→Sm→IS→IR (Option Nat)) (f:FnD) (op:List UInt8) (num:Nat) (name:List UInt8) (vs:List Nat) (s:IS):IR Nat:=
 if op=[110,117,109] then .ok num s
 else if op=[118,97,114] then .ok (s.sc (keyI f name)) s
 else if op=[101,108,101,109] then (match (s.ar name)[vs.headD 0]? with
  |some v=>.ok v s
  |none=>.stop 2 s)
 else if op=[110,101,103] then .ok ((4294967296-vs.headD 0) % 4294967296) s
 else if op=[110,111,116] then .ok (b2n (decide (vs.headD 0=0))) s
 else if op=[99,97,108,108] then callI P g name vs s
 else match binI op (vs.headD 0) (vs.tail.headD 0) with
  |some v=>.ok v s
  |none=>.stop 12 s
mutual
def evI (P:Pr):Nat→FnD→Ex→IS→IR Nat
 |0,_,_,s=>.stop 13 s
 |n+1,f,.mk op num name args,s=>(tick s).bind fun _ s=>(mapR (evI P n f) args s).bind fun vs s=>opI P (stI P n) f op num name vs s
def stI (P:Pr):Nat→FnD→Sm→IS→IR (Option Nat)
 |0,_,_,s=>.stop 13 s
 |n+1,f,.mk kind name index value thn els,s=>(tick s).bind fun _ s=>
  if kind=7 then .stop 0 s else (evI P n f (value.headD default) s).bind fun v s=>
   if kind=1 then .ok none (setSc s (keyI f name) v)
   else if kind=2 then (evI P n f (index.headD default) s).bind fun i s=>match (s.ar name)[i]? with
    |some _=>.ok none { s with ar:=fun x=>if x=name then (s.ar name).set i v else s.ar x }
    |none=>.stop 2 s
   else if kind=5 then .ok (some v) s
   else if kind=3 then (if v≠0 then blkR (stI P n f) thn s else blkR (stI P n f) els s)
   else if kind=4 then whlR (evI P n f (value.headD default)) (blkR (stI P n f) thn) n v s
   else .ok none s
end
/-! ### A greater limit -/
def up (k:Nat) (s:IS):IS:={ s with left:=s.left+k }
def Grow {A:Type} (s:IS) (r:IR A):Prop:=s.out <+: r.st.out∧r.st.left≤s.left
theorem Grow.bind {A B:Type} {s:IS} {r:IR A} {f:A→IS→IR B} (h:Grow s r) (hf:∀ v s',Grow s' (f v s')):Grow s (r.bind f):=by
 cases r with
 |ok v s'=>exact ⟨List.IsPrefix.trans h.1 (hf v s').1,Nat.le_trans (hf v s').2 h.2⟩
 |stop e s'=>exact h
theorem tick_grow (s:IS):Grow s (tick s):=by
 unfold tick
 split
 ·exact ⟨List.prefix_refl _,Nat.le_refl _⟩
 ·exact ⟨List.prefix_refl _,Nat.sub_le _ _⟩
theorem mapR_grow {A:Type} {g:A→IS→IR Nat} (h:∀ a s,Grow s (g a s)):∀ (l:List A) (s:IS),Grow s (mapR g l s)
 |[],s=>⟨List.prefix_refl _,Nat.le_refl _⟩
 |a::l,s=>(h a s).bind fun v s=>(mapR_grow h l s).bind fun vs s=>⟨List.prefix_refl _,Nat.le_refl _⟩
theorem blkR_grow {g:Sm→IS→IR (Option Nat)} (h:∀ a s,Grow s (g a s)):∀ (l:List Sm) (s:IS),Grow s (blkR g l s)
 |[],s=>⟨List.prefix_refl _,Nat.le_refl _⟩
 |a::l,s=>(h a s).bind fun r s=>by
  cases r with
  |none=>exact blkR_grow h l s
  |some v=>exact ⟨List.prefix_refl _,Nat.le_refl _⟩
theorem whlR_grow {c:IS→IR Nat} {b:IS→IR (Option Nat)} (hc:∀ s,Grow s (c s)) (hb:∀ s,Grow s (b s)):∀ (m v:Nat) (s:IS),Grow s (whlR c b m v s)
 |0,v,s=>by
  unfold whlR
  split <;> exact ⟨List.prefix_refl _,Nat.le_refl _⟩
 |m+1,v,s=>by
  unfold whlR
  split
  ·exact ⟨List.prefix_refl _,Nat.le_refl _⟩
  ·refine (hb s).bind fun r s=>?_
   cases r with
   |some x=>exact ⟨List.prefix_refl _,Nat.le_refl _⟩
   |none=>exact (hc s).bind fun v s=>whlR_grow hc hb m v s
theorem setPs_same (f:FnD):∀ (ps:List (List UInt8)) (vs:List Nat) (s:IS),(setPs f ps vs s).out=s.out∧(setPs f ps vs s).left=s.left∧∀ k,setPs f ps vs (up k s)=up k (setPs f ps vs s)
 |p::ps,v::vs,s=>by
  obtain ⟨h1,h2,h3⟩:=setPs_same f ps vs (setSc s (keyI f p) v)
  exact ⟨h1,h2,fun k=>h3 k⟩
 |[],_,s=>by unfold setPs;exact ⟨rfl,rfl,fun _=>rfl⟩
 |_::_,[],s=>by unfold setPs;exact ⟨rfl,rfl,fun _=>rfl⟩
theorem opI_grow {P:Pr} {g:FnD→Sm→IS→IR (Option Nat)} (h:∀ f a s,Grow s (g f a s)) (f:FnD) (op:List UInt8) (num:Nat) (name:List UInt8) (vs:List Nat) (s:IS):Grow s (opI P g f op num name vs s):=by
 unfold opI
 split
 ·exact ⟨List.prefix_refl _,Nat.le_refl _⟩
 split
 ·exact ⟨List.prefix_refl _,Nat.le_refl _⟩
 split
 ·split <;> exact ⟨List.prefix_refl _,Nat.le_refl _⟩
 split
 ·exact ⟨List.prefix_refl _,Nat.le_refl _⟩
 split
 ·exact ⟨List.prefix_refl _,Nat.le_refl _⟩
 split
 ·unfold callI
  split
  ·split <;> exact ⟨List.prefix_refl _,Nat.le_refl _⟩
  split
  ·exact ⟨List.prefix_append _ _,Nat.le_refl _⟩
  ·refine Grow.bind ?_ fun r s=>⟨List.prefix_refl _,Nat.le_refl _⟩
   have:=blkR_grow (h (fnI P name)) (fnI P name).body (setPs (fnI P name) (fnI P name).params vs s)
   unfold Grow at this ⊢
   rwa [(setPs_same _ _ _ _).1,(setPs_same _ _ _ _).2.1] at this
 ·split <;> exact ⟨List.prefix_refl _,Nat.le_refl _⟩
theorem grow_all (P:Pr):∀ n:Nat,(∀ f x s,Grow s (evI P n f x s))∧∀ f x s,Grow s (stI P n f x s)
 |0=>⟨fun f x s=>by unfold evI;exact ⟨List.prefix_refl _,Nat.le_refl _⟩,fun f x s=>by unfold stI;exact ⟨List.prefix_refl _,Nat.le_refl _⟩⟩
 |n+1=>by
  obtain ⟨h1,h2⟩:=grow_all P n
  refine ⟨fun f x s=>?_,fun f x s=>?_⟩
  ·obtain ⟨op,num,name,args⟩:=x
   unfold evI
   exact (tick_grow s).bind fun _ s=>(mapR_grow (h1 f) args s).bind fun vs s=>opI_grow h2 f op num name vs s
  ·obtain ⟨kind,name,index,value,thn,els⟩:=x
   unfold stI
   refine (tick_grow s).bind fun _ s=>?_
   split
   ·exact ⟨List.prefix_refl _,Nat.le_refl _⟩
   ·refine (h1 f _ s).bind fun v s=>?_
    split
    ·exact ⟨List.prefix_refl _,Nat.le_refl _⟩
    split
    ·refine (h1 f _ s).bind fun i s=>?_
     split <;> exact ⟨List.prefix_refl _,Nat.le_refl _⟩
    split
    ·exact ⟨List.prefix_refl _,Nat.le_refl _⟩
    split
    ·split
     ·exact blkR_grow (h2 f) _ _
     ·exact blkR_grow (h2 f) _ _
    split
    ·exact whlR_grow (h1 f _) (blkR_grow (h2 f) _) _ _ _
    ·exact ⟨List.prefix_refl _,Nat.le_refl _⟩
theorem whlR_zero (c:IS→IR Nat) (b:IS→IR (Option Nat)) (m:Nat) (s:IS):whlR c b m 0 s=.ok none s:=by
 cases m <;> rw[whlR,if_pos rfl]
theorem tick_less {s s':IS} {u:Unit} (h:tick s=.ok u s'):s'.left<s.left:=by
 unfold tick at h
 split at h
 ·cases h
 ·cases h
  simp only
  omega
theorem ev_less (P:Pr) (n:Nat) (f:FnD) (x:Ex) (s s':IS) (v:Nat) (h:evI P n f x s=.ok v s'):s'.left<s.left:=by
 cases n with
 |zero=>unfold evI at h;cases h
 |succ n=>
  obtain ⟨op,num,name,args⟩:=x
  unfold evI at h
  cases ht:tick s with
  |stop e s1=>rw[ht] at h;cases h
  |ok u s1=>
   rw[ht] at h
   have h1:=tick_less ht
   have hG:Grow s1 ((mapR (evI P n f) args s1).bind fun vs s=>opI P (stI P n) f op num name vs s):=(mapR_grow ((grow_all P n).1 f) args s1).bind fun vs s=>opI_grow (grow_all P n).2 f op num name vs s
   have h2:=hG.2
   have h3:(mapR (evI P n f) args s1).bind (fun vs s=>opI P (stI P n) f op num name vs s)=.ok v s':=h
   rw[h3] at h2
   exact Nat.lt_of_le_of_lt h2 h1
/-! ### A run -/
structure OutI where
 out:List UInt8
 err:Int
 steps:Nat
def startI (P:Pr) (inp:List Nat) (limit:Nat):IS:=⟨fun _=>0,fun x=>match P.arrays.find? fun a=>decide (a.name=x) with
 |some a=>List.replicate a.size 0
 |none=>[],inp,[],limit⟩
def mainI (P:Pr):FnD:=P.funcs.getLast?.getD ⟨[],[],[],[]⟩
def endI {A:Type} (limit:Nat):IR A→OutI
 |.ok _ s=>⟨s.out,0,limit-s.left⟩
 |.stop e s=>⟨s.out,e,limit-s.left⟩
def runI (P:Pr) (inp:List Nat) (limit:Nat):OutI:=endI limit (blkR (stI P limit (mainI P)) (mainI P).body (startI P inp limit))
end Go.Stele
namespace Go.Stele
abbrev Nm:=List UInt8
def noName:List Nm:=keywords++[[105,110],[111,117,116]]
def isNm (s:Nm):Bool:=decide (s.length≤24) && !noName.contains s && (match s with
 |[]=>false
 |c::r=>isLetter c && r.all isInner)
structure FSum where
 name:Nm
 params:Nat
 need:Nat
 depth:Nat
structure CEnv where
 vars:List Nm
 arrays:List Nm
 later:List Nm
 own:List Nm
 funcs:List FSum
def CEnv.globals (c:CEnv):List Nm:=c.vars++c.arrays++c.later
def CEnv.fn (c:CEnv) (name:Nm):Option FSum:=c.funcs.find? fun f=>decide (f.name=name)
def orE (a b:Int):Int:=if a≠0 then a else b
def binOps:List Nm:=[[124,124],[38,38],[61,61],[33,61],[60],[62],[60,61],[62,61],[94],[43],[45],[42],[47],[37]]
def opnds (op:Nm):Int:=if op=nNum∨op=nVar then 0 else if op=nElem∨op=nNeg∨op=nNot then 1 else if op=nCall then -1 else if op∈binOps then 2 else -2
def scalarE (c:CEnv) (name:Nm):Int:=if name∈c.vars∨name∈c.own then 0 else if name∈c.globals then 10 else 7
def arrayE (c:CEnv) (name:Nm):Int:=if name∈c.arrays then 0 else if name∈c.globals∨name∈c.own then 10 else 7
def callE (c:CEnv) (name:Nm) (n:Nat):Int:=
 if name=[105,110] then (if n=0 then 0 else 1)
 else if name=[111,117,116] then (if n=1 then 0 else 1)
 else match c.fn name with
  |some f=>if n=f.params then 0 else 1
  |none=>if name∈c.vars∨name∈c.arrays∨name∈c.own then 10 else 7
def useE (c:CEnv) (op name:Nm) (n:Nat):Int:=if op=nVar then scalarE c name else if op=nElem then arrayE c name else if op=nCall then callE c name n else 0
mutual
def errE (c:CEnv):Ex→Int
 |.mk op num name args=>if opnds op = -1∨opnds op=args.length then orE (errEs c args) (useE c op name args.length) else 3
def errEs (c:CEnv):List Ex→Int
 |[]=>0
 |x::l=>orE (errE c x) (errEs c l)
end
def stair:Nat→List Nat→Nat→Nat
 |i,[],m=>m
 |i,n::l,m=>stair (i+1) l (max m (i+n))
def callN (c:CEnv) (name:Nm) (ns:List Nat):Nat:=
 if name=[105,110] then 1
 else if name=[111,117,116] then ns.headD 0
 else match c.fn name with
  |some f=>stair 0 ns (max (f.params+1) f.need)
  |none=>0
def opN (c:CEnv) (op name:Nm) (ns:List Nat):Nat:=
 if op=nNum∨op=nVar then 1
 else if op=nElem∨op=nNeg then 1+ns.headD 0
 else if op=nCall then callN c name ns
 else if op=nNot then max 2 (ns.headD 0)
 else if op=[62]∨op=[60,61] then max (max 3 (ns.headD 0)) (1+ns.tail.headD 0)
 else if op=[33,61] then max (max 3 (1+ns.headD 0)) (2+ns.tail.headD 0)
 else if op=[38,38] then max (1+ns.headD 0) (2+ns.tail.headD 0)
 else if op=[124,124] then max (2+ns.headD 0) (3+ns.tail.headD 0)
 else max (max 2 (ns.headD 0)) (1+ns.tail.headD 0)
mutual
def needE (c:CEnv):Ex→Nat
 |.mk op num name args=>opN c op name (needEs c args)
def needEs (c:CEnv):List Ex→List Nat
 |[]=>[]
 |x::l=>needE c x::needEs c l
end
def callD (c:CEnv) (op name:Nm):Nat:=if op=nCall∧name≠[105,110]∧name≠[111,117,116] then (match c.fn name with
 |some f=>f.depth+1
 |none=>0) else 0
mutual
def depE (c:CEnv):Ex→Nat
 |.mk op num name args=>max (depEs c args) (callD c op name)
def depEs (c:CEnv):List Ex→Nat
 |[]=>0
 |x::l=>max (depE c x) (depEs c l)
end
def exOp1:Ex→Nm
 |.mk op _ _ _=>op
def formS:Sm→Bool
 |.mk kind name index value thn els=>
  if kind=1 then decide (name≠[]∧index.length=0∧value.length=1∧thn.length=0∧els.length=0)
  else if kind=2 then decide (name≠[]∧index.length=1∧value.length=1∧thn.length=0∧els.length=0)
  else if kind=3 then decide (name=[]∧index.length=0∧value.length=1)
  else if kind=4 then decide (name=[]∧index.length=0∧value.length=1∧els.length=0)
  else if kind=5 then decide (name=[]∧index.length=0∧value.length=1∧thn.length=0∧els.length=0)
  else if kind=6 then decide (name=[]∧index.length=0∧value.length=1∧thn.length=0∧els.length=0∧exOp1 (value.headD default)=nCall)
  else if kind=7 then decide (name=[]∧index.length=0∧value.length=0∧thn.length=0∧els.length=0)
  else false
mutual
def errS (c:CEnv):Sm→Int
 |.mk kind name index value thn els=>if formS (.mk kind name index value thn els)=false then 3
  else orE (errEs c value) (orE (errEs c index) (orE (if kind=1 then scalarE c name else if kind=2 then arrayE c name else 0) (orE (errSs c thn) (errSs c els))))
def errSs (c:CEnv):List Sm→Int
 |[]=>0
 |s::l=>orE (errS c s) (errSs c l)
end
mutual
def needS (c:CEnv):Sm→Nat
 |.mk kind name index value thn els=>
  if kind=7 then 0
  else if kind=2 then max (needE c (value.headD default)) (2+needE c (index.headD default))
  else if kind=5 then needE c (value.headD default)
  else max 2 (max (max (needE c (value.headD default)) (needSs c thn)) (needSs c els))
def needSs (c:CEnv):List Sm→Nat
 |[]=>0
 |s::l=>max (needS c s) (needSs c l)
end
mutual
def depS (c:CEnv):Sm→Nat
 |.mk kind name index value thn els=>max (max (depEs c value) (depEs c index)) (max (depSs c thn) (depSs c els))
def depSs (c:CEnv):List Sm→Nat
 |[]=>0
 |s::l=>max (depS c s) (depSs c l)
end
def freshE:List Nm→List Nm→Int
 |known,[]=>0
 |known,s::l=>if isNm s=false then 7 else if s∈known then 8 else freshE (s::known) l
def sizesE:Int→List Int→Int
 |total,[]=>0
 |total,n::l=>if n≤0 then 2 else if 150000-total<n then 6 else sizesE (total+n) l
def envF (vars arrays later:List Nm) (known:List FSum) (f:FnD):CEnv:=⟨vars,arrays,later,f.params++f.locals,known⟩
def errF (vars arrays later:List Nm) (known:List FSum) (f:FnD):Int:=orE (freshE (vars++arrays++later) (f.params++f.locals)) (errSs (envF vars arrays later known f) f.body)
def sumF (vars arrays later:List Nm) (known:List FSum) (f:FnD):FSum:=⟨f.name,f.params.length,max (max 2 (f.params.length+1)) (needSs (envF vars arrays later known f) f.body),max 1 (depSs (envF vars arrays later known f) f.body)⟩
def errFs (vars arrays later:List Nm):List FSum→List FnD→Int
 |known,[]=>0
 |known,f::l=>orE (errF vars arrays later known f) (errFs vars arrays later (known++[sumF vars arrays later known f]) l)
def sumFs (vars arrays later:List Nm):List FSum→List FnD→List FSum
 |known,[]=>known
 |known,f::l=>sumFs vars arrays later (known++[sumF vars arrays later known f]) l
def scalarsP (vars:List Nm) (fs:List FnD):List Nm:=vars++(fs.map fun f=>(f.params++f.locals).map fun x=>f.name++[46]++x).flatten
def mainE (vars:List Nm) (fs:List FnD) (sums:List FSum):Int:=match fs.getLast?,sums.getLast? with
 |some f,some m=>if f.name=[109,97,105,110]∧f.params=[] then (if (scalarsP vars fs).length≤8000∧m.need≤200∧m.depth≤60 then 0 else 6) else 9
 |_,_=>9
def checkP (vars:List Nm) (arrays:List (Nm×Int)) (fs:List FnD):Int:=
 orE (freshE [] (vars++arrays.map (·.1)++fs.map (·.name))) (orE (sizesE 0 (arrays.map (·.2)))
  (orE (errFs vars (arrays.map (·.1)) (fs.map (·.name)) [] fs) (mainE vars fs (sumFs vars (arrays.map (·.1)) (fs.map (·.name)) [] fs))))
def checkPr (p:Pr):Int:=checkP p.vars (p.arrays.map fun a=>(a.name,(a.size:Int))) p.funcs
theorem orE_zero {a b:Int}:orE a b=0 ↔ a=0∧b=0:=by
 unfold orE
 split
 ·constructor
  ·intro h;contradiction
  ·rintro ⟨h,_⟩;contradiction
 ·constructor
  ·intro h;exact ⟨by omega,h⟩
  ·rintro ⟨_,h⟩;exact h
end Go.Stele
namespace Go.Stele
def leftLv (k:Nat):Nat:=if k=2 then k+1 else k
end Go.Stele
namespace Go.Stele
def lexAt (s:List UInt8) (line:Int):Except (Int×Int) (List Tok):=lexP s.length s line
end Go.Stele
namespace Go.Stele
open Go.Lib
theorem pu_append (M:Nat):∀ (l r:List UInt8) (acc u:Nat),parseUintM M acc l=.ok u→parseUintM M acc (l++r)=parseUintM M u r
 |[],r,acc,u,h=>by
  rw[parseUintM] at h
  cases h
  rfl
 |c::l,r,acc,u,h=>by
  rw[parseUintM] at h
  rw[List.cons_append,parseUintM]
  split at h
  ·rename_i hc
   rw[if_pos hc]
   split at h
   ·cases h
   ·rename_i h1
    rw[if_neg h1]
    split at h
    ·cases h
    ·rename_i h2
     rw[if_neg h2]
     exact pu_append M l r _ u h
  ·cases h
theorem digit_toNat {d:Nat} (h:d<10):(UInt8.ofNat (48+d)).toNat=48+d:=by
 rw[UInt8.toNat_ofNat']
 omega
theorem pu_dec (M:Nat) (hM:M≤4294967295) (u:Nat) (hu:u≤M):parseUintM M 0 (decDigits u)=.ok u:=by
 induction u using Nat.strongRecOn with
 |_ u ih=>
  have one:∀ a d,d<10→a * 10+d≤M→parseUintM M a [UInt8.ofNat (48+d)]=.ok (a * 10+d):=fun a d hd ha=>by
   rw[parseUintM,digit_toNat hd,if_pos (by omega),if_neg (by omega),if_neg (by omega),parseUintM]
   congr 1
   omega
  rw[decDigits]
  split
  ·have:=one 0 u (by assumption) (by omega)
   simpa using this
  ·rw[pu_append M _ _ 0 (u / 10) (ih (u / 10) (by omega) (by omega)),one _ _ (by omega) (by omega)]
   congr 1
   omega
theorem decDigits_ne (u:Nat):decDigits u≠[]:=by
 rw[decDigits]
 split <;> simp
theorem pu32_dec (u:Nat) (hu:u<4294967296):parseUintB 32 (decDigits u)=.ok u:=by
 rw[parseUintB,if_neg (decDigits_ne u)]
 exact pu_dec _ (by decide) u (by omega)
theorem nDigits_le:∀ (k u:Nat),u<10 ^ (k+1)→nDigits u≤k+1
 |0,u,h=>by rw[nDigits_small (by simpa using h)];omega
 |k+1,u,h=>by
  by_cases hu:u<10
  ·rw[nDigits_small hu];omega
  ·rw[nDigits_big hu]
   have:=nDigits_le k (u / 10) (by rw[Nat.pow_succ] at h;omega)
   omega
theorem dec_len {u:Nat} (hu:u<4294967296):(decDigits u).length≤10:=by
 rw[decDigits_length]
 exact nDigits_le 9 u (by omega)
theorem pu32_lt {l:List UInt8} {u:Nat} (h:parseUintB 32 l=.ok u):u<4294967296:=by
 have key:∀ (l:List UInt8) (acc u:Nat),acc≤4294967295→parseUintM 4294967295 acc l=.ok u→u≤4294967295:=by
  intro l
  induction l with
  |nil=>intro acc u ha h;rw[parseUintM] at h;cases h;exact ha
  |cons c l ih=>
   intro acc u ha h
   rw[parseUintM] at h
   split at h
   ·split at h
    ·cases h
    ·split at h
     ·cases h
     ·exact ih _ _ (by omega) h
   ·cases h
 rw[parseUintB] at h
 split at h
 ·cases h
 ·have:=key _ _ _ (by omega) h
  omega
def TokOk (t:Tok):Prop:=t.text.length≤100∧(t.kind=1→∃ u,u<4294967296∧parseUintB 32 t.text=.ok u∧t.text=decDigits u)
theorem lexToken_ok (s:List UInt8) (h:(lexToken s).2.2=0):TokOk (lexToken s).1:=by
 match s with
 |[]=>simp[lexToken,tokErr] at h
 |c::r=>
  simp only[lexToken] at h ⊢
  split at h <;> rename_i hc
  ·rw[if_pos hc]
   unfold lexNumber at h ⊢
   split at h
   ·simp[tokErr] at h
   ·rename_i hw
    rw[if_neg hw]
    split at h
    ·rename_i u hu
     have hlt:=pu32_lt hu
     exact ⟨by have:=dec_len hlt;simp only;omega,fun _=>⟨u,hlt,pu32_dec u hlt,rfl⟩⟩
    ·simp[tokErr] at h
  ·rw[if_neg hc]
   split at h <;> rename_i hl
   ·rw[if_pos hl]
    unfold lexName at h ⊢
    split at h
    ·simp[tokErr] at h
    ·rename_i hw
     rw[if_neg hw]
     refine ⟨by simp only;omega,fun hk=>?_⟩
     simp only at hk
     split at hk <;> cases hk
   ·rw[if_neg hl]
    split at h <;> rename_i hq
    ·rw[if_pos hq]
     unfold lexLiteral at h ⊢
     split at h
     ·split at h
      ·simp[tokErr] at h
      ·rename_i hx
       rename_i heq
       rename_i b _ _
       rw[if_neg hx]
       have hb:b.toNat<4294967296:=Nat.lt_trans (UInt8.toNat_lt b) (by decide)
       exact ⟨by have:=dec_len hb;simp only;omega,fun _=>⟨b.toNat,hb,pu32_dec _ hb,rfl⟩⟩
     ·simp[tokErr] at h
    ·rw[if_neg hq]
     unfold lexSign at h ⊢
     split at h
     ·rename_i x hx
      have h2:=List.mem_of_find?_eq_some hx
      have:∀ x∈signs,x.length≤100:=by decide
      exact ⟨this x h2,fun hk=>by cases hk⟩
     ·simp[tokErr] at h
theorem map_ok {A B:Type} {f:A→B} {r:Except (Int×Int) A} {b:B} (h:r.map f=.ok b):∃ a,r=.ok a∧f a=b:=by
 cases r with
 |ok a=>exact ⟨a,rfl,by injection h⟩
 |error e=>cases h
theorem lexP_ok:∀ (f:Nat) (s:List UInt8) (line:Int) (T:List Tok),lexP f s line=.ok T→T.length≤f∧∀ t∈T,TokOk t
 |0,s,line,T,h=>by
  rw[lexP] at h
  cases h
  exact ⟨Nat.le_refl _,by simp⟩
 |f+1,s,line,T,h=>by
  rw[lexP] at h
  split at h
  ·cases h
   exact ⟨Nat.zero_le _,by simp⟩
  ·split at h
   ·split at h
    ·cases h
    ·rename_i he
     obtain ⟨T',h1,rfl⟩:=map_ok h
     obtain ⟨k1,k2⟩:=lexP_ok f _ _ _ h1
     refine ⟨by rw[List.length_cons];omega,fun t ht=>?_⟩
     rcases List.mem_cons.1 ht with rfl|ht
     ·exact lexToken_ok s (by omega)
     ·exact k2 t ht
   ·obtain ⟨k1,k2⟩:=lexP_ok f _ _ _ h
    exact ⟨by omega,k2⟩
end Go.Stele
namespace Go.Stele
open Go.Lib
def Again (t:Tok):Prop:=t.text.length≤24∧t.text≠[]∧skipLen t.text=0∧(10:UInt8) ∉ t.text∧lexToken t.text=(⟨t.kind,t.text,0⟩,t.text.length,0)
theorem skip_head {c:UInt8} {r:List UInt8} (hw:isWhite c=false) (h47:c≠47):skipLen (c::r)=0:=by
 have h:([47,47]:List UInt8).isPrefixOf (c::r)=false:=by
  cases h:([47,47]:List UInt8).isPrefixOf (c::r) with
  |false=>rfl
  |true=>
   simp only[List.isPrefixOf,Bool.and_eq_true,beq_iff_eq] at h
   exact absurd h.1.symm h47
 unfold skipLen
 rw[h,if_neg (by decide),List.takeWhile_cons_of_neg (by rw[hw];decide)]
 rfl
theorem digit_of {d:Nat} (h:d<10):isDigit (UInt8.ofNat (48+d))=true:=by
 have h1:(UInt8.ofNat (48+d)).toNat=48+d:=digit_toNat h
 unfold isDigit cv
 rw[h1]
 simp
 omega
theorem dec_digits (u:Nat):∀ c∈decDigits u,isDigit c=true:=by
 induction u using Nat.strongRecOn with
 |ind u ih=>
  intro c hc
  by_cases h:u<10
  ·rw[decDigits_one h] at hc
   rw[List.mem_singleton.1 hc]
   exact digit_of h
  ·rw[decDigits,dif_neg h] at hc
   rcases List.mem_append.1 hc with hc|hc
   ·exact ih (u / 10) (by omega) c hc
   ·rw[List.mem_singleton.1 hc]
    exact digit_of (by omega)
theorem digit_white {c:UInt8} (h:isDigit c=true):isWhite c=false∧c≠47:=by
 unfold isDigit at h
 rw[Bool.and_eq_true,decide_eq_true_eq,decide_eq_true_eq] at h
 refine ⟨?_,fun hc=>?_⟩
 ·unfold isWhite
  simp only[Bool.or_eq_false_iff,decide_eq_false_iff_not]
  omega
 ·subst hc
  exact absurd h.1 (by decide)
theorem letter_white {c:UInt8} (h:isLetter c=true):isWhite c=false∧c≠47:=by
 unfold isLetter at h
 rw[Bool.and_eq_true,decide_eq_true_eq,decide_eq_true_eq] at h
 refine ⟨?_,fun hc=>?_⟩
 ·unfold isWhite
  simp only[Bool.or_eq_false_iff,decide_eq_false_iff_not]
  omega
 ·subst hc
  exact absurd h.1 (by decide)
theorem tw_self {p:UInt8→Bool}:∀ {s:List UInt8},(∀ c∈s,p c=true)→s.takeWhile p=s
 |[],_=>rfl
 |c::s,h=>by rw[List.takeWhile_cons_of_pos (h c (List.mem_cons_self ..)),tw_self fun d hd=>h d (List.mem_cons_of_mem _ hd)]
theorem tw_mem {p:UInt8→Bool}:∀ {s:List UInt8} {c:UInt8},c∈s.takeWhile p→p c=true
 |[],_,h=>by cases h
 |d::s,c,h=>by
  by_cases hd:p d=true
  ·rw[List.takeWhile_cons_of_pos hd] at h
   rcases List.mem_cons.1 h with rfl|h
   ·exact hd
   ·exact tw_mem h
  ·rw[List.takeWhile_cons_of_neg hd] at h
   cases h
theorem again_dec {u:Nat} (hu:u<4294967296) (l:Int):Again ⟨1,decDigits u,l⟩:=by
 have hd:=dec_digits u
 have hne:=decDigits_ne u
 refine ⟨by have:=dec_len hu;simp only;omega,hne,?_,fun h=>by have:=hd _ h;exact absurd this (by decide),?_⟩
 ·show skipLen (decDigits u)=0
  cases hD:decDigits u with
  |nil=>exact absurd hD hne
  |cons c r=>
   have:=digit_white (hd c (by rw[hD];exact List.mem_cons_self ..))
   exact skip_head this.1 this.2
 ·show lexToken (decDigits u)=(⟨1,decDigits u,0⟩,(decDigits u).length,0)
  have h1:lexToken (decDigits u)=lexNumber (decDigits u):=by
   cases hD:decDigits u with
   |nil=>exact absurd hD hne
   |cons c r=>rw[lexToken,if_pos (hd c (by rw[hD];exact List.mem_cons_self ..))]
  rw[h1]
  unfold lexNumber
  rw[tw_self hd,pu32_dec u hu,if_neg]
  unfold wordNext
  rw[List.getElem?_eq_none (Nat.le_refl _)]
  decide
theorem again_sign:∀ x∈signs,x.length≤24∧x≠[]∧skipLen x=0∧(10:UInt8) ∉ x∧lexToken x=(⟨4,x,0⟩,x.length,0):=by decide +kernel
theorem lexToken_again (s:List UInt8) (h:(lexToken s).2.2=0):Again (lexToken s).1:=by
 match s with
 |[]=>simp[lexToken,tokErr] at h
 |c::r=>
  simp only[lexToken] at h ⊢
  split at h <;> rename_i hc
  ·rw[if_pos hc]
   unfold lexNumber at h ⊢
   split at h
   ·simp[tokErr] at h
   ·rename_i hw
    rw[if_neg hw]
    split at h
    ·rename_i u hu
     exact again_dec (pu32_lt hu) 0
    ·simp[tokErr] at h
  ·rw[if_neg hc]
   split at h <;> rename_i hl
   ·rw[if_pos hl]
    unfold lexName at h ⊢
    split at h
    ·simp[tokErr] at h
    ·rename_i hw
     rw[if_neg hw]
     have hin:isInner c=true:=by simp[isInner,hl]
     have hW:(c::r).takeWhile isInner=c::r.takeWhile isInner:=List.takeWhile_cons_of_pos hin
     have hall:∀ d∈(c::r).takeWhile isInner,isInner d=true:=fun d hd=>tw_mem hd
     have hww:=letter_white hl
     refine ⟨by simp only;omega,by simp only;rw[hW];simp,by simp only;rw[hW];exact skip_head hww.1 hww.2,fun h10=>absurd (hall _ h10) (by decide),?_⟩
     simp only
     have h1:lexToken ((c::r).takeWhile isInner)=lexName ((c::r).takeWhile isInner):=by
      rw[hW,lexToken,if_neg hc,if_pos hl]
     rw[h1]
     unfold lexName
     rw[tw_self hall,if_neg hw]
   ·rw[if_neg hl]
    split at h <;> rename_i hq
    ·rw[if_pos hq]
     unfold lexLiteral at h ⊢
     split at h
     ·split at h
      ·simp[tokErr] at h
      ·rename_i hx
       rename_i heq
       rename_i b _ _
       rw[if_neg hx]
       exact again_dec (Nat.lt_trans (UInt8.toNat_lt b) (by decide)) 0
     ·simp[tokErr] at h
    ·rw[if_neg hq]
     unfold lexSign at h ⊢
     split at h
     ·rename_i x hx
      exact again_sign x (List.mem_of_find?_eq_some hx)
     ·simp[tokErr] at h
theorem lexP_again:∀ (f:Nat) (s:List UInt8) (line:Int) (T:List Tok),lexP f s line=.ok T→∀ t∈T,Again t
 |0,s,line,T,h=>by
  rw[lexP] at h
  cases h
  simp
 |f+1,s,line,T,h=>by
  rw[lexP] at h
  split at h
  ·cases h
   simp
  ·split at h
   ·split at h
    ·cases h
    ·rename_i he
     obtain ⟨T',h1,rfl⟩:=map_ok h
     have k2:=lexP_again f _ _ _ h1
     intro t ht
     rcases List.mem_cons.1 ht with rfl|ht
     ·exact lexToken_again s (by omega)
     ·exact k2 t ht
   ·exact lexP_again f _ _ _ h
end Go.Stele
namespace Go.Stele
def Good {A:Type} (T:List Tok) (s:Bool) (i op:Nat) (r:Res A):Prop:=match r with
 |.ok _ i' op'=>i≤i'∧(s=true→i<i')∧(i≤T.length→i'≤T.length)∧op'=op
 |.err _ _=>True
def GoodO {A:Type} (T:List Tok) (s:Bool) (i op:Nat) (r:OR A):Prop:=∀ r',r=some r'→Good T s i op r'
theorem isTok_lt {T:List Tok} {i:Nat} {xs:List (List UInt8)} (h:isTok T i xs=true):i<T.length:=by
 rcases Nat.lt_or_ge i T.length with h1|h1
 ·exact h1
 ·rw[isTok,List.getElem?_eq_none h1] at h;cases h
theorem get_lt {T:List Tok} {i:Nat} {t:Tok} (h:T[i]? = some t):i<T.length:=(List.getElem?_eq_some_iff.1 h).1
theorem sWord_good (T:List Tok) (k:Int) (i op:Nat):Good T true i op (sWord T k i op):=by
 unfold sWord
 split
 ·rename_i t ht
  have:=get_lt ht
  split
  ·exact ⟨by omega,fun _=>by omega,fun _=>by omega,rfl⟩
  ·trivial
 ·trivial
theorem sNeed_good (T:List Tok) (x:List UInt8) (i op:Nat):Good T true i op (sNeed T x i op):=by
 unfold sNeed
 split
 ·rename_i h
  have:=isTok_lt h
  exact ⟨by omega,fun _=>by omega,fun _=>by omega,rfl⟩
 ·trivial
theorem sBegin_ok {T:List Tok} {x:List UInt8} {i op i' op':Nat} {u:Unit} (h:sBegin T x i op=.ok u i' op'):i'=i+1∧op'=op+1∧op<100∧i<T.length:=by
 unfold sBegin at h
 split at h
 ·rename_i h1
  have:=isTok_lt h1
  split at h
  ·cases h
  ·cases h
   exact ⟨rfl,rfl,by omega,this⟩
 ·cases h
theorem sEnd_ok {T:List Tok} {x:List UInt8} {i op i' op':Nat} {u:Unit} (h:sEnd T x i op=.ok u i' op'):i'=i+1∧op'=op-1∧i<T.length:=by
 unfold sEnd sNeed at h
 split at h
 ·rename_i h1
  have:=isTok_lt h1
  cases h
  exact ⟨rfl,rfl,this⟩
 ·cases h
theorem sNumber_good (T:List Tok) (i op:Nat):Good T true i op (sNumber T i op):=by
 have:=sWord_good T 1 i op
 unfold sNumber
 cases h:sWord T 1 i op with
 |ok v i' op'=>rw[h] at this;exact this
 |err l e=>trivial
theorem obind_some {A B:Type} {r:OR A} {f:A→Nat→Nat→OR B} {q:Res B} (h:obind r f=some q) :
  (∃ v i op,r=some (.ok v i op)∧f v i op=some q)∨(∃ l e,r=some (.err l e)∧q=.err l e):=by
 match r,h with
 |some (.ok v i op),h=>exact .inl ⟨v,i,op,rfl,h⟩
 |some (.err l e),h=>exact .inr ⟨l,e,rfl,by simpa [obind] using h.symm⟩
theorem good_bind {A B:Type} {T:List Tok} {s t:Bool} {i op j op1:Nat} {r:OR A} {f:A→Nat→Nat→OR B} (hr:GoodO T s j op1 r)
  (hf:∀ v i' ,r=some (.ok v i' op1)→j≤i'→(s=true→j<i')→(j≤T.length→i'≤T.length)→GoodO T t i op (f v i' op1)):GoodO T t i op (obind r f):=fun q hq=>by
 rcases obind_some hq with ⟨v,i',op',h1,h2⟩|⟨l,e,_,rfl⟩
 ·obtain ⟨g1,g2,g3,g4⟩:=hr _ h1
  subst g4
  exact hf v i' h1 g1 g2 g3 q h2
 ·trivial
theorem good_some {A:Type} {T:List Tok} {s:Bool} {i op:Nat} {r:Res A} (h:Good T s i op r):GoodO T s i op (some r):=fun r' hr=>by cases hr;exact h
theorem good_none {A:Type} {T:List Tok} {s:Bool} {i op:Nat}:GoodO (A:=A) T s i op none:=fun r' hr=>by cases hr
theorem GoodO.from {A:Type} {T:List Tok} {s t:Bool} {i j op:Nat} {r:OR A} (h:GoodO T s j op r) (hij:i≤j) (hs:t=true→i<j∨s=true) (hT:i≤T.length→j≤T.length):GoodO T t i op r:=fun r' hr=>by
 have:=h r' hr
 cases r' with
 |ok v i' op'=>
  obtain ⟨g1,g2,g3,g4⟩:=this
  refine ⟨by omega,fun ht=>?_,fun hi=>g3 (hT hi),g4⟩
  rcases hs ht with h1|h1
  ·omega
  ·have:=g2 h1;omega
 |err l e=>trivial
theorem sNamesLoop_good (T:List Tok):∀ (f:Nat) (acc:List (List UInt8)) (i op:Nat),GoodO T false i op (sNamesLoop T f acc i op)
 |0,_,_,_=>good_none
 |f+1,acc,i,op=>by
  rw[sNamesLoop]
  split
  ·rename_i h
   have:=isTok_lt h
   refine good_bind (good_some (sWord_good T 2 (i+1) op)) fun v i' _ h1 h2 h3=>?_
   exact (sNamesLoop_good T f _ i' op).from (by omega) (by simp) (fun _=>h3 (by omega))
  ·exact good_some ⟨by omega,by simp,fun h=>h,rfl⟩
theorem sNames_good (T:List Tok) (f i op:Nat):GoodO T true i op (sNames T f i op):=
 good_bind (good_some (sWord_good T 2 i op)) fun v i' _ h1 h2 h3=>(sNamesLoop_good T f _ i' op).from h1 (fun _=>.inl (h2 rfl)) h3
theorem good_wrap {A:Type} {T:List Tok} {s:Bool} {x y:List UInt8} {i op:Nat} {g:Nat→Nat→OR A} (hg:i<T.length→op<100→GoodO T s (i+1) (op+1) (g (i+1) (op+1))) :
  GoodO T true i op (obind (some (sBegin T x i op)) fun _ i' op'=>obind (g i' op') fun v i' op'=>obind (some (sEnd T y i' op')) fun _ i' op'=>some (.ok v i' op')):=fun q hq=>by
 rcases obind_some hq with ⟨v,i1,op1,h1,h2⟩|⟨l,e,_,rfl⟩
 ·injection h1 with h1
  obtain ⟨rfl,rfl,ho,hi⟩:=sBegin_ok h1
  rcases obind_some h2 with ⟨w,i2,op2,h3,h4⟩|⟨l,e,_,rfl⟩
  ·obtain ⟨g1,_,g3,rfl⟩:=hg hi ho _ h3
   rcases obind_some h4 with ⟨u,i3,op3,h5,h6⟩|⟨l,e,_,rfl⟩
   ·injection h5 with h5
    obtain ⟨rfl,rfl,hi2⟩:=sEnd_ok h5
    cases h6
    exact ⟨by omega,fun _=>by omega,fun _=>by omega,by omega⟩
   ·trivial
  ·trivial
 ·trivial
theorem ex_good (T:List Tok):∀ f:Nat,(∀ k i op,GoodO T true i op (eLev T f k i op))∧(∀ k e i op,GoodO T false i op (eLoop T f k e i op))∧(∀ i op,GoodO T true i op (eUnary T f i op)) ∧
  (∀ i op,GoodO T true i op (ePrim T f i op))∧(∀ i op,GoodO T true i op (eIndex T f i op))∧(∀ i op,GoodO T true i op (eArgs T f i op))∧(∀ acc i op,GoodO T false i op (eArgsLoop T f acc i op))
 |0=>⟨fun _ _ _=>by rw[eLev];exact good_none,fun _ _ _ _=>by rw[eLoop];exact good_none,fun _ _=>by rw[eUnary];exact good_none,fun _ _=>by rw[ePrim];exact good_none,fun _ _=>by rw[eIndex];exact good_none,fun _ _=>by rw[eArgs];exact good_none,fun _ _ _=>by rw[eArgsLoop];exact good_none⟩
 |f+1=>by
  obtain ⟨hL,hO,hU,hP,hI,hA,hB⟩:=ex_good T f
  have neg:∀ (x:List UInt8) (nm:List UInt8) (i op:Nat),GoodO T true i op (obind (some (sBegin T x i op)) fun _ i' op'=>obind (eUnary T f i' op') fun e i' op'=>some (.ok (Ex.mk nm 0 [] [e]) i' (op'-1))):=fun x nm i op q hq=>by
   rcases obind_some hq with ⟨v,i1,op1,h1,h2⟩|⟨l,e,_,rfl⟩
   ·injection h1 with h1
    obtain ⟨rfl,rfl,ho,hi⟩:=sBegin_ok h1
    rcases obind_some h2 with ⟨w,i2,op2,h3,h4⟩|⟨l,e,_,rfl⟩
    ·obtain ⟨g1,_,g3,rfl⟩:=hU _ _ _ h3
     cases h4
     exact ⟨by omega,fun _=>by omega,fun _=>g3 (by omega),by omega⟩
    ·trivial
   ·trivial
  refine ⟨fun k i op=>?_,fun k e i op=>?_,fun i op=>?_,fun i op=>?_,fun i op=>?_,fun i op=>?_,fun acc i op=>?_⟩
  ·rw[eLev]
   split
   ·exact hU i op
   ·exact good_bind (hL (k+1) i op) fun v i' _ h1 h2 h3=>(hO k v i' op).from h1 (fun _=>.inl (h2 rfl)) h3
  ·rw[eLoop]
   split
   ·rename_i h
    have:=isTok_lt h
    refine good_bind (hL (k+1) (i+1) op) fun v i' _ h1 h2 h3=>?_
    split
    ·exact good_some ⟨by omega,by simp,fun _=>h3 (by omega),rfl⟩
    ·exact (hO k _ i' op).from (by omega) (by simp) (fun _=>h3 (by omega))
   ·exact good_some ⟨by omega,by simp,fun h=>h,rfl⟩
  ·rw[eUnary]
   split
   ·exact neg _ _ _ _
   ·split
    ·exact neg _ _ _ _
    ·exact hP i op
  ·rw[ePrim]
   split
   ·exact good_wrap (g:=fun i op=>eLev T f 0 i op) fun _ _=>hL 0 _ _
   ·split
    ·exact good_bind (good_some (sNumber_good T i op)) fun v i' _ h1 h2 h3=>good_some ⟨h1,fun _=>h2 rfl,h3,rfl⟩
    ·refine good_bind (good_some (sWord_good T 2 i op)) fun v i' _ h1 h2 h3=>?_
     split
     ·exact good_bind (hI i' op) fun v i2 _ g1 g2 g3=>good_some ⟨by omega,fun _=>by have:=h2 rfl;omega,fun h=>g3 (h3 h),rfl⟩
     ·split
      ·exact good_bind (hA i' op) fun v i2 _ g1 g2 g3=>good_some ⟨by omega,fun _=>by have:=h2 rfl;omega,fun h=>g3 (h3 h),rfl⟩
      ·exact good_some ⟨h1,fun _=>h2 rfl,h3,rfl⟩
  ·rw[eIndex]
   exact good_wrap (g:=fun i op=>eLev T f 0 i op) fun _ _=>hL 0 _ _
  ·rw[eArgs]
   exact good_wrap (g:=fun i op=>eArgsLoop T f [] i op) fun _ _=>hB [] _ _
  ·rw[eArgsLoop]
   split
   ·exact good_some ⟨by omega,by simp,fun h=>h,rfl⟩
   ·refine good_bind (s:=false) (j:=i) (op1:=op) ?_ fun v i' _ h1 h2 h3=>?_
    ·split
     ·exact good_some ⟨by omega,by simp,fun h=>h,rfl⟩
     ·exact GoodO.from (good_some (sNeed_good T [44] i op)) (by omega) (by simp) (fun h=>h)
    ·exact good_bind (hL 0 i' op) fun v i2 _ g1 g2 g3=>(hB _ i2 op).from (by omega) (by simp) (fun h=>g3 (h3 h))
end Go.Stele
/- The parser in plain Lean: where statements end; enough fuel. -/
namespace Go.Stele
theorem st_good (T:List Tok):∀ f:Nat,(∀ i op,GoodO T true i op (sBlock T f i op))∧(∀ acc i op,GoodO T false i op (sStmts T f acc i op))∧(∀ i op,GoodO T true i op (sStmt T f i op))∧(∀ i op,GoodO T true i op (sSimple T f i op))
 |0=>⟨fun _ _=>by rw[sBlock];exact good_none,fun _ _ _=>by rw[sStmts];exact good_none,fun _ _=>by rw[sStmt];exact good_none,fun _ _=>by rw[sSimple];exact good_none⟩
 |f+1=>by
  obtain ⟨hB,hL,hS,hM⟩:=st_good T f
  obtain ⟨gL,_,_,_,gI,gA,_⟩:=ex_good T f
  refine ⟨fun i op=>?_,fun acc i op=>?_,fun i op=>?_,fun i op=>?_⟩
  ·rw[sBlock]
   exact good_wrap (g:=fun i op=>sStmts T f [] i op) fun _ _=>hL [] _ _
  ·rw[sStmts]
   split
   ·exact good_some ⟨by omega,by simp,fun h=>h,rfl⟩
   ·exact good_bind (hS i op) fun v i' _ h1 h2 h3=>(hL _ i' op).from h1 (by simp) h3
  ·rw[sStmt]
   split
   ·rename_i h
    have:=isTok_lt h
    refine good_bind (gL 0 (i+1) op) fun v i' _ h1 h2 h3=>good_bind (hB i' op) fun w i2 _ g1 g2 g3=>?_
    split
    ·rename_i h4
     have:=isTok_lt h4
     refine good_bind (hB (i2+1) op) fun x i3 _ k1 k2 k3=>good_some ⟨by omega,fun _=>by omega,fun _=>k3 (by omega),rfl⟩
    ·exact good_some ⟨by omega,fun _=>by omega,fun _=>g3 (h3 (by omega)),rfl⟩
   ·split
    ·rename_i h
     have:=isTok_lt h
     exact good_bind (gL 0 (i+1) op) fun v i' _ h1 h2 h3=>good_bind (hB i' op) fun w i2 _ g1 g2 g3=>good_some ⟨by omega,fun _=>by omega,fun _=>g3 (h3 (by omega)),rfl⟩
    ·exact good_bind (hM i op) fun v i' _ h1 h2 h3=>good_bind (good_some (sNeed_good T [59] i' op)) fun w i2 _ g1 g2 g3=>good_some ⟨by omega,fun _=>by have:=h2 rfl;omega,fun hh=>g3 (h3 hh),rfl⟩
  ·rw[sSimple]
   split
   ·rename_i h
    have:=isTok_lt h
    exact good_bind (gL 0 (i+1) op) fun v i' _ h1 h2 h3=>good_some ⟨by omega,fun _=>by omega,fun _=>h3 (by omega),rfl⟩
   ·split
    ·rename_i h
     have:=isTok_lt h
     exact good_some ⟨by omega,fun _=>by omega,fun _=>by omega,rfl⟩
    ·refine good_bind (good_some (sWord_good T 2 i op)) fun v i' _ h1 h2 h3=>?_
     split
     ·exact good_bind (gA i' op) fun w i2 _ g1 g2 g3=>good_some ⟨by omega,fun _=>by have:=h2 rfl;omega,fun hh=>g3 (h3 hh),rfl⟩
     ·split
      ·exact good_bind (gI i' op) fun w i2 _ g1 g2 g3=>good_bind (good_some (sNeed_good T [61] i2 op)) fun u i3 _ k1 k2 k3=>good_bind (gL 0 i3 op) fun x i4 _ m1 m2 m3=>
        good_some ⟨by omega,fun _=>by have:=h2 rfl;omega,fun hh=>m3 (k3 (g3 (h3 hh))),rfl⟩
      ·exact good_bind (good_some (sNeed_good T [61] i' op)) fun u i3 _ k1 k2 k3=>good_bind (gL 0 i3 op) fun x i4 _ m1 m2 m3=>
        good_some ⟨by omega,fun _=>by have:=h2 rfl;omega,fun hh=>m3 (k3 (h3 hh)),rfl⟩
theorem sVars_good (T:List Tok):∀ (f:Nat) (acc:List (List UInt8)) (i op:Nat),GoodO T (isTok T i [kwVar]) i op (sVars T f acc i op)
 |0,_,_,_=>by rw[sVars];exact good_none
 |f+1,acc,i,op=>by
  rw[sVars]
  split
  ·rename_i h
   have:=isTok_lt h
   exact good_bind (sNames_good T f (i+1) op) fun v i' _ h1 h2 h3=>good_bind (good_some (sNeed_good T [59] i' op)) fun u i2 _ g1 g2 g3=>
    (sVars_good T f _ i2 op).from (by omega) (fun _=>.inl (by omega)) (fun _=>g3 (h3 (by omega)))
  ·rename_i h
   exact good_some ⟨by omega,fun hh=>absurd hh h,fun h=>h,rfl⟩
/-! ### Enough fuel -/
def Ends {A:Type} (r:OR A):Prop:=∃ q,r=some q
theorem ends_bind {A B:Type} {r:OR A} {f:A→Nat→Nat→OR B} (h:Ends r) (k:∀ v i op,r=some (.ok v i op)→Ends (f v i op)):Ends (obind r f):=by
 obtain ⟨q,rfl⟩:=h
 cases q with
 |ok v i op=>exact k v i op rfl
 |err l e=>exact ⟨_,rfl⟩
theorem ends_some {A:Type} {r:Res A}:Ends (some r):=⟨_,rfl⟩
theorem ends_begin {B:Type} {T:List Tok} {x:List UInt8} {i op:Nat} {g:Unit→Nat→Nat→OR B} (k:i<T.length→op<100→Ends (g () (i+1) (op+1))):Ends (obind (some (sBegin T x i op)) g):=
 ends_bind ends_some fun v i1 op1 h1=>by
  injection h1 with h1
  obtain ⟨rfl,rfl,ho,hi⟩:=sBegin_ok h1
  exact k hi ho
theorem ex_ends (T:List Tok):∀ f:Nat,(∀ k i op,k≤6→i≤T.length→10 * (T.length-i)+20-k≤f→Ends (eLev T f k i op))∧(∀ k e i op,k≤5→i≤T.length→10 * (T.length-i)+11≤f→Ends (eLoop T f k e i op)) ∧
  (∀ i op,i≤T.length→10 * (T.length-i)+13≤f→Ends (eUnary T f i op))∧(∀ i op,i≤T.length→10 * (T.length-i)+12≤f→Ends (ePrim T f i op))∧(∀ i op,i≤T.length→10 * (T.length-i)+11≤f→Ends (eIndex T f i op)) ∧
  (∀ i op,i≤T.length→10 * (T.length-i)+12≤f→Ends (eArgs T f i op))∧(∀ acc i op,i≤T.length→10 * (T.length-i)+21≤f→Ends (eArgsLoop T f acc i op))
 |0=>⟨fun _ _ _ _ _ _=>by omega,fun _ _ _ _ _ _ _=>by omega,fun _ _ _ _=>by omega,fun _ _ _ _=>by omega,fun _ _ _ _=>by omega,fun _ _ _ _=>by omega,fun _ _ _ _ _=>by omega⟩
 |f+1=>by
  obtain ⟨hL,hO,hU,hP,hI,hA,hB⟩:=ex_ends T f
  obtain ⟨gL,gO,gU,gP,gI,gA,gB⟩:=ex_good T f
  have neg:∀ (x nm:List UInt8) (i op:Nat),10 * (T.length-i)+13≤f+1→Ends (obind (some (sBegin T x i op)) fun _ i' op'=>obind (eUnary T f i' op') fun e i' op'=>some (.ok (Ex.mk nm 0 [] [e]) i' (op'-1))):=fun x nm i op hf=>
   ends_begin fun hi ho=>ends_bind (hU _ _ (by omega) (by omega)) fun v i2 op2 _=>ends_some
  refine ⟨fun k i op hk hi hf=>?_,fun k e i op hk hi hf=>?_,fun i op hi hf=>?_,fun i op hi hf=>?_,fun i op hi hf=>?_,fun i op hi hf=>?_,fun acc i op hi hf=>?_⟩
  ·rw[eLev]
   split
   ·exact hU i op hi (by omega)
   ·refine ends_bind (hL (k+1) i op (by omega) hi (by omega)) fun v i' op' h=>?_
    obtain ⟨g1,g2,g3,rfl⟩:=gL (k+1) i op _ h
    have:=g2 rfl
    exact hO k v i' op' (by omega) (g3 hi) (by have:=g3 hi;omega)
  ·rw[eLoop]
   split
   ·rename_i h
    have:=isTok_lt h
    refine ends_bind (hL (k+1) (i+1) op (by omega) (by omega) (by omega)) fun v i' op' h=>?_
    obtain ⟨g1,g2,g3,rfl⟩:=gL (k+1) (i+1) op _ h
    have:=g3 (by omega)
    split
    ·exact ends_some
    ·exact hO k _ i' op' hk this (by omega)
   ·exact ends_some
  ·rw[eUnary]
   split
   ·exact neg _ _ _ _ hf
   ·split
    ·exact neg _ _ _ _ hf
    ·exact hP i op hi (by omega)
  ·rw[ePrim]
   split
   ·exact ends_begin fun hlt ho=>ends_bind (hL 0 _ _ (by omega) (by omega) (by omega)) fun v i2 op2 _=>ends_bind ends_some fun _ _ _ _=>ends_some
   ·split
    ·exact ends_bind ends_some fun _ _ _ _=>ends_some
    ·refine ends_bind ends_some fun v i' op' h=>?_
     injection h with h
     have hg:=sWord_good T 2 i op
     rw[h] at hg
     obtain ⟨h1,h2,h3,rfl⟩:=hg
     have:=h2 rfl
     have:=h3 hi
     split
     ·exact ends_bind (hI i' _ (by omega) (by omega)) fun _ _ _ _=>ends_some
     ·split
      ·exact ends_bind (hA i' _ (by omega) (by omega)) fun _ _ _ _=>ends_some
      ·exact ends_some
  ·rw[eIndex]
   exact ends_begin fun hlt ho=>ends_bind (hL 0 _ _ (by omega) (by omega) (by omega)) fun v i2 op2 _=>ends_bind ends_some fun _ _ _ _=>ends_some
  ·rw[eArgs]
   exact ends_begin fun hlt ho=>ends_bind (hB [] _ _ (by omega) (by omega)) fun v i2 op2 _=>ends_bind ends_some fun _ _ _ _=>ends_some
  ·rw[eArgsLoop]
   split
   ·exact ends_some
   ·refine ends_bind ends_some fun v i' op' h=>?_
    have hg:i≤i'∧i'≤T.length:=by
     injection h with h
     split at h
     ·cases h;exact ⟨Nat.le_refl _,hi⟩
     ·have hg:=sNeed_good T [44] i op
      rw[h] at hg
      exact ⟨hg.1,hg.2.2.1 hi⟩
    refine ends_bind (hL 0 i' op' (by omega) hg.2 (by omega)) fun v2 i2 op2 h2=>?_
    obtain ⟨g1,g2,g3,rfl⟩:=gL 0 i' op' _ h2
    have:=g2 rfl
    have:=g3 hg.2
    exact hB _ i2 _ this (by omega)
theorem st_ends (T:List Tok):∀ f:Nat,(∀ i op,i≤T.length→10 * (T.length-i)+5≤f→Ends (sBlock T f i op))∧(∀ acc i op,i≤T.length→10 * (T.length-i)+14≤f→Ends (sStmts T f acc i op)) ∧
  (∀ i op,i≤T.length→10 * (T.length-i)+13≤f→Ends (sStmt T f i op))∧(∀ i op,i≤T.length→10 * (T.length-i)+12≤f→Ends (sSimple T f i op))
 |0=>⟨fun _ _ _ _=>by omega,fun _ _ _ _ _=>by omega,fun _ _ _ _=>by omega,fun _ _ _ _=>by omega⟩
 |f+1=>by
  obtain ⟨hB,hL,hS,hM⟩:=st_ends T f
  obtain ⟨eL,_,_,_,eI,eA,_⟩:=ex_ends T f
  obtain ⟨gL,_,_,_,gI,gA,_⟩:=ex_good T f
  obtain ⟨kB,kL,kS,kM⟩:=st_good T f
  refine ⟨fun i op hi hf=>?_,fun acc i op hi hf=>?_,fun i op hi hf=>?_,fun i op hi hf=>?_⟩
  ·rw[sBlock]
   exact ends_begin fun hlt ho=>ends_bind (hL [] _ _ (by omega) (by omega)) fun v i2 op2 _=>ends_bind ends_some fun _ _ _ _=>ends_some
  ·rw[sStmts]
   split
   ·exact ends_some
   ·refine ends_bind (hS i op hi (by omega)) fun v i' op' h=>?_
    obtain ⟨g1,g2,g3,rfl⟩:=kS i op _ h
    have:=g2 rfl
    have:=g3 hi
    exact hL _ i' _ (by omega) (by omega)
  ·rw[sStmt]
   split
   ·rename_i h
    have:=isTok_lt h
    refine ends_bind (eL 0 (i+1) op (by omega) (by omega) (by omega)) fun v i' op' h=>?_
    obtain ⟨g1,g2,g3,rfl⟩:=gL 0 (i+1) op _ h
    have:=g2 rfl
    have:=g3 (by omega)
    refine ends_bind (hB i' _ (by omega) (by omega)) fun v2 i2 op2 h2=>?_
    obtain ⟨q1,q2,q3,rfl⟩:=kB i' _ _ h2
    have:=q3 (by omega)
    split
    ·rename_i h4
     have:=isTok_lt h4
     exact ends_bind (hB (i2+1) _ (by omega) (by omega)) fun _ _ _ _=>ends_some
    ·exact ends_some
   ·split
    ·rename_i h
     have:=isTok_lt h
     refine ends_bind (eL 0 (i+1) op (by omega) (by omega) (by omega)) fun v i' op' h=>?_
     obtain ⟨g1,g2,g3,rfl⟩:=gL 0 (i+1) op _ h
     have:=g2 rfl
     have:=g3 (by omega)
     exact ends_bind (hB i' _ (by omega) (by omega)) fun v2 i2 op2 h2=>ends_some
    ·exact ends_bind (hM i op hi (by omega)) fun _ _ _ _=>ends_bind ends_some fun _ _ _ _=>ends_some
  ·rw[sSimple]
   split
   ·rename_i h
    have:=isTok_lt h
    exact ends_bind (eL 0 (i+1) op (by omega) (by omega) (by omega)) fun _ _ _ _=>ends_some
   ·split
    ·exact ends_some
    ·refine ends_bind ends_some fun v i' op' h=>?_
     injection h with h
     have hg:=sWord_good T 2 i op
     rw[h] at hg
     obtain ⟨h1,h2,h3,rfl⟩:=hg
     have:=h2 rfl
     have:=h3 hi
     split
     ·exact ends_bind (eA i' _ (by omega) (by omega)) fun _ _ _ _=>ends_some
     ·have tail:∀ (i2 op2:Nat) (g:Ex→Sm),i'≤i2→i2≤T.length→Ends (obind (some (sNeed T [61] i2 op2)) fun _ i' op'=>obind (eLev T f 0 i' op') fun e i' op'=>some (.ok (g e) i' op')):=fun i2 op2 g hi1 hi2=>by
       refine ends_bind ends_some fun v i3 op3 h3=>?_
       injection h3 with h3
       have hg:=sNeed_good T [61] i2 op2
       rw[h3] at hg
       have:=hg.2.2.1 hi2
       have:=hg.1
       exact ends_bind (eL 0 i3 _ (by omega) (by omega) (by omega)) fun _ _ _ _=>ends_some
      split
      ·refine ends_bind (eI i' _ (by omega) (by omega)) fun v2 i2 op2 h2=>?_
       obtain ⟨q1,q2,q3,rfl⟩:=gI i' _ _ h2
       exact tail i2 _ _ q1 (q3 (by omega))
      ·exact tail i' _ _ (Nat.le_refl _) (by omega)
theorem sNamesLoop_ends (T:List Tok):∀ (f:Nat) (acc:List (List UInt8)) (i op:Nat),i≤T.length→T.length-i+1≤f→Ends (sNamesLoop T f acc i op)
 |0,_,_,_,_,h=>by omega
 |f+1,acc,i,op,hi,hf=>by
  rw[sNamesLoop]
  split
  ·rename_i h
   have:=isTok_lt h
   refine ends_bind ends_some fun v i' op' h=>?_
   injection h with h
   have hg:=sWord_good T 2 (i+1) op
   rw[h] at hg
   obtain ⟨h1,h2,h3,rfl⟩:=hg
   exact sNamesLoop_ends T f _ i' _ (h3 (by omega)) (by have:=h3 (by omega);omega)
  ·exact ends_some
theorem sNames_ends (T:List Tok) (f i op:Nat) (hi:i≤T.length) (hf:T.length-i+1≤f):Ends (sNames T f i op):=
 ends_bind ends_some fun v i' op' h=>by
  injection h with h
  have hg:=sWord_good T 2 i op
  rw[h] at hg
  obtain ⟨h1,h2,h3,rfl⟩:=hg
  exact sNamesLoop_ends T f _ i' _ (h3 hi) (by have:=h3 hi;omega)
theorem sVars_ends (T:List Tok):∀ (f:Nat) (acc:List (List UInt8)) (i op:Nat),i≤T.length→T.length-i+2≤f→Ends (sVars T f acc i op)
 |0,_,_,_,_,h=>by omega
 |f+1,acc,i,op,hi,hf=>by
  rw[sVars]
  split
  ·rename_i h
   have:=isTok_lt h
   refine ends_bind (sNames_ends T f (i+1) op (by omega) (by omega)) fun v i' op' h=>?_
   obtain ⟨g1,g2,g3,rfl⟩:=sNames_good T f (i+1) op _ h
   have:=g3 (by omega)
   refine ends_bind ends_some fun v i2 op2 h2=>?_
   injection h2 with h2
   have hg:=sNeed_good T [59] i' op'
   rw[h2] at hg
   obtain ⟨h1,h2,h3,rfl⟩:=hg
   have:=h3 (by omega)
   exact sVars_ends T f _ i2 _ (by omega) (by omega)
  ·exact ends_some
theorem obind_word {B:Type} {T:List Tok} {k:Int} {i op:Nat} {g:List UInt8→Nat→Nat→OR B} (h:∀ s,i<T.length→Ends (g s (i+1) op)):Ends (obind (some (sWord T k i op)) g):=
 ends_bind ends_some fun v i' op' hw=>by
  injection hw with hw
  unfold sWord at hw
  split at hw
  ·rename_i t ht
   have:=get_lt ht
   split at hw
   ·cases hw;exact h _ this
   ·cases hw
  ·cases hw
theorem obind_end {B:Type} {T:List Tok} {x:List UInt8} {i op:Nat} {g:Unit→Nat→Nat→OR B} (h:i<T.length→Ends (g () (i+1) (op-1))):Ends (obind (some (sEnd T x i op)) g):=
 ends_bind ends_some fun v i' op' hw=>by
  injection hw with hw
  obtain ⟨rfl,rfl,hlt⟩:=sEnd_ok hw
  exact h hlt
theorem sFunc_ends (T:List Tok) (f i op:Nat) (hi:i≤T.length) (hf:10 * (T.length-i)+14≤f):Ends (sFunc T f i op):=by
 unfold sFunc
 refine obind_word fun s h1=>ends_begin fun h2 h3=>ends_bind ?_ fun v i2 op2 h4=>obind_end fun h5=>ends_begin fun h6 h7=>ends_bind (sVars_ends T f [] _ _ (by omega) ?_) fun v2 i3 op3 h8=>ends_bind ((st_ends T f).2.1 [] _ _ ?_ ?_) fun v3 i4 op4 h9=>ends_bind ends_some fun _ _ _ _=>ends_some
 ·split
  ·exact ends_some
  ·exact sNames_ends T f _ _ (by omega) (by omega)
 ·have:i+1+1≤i2:=by
   split at h4
   ·cases h4;omega
   ·exact (sNames_good T f _ _ _ h4).1
  omega
 ·exact (sVars_good T f _ _ _ _ h8).2.2.1 (by omega)
 ·have:i+1+1≤i2:=by
   split at h4
   ·cases h4;omega
   ·exact (sNames_good T f _ _ _ h4).1
  have:=(sVars_good T f _ _ _ _ h8).1
  omega
theorem sFunc_good (T:List Tok) (f i op:Nat):GoodO T true i op (sFunc T f i op):=by
 intro q hq0
 unfold sFunc at hq0
 cases q with
 |err l e=>trivial
 |ok v i9 op9=>
  rcases obind_some hq0 with ⟨s,i1,op1,h1,hq1⟩|⟨l,e,_,h⟩
  ·injection h1 with h1
   have g1:=sWord_good T 2 i op
   rw[h1] at g1
   obtain ⟨a1,a2,a3,rfl⟩:=g1
   have:=a2 rfl
   rcases obind_some hq1 with ⟨_,i2,op2,h2,hq2⟩|⟨l,e,_,h⟩
   ·injection h2 with h2
    obtain ⟨rfl,rfl,b1,b2⟩:=sBegin_ok h2
    rcases obind_some hq2 with ⟨ps,i3,op3,h3,hq3⟩|⟨l,e,_,h⟩
    ·have c:i1+1≤i3∧(i1+1≤T.length→i3≤T.length)∧op3=op1+1:=by
      split at h3
      ·cases h3;exact ⟨Nat.le_refl _,fun h=>h,rfl⟩
      ·obtain ⟨c1,_,c3,c4⟩:=sNames_good T f _ _ _ h3
       exact ⟨c1,c3,c4⟩
     obtain ⟨c1,c2,rfl⟩:=c
     rcases obind_some hq3 with ⟨_,i4,op4,h4,hq4⟩|⟨l,e,_,h⟩
     ·injection h4 with h4
      obtain ⟨rfl,rfl,d1⟩:=sEnd_ok h4
      rcases obind_some hq4 with ⟨_,i5,op5,h5,hq5⟩|⟨l,e,_,h⟩
      ·injection h5 with h5
       obtain ⟨rfl,rfl,e1,e2⟩:=sBegin_ok h5
       rcases obind_some hq5 with ⟨ls,i6,op6,h6,hq6⟩|⟨l,e,_,h⟩
       ·obtain ⟨f1,_,f3,rfl⟩:=sVars_good T f _ _ _ _ h6
        have:=f3 (by omega)
        rcases obind_some hq6 with ⟨bs,i7,op7,h7,hq7⟩|⟨l,e,_,h⟩
        ·obtain ⟨k1,_,k3,rfl⟩:=(st_good T f).2.1 _ _ _ _ h7
         have:=k3 (by omega)
         rcases obind_some hq7 with ⟨_,i8,op8,h8,hq8⟩|⟨l,e,_,h⟩
         ·injection h8 with h8
          obtain ⟨rfl,rfl,m1⟩:=sEnd_ok h8
          cases hq8
          exact ⟨by omega,fun _=>by omega,fun _=>by omega,by omega⟩
         ·cases h
        ·cases h
       ·cases h
      ·cases h
     ·cases h
    ·cases h
   ·cases h
  ·cases h
theorem sArray_good (T:List Tok) (i op:Nat):GoodO T true i op (sArray T i op):=by
 intro q hq0
 unfold sArray at hq0
 cases q with
 |err l e=>trivial
 |ok v i9 op9=>
  rcases obind_some hq0 with ⟨s,i1,op1,h1,hq1⟩|⟨l,e,_,h⟩
  ·injection h1 with h1
   have g1:=sWord_good T 2 i op
   rw[h1] at g1
   obtain ⟨a1,a2,a3,rfl⟩:=g1
   have:=a2 rfl
   rcases obind_some hq1 with ⟨_,i2,op2,h2,hq2⟩|⟨l,e,_,h⟩
   ·injection h2 with h2
    obtain ⟨rfl,rfl,b1,b2⟩:=sBegin_ok h2
    rcases obind_some hq2 with ⟨ps,i3,op3,h3,hq3⟩|⟨l,e,_,h⟩
    ·injection h3 with h3
     have g3:=sNumber_good T (i1+1) (op1+1)
     rw[h3] at g3
     obtain ⟨c1,c2,c3,rfl⟩:=g3
     have:=c2 rfl
     rcases obind_some hq3 with ⟨_,i4,op4,h4,hq4⟩|⟨l,e,_,h⟩
     ·injection h4 with h4
      obtain ⟨rfl,rfl,d1⟩:=sEnd_ok h4
      rcases obind_some hq4 with ⟨_,i5,op5,h5,hq5⟩|⟨l,e,_,h⟩
      ·injection h5 with h5
       have g5:=sNeed_good T [59] (i3+1) op4
       rw[h5] at g5
       obtain ⟨e1,e2,e3,rfl⟩:=g5
       have:=e2 rfl
       have:=e3 (by omega)
       cases hq5
       exact ⟨by omega,fun _=>by omega,fun _=>by omega,by omega⟩
      ·cases h
     ·cases h
    ·cases h
   ·cases h
  ·cases h
theorem sArray_ends (T:List Tok) (i op:Nat):Ends (sArray T i op):=by
 unfold sArray
 exact obind_word fun s _=>ends_begin fun _ _=>ends_bind ends_some fun _ _ _ _=>ends_bind ends_some fun _ _ _ _=>ends_bind ends_some fun _ _ _ _=>ends_some
theorem sProg_ends (T:List Tok):∀ (f:Nat) (p:Pr) (i op:Nat),i≤T.length→10 * (T.length-i)+20≤f→Ends (sProg T f p i op)
 |0,_,_,_,_,h=>by omega
 |f+1,p,i,op,hi,hf=>by
  rw[sProg]
  split
  ·exact ends_some
  ·split
   ·rename_i h
    have:=isTok_lt h
    refine ends_bind (sVars_ends T f _ i op hi (by omega)) fun v i' op' h2=>?_
    obtain ⟨g1,g2,g3,rfl⟩:=sVars_good T f _ i op _ h2
    have:=g2 h
    have:=g3 hi
    exact sProg_ends T f _ i' _ (by omega) (by omega)
   ·split
    ·rename_i h
     have:=isTok_lt h
     refine ends_bind (sArray_ends T _ _) fun v i' op' h2=>?_
     obtain ⟨g1,g2,g3,rfl⟩:=sArray_good T _ _ _ h2
     have:=g3 (by omega)
     exact sProg_ends T f _ i' _ (by omega) (by omega)
    ·split
     ·rename_i h
      have:=isTok_lt h
      refine ends_bind (sFunc_ends T f _ _ (by omega) (by omega)) fun v i' op' h2=>?_
      obtain ⟨g1,g2,g3,rfl⟩:=sFunc_good T f _ _ _ h2
      have:=g3 (by omega)
      exact sProg_ends T f _ i' _ (by omega) (by omega)
     ·exact ends_some
end Go.Stele
namespace Go.Stele
theorem nd_word {T:List Tok} {k:Int} {i op:Nat} {s:List UInt8} {i' op':Nat} (h:some (sWord T k i op)=some (.ok s i' op')):i'=i+1∧op'=op:=by
 injection h with h
 unfold sWord at h
 split at h
 ·split at h
  ·cases h;exact ⟨rfl,rfl⟩
  ·cases h
 ·cases h
theorem nd_need {T:List Tok} {x:List UInt8} {i op:Nat} {u:Unit} {i' op':Nat} (h:some (sNeed T x i op)=some (.ok u i' op')):i'=i+1∧op'=op:=by
 injection h with h
 unfold sNeed at h
 split at h
 ·cases h;exact ⟨rfl,rfl⟩
 ·cases h
end Go.Stele
namespace Go.Stele
abbrev KT:=Int×List UInt8
def sg (c:UInt8):KT:=(4,[c])
def NameOk (x:List UInt8):Prop:=Again ⟨2,x,0⟩
mutual
inductive PE:Ex→Nat→List KT→Nat→Prop
 |num {n k:Nat} (h:n<4294967296):PE (.mk nNum n [] []) k [(1,Go.Lib.decDigits n)] 0
 |var {s:List UInt8} {k:Nat} (h:NameOk s):PE (.mk nVar 0 s []) k [(2,s)] 0
 |elem {s:List UInt8} {k:Nat} {a:Ex} {ts:List KT} {d:Nat} (h:NameOk s) (ha:PE a 0 ts d):PE (.mk nElem 0 s [a]) k ((2,s)::sg 91::(ts++[sg 93])) (d+1)
 |call {s:List UInt8} {k:Nat} {l:List Ex} {ts:List KT} {d:Nat} (h:NameOk s) (hl:PEs l ts d):PE (.mk nCall 0 s l) k ((2,s)::sg 40::(ts++[sg 41])) (d+1)
 |neg {k:Nat} {a:Ex} {ts:List KT} {d:Nat} (ha:PE a 6 ts d):PE (.mk nNeg 0 [] [a]) k (sg 45::ts) (d+1)
 |not {k:Nat} {a:Ex} {ts:List KT} {d:Nat} (ha:PE a 6 ts d):PE (.mk nNot 0 [] [a]) k (sg 33::ts) (d+1)
 |bin {s k:Nat} {op:List UInt8} {a b:Ex} {t1 t2:List KT} {d1 d2:Nat} (hs:s<6) (ho:op∈lvOps s) (hk:k≤s) (ha:PE a (leftLv s) t1 d1) (hb:PE b (s+1) t2 d2):PE (.mk op 0 [] [a,b]) k (t1++(4,op)::t2) (max d1 d2)
 |par {s k:Nat} {op:List UInt8} {a b:Ex} {t1 t2:List KT} {d1 d2:Nat} (hs:s<6) (ho:op∈lvOps s) (hk:s<k) (ha:PE a (leftLv s) t1 d1) (hb:PE b (s+1) t2 d2):PE (.mk op 0 [] [a,b]) k (sg 40::((t1++(4,op)::t2)++[sg 41])) (max d1 d2+1)
inductive PEs:List Ex→List KT→Nat→Prop
 |nil:PEs [] [] 0
 |one {a:Ex} {ts:List KT} {d:Nat} (ha:PE a 0 ts d):PEs [a] ts d
 |more {a b:Ex} {l:List Ex} {t1 t2:List KT} {d1 d2:Nat} (ha:PE a 0 t1 d1) (hl:PEs (b::l) t2 d2):PEs (a::b::l) (t1++sg 44::t2) (max d1 d2)
end
theorem PE.weak {e:Ex} {k k':Nat} {ts:List KT} {d:Nat} (h:PE e k ts d) (hk:k'≤k):∃ ts' d',PE e k' ts' d'∧ts'.length≤ts.length∧d'≤d:=by
 cases h with
 |num h=>exact ⟨_,_,.num h,Nat.le_refl _,Nat.le_refl _⟩
 |var h=>exact ⟨_,_,.var h,Nat.le_refl _,Nat.le_refl _⟩
 |elem h ha=>exact ⟨_,_,.elem h ha,Nat.le_refl _,Nat.le_refl _⟩
 |call h ha=>exact ⟨_,_,.call h ha,Nat.le_refl _,Nat.le_refl _⟩
 |neg ha=>exact ⟨_,_,.neg ha,Nat.le_refl _,Nat.le_refl _⟩
 |not ha=>exact ⟨_,_,.not ha,Nat.le_refl _,Nat.le_refl _⟩
 |bin hs ho hk2 ha hb=>exact ⟨_,_,.bin hs ho (by omega) ha hb,Nat.le_refl _,Nat.le_refl _⟩
 |par hs ho hk2 ha hb=>
  rename_i s _ _ _ _ _ _ _
  by_cases h2:k'≤s
  ·exact ⟨_,_,.bin hs ho h2 ha hb,by simp only[List.length_append,List.length_cons,List.length_nil];omega,by omega⟩
  ·exact ⟨_,_,.par hs ho (by omega) ha hb,Nat.le_refl _,Nat.le_refl _⟩
theorem PE.paren {e:Ex} {ts:List KT} {d:Nat} (h:PE e 0 ts d):∃ ts' d',PE e 6 ts' d'∧ts'.length≤ts.length+2∧d'≤d+1:=by
 cases h with
 |num h=>exact ⟨_,_,.num h,by omega,by omega⟩
 |var h=>exact ⟨_,_,.var h,by omega,by omega⟩
 |elem h ha=>exact ⟨_,_,.elem h ha,by omega,by omega⟩
 |call h ha=>exact ⟨_,_,.call h ha,by omega,by omega⟩
 |neg ha=>exact ⟨_,_,.neg ha,by omega,by omega⟩
 |not ha=>exact ⟨_,_,.not ha,by omega,by omega⟩
 |bin hs ho hk2 ha hb=>exact ⟨_,_,.par hs ho hs ha hb,by simp only[List.length_append,List.length_cons,List.length_nil];omega,by omega⟩
 |par hs ho hk2 ha hb=>omega
theorem PEs.snoc:∀ {l:List Ex} {a:Ex} {t0 t1:List KT} {d0 d1:Nat},PEs l t0 d0→PE a 0 t1 d1→∃ t,PEs (l++[a]) t (max d0 d1)∧t.length=t0.length+(if l=[] then 0 else 1)+t1.length:=by
 intro l
 induction l with
 |nil=>
  intro a t0 t1 d0 d1 h h1
  cases h with
  |nil=>exact ⟨t1,by rw[Nat.zero_max];exact .one h1,by simp⟩
 |cons b l ih=>
  intro a t0 t1 d0 d1 h h1
  cases h with
  |one hb=>exact ⟨_,.more hb (.one h1),by simp only[List.length_append,List.length_cons];simp;omega⟩
  |more hb hl=>
   obtain ⟨t,g1,g2⟩:=ih hl h1
   exact ⟨_,by rw[Nat.max_assoc];exact .more hb g1,by simp only[List.length_append,List.length_cons,g2];simp;omega⟩
/-! ### What is read can be printed -/
def Wh {A:Type} (P:A→Nat→Nat→Prop) (r:OR A):Prop:=∀ v i op,r=some (.ok v i op)→P v i op
theorem wh_bind {A B:Type} {r:OR A} {k:A→Nat→Nat→OR B} {P:A→Nat→Nat→Prop} {Q:B→Nat→Nat→Prop} (hr:Wh P r) (hk:∀ v i op,P v i op→Wh Q (k v i op)):Wh Q (obind r k):=fun v i op h=>by
 rcases obind_some h with ⟨w,i1,op1,h1,h2⟩|⟨_,_,_,h2⟩
 ·exact hk _ _ _ (hr _ _ _ h1) v i op h2
 ·cases h2
theorem wh_any {A B:Type} {r:OR A} {k:A→Nat→Nat→OR B} {Q:B→Nat→Nat→Prop} (hk:∀ v i op,r=some (.ok v i op)→Wh Q (k v i op)):Wh Q (obind r k):=wh_bind (fun _ _ _ h=>h) hk
theorem wh_ok {A:Type} {P:A→Nat→Nat→Prop} {v:A} {i op:Nat} (h:P v i op):Wh P (some (.ok v i op)):=fun _ _ _ e=>by cases e;exact h
theorem wh_none {A:Type} {P:A→Nat→Nat→Prop}:Wh P none:=fun _ _ _ e=>by cases e
theorem wh_mono {A:Type} {P Q:A→Nat→Nat→Prop} {r:OR A} (h:Wh P r) (hPQ:∀ v i op,P v i op→Q v i op):Wh Q r:=fun v i op e=>hPQ _ _ _ (h v i op e)
theorem wh_begin {B:Type} {T:List Tok} {x:List UInt8} {i op:Nat} {k:Unit→Nat→Nat→OR B} {Q:B→Nat→Nat→Prop} (hk:op<100→Wh Q (k () (i+1) (op+1))):Wh Q (obind (some (sBegin T x i op)) k):=wh_any fun v i1 op1 h=>by
 injection h with h
 obtain ⟨rfl,rfl,h3,_⟩:=sBegin_ok h
 exact hk h3
theorem wh_end {B:Type} {T:List Tok} {x:List UInt8} {i op:Nat} {k:Unit→Nat→Nat→OR B} {Q:B→Nat→Nat→Prop} (hk:Wh Q (k () (i+1) (op-1))):Wh Q (obind (some (sEnd T x i op)) k):=wh_any fun v i1 op1 h=>by
 injection h with h
 obtain ⟨rfl,rfl,_⟩:=sEnd_ok h
 exact hk
theorem wh_need {B:Type} {T:List Tok} {x:List UInt8} {i op:Nat} {k:Unit→Nat→Nat→OR B} {Q:B→Nat→Nat→Prop} (hk:Wh Q (k () (i+1) op)):Wh Q (obind (some (sNeed T x i op)) k):=wh_any fun v i1 op1 h=>by
 obtain ⟨rfl,rfl⟩:=nd_need h
 exact hk
theorem word_again {T:List Tok} (hT:∀ t∈T,Again t) {i op i' op':Nat} {s:List UInt8} (h:sWord T 2 i op=.ok s i' op'):NameOk s∧i'=i+1∧op'=op:=by
 unfold sWord at h
 split at h
 ·rename_i t ht
  split at h
  ·rename_i hk
   cases h
   have:=hT t (List.mem_of_getElem? ht)
   refine ⟨?_,rfl,rfl⟩
   unfold NameOk
   unfold Again at this ⊢
   rw[hk] at this
   exact this
  ·cases h
 ·cases h
theorem wh_name {B:Type} {T:List Tok} (hT:∀ t∈T,Again t) {i op:Nat} {k:List UInt8→Nat→Nat→OR B} {Q:B→Nat→Nat→Prop} (hk:∀ s,NameOk s→Wh Q (k s (i+1) op)):Wh Q (obind (some (sWord T 2 i op)) k):=wh_any fun v i1 op1 h=>by
 injection h with h
 obtain ⟨h1,rfl,rfl⟩:=word_again hT h
 exact hk v h1
theorem numOf_lt (s:List UInt8):numOf s<4294967296:=by
 unfold numOf
 split
 ·rename_i u h
  exact pu32_lt h
 ·decide
theorem wh_number {B:Type} {T:List Tok} {i op:Nat} {k:Nat→Nat→Nat→OR B} {Q:B→Nat→Nat→Prop} (hk:∀ n,n<4294967296→Wh Q (k n (i+1) op)):Wh Q (obind (some (sNumber T i op)) k):=wh_any fun v i1 op1 h=>by
 injection h with h
 unfold sNumber Res.bind at h
 split at h
 ·rename_i h1
  cases h
  obtain ⟨rfl,rfl⟩:=nd_word (congrArg some h1)
  exact hk _ (numOf_lt _)
 ·cases h
theorem isTok_text {T:List Tok} {i:Nat} {xs:List (List UInt8)} (h:isTok T i xs=true):textAt T i∈xs:=by
 unfold isTok at h
 unfold textAt
 split at h
 ·rename_i t ht
  simp only[Bool.and_eq_true] at h
  simpa using h.2
 ·cases h
def SE (k i op:Nat) (e:Ex) (i' op':Nat):Prop:=op'=op∧∃ ts d,PE e k ts d∧ts.length+i≤i'∧d≤100-op
def SX (i op:Nat) (e:Ex) (i' op':Nat):Prop:=op'=op∧∃ ts d,PE e 0 ts d∧ts.length+2+i≤i'∧d+1≤100-op
def SA (i op:Nat) (l:List Ex) (i' op':Nat):Prop:=op'=op∧∃ ts d,PEs l ts d∧ts.length+2+i≤i'∧d+1≤100-op
def SL (i op:Nat) (l:List Ex) (i' op':Nat):Prop:=op'=op∧∃ ts d,PEs l ts d∧ts.length+i≤i'∧d≤100-op
theorem ex_src {T:List Tok} (hT:∀ t∈T,Again t):∀ f:Nat,(∀ k i op,k≤6→Wh (SE k i op) (eLev T f k i op))∧(∀ k e i0 i op ts d,k<6→PE e (leftLv k) ts d→ts.length+i0≤i→d≤100-op→Wh (SE k i0 op) (eLoop T f k e i op)) ∧
  (∀ i op,Wh (SE 6 i op) (eUnary T f i op))∧(∀ i op,Wh (SE 6 i op) (ePrim T f i op))∧(∀ i op,Wh (SX i op) (eIndex T f i op))∧(∀ i op,Wh (SA i op) (eArgs T f i op)) ∧
  (∀ acc i0 i op ts d,PEs acc ts d→ts.length+i0≤i→d≤100-op→Wh (SL i0 op) (eArgsLoop T f acc i op))
 |0=>⟨fun _ _ _ _=>by rw[eLev];exact wh_none,fun _ _ _ _ _ _ _ _ _ _ _=>by rw[eLoop];exact wh_none,fun _ _=>by rw[eUnary];exact wh_none,fun _ _=>by rw[ePrim];exact wh_none,fun _ _=>by rw[eIndex];exact wh_none,fun _ _=>by rw[eArgs];exact wh_none,fun _ _ _ _ _ _ _ _ _=>by rw[eArgsLoop];exact wh_none⟩
 |f+1=>by
  obtain ⟨hL,hO,hU,hP,hI,hA,hB⟩:=ex_src hT f
  refine ⟨fun k i op hk=>?_,fun k e i0 i op ts d hk hP0 hts hd=>?_,fun i op=>?_,fun i op=>?_,fun i op=>?_,fun i op=>?_,fun acc i0 i op ts d hP0 hts hd=>?_⟩
  ·rw[eLev]
   split
   ·rename_i h6
    subst h6
    exact hU i op
   ·refine wh_bind (hL (k+1) i op (by omega)) fun v i' op' h=>?_
    obtain ⟨rfl,ts,d,h1,h2,h3⟩:=h
    obtain ⟨ts',d',g1,g2,g3⟩:=h1.weak (k':=leftLv k) (by unfold leftLv;split <;> omega)
    exact hO k v i i' _ ts' d' (by omega) g1 (by omega) (by omega)
  ·rw[eLoop]
   split
   ·rename_i ht
    refine wh_bind (hL (k+1) (i+1) op (by omega)) fun v i' op' h=>?_
    obtain ⟨rfl,t2,d2,h1,h2,h3⟩:=h
    have hb:PE (.mk (textAt T i) 0 [] [e,v]) k (ts++(4,textAt T i)::t2) (max d d2):=.bin hk (isTok_text ht) (Nat.le_refl _) hP0 h1
    split
    ·exact wh_ok ⟨rfl,_,_,hb,by simp only[List.length_append,List.length_cons];omega,by omega⟩
    ·rename_i h22
     refine hO k _ i0 i' _ _ _ hk (by rw[leftLv,if_neg h22];exact hb) (by simp only[List.length_append,List.length_cons];omega) (by omega)
   ·obtain ⟨ts',d',g1,g2,g3⟩:=hP0.weak (k':=k) (by unfold leftLv;split <;> omega)
    exact wh_ok ⟨rfl,ts',d',g1,by omega,by omega⟩
  ·rw[eUnary]
   split
   ·refine wh_begin fun ho=>wh_bind (hU (i+1) (op+1)) fun v i' op' h=>?_
    obtain ⟨rfl,ts,d,h1,h2,h3⟩:=h
    exact wh_ok ⟨by omega,_,_,.neg h1,by simp only[List.length_cons];omega,by omega⟩
   ·split
    ·refine wh_begin fun ho=>wh_bind (hU (i+1) (op+1)) fun v i' op' h=>?_
     obtain ⟨rfl,ts,d,h1,h2,h3⟩:=h
     exact wh_ok ⟨by omega,_,_,.not h1,by simp only[List.length_cons];omega,by omega⟩
    ·exact hP i op
  ·rw[ePrim]
   split
   ·refine wh_begin fun ho=>wh_bind (hL 0 (i+1) (op+1) (by omega)) fun v i' op' h=>wh_end ?_
    obtain ⟨rfl,ts,d,h1,h2,h3⟩:=h
    obtain ⟨ts',d',g1,g2,g3⟩:=h1.paren
    exact wh_ok ⟨by omega,ts',d',g1,by omega,by omega⟩
   ·split
    ·exact wh_number fun n hn=>wh_ok ⟨rfl,_,_,.num hn,by simp only[List.length_cons,List.length_nil];omega,by omega⟩
    ·refine wh_name hT fun s hs=>?_
     split
     ·refine wh_bind (hI (i+1) op) fun v i' op' h=>?_
      obtain ⟨rfl,ts,d,h1,h2,h3⟩:=h
      exact wh_ok ⟨rfl,_,_,.elem hs h1,by simp only[List.length_cons,List.length_append,List.length_nil];omega,by omega⟩
     ·split
      ·refine wh_bind (hA (i+1) op) fun v i' op' h=>?_
       obtain ⟨rfl,ts,d,h1,h2,h3⟩:=h
       exact wh_ok ⟨rfl,_,_,.call hs h1,by simp only[List.length_cons,List.length_append,List.length_nil];omega,by omega⟩
      ·exact wh_ok ⟨rfl,_,_,.var hs,by simp only[List.length_cons,List.length_nil];omega,by omega⟩
  ·rw[eIndex]
   refine wh_begin fun ho=>wh_bind (hL 0 (i+1) (op+1) (by omega)) fun v i' op' h=>wh_end ?_
   obtain ⟨rfl,ts,d,h1,h2,h3⟩:=h
   exact wh_ok ⟨by omega,ts,d,h1,by omega,by omega⟩
  ·rw[eArgs]
   refine wh_begin fun ho=>wh_bind (hB [] (i+1) (i+1) (op+1) [] 0 .nil (by simp) (by omega)) fun v i' op' h=>wh_end ?_
   obtain ⟨rfl,ts,d,h1,h2,h3⟩:=h
   exact wh_ok ⟨by omega,ts,d,h1,by omega,by omega⟩
  ·rw[eArgsLoop]
   split
   ·exact wh_ok ⟨rfl,ts,d,hP0,by omega,by omega⟩
   ·refine wh_any fun _ i1 op1 h1=>?_
    have hi:i1=i+(if acc=[] then 0 else 1)∧op1=op:=by
     injection h1 with h1
     split at h1
     ·rename_i ha
      cases h1
      rw[if_pos ha]
      exact ⟨rfl,rfl⟩
     ·rename_i ha
      rw[if_neg ha]
      exact nd_need (congrArg some h1)
    obtain ⟨rfl,rfl⟩:=hi
    refine wh_bind (hL 0 _ op1 (by omega)) fun v i' op' h=>?_
    obtain ⟨rfl,t2,d2,h1,h2,h3⟩:=h
    obtain ⟨t,g1,g2⟩:=hP0.snoc h1
    exact hB _ i0 i' _ t _ g1 (by omega) (by omega)
/-! ### Statements -/
mutual
inductive PS:Sm→List KT→Nat→Prop
 |assign {s:List UInt8} {e:Ex} {ts:List KT} {d:Nat} (h:NameOk s) (he:PE e 0 ts d):PS (.mk 1 s [] [e] [] []) ((2,s)::sg 61::(ts++[sg 59])) d
 |store {s:List UInt8} {x e:Ex} {t1 t2:List KT} {d1 d2:Nat} (h:NameOk s) (hx:PE x 0 t1 d1) (he:PE e 0 t2 d2):PS (.mk 2 s [x] [e] [] []) ((2,s)::sg 91::(t1++sg 93::sg 61::(t2++[sg 59]))) (max (d1+1) d2)
 |call {s:List UInt8} {l:List Ex} {ts:List KT} {d:Nat} (h:NameOk s) (hl:PEs l ts d):PS (.mk 6 [] [] [.mk nCall 0 s l] [] []) ((2,s)::sg 40::(ts++[sg 41,sg 59])) (d+1)
 |ret {e:Ex} {ts:List KT} {d:Nat} (he:PE e 0 ts d):PS (.mk 5 [] [] [e] [] []) ((3,kwReturn)::(ts++[sg 59])) d
 |halt:PS (.mk 7 [] [] [] [] []) [(3,kwHalt),sg 59] 0
 |ifElse {e:Ex} {th el:List Sm} {ts t1 t2:List KT} {d d1 d2:Nat} (he:PE e 0 ts d) (h1:PSs th t1 d1) (h2:PSs el t2 d2) (hne:el≠[]) :
   PS (.mk 3 [] [] [e] th el) ((3,kwIf)::(ts++sg 123::(t1++sg 125::(3,kwElse)::sg 123::(t2++[sg 125])))) (max d (max (d1+1) (d2+1)))
 |ifThen {e:Ex} {th:List Sm} {ts t1:List KT} {d d1:Nat} (he:PE e 0 ts d) (h1:PSs th t1 d1):PS (.mk 3 [] [] [e] th []) ((3,kwIf)::(ts++sg 123::(t1++[sg 125]))) (max d (d1+1))
 |while {e:Ex} {th:List Sm} {ts t1:List KT} {d d1:Nat} (he:PE e 0 ts d) (h1:PSs th t1 d1):PS (.mk 4 [] [] [e] th []) ((3,kwWhile)::(ts++sg 123::(t1++[sg 125]))) (max d (d1+1))
inductive PSs:List Sm→List KT→Nat→Prop
 |nil:PSs [] [] 0
 |cons {s:Sm} {l:List Sm} {t1 t2:List KT} {d1 d2:Nat} (h:PS s t1 d1) (hl:PSs l t2 d2):PSs (s::l) (t1++t2) (max d1 d2)
end
theorem PSs.snoc:∀ {l:List Sm} {a:Sm} {t0 t1:List KT} {d0 d1:Nat},PSs l t0 d0→PS a t1 d1→PSs (l++[a]) (t0++t1) (max d0 d1):=by
 intro l
 induction l with
 |nil=>
  intro a t0 t1 d0 d1 h h1
  cases h with
  |nil=>
   have:=PSs.cons h1 .nil
   rw[List.append_nil,Nat.max_zero] at this
   rw[Nat.zero_max]
   exact this
 |cons b l ih=>
  intro a t0 t1 d0 d1 h h1
  cases h with
  |cons hb hl=>
   rw[List.append_assoc,Nat.max_assoc]
   exact .cons hb (ih hl h1)
def SS (i op:Nat) (s:Sm) (i' op':Nat):Prop:=op'=op∧∃ ts d,PS s ts d∧ts.length+i≤i'∧d≤100-op
def SM (i op:Nat) (s:Sm) (i' op':Nat):Prop:=op'=op∧∃ ts d,PS s ts d∧ts.length+i≤i'+1∧d≤100-op
def SSs (i op:Nat) (s:List Sm) (i' op':Nat):Prop:=op'=op∧∃ ts d,PSs s ts d∧ts.length+i≤i'∧d≤100-op
def SB (i op:Nat) (s:List Sm) (i' op':Nat):Prop:=op'=op∧∃ ts d,PSs s ts d∧ts.length+2+i≤i'∧d+1≤100-op
theorem st_src {T:List Tok} (hT:∀ t∈T,Again t):∀ f:Nat,(∀ i op,Wh (SB i op) (sBlock T f i op))∧(∀ acc i0 i op ts d,PSs acc ts d→ts.length+i0≤i→d≤100-op→Wh (SSs i0 op) (sStmts T f acc i op)) ∧
  (∀ i op,Wh (SS i op) (sStmt T f i op))∧(∀ i op,Wh (SM i op) (sSimple T f i op))
 |0=>⟨fun _ _=>by rw[sBlock];exact wh_none,fun _ _ _ _ _ _ _ _ _=>by rw[sStmts];exact wh_none,fun _ _=>by rw[sStmt];exact wh_none,fun _ _=>by rw[sSimple];exact wh_none⟩
 |f+1=>by
  obtain ⟨hB,hL,hS,hM⟩:=st_src hT f
  obtain ⟨eL,_,_,_,eI,eA,_⟩:=ex_src hT f
  refine ⟨fun i op=>?_,fun acc i0 i op ts d hP0 hts hd=>?_,fun i op=>?_,fun i op=>?_⟩
  ·rw[sBlock]
   refine wh_begin fun ho=>wh_bind (hL [] (i+1) (i+1) (op+1) [] 0 .nil (by simp) (by omega)) fun v i' op' h=>wh_end ?_
   obtain ⟨rfl,ts,d,h1,h2,h3⟩:=h
   exact wh_ok ⟨by omega,ts,d,h1,by omega,by omega⟩
  ·rw[sStmts]
   split
   ·exact wh_ok ⟨rfl,ts,d,hP0,hts,hd⟩
   ·refine wh_bind (hS i op) fun v i' op' h=>?_
    obtain ⟨rfl,t2,d2,h1,h2,h3⟩:=h
    exact hL _ i0 i' _ _ _ (hP0.snoc h1) (by simp only[List.length_append];omega) (by omega)
  ·rw[sStmt]
   split
   ·refine wh_bind (eL 0 (i+1) op (by omega)) fun v i1 op1 h=>?_
    obtain ⟨rfl,t1,d1,g1,g2,g3⟩:=h
    refine wh_bind (hB i1 _) fun th i2 op2 h=>?_
    obtain ⟨rfl,t2,d2,k1,k2,k3⟩:=h
    split
    ·refine wh_bind (hB (i2+1) _) fun el i3 op3 h=>?_
     obtain ⟨rfl,t3,d3,l1,l2,l3⟩:=h
     by_cases hne:el=[]
     ·subst hne
      exact wh_ok ⟨rfl,_,_,.ifThen g1 k1,by simp only[List.length_cons,List.length_append,List.length_nil];omega,by omega⟩
     ·exact wh_ok ⟨rfl,_,_,.ifElse g1 k1 l1 hne,by simp only[List.length_cons,List.length_append,List.length_nil];omega,by omega⟩
    ·exact wh_ok ⟨rfl,_,_,.ifThen g1 k1,by simp only[List.length_cons,List.length_append,List.length_nil];omega,by omega⟩
   ·split
    ·refine wh_bind (eL 0 (i+1) op (by omega)) fun v i1 op1 h=>?_
     obtain ⟨rfl,t1,d1,g1,g2,g3⟩:=h
     refine wh_bind (hB i1 _) fun th i2 op2 h=>?_
     obtain ⟨rfl,t2,d2,k1,k2,k3⟩:=h
     exact wh_ok ⟨rfl,_,_,.while g1 k1,by simp only[List.length_cons,List.length_append,List.length_nil];omega,by omega⟩
    ·refine wh_bind (hM i op) fun v i1 op1 h=>wh_need ?_
     obtain ⟨rfl,t1,d1,g1,g2,g3⟩:=h
     exact wh_ok ⟨rfl,_,_,g1,by omega,by omega⟩
  ·rw[sSimple]
   split
   ·refine wh_bind (eL 0 (i+1) op (by omega)) fun v i1 op1 h=>?_
    obtain ⟨rfl,t1,d1,g1,g2,g3⟩:=h
    exact wh_ok ⟨rfl,_,_,.ret g1,by simp only[List.length_cons,List.length_append,List.length_nil];omega,by omega⟩
   ·split
    ·exact wh_ok ⟨rfl,_,_,.halt,by simp only[List.length_cons,List.length_append,List.length_nil];omega,by omega⟩
    ·refine wh_name hT fun s hs=>?_
     split
     ·refine wh_bind (eA (i+1) op) fun v i1 op1 h=>?_
      obtain ⟨rfl,t1,d1,g1,g2,g3⟩:=h
      exact wh_ok ⟨rfl,_,_,.call hs g1,by simp only[List.length_cons,List.length_append,List.length_nil];omega,by omega⟩
     ·split
      ·refine wh_bind (eI (i+1) op) fun v i1 op1 h=>wh_need ?_
       obtain ⟨rfl,t1,d1,g1,g2,g3⟩:=h
       refine wh_bind (eL 0 (i1+1) _ (by omega)) fun e i2 op2 h=>?_
       obtain ⟨rfl,t2,d2,k1,k2,k3⟩:=h
       exact wh_ok ⟨rfl,_,_,.store hs g1 k1,by simp only[List.length_cons,List.length_append,List.length_nil];omega,by omega⟩
      ·refine wh_need (wh_bind (eL 0 (i+1+1) op (by omega)) fun e i2 op2 h=>?_)
       obtain ⟨rfl,t2,d2,k1,k2,k3⟩:=h
       exact wh_ok ⟨rfl,_,_,.assign hs k1,by simp only[List.length_cons,List.length_append,List.length_nil];omega,by omega⟩
/-! ### Declarations -/
def commas:List (List UInt8)→List KT
 |[]=>[]
 |[a]=>[(2,a)]
 |a::b::l=>(2,a)::sg 44::commas (b::l)
theorem commas_len:∀ l:List (List UInt8),(commas l).length=2 * l.length-1
 |[]=>rfl
 |[a]=>rfl
 |a::b::l=>by
  rw[commas,List.length_cons,List.length_cons,commas_len (b::l)]
  simp only[List.length_cons]
  omega
def varK (l:List (List UInt8)):List KT:=if l=[] then [] else (3,kwVar)::(commas l++[sg 59])
theorem varK_len (l:List (List UInt8)):(varK l).length=if l=[] then 0 else 2 * l.length+1:=by
 unfold varK
 split
 ·rfl
 ·rename_i h
  have:0<l.length:=List.length_pos_iff.2 h
  simp only[List.length_cons,List.length_append,commas_len,List.length_nil]
  omega
def AllOk (l:List (List UInt8)):Prop:=∀ x∈l,NameOk x
theorem AllOk.app {a b:List (List UInt8)} (ha:AllOk a) (hb:AllOk b):AllOk (a++b):=fun x hx=>by
 rcases List.mem_append.1 hx with h|h
 ·exact ha x h
 ·exact hb x h
inductive PF:FnD→List KT→Nat→Prop
 |mk {nm:List UInt8} {ps ls:List (List UInt8)} {b:List Sm} {ts:List KT} {d:Nat} (h:NameOk nm) (hp:AllOk ps) (hl:AllOk ls) (hb:PSs b ts d) :
   PF ⟨nm,ps,ls,b⟩ ((3,kwFunc)::(2,nm)::sg 40::(commas ps++sg 41::sg 123::(varK ls++(ts++[sg 125])))) (d+1)
inductive PFs:List FnD→List KT→Prop
 |nil:PFs [] []
 |cons {f:FnD} {l:List FnD} {t1 t2:List KT} {d:Nat} (h:PF f t1 d) (hd:d≤100) (hl:PFs l t2):PFs (f::l) (t1++t2)
def arK (a:Ar):List KT:=[(3,kwArray),(2,a.name),sg 91,(1,Go.Lib.decDigits a.size),sg 93,sg 59]
def ArsOk (l:List Ar):Prop:=∀ a∈l,NameOk a.name∧a.size<4294967296
inductive PP:Pr→List KT→Prop
 |mk {v:List (List UInt8)} {a:List Ar} {f:List FnD} {ts:List KT} (hv:AllOk v) (ha:ArsOk a) (hf:PFs f ts):PP ⟨v,a,f⟩ (varK v++((a.map arK).flatten++ts))
theorem PFs.snoc:∀ {l:List FnD} {a:FnD} {t0 t1:List KT} {d:Nat},PFs l t0→PF a t1 d→d≤100→PFs (l++[a]) (t0++t1):=by
 intro l
 induction l with
 |nil=>
  intro a t0 t1 d h h1 hd
  cases h with
  |nil=>
   have:=PFs.cons h1 hd .nil
   rw[List.append_nil] at this
   exact this
 |cons b l ih=>
  intro a t0 t1 d h h1 hd
  cases h with
  |cons hb hd' hl=>
   rw[List.append_assoc]
   exact .cons hb hd' (ih hl h1 hd)
theorem namesLoop_src {T:List Tok} (hT:∀ t∈T,Again t):∀ (f:Nat) (acc:List (List UInt8)) (i op:Nat),AllOk acc→Wh (fun l i' op'=>op'=op∧AllOk l∧acc.length≤l.length∧2 * l.length+i≤2 * acc.length+i') (sNamesLoop T f acc i op)
 |0,_,_,_,_=>by rw[sNamesLoop];exact wh_none
 |f+1,acc,i,op,ha=>by
  rw[sNamesLoop]
  split
  ·refine wh_name hT fun s hs=>wh_mono (namesLoop_src hT f (acc++[s]) (i+1+1) op (ha.app fun x hx=>by cases List.mem_singleton.1 hx;exact hs)) fun l i' op' h=>?_
   obtain ⟨rfl,h1,h2,h3⟩:=h
   rw[List.length_append,List.length_singleton] at h2 h3
   exact ⟨rfl,h1,by omega,by omega⟩
  ·exact wh_ok ⟨rfl,ha,Nat.le_refl _,by omega⟩
theorem names_src {T:List Tok} (hT:∀ t∈T,Again t) (f i op:Nat):Wh (fun l i' op'=>op'=op∧AllOk l∧0<l.length∧2 * l.length+i≤1+i') (sNames T f i op):=
 wh_name hT fun s hs=>wh_mono (namesLoop_src hT f [s] (i+1) op fun x hx=>by cases List.mem_singleton.1 hx;exact hs) fun l i' op' h=>by
  obtain ⟨rfl,h1,h2,h3⟩:=h
  rw[List.length_singleton] at h2 h3
  exact ⟨rfl,h1,by omega,by omega⟩
theorem vars_src {T:List Tok} (hT:∀ t∈T,Again t):∀ (f:Nat) (acc:List (List UInt8)) (i op:Nat),AllOk acc→Wh (fun l i' op'=>op'=op∧AllOk l∧acc.length≤l.length∧(if acc.length=l.length then i≤i' else 2 * l.length+1+i≤2 * acc.length+i')) (sVars T f acc i op)
 |0,_,_,_,_=>by rw[sVars];exact wh_none
 |f+1,acc,i,op,ha=>by
  rw[sVars]
  split
  ·refine wh_bind (names_src hT f (i+1) op) fun l i1 op1 h=>wh_need ?_
   obtain ⟨rfl,h1,h2,h3⟩:=h
   refine wh_mono (vars_src hT f (acc++l) (i1+1) _ (ha.app h1)) fun l2 i' op' h=>?_
   obtain ⟨rfl,g1,g2,g3⟩:=h
   rw[List.length_append] at g2 g3
   refine ⟨rfl,g1,by omega,?_⟩
   rw[if_neg (by omega)]
   split at g3 <;> omega
  ·exact wh_ok ⟨rfl,ha,Nat.le_refl _,by rw[if_pos rfl];omega⟩
theorem func_src {T:List Tok} (hT:∀ t∈T,Again t) (f i:Nat):Wh (fun a i' op'=>op'=0∧∃ ts d,PF a ts d∧d≤100∧ts.length+i≤i'+1) (sFunc T f i 0):=by
 unfold sFunc
 refine wh_name hT fun nm hnm=>wh_begin fun _=>wh_bind (P:=fun ps i' op'=>op'=1∧AllOk ps∧2 * ps.length-1+(i+1+1)≤i') ?_ fun ps i1 op1 h=>wh_end (wh_begin fun _=>?_)
 ·split
  ·exact wh_ok ⟨rfl,(fun x hx=>by cases hx),by simp⟩
  ·exact wh_mono (names_src hT f _ _) fun l i' op' h=>⟨h.1,h.2.1,by omega⟩
 obtain ⟨rfl,h1,h2⟩:=h
 refine wh_bind (vars_src hT f [] _ _ fun x hx=>by cases hx) fun ls i2 op2 h=>?_
 obtain ⟨rfl,g1,_,g3⟩:=h
 refine wh_bind ((st_src hT f).2.1 [] i2 i2 _ [] 0 .nil (by simp) (by omega)) fun b i3 op3 h=>wh_end ?_
 obtain ⟨rfl,ts,d,k1,k2,k3⟩:=h
 refine wh_ok ⟨by omega,_,_,.mk hnm h1 g1 k1,by omega,?_⟩
 simp only[List.length_cons,List.length_append,List.length_nil,commas_len,varK_len] at g3 ⊢
 by_cases hl:ls=[]
 ·subst hl
  simp only[List.length_nil,if_pos] at g3 ⊢
  omega
 ·have:¬ 0=ls.length:=fun h=>hl (List.eq_nil_of_length_eq_zero h.symm)
  rw[if_neg this] at g3
  rw[if_neg hl]
  omega
theorem array_src {T:List Tok} (hT:∀ t∈T,Again t) (i:Nat):Wh (fun a i' op'=>op'=0∧NameOk a.name∧a.size<4294967296∧5+i≤i') (sArray T i 0):=by
 unfold sArray
 exact wh_name hT fun nm hnm=>wh_begin fun _=>wh_number fun n hn=>wh_end (wh_need (wh_ok ⟨rfl,hnm,hn,by omega⟩))
def ntK (v:Nat) (a:Nat) (t:Nat):Nat:=(if v=0 then 0 else 2 * v+1)+6 * a+t
theorem prog_src {T:List Tok} (hT:∀ t∈T,Again t):∀ (f:Nat) (v:List (List UInt8)) (a:List Ar) (fs:List FnD) (ts:List KT) (i:Nat),AllOk v→ArsOk a→PFs fs ts→ntK v.length a.length ts.length≤i→i≤T.length →
  Wh (fun q _ _=>∃ v' a' f' t',q=⟨v',a',f'⟩∧AllOk v'∧ArsOk a'∧PFs f' t'∧ntK v'.length a'.length t'.length≤T.length) (sProg T f ⟨v,a,fs⟩ i 0)
 |0,_,_,_,_,_,_,_,_,_,_=>by rw[sProg];exact wh_none
 |f+1,v,a,fs,ts,i,hv,ha,hf,hi,hT'=>by
  rw[sProg]
  split
  ·exact wh_ok ⟨_,_,_,_,rfl,hv,ha,hf,by omega⟩
  rename_i hlt
  split
  ·rename_i hw
   refine wh_any fun l i1 op1 h1=>?_
   have hg:=(sVars_good T f [] i 0 _ h1).2.2.1 hT'
   obtain ⟨rfl,g1,_,g3⟩:=vars_src hT f [] i 0 (fun x hx=>by cases hx) _ _ _ h1
   refine prog_src hT f (v++l) a fs ts i1 (hv.app g1) ha hf ?_ hg
   rw[List.length_append]
   simp only[List.length_nil] at g3
   unfold ntK at hi ⊢
   split at g3
   ·rename_i h0
    rw[←h0,Nat.add_zero]
    omega
   ·rw[if_neg (by omega)]
    split at hi <;> omega
  ·split
   ·refine wh_any fun l i1 op1 h1=>?_
    have hg:=(sArray_good T (i+1) 0 _ h1).2.2.1 (by omega)
    obtain ⟨rfl,g1,g2,g3⟩:=array_src hT (i+1) _ _ _ h1
    refine prog_src hT f v (a++[l]) fs ts i1 hv (fun x hx=>?_) hf ?_ hg
    ·rcases List.mem_append.1 hx with h|h
     ·exact ha x h
     ·cases List.mem_singleton.1 h;exact ⟨g1,g2⟩
    ·rw[List.length_append,List.length_singleton]
     unfold ntK at hi ⊢
     omega
   ·split
    ·refine wh_any fun l i1 op1 h1=>?_
     have hg:=(sFunc_good T f (i+1) 0 _ h1).2.2.1 (by omega)
     obtain ⟨rfl,t1,d,g1,g2,g3⟩:=func_src hT f (i+1) _ _ _ h1
     refine prog_src hT f v a (fs++[l]) (ts++t1) i1 hv ha (hf.snoc g1 g2) ?_ hg
     rw[List.length_append]
     unfold ntK at hi ⊢
     omega
    ·exact fun _ _ _ e=>by cases e
theorem arK_len:∀ a:List Ar,((a.map arK).flatten).length=6 * a.length
 |[]=>rfl
 |a::l=>by
  rw[List.map_cons,List.flatten_cons,List.length_append,arK_len l,List.length_cons]
  simp only[arK,List.length_cons,List.length_nil]
  omega
theorem src_print {T:List Tok} (hT:∀ t∈T,Again t) {f i op:Nat} {p:Pr} (h:sProg T f ⟨[],[],[]⟩ 0 0=some (.ok p i op)):∃ ts,PP p ts∧ts.length≤T.length:=by
 obtain ⟨v,a,fs,t,rfl,h1,h2,h3,h4⟩:=prog_src hT f [] [] [] [] 0 (fun x hx=>by cases hx) (fun x hx=>by cases hx) .nil (by simp[ntK]) (Nat.zero_le _) _ _ _ h
 refine ⟨_,.mk h1 h2 h3,?_⟩
 simp only[List.length_append,varK_len,arK_len]
 unfold ntK at h4
 by_cases hv:v=[]
 ·subst hv
  simp only[List.length_nil,if_pos] at h4 ⊢
  omega
 ·have:¬ v.length=0:=fun h=>hv (List.eq_nil_of_length_eq_zero h)
  rw[if_neg this] at h4
  rw[if_neg hv]
  omega
end Go.Stele
namespace Go.Stele
open Go.Lib
def parseQ (s:List UInt8):Pr×Int:=match lexAt s 1 with
 |.error (l,e)=>(⟨[],[],[]⟩,e)
 |.ok T=>match sProg T (10 * T.length+20) ⟨[],[],[]⟩ 0 0 with
  |some (.ok p _ _)=>(p,0)
  |some (.err l e)=>(⟨[],[],[]⟩,e)
  |none=>(⟨[],[],[]⟩,0)
def limitI (p:Pr) (inp:List Nat) (steps:Int):OutI:=if 100000000<steps then ⟨[],6,0⟩ else if steps≤0 then ⟨[],13,0⟩ else runI p inp steps.toNat
def sourceI (s:List UInt8) (inp:List Nat) (steps:Int):OutI:=
 if (parseQ s).2≠0 then ⟨[],(parseQ s).2,0⟩ else if checkPr (parseQ s).1≠0 then ⟨[],checkPr (parseQ s).1,0⟩ else limitI (parseQ s).1 inp steps
theorem source_ok {s:List UInt8} {p:Pr} (h:parseQ s=(p,0)) (hc:checkPr p=0) (inp:List Nat) (steps:Int):sourceI s inp steps=limitI p inp steps:=by
 unfold sourceI
 rw[h,if_neg (by simp),hc,if_neg (by simp)]
/-! ### Limits -/
/-! ### Input -/
/-! ### The given sources -/
/-! ### Unused declarations -/
theorem commas_ge (l:List (List UInt8)):l.length≤(commas l).length:=by rw[commas_len];omega
theorem varK_ge (l:List (List UInt8)):l.length≤(varK l).length:=by 
 rw[varK_len]
 by_cases h:l=[]
 ·rw[h];exact Nat.zero_le _
 ·rw[if_neg h];omega
end Go.Stele
namespace Go.Stele
theorem stair_max:∀ (ns:List Nat) (i a b:Nat),stair i ns (max a b)=max (stair i ns a) b
 |[],i,a,b=>rfl
 |n::l,i,a,b=>by
  rw[stair,stair,Nat.max_right_comm]
  exact stair_max l (i+1) _ b
def Dist (fs:List FSum):Prop:=(fs.map (·.name)).Nodup∧[105,110] ∉ fs.map (·.name)∧[111,117,116] ∉ fs.map (·.name)
def overF (g:FSum→Nat) (name:Nm) (fs:List FSum) (m:Nat):Nat:=fs.foldl (fun m f=>if f.name=name then max m (g f) else m) m
theorem overF_none (g:FSum→Nat) (name:Nm):∀ (fs:List FSum) (m:Nat),name ∉ fs.map (·.name)→overF g name fs m=m
 |[],m,_=>rfl
 |f::l,m,h=>by
  unfold overF
  rw[List.foldl_cons,if_neg fun e=>h (by rw[List.map_cons,e];exact List.mem_cons_self ..)]
  exact overF_none g name l m fun hm=>h (List.mem_cons_of_mem _ hm)
theorem overF_find (g:FSum→Nat) (name:Nm):∀ (fs:List FSum) (m:Nat),(fs.map (·.name)).Nodup→overF g name fs m=match fs.find? fun f=>decide (f.name=name) with
  |some f=>max m (g f)
  |none=>m
 |[],m,_=>rfl
 |f::l,m,h=>by
  rw[List.map_cons,List.nodup_cons] at h
  rw[List.find?_cons]
  by_cases hf:f.name=name
  ·rw[decide_eq_true hf]
   show overF g name (f::l) m=max m (g f)
   unfold overF
   rw[List.foldl_cons,if_pos hf]
   exact overF_none g name l _ (hf▸h.1)
  ·rw[decide_eq_false hf]
   simp only
   rw[←overF_find g name l m h.2]
   unfold overF
   rw[List.foldl_cons,if_neg hf]
def refCall (c:CEnv) (name:Nm) (ns:List Nat):Nat:=
 if name=[105,110] then 1 else if name=[111,117,116] then ns.headD 0 else overF (·.need) name c.funcs (stair 0 ns (ns.length+1))
theorem refCall_eq {c:CEnv} (hd:Dist c.funcs) {name:Nm} {ns:List Nat} (h:callE c name ns.length=0):refCall c name ns=callN c name ns:=by
 unfold refCall callN
 by_cases h1:name=[105,110]
 ·rw[if_pos h1,if_pos h1]
 rw[if_neg h1,if_neg h1]
 by_cases h2:name=[111,117,116]
 ·rw[if_pos h2,if_pos h2]
 rw[if_neg h2,if_neg h2]
 unfold callE at h
 rw[if_neg h1,if_neg h2] at h
 rw[overF_find _ _ _ _ hd.1]
 unfold CEnv.fn at h ⊢
 cases hf:c.funcs.find? fun f=>decide (f.name=name) with
 |none=>
  rw[hf] at h
  simp only at h
  split at h <;> cases h
 |some f=>
  rw[hf] at h
  simp only at h ⊢
  split at h
  ·rename_i he
   rw[stair_max,he]
  ·cases h
def refN (c:CEnv) (op name:Nm) (ns:List Nat):Nat:=if op=nCall then refCall c name ns else opN c op name ns
mutual
def refE (c:CEnv):Ex→Nat
 |.mk op num name args=>refN c op name (refEs c args)
def refEs (c:CEnv):List Ex→List Nat
 |[]=>[]
 |x::l=>refE c x::refEs c l
end
theorem needEs_len (c:CEnv):∀ l:List Ex,(needEs c l).length=l.length
 |[]=>by rw[needEs];rfl
 |x::l=>by rw[needEs,List.length_cons,List.length_cons,needEs_len c l]
mutual
theorem refE_eq {c:CEnv} (hd:Dist c.funcs):∀ x:Ex,errE c x=0→refE c x=needE c x
 |.mk op num name args,h=>by
  rw[errE] at h
  split at h
  ·have h1:=orE_zero.1 h
   rw[refE,needE,refEs_eq hd args h1.1]
   unfold refN
   by_cases hc:op=nCall
   ·subst hc
    have h2:callE c name args.length=0:=h1.2
    rw[if_pos rfl,refCall_eq hd (by rw[needEs_len];exact h2)]
    rfl
   ·rw[if_neg hc]
  ·cases h
theorem refEs_eq {c:CEnv} (hd:Dist c.funcs):∀ l:List Ex,errEs c l=0→refEs c l=needEs c l
 |[],_=>by rw[refEs,needEs]
 |x::l,h=>by
  rw[errEs] at h
  have h1:=orE_zero.1 h
  rw[refEs,needEs,refE_eq hd x h1.1,refEs_eq hd l h1.2]
end
/-! ### Depths -/
mutual
def callsE:Ex→List Nm
 |.mk op num name args=>(if op=nCall then [name] else [])++callsEs args
def callsEs:List Ex→List Nm
 |[]=>[]
 |x::l=>callsE x++callsEs l
end
mutual
def callsS:Sm→List Nm
 |.mk kind name index value thn els=>callsEs (value++index)++callsSs thn++callsSs els
def callsSs:List Sm→List Nm
 |[]=>[]
 |x::l=>callsS x++callsSs l
end
def overN (c:CEnv) (names:List Nm) (d:Nat):Nat:=names.foldl (fun d name=>overF (fun f=>1+f.depth) name c.funcs d) d
theorem overN_app (c:CEnv) (a b:List Nm) (d:Nat):overN c (a++b) d=overN c b (overN c a d):=by
 unfold overN
 rw[List.foldl_append]
theorem overF_call {c:CEnv} (hd:Dist c.funcs) (name:Nm) (d:Nat):overF (fun f=>1+f.depth) name c.funcs d=max d (callD c nCall name):=by
 rw[overF_find _ _ _ _ hd.1]
 unfold callD
 by_cases h1:name=[105,110]∨name=[111,117,116]
 ·have hn:name ∉ c.funcs.map (·.name):=by
   rcases h1 with rfl|rfl
   ·exact hd.2.1
   ·exact hd.2.2
  have hf:(c.funcs.find? fun f=>decide (f.name=name))=none:=by
   rw[List.find?_eq_none]
   intro f hf he
   exact hn (List.mem_map.2 ⟨f,hf,of_decide_eq_true he⟩)
  rw[hf,if_neg (by rcases h1 with h|h <;> simp[h])]
  exact (Nat.max_zero d).symm
 ·rw[not_or] at h1
  rw[if_pos ⟨rfl,h1.1,h1.2⟩]
  unfold CEnv.fn
  cases c.funcs.find? fun f=>decide (f.name=name) with
  |none=>exact (Nat.max_zero d).symm
  |some f=>simp only[Nat.add_comm]
mutual
theorem overE {c:CEnv} (hd:Dist c.funcs):∀ (x:Ex) (d:Nat),overN c (callsE x) d=max d (depE c x)
 |.mk op num name args,d=>by
  rw[callsE,depE,overN_app,overEs hd args]
  by_cases hc:op=nCall
  ·subst hc
   rw[if_pos rfl]
   show max (overF (fun f=>1+f.depth) name c.funcs d) _=_
   rw[overF_call hd,Nat.max_assoc,Nat.max_comm (callD c nCall name)]
  ·rw[if_neg hc]
   have:callD c op name=0:=by unfold callD;rw[if_neg fun h=>hc h.1]
   rw[this,Nat.max_zero]
   rfl
theorem overEs {c:CEnv} (hd:Dist c.funcs):∀ (l:List Ex) (d:Nat),overN c (callsEs l) d=max d (depEs c l)
 |[],d=>by rw[callsEs,depEs];exact (Nat.max_zero d).symm
 |x::l,d=>by rw[callsEs,depEs,overN_app,overE hd x,overEs hd l,Nat.max_assoc]
end
theorem depEs_app (c:CEnv):∀ a b:List Ex,depEs c (a++b)=max (depEs c a) (depEs c b)
 |[],b=>by rw[List.nil_append,depEs,Nat.zero_max]
 |x::a,b=>by rw[List.cons_append,depEs,depEs,depEs_app c a b,Nat.max_assoc]
theorem errEs_app (c:CEnv):∀ a b:List Ex,errEs c (a++b)=orE (errEs c a) (errEs c b)
 |[],b=>by rw[List.nil_append,errEs];rfl
 |x::a,b=>by
  rw[List.cons_append,errEs,errEs,errEs_app c a b]
  unfold orE
  by_cases h:errE c x=0
  ·rw[h];rfl
  ·rw[if_pos h,if_pos h,if_pos h]
mutual
theorem overS {c:CEnv} (hd:Dist c.funcs):∀ (x:Sm) (d:Nat),overN c (callsS x) d=max d (depS c x)
 |.mk kind name index value thn els,d=>by
  rw[callsS,depS,overN_app,overN_app,overEs hd,overSs hd thn,overSs hd els,depEs_app]
  simp only[Nat.max_assoc]
theorem overSs {c:CEnv} (hd:Dist c.funcs):∀ (l:List Sm) (d:Nat),overN c (callsSs l) d=max d (depSs c l)
 |[],d=>by rw[callsSs,depSs];exact (Nat.max_zero d).symm
 |x::l,d=>by rw[callsSs,depSs,overN_app,overS hd x,overSs hd l,Nat.max_assoc]
end
end Go.Stele
namespace Go.Stele
def lastN (l:List Nat):Nat:=l.getLast?.getD 0
mutual
def refS (c:CEnv):Sm→Nat
 |.mk kind name index value thn els=>
  if kind=1∨kind=6 then max 2 (lastN (refEs c value))
  else if kind=2 then max (lastN (refEs c value)) (2+lastN (refEs c index))
  else if kind=3∨kind=4 then max (max (max 2 (lastN (refEs c value))) (refSs c thn)) (refSs c els)
  else if kind=5 then lastN (refEs c value)
  else 0
def refSs (c:CEnv):List Sm→Nat
 |[]=>0
 |s::l=>max (refS c s) (refSs c l)
end
theorem lastN_one {c:CEnv} (hd:Dist c.funcs) {l:List Ex} (hl:l.length=1) (h:errEs c l=0):lastN (refEs c l)=needE c (l.headD default):=by
 match l,hl with
 |[x],_=>
  rw[errEs] at h
  rw[refEs,refEs,refE_eq hd x (orE_zero.1 h).1]
  rfl
mutual
theorem refS_eq {c:CEnv} (hd:Dist c.funcs):∀ s:Sm,errS c s=0→refS c s=needS c s
 |.mk kind name index value thn els,h=>by
  rw[errS] at h
  split at h
  ·cases h
  rename_i hform
  rw[Bool.not_eq_false] at hform
  obtain ⟨h1,h⟩:=orE_zero.1 h
  obtain ⟨h2,h⟩:=orE_zero.1 h
  obtain ⟨_,h⟩:=orE_zero.1 h
  obtain ⟨h3,h4⟩:=orE_zero.1 h
  have e3:=refSs_eq hd thn h3
  have e4:=refSs_eq hd els h4
  unfold formS at hform
  rw[refS,needS,e3,e4]
  by_cases k1:kind=1
  ·subst k1
   simp at hform
   obtain ⟨_,_,f2,f3,f4⟩:=hform
   have e1:=lastN_one hd f2 h1
   rw[f3,f4,e1]
   simp[needSs]
  by_cases k2:kind=2
  ·subst k2
   simp at hform
   obtain ⟨_,f1,f2,f3,f4⟩:=hform
   rw[lastN_one hd f2 h1,lastN_one hd f1 h2]
   simp
  by_cases k3:kind=3
  ·subst k3
   simp at hform
   obtain ⟨_,_,f2⟩:=hform
   rw[lastN_one hd f2 h1]
   simp[Nat.max_assoc]
  by_cases k4:kind=4
  ·subst k4
   simp at hform
   obtain ⟨_,_,f2,f4⟩:=hform
   rw[lastN_one hd f2 h1]
   simp[Nat.max_assoc]
  by_cases k5:kind=5
  ·subst k5
   simp at hform
   obtain ⟨_,_,f2,f3,f4⟩:=hform
   rw[lastN_one hd f2 h1]
   simp
  by_cases k6:kind=6
  ·subst k6
   simp at hform
   obtain ⟨_,_,f2,f3,f4,_⟩:=hform
   rw[lastN_one hd f2 h1,f3,f4]
   simp[needSs]
  by_cases k7:kind=7
  ·subst k7
   simp
  ·simp[k1,k2,k3,k4,k5,k6,k7] at hform
theorem refSs_eq {c:CEnv} (hd:Dist c.funcs):∀ l:List Sm,errSs c l=0→refSs c l=needSs c l
 |[],_=>by rw[refSs,needSs]
 |s::l,h=>by
  rw[errSs] at h
  have h1:=orE_zero.1 h
  rw[refSs,needSs,refS_eq hd s h1.1,refSs_eq hd l h1.2]
end
/-! ### Functions -/
theorem fresh_zero:∀ (l k:List Nm),freshE k l=0→l.Nodup∧∀ s∈l,s ∉ k∧isNm s=true
 |[],k,_=>⟨List.nodup_nil,fun s hs=>(List.not_mem_nil hs).elim⟩
 |s::l,k,h=>by
  rw[freshE] at h
  split at h
  ·cases h
  rename_i h1
  split at h
  ·cases h
  rename_i h2
  obtain ⟨g1,g2⟩:=fresh_zero l (s::k) h
  refine ⟨List.nodup_cons.2 ⟨fun hm=>(g2 s hm).1 (List.mem_cons_self ..),g1⟩,fun x hx=>?_⟩
  rcases List.mem_cons.1 hx with rfl|hx
  ·exact ⟨h2,by simpa using h1⟩
  ·exact ⟨fun hm=>(g2 x hx).1 (List.mem_cons_of_mem _ hm),(g2 x hx).2⟩
def refF (vars arrays later:List Nm) (known:List FSum) (f:FnD):FSum:=⟨f.name,f.params.length,max (max 2 (f.params.length+1)) (refSs (envF vars arrays later known f) f.body),overN (envF vars arrays later known f) (callsSs f.body) 1⟩
def refFs (vars arrays later:List Nm):List FSum→List FnD→List FSum
 |known,[]=>known
 |known,f::l=>refFs vars arrays later (known++[refF vars arrays later known f]) l
theorem refF_eq {vars arrays later:List Nm} {known:List FSum} {f:FnD} (hd:Dist known) (h:errF vars arrays later known f=0):refF vars arrays later known f=sumF vars arrays later known f:=by
 have hd':Dist (envF vars arrays later known f).funcs:=hd
 unfold refF sumF
 rw[refSs_eq hd' f.body (orE_zero.1 h).2,overSs hd']
theorem refFs_eq {vars arrays later:List Nm}:∀ (fs:List FnD) (known:List FSum),Dist (known++fs.map fun f=>⟨f.name,0,0,0⟩)→errFs vars arrays later known fs=0→refFs vars arrays later known fs=sumFs vars arrays later known fs
 |[],known,_,_=>by rw[refFs,sumFs]
 |f::l,known,hd,h=>by
  rw[errFs] at h
  obtain ⟨h1,h2⟩:=orE_zero.1 h
  unfold Dist at hd
  rw[List.map_append,List.map_cons,List.map_cons] at hd
  have hk:Dist known:=⟨(List.nodup_append.1 hd.1).1,fun g=>hd.2.1 (List.mem_append.2 (.inl g)),fun g=>hd.2.2 (List.mem_append.2 (.inl g))⟩
  rw[refFs,sumFs,refF_eq hk h1]
  refine refFs_eq l _ ?_ h2
  unfold Dist
  rw[List.append_assoc,List.map_append,List.map_append,List.map_cons,List.map_nil]
  exact hd
theorem dist_of {vars arrays:List Nm} {fs:List FnD} (h:freshE [] (vars++arrays++fs.map (·.name))=0):Dist (fs.map fun f=>(⟨f.name,0,0,0⟩:FSum)):=by
 obtain ⟨h1,h2⟩:=fresh_zero _ _ h
 have e:(fs.map fun f=>(⟨f.name,0,0,0⟩:FSum)).map (·.name)=fs.map (·.name):=by rw[List.map_map];rfl
 unfold Dist
 rw[e]
 refine ⟨(List.nodup_append.1 h1).2.1,fun g=>?_,fun g=>?_⟩
 ·have:=(h2 _ (List.mem_append.2 (.inr g))).2
  exact absurd this (by decide +kernel)
 ·have:=(h2 _ (List.mem_append.2 (.inr g))).2
  exact absurd this (by decide +kernel)
def refCheck (vars:List Nm) (arrays:List (Nm×Int)) (fs:List FnD):Int:=
 orE (freshE [] (vars++arrays.map (·.1)++fs.map (·.name))) (orE (sizesE 0 (arrays.map (·.2)))
  (orE (errFs vars (arrays.map (·.1)) (fs.map (·.name)) [] fs) (mainE vars fs (refFs vars (arrays.map (·.1)) (fs.map (·.name)) [] fs))))
theorem refCheck_eq (vars:List Nm) (arrays:List (Nm×Int)) (fs:List FnD):refCheck vars arrays fs=checkP vars arrays fs:=by
 unfold refCheck checkP
 by_cases h1:freshE [] (vars++arrays.map (·.1)++fs.map (·.name))=0
 ·by_cases h2:errFs vars (arrays.map (·.1)) (fs.map (·.name)) [] fs=0
  ·rw[refFs_eq fs [] (by rw[List.nil_append];exact dist_of h1) h2]
  ·unfold orE
   rw[if_pos h2,if_pos h2]
 ·unfold orE
  rw[if_pos h1,if_pos h1]
end Go.Stele
namespace Go.Stele
theorem noDot {s:Nm} (h:isNm s=true):(46:UInt8) ∉ s:=by
 unfold isNm at h
 rw[Bool.and_eq_true] at h
 have h2:=h.2
 cases s with
 |nil=>exact List.not_mem_nil
 |cons c r=>
  simp only[Bool.and_eq_true] at h2
  intro hm
  rcases List.mem_cons.1 hm with rfl|hm
  ·exact absurd h2.1 (by decide)
  ·exact absurd (List.all_eq_true.1 h2.2 46 hm) (by decide)
theorem split_dot:∀ (a b x y:Nm),(46:UInt8) ∉ a→(46:UInt8) ∉ b→a++46::x=b++46::y→a=b∧x=y
 |[],[],x,y,_,_,h=>by
  injection h with _ h
  exact ⟨rfl,h⟩
 |[],d::b,x,y,_,hb,h=>by
  injection h with h1 _
  exact absurd (h1▸List.mem_cons_self ..) hb
 |c::a,[],x,y,ha,_,h=>by
  injection h with h1 _
  exact absurd (h1▸List.mem_cons_self ..) ha
 |c::a,d::b,x,y,ha,hb,h=>by
  injection h with h1 h2
  obtain ⟨e1,e2⟩:=split_dot a b x y (fun g=>ha (List.mem_cons_of_mem _ g)) (fun g=>hb (List.mem_cons_of_mem _ g)) h2
  exact ⟨by rw[h1,e1],e2⟩
theorem nodup_inj {fs:List FnD} (h:(fs.map (·.name)).Nodup) {f g:FnD} (hf:f∈fs) (hg:g∈fs) (he:f.name=g.name):f=g:=by
 induction fs with
 |nil=>cases hf
 |cons a l ih=>
  rw[List.map_cons,List.nodup_cons] at h
  rcases List.mem_cons.1 hf with rfl|hf'
  ·rcases List.mem_cons.1 hg with rfl|hg'
   ·rfl
   ·exact absurd (List.mem_map.2 ⟨g,hg',he.symm⟩) h.1
  ·rcases List.mem_cons.1 hg with rfl|hg'
   ·exact absurd (List.mem_map.2 ⟨f,hf',he⟩) h.1
   ·exact ih h.2 hf' hg'
theorem own_key {vars arrays:List Nm} {fs:List FnD} (h:freshE [] (vars++arrays++fs.map (·.name))=0) {f:FnD} (hf:f∈fs) (name:Nm):f.name++[46]++name∈scalarsP vars fs ↔ name∈f.params++f.locals:=by
 obtain ⟨h1,h2⟩:=fresh_zero _ _ h
 have hd:∀ g∈fs,(46:UInt8) ∉ g.name:=fun g hg=>noDot (h2 _ (List.mem_append.2 (.inr (List.mem_map.2 ⟨g,hg,rfl⟩)))).2
 unfold scalarsP
 rw[List.mem_append]
 constructor
 ·rintro (g|g)
  ·have:=noDot (h2 _ (List.mem_append.2 (.inl (List.mem_append.2 (.inl g))))).2
   exact absurd (by simp) this
  ·obtain ⟨l,g1,g2⟩:=List.mem_flatten.1 g
   obtain ⟨k,g3,rfl⟩:=List.mem_map.1 g1
   obtain ⟨x,g4,g5⟩:=List.mem_map.1 g2
   have g6:k.name++46::x=f.name++46::name:=by simpa using g5
   obtain ⟨e1,rfl⟩:=split_dot _ _ _ _ (hd k g3) (hd f hf) g6
   rw[←nodup_inj (List.nodup_append.1 h1).2.1 g3 hf e1]
   exact g4
 ·intro g
  exact .inr (List.mem_flatten.2 ⟨_,List.mem_map.2 ⟨f,hf,rfl⟩,List.mem_map.2 ⟨name,g,rfl⟩⟩)
theorem key_eq {vars arrays:List Nm} {fs:List FnD} (h:freshE [] (vars++arrays++fs.map (·.name))=0) {f:FnD} (hf:f∈fs) (name:Nm):(if f.name++[46]++name∈scalarsP vars fs then f.name++[46]++name else name)=keyI f name:=by
 unfold keyI
 simp only[own_key h hf,List.mem_append]
theorem key_placed {vars arrays:List Nm} {fs:List FnD} {known:List FSum} {f:FnD} (hf:f∈fs) {name:Nm} (h:scalarE (envF vars arrays (fs.map (·.name)) known f) name=0):keyI f name∈scalarsP vars fs:=by
 unfold scalarE at h
 unfold keyI scalarsP
 rw[List.mem_append]
 split at h
 ·rename_i h1
  split
  ·rename_i h2
   exact .inr (List.mem_flatten.2 ⟨_,List.mem_map.2 ⟨f,hf,rfl⟩,List.mem_map.2 ⟨name,List.mem_append.2 h2,rfl⟩⟩)
  ·rename_i h2
   rcases h1 with h1|h1
   ·exact .inl h1
   ·exact absurd (List.mem_append.1 h1) h2
 ·split at h <;> cases h
theorem fnI_mem {P:Pr} {f:FnD} (h:(P.funcs.map (·.name)).Nodup) (hf:f∈P.funcs):fnI P f.name=f:=by
 unfold fnI
 cases hg:P.funcs.find? fun g=>decide (g.name=f.name) with
 |none=>exact absurd (List.find?_eq_none.1 hg f hf) (by simp)
 |some g=>exact nodup_inj h (List.mem_of_find?_eq_some hg) hf (of_decide_eq_true (List.find?_some (p:=fun g:FnD=>decide (g.name=f.name)) hg))
end Go.Stele
namespace Go.Stele
def Lt (v:Nat):Prop:=v<4294967296
mutual
def numE:Ex→Prop
 |.mk op num name args=>Lt num∧numEs args
def numEs:List Ex→Prop
 |[]=>True
 |x::l=>numE x∧numEs l
end
mutual
def numS:Sm→Prop
 |.mk kind name index value thn els=>numEs index∧numEs value∧numSs thn∧numSs els
def numSs:List Sm→Prop
 |[]=>True
 |x::l=>numS x∧numSs l
end
theorem numEs_mem:∀ {l:List Ex} {x:Ex},numEs l→x∈l→numE x
 |a::l,x,h,hx=>by
  rcases List.mem_cons.1 hx with rfl|hx
  ·exact h.1
  ·exact numEs_mem h.2 hx
theorem numSs_mem:∀ {l:List Sm} {x:Sm},numSs l→x∈l→numS x
 |a::l,x,h,hx=>by
  rcases List.mem_cons.1 hx with rfl|hx
  ·exact h.1
  ·exact numSs_mem h.2 hx
theorem numE_head {l:List Ex} (h:numEs l):numE (l.headD default):=by
 cases l with
 |nil=>exact ⟨by unfold Lt;decide,trivial⟩
 |cons a l=>exact h.1
structure Bnd (s:IS):Prop where
 sc:∀ k,Lt (s.sc k)
 ar:∀ x,∀ v∈s.ar x,Lt v
 inp:∀ v∈s.inp,Lt v
def Bd {A:Type} (P:A→Prop):IR A→Prop
 |.ok v s=>P v∧Bnd s
 |.stop _ _=>True
theorem Bd.bind {A B:Type} {P:A→Prop} {Q:B→Prop} {r:IR A} {f:A→IS→IR B} (h:Bd P r) (hf:∀ v s,P v→Bnd s→Bd Q (f v s)):Bd Q (r.bind f):=by
 cases r with
 |ok v s=>exact hf v s h.1 h.2
 |stop e s=>trivial
def OptLt (r:Option Nat):Prop:=∀ v,r=some v→Lt v
theorem OptLt.none:OptLt none:=fun _ h=>by cases h
theorem OptLt.some {v:Nat} (h:Lt v):OptLt (some v):=fun _ e=>by cases e;exact h
theorem tick_bd {s:IS} (h:Bnd s):Bd (fun _=>True) (tick s):=by
 unfold tick
 split
 ·trivial
 ·exact ⟨trivial,h.sc,h.ar,h.inp⟩
theorem mapR_bd {A:Type} {g:A→IS→IR Nat}:∀ (l:List A) (s:IS),(∀ a∈l,∀ s,Bnd s→Bd Lt (g a s))→Bnd s→Bd (fun vs=>∀ v∈vs,Lt v) (mapR g l s)
 |[],s,_,hs=>⟨fun v hv=>(List.not_mem_nil hv).elim,hs⟩
 |a::l,s,h,hs=>by
  unfold mapR
  refine (h a (List.mem_cons_self ..) s hs).bind fun v s hv hs=>(mapR_bd l s (fun b hb=>h b (List.mem_cons_of_mem _ hb)) hs).bind fun vs s hvs hs=>⟨fun x hx=>?_,hs⟩
  rcases List.mem_cons.1 hx with rfl|hx
  ·exact hv
  ·exact hvs x hx
theorem blkR_bd {g:Sm→IS→IR (Option Nat)}:∀ (l:List Sm) (s:IS),(∀ a∈l,∀ s,Bnd s→Bd OptLt (g a s))→Bnd s→Bd OptLt (blkR g l s)
 |[],s,_,hs=>⟨OptLt.none,hs⟩
 |a::l,s,h,hs=>by
  unfold blkR
  refine (h a (List.mem_cons_self ..) s hs).bind fun r s hr hs=>?_
  cases r with
  |some v=>exact ⟨hr,hs⟩
  |none=>exact blkR_bd l s (fun b hb=>h b (List.mem_cons_of_mem _ hb)) hs
theorem whlR_bd {c:IS→IR Nat} {b:IS→IR (Option Nat)} (hc:∀ s,Bnd s→Bd Lt (c s)) (hb:∀ s,Bnd s→Bd OptLt (b s)):∀ (m v:Nat) (s:IS),Bnd s→Bd OptLt (whlR c b m v s)
 |0,v,s,hs=>by
  unfold whlR
  split
  ·exact ⟨OptLt.none,hs⟩
  ·trivial
 |m+1,v,s,hs=>by
  unfold whlR
  split
  ·exact ⟨OptLt.none,hs⟩
  ·refine (hb s hs).bind fun r s hr hs=>?_
   cases r with
   |some x=>exact ⟨hr,hs⟩
   |none=>exact (hc s hs).bind fun v s _ hs=>whlR_bd hc hb m v s hs
theorem b2n_lt (b:Bool):Lt (b2n b):=by unfold b2n Lt;split <;> decide
theorem binI_lt {op:List UInt8} {a b v:Nat} (ha:Lt a) (hb:Lt b) (h:binI op a b=some v):Lt v:=by
 have hm:∀ n:Nat,Lt (n % 4294967296):=fun n=>Nat.mod_lt _ (by decide)
 have hx:Lt (a ^^^ b):=Nat.xor_lt_two_pow (n:=32) ha hb
 have hi:∀ {c:Prop} [Decidable c] {x y:Option Nat},OptLt x→OptLt y→OptLt (if c then x else y):=fun h1 h2=>by
  split
  ·exact h1
  ·exact h2
 have hB:∀ b,OptLt (some (b2n b)):=fun b=>OptLt.some (b2n_lt b)
 have:OptLt (binI op a b):=hi (OptLt.some (hm _)) (hi (OptLt.some (hm _)) (hi (OptLt.some (hm _)) (hi (OptLt.some hx) (hi (hB _) (hi (hB _) (hi (hB _) (hi (hB _) (hi (hB _) (hi (hB _) (hi (hB _) (hi (hB _) (hi OptLt.none
  (hi (OptLt.some (Nat.lt_of_le_of_lt (Nat.div_le_self _ _) ha)) (OptLt.some (Nat.lt_of_le_of_lt (Nat.mod_le _ _) ha)))))))))))))))
 exact this v h
theorem setPs_bd (f:FnD):∀ (ps:List (List UInt8)) (vs:List Nat) (s:IS),(∀ v∈vs,Lt v)→Bnd s→Bnd (setPs f ps vs s)
 |p::ps,v::vs,s,hv,hs=>by
  unfold setPs
  refine setPs_bd f ps vs _ (fun x hx=>hv x (List.mem_cons_of_mem _ hx)) ⟨fun k=>?_,hs.ar,hs.inp⟩
  show Lt (if k=keyI f p then v else s.sc k)
  split
  ·exact hv v (List.mem_cons_self ..)
  ·exact hs.sc k
 |[],_,s,_,hs=>by unfold setPs;exact hs
 |_::_,[],s,_,hs=>by unfold setPs;exact hs
theorem head_lt {l:List Nat} (h:∀ v∈l,Lt v):Lt (l.headD 0):=by
 cases l with
 |nil=>unfold Lt;decide
 |cons a l=>exact h a (List.mem_cons_self ..)
theorem opI_bd {P:Pr} {g:FnD→Sm→IS→IR (Option Nat)} (hP:∀ f∈P.funcs,numSs f.body) (hg:∀ f x s,numS x→Bnd s→Bd OptLt (g f x s)) (f:FnD) (op:List UInt8) {num:Nat} (hn:Lt num) (name:List UInt8) {vs:List Nat} (hv:∀ v∈vs,Lt v) {s:IS} (hs:Bnd s):Bd Lt (opI P g f op num name vs s):=by
 have ht:Lt (vs.tail.headD 0):=head_lt fun v h=>hv v (List.mem_of_mem_tail h)
 unfold opI
 split
 ·exact ⟨hn,hs⟩
 split
 ·exact ⟨hs.sc _,hs⟩
 split
 ·split
  ·rename_i v h
   exact ⟨hs.ar _ v (List.mem_of_getElem? h),hs⟩
  ·trivial
 split
 ·exact ⟨Nat.mod_lt _ (by decide),hs⟩
 split
 ·exact ⟨b2n_lt _,hs⟩
 split
 ·unfold callI
  split
  ·split
   ·exact ⟨by unfold Lt;decide,hs⟩
   ·rename_i v r h
    exact ⟨hs.inp v (by rw[h];exact List.mem_cons_self ..),hs.sc,hs.ar,fun x hx=>hs.inp x (by rw[h];exact List.mem_cons_of_mem _ hx)⟩
  split
  ·exact ⟨by unfold Lt;decide,hs.sc,hs.ar,hs.inp⟩
  ·refine (blkR_bd _ _ (fun x hx s hs=>hg _ x s ?_ hs) (setPs_bd _ _ _ _ hv hs)).bind fun r s hr hs=>⟨?_,hs⟩
   ·unfold fnI at hx
    cases hf:P.funcs.find? fun f=>decide (f.name=name) with
    |none=>rw[hf] at hx;cases hx
    |some f'=>
     rw[hf] at hx
     exact numSs_mem (hP f' (List.mem_of_find?_eq_some hf)) hx
   ·cases r with
    |none=>show Lt 0;unfold Lt;decide
    |some v=>exact hr v rfl
 ·split
  ·rename_i v h
   exact ⟨binI_lt (head_lt hv) ht h,hs⟩
  ·trivial
theorem bd_all {P:Pr} (hP:∀ f∈P.funcs,numSs f.body):∀ n:Nat,(∀ f x s,numE x→Bnd s→Bd Lt (evI P n f x s))∧∀ f x s,numS x→Bnd s→Bd OptLt (stI P n f x s)
 |0=>⟨fun f x s _ _=>by unfold evI;trivial,fun f x s _ _=>by unfold stI;trivial⟩
 |n+1=>by
  obtain ⟨i1,i2⟩:=bd_all hP n
  refine ⟨fun f x s hx hs=>?_,fun f x s hx hs=>?_⟩
  ·obtain ⟨op,num,name,args⟩:=x
   unfold evI
   exact (tick_bd hs).bind fun _ s _ hs=>(mapR_bd args s (fun a ha s hs=>i1 f a s (numEs_mem hx.2 ha) hs) hs).bind fun vs s hvs hs=>opI_bd hP i2 f op hx.1 name hvs hs
  ·obtain ⟨kind,name,index,value,thn,els⟩:=x
   obtain ⟨h1,h2,h3,h4⟩:=hx
   unfold stI
   refine (tick_bd hs).bind fun _ s _ hs=>?_
   split
   ·trivial
   refine (i1 f _ s (numE_head h2) hs).bind fun v s hv hs=>?_
   split
   ·refine ⟨OptLt.none,fun k=>?_,hs.ar,hs.inp⟩
    show Lt (if k=keyI f name then v else s.sc k)
    split
    ·exact hv
    ·exact hs.sc k
   split
   ·refine (i1 f _ s (numE_head h1) hs).bind fun i s hi hs=>?_
    split
    ·refine ⟨OptLt.none,hs.sc,fun x w hw=>?_,hs.inp⟩
     have hw':w∈(if x=name then (s.ar name).set i v else s.ar x):=hw
     split at hw'
     ·rcases List.mem_or_eq_of_mem_set hw' with g|rfl
      ·exact hs.ar name w g
      ·exact hv
     ·exact hs.ar x w hw'
    ·trivial
   split
   ·exact ⟨OptLt.some hv,hs⟩
   split
   ·split
    ·exact blkR_bd _ _ (fun a ha s hs=>i2 f a s (numSs_mem h3 ha) hs) hs
    ·exact blkR_bd _ _ (fun a ha s hs=>i2 f a s (numSs_mem h4 ha) hs) hs
   split
   ·exact whlR_bd (fun s hs=>i1 f _ s (numE_head h2) hs) (fun s hs=>blkR_bd _ _ (fun a ha s hs=>i2 f a s (numSs_mem h3 ha) hs) hs) n v s hs
   ·exact ⟨OptLt.none,hs⟩
end Go.Stele
namespace Go.Stele
theorem errFs_own {vars arrays later:List Nm}:∀ (fs:List FnD) (known:List FSum),errFs vars arrays later known fs=0→∀ f∈fs,(f.params++f.locals).Nodup∧∀ x∈f.params++f.locals,x ∉ vars++arrays++later
 |[],known,_,f,hf=>(List.not_mem_nil hf).elim
 |g::l,known,h,f,hf=>by
  rw[errFs] at h
  obtain ⟨h1,h2⟩:=orE_zero.1 h
  rcases List.mem_cons.1 hf with rfl|hf
  ·obtain ⟨g1,g2⟩:=fresh_zero _ _ (orE_zero.1 h1).1
   exact ⟨g1,fun x hx=>(g2 x hx).1⟩
  ·exact errFs_own l _ h2 f hf
theorem nodup_map {A B:Type} {g:A→B} (hg:∀ x y,g x=g y→x=y):∀ {l:List A},l.Nodup→(l.map g).Nodup
 |[],_=>List.nodup_nil
 |a::l,h=>by
  rw[List.nodup_cons] at h
  rw[List.map_cons,List.nodup_cons]
  refine ⟨fun hm=>?_,nodup_map hg h.2⟩
  obtain ⟨b,hb,he⟩:=List.mem_map.1 hm
  exact h.1 (hg _ _ he▸hb)
theorem own_nodup {fs:List FnD}:(fs.map (·.name)).Nodup→(∀ f∈fs,(46:UInt8) ∉ f.name)→(∀ f∈fs,(f.params++f.locals).Nodup)→((fs.map fun f=>(f.params++f.locals).map fun x=>f.name++[46]++x).flatten).Nodup:=by
 induction fs with
 |nil=>intro _ _ _;exact List.nodup_nil
 |cons f l ih=>
  intro h1 h2 h3
  rw[List.map_cons,List.nodup_cons] at h1
  rw[List.map_cons,List.flatten_cons,List.nodup_append]
  refine ⟨?_,ih h1.2 (fun g hg=>h2 g (List.mem_cons_of_mem _ hg)) (fun g hg=>h3 g (List.mem_cons_of_mem _ hg)),?_⟩
  ·exact nodup_map (fun x y hxy=>List.append_cancel_left hxy) (h3 f (List.mem_cons_self ..))
  ·intro a ha b hb he
   subst he
   obtain ⟨x,_,rfl⟩:=List.mem_map.1 ha
   obtain ⟨L,g1,g2⟩:=List.mem_flatten.1 hb
   obtain ⟨g,g3,rfl⟩:=List.mem_map.1 g1
   obtain ⟨y,_,g5⟩:=List.mem_map.1 g2
   have g6:g.name++46::y=f.name++46::x:=by simpa using g5
   obtain ⟨e1,_⟩:=split_dot _ _ _ _ (h2 g (List.mem_cons_of_mem _ g3)) (h2 f (List.mem_cons_self ..)) g6
   exact h1.1 (List.mem_map.2 ⟨g,g3,e1⟩)
theorem scal_nodup {vars arrays:List Nm} {fs:List FnD} (h:freshE [] (vars++arrays++fs.map (·.name))=0) (hf:errFs vars arrays (fs.map (·.name)) [] fs=0):(scalarsP vars fs).Nodup:=by
 obtain ⟨h1,h2⟩:=fresh_zero _ _ h
 have ho:=errFs_own fs [] hf
 unfold scalarsP
 rw[List.nodup_append]
 refine ⟨(List.nodup_append.1 (List.nodup_append.1 h1).1).1,own_nodup (List.nodup_append.1 h1).2.1 (fun f hf=>noDot (h2 _ (List.mem_append.2 (.inr (List.mem_map.2 ⟨f,hf,rfl⟩)))).2) fun f hf=>(ho f hf).1,?_⟩
 intro a ha b hb he
 subst he
 obtain ⟨L,g1,g2⟩:=List.mem_flatten.1 hb
 obtain ⟨g,g3,rfl⟩:=List.mem_map.1 g1
 obtain ⟨y,_,g5⟩:=List.mem_map.1 g2
 have:=noDot (h2 _ (List.mem_append.2 (.inl (List.mem_append.2 (.inl ha))))).2
 rw[←g5] at this
 exact absurd (by simp) this
end Go.Stele
namespace Go.Stele
def Known (fs:List FnD) (known:List FSum):Prop:=∀ k∈known,∃ g∈fs,g.name=k.name∧g.params.length=k.params
theorem body_valid {vars arrays later:List Nm} {all:List FnD}:∀ (fs:List FnD) (known:List FSum),errFs vars arrays later known fs=0→Known all known→(∀ f∈fs,f∈all)→∀ f∈fs,∃ kn,errSs (envF vars arrays later kn f) f.body=0∧Known all kn
 |[],known,_,_,_,f,hf=>(List.not_mem_nil hf).elim
 |g::l,known,h,hk,ha,f,hf=>by
  rw[errFs] at h
  obtain ⟨h1,h2⟩:=orE_zero.1 h
  rcases List.mem_cons.1 hf with rfl|hf
  ·exact ⟨known,(orE_zero.1 h1).2,hk⟩
  ·refine body_valid l _ h2 (fun k hk'=>?_) (fun x hx=>ha x (List.mem_cons_of_mem _ hx)) f hf
   rcases List.mem_append.1 hk' with g1|g1
   ·exact hk k g1
   ·rw[List.mem_singleton.1 g1]
    exact ⟨g,ha g (List.mem_cons_self ..),rfl,rfl⟩
theorem sizes_valid:∀ (l:List Int) (t:Int),0≤t→sizesE t l=0→∀ n∈l,0<n∧t+n≤150000
 |[],t,_,_,n,hn=>(List.not_mem_nil hn).elim
 |a::l,t,ht,h,n,hn=>by
  rw[sizesE] at h
  split at h
  ·cases h
  split at h
  ·cases h
  rcases List.mem_cons.1 hn with rfl|hn
  ·constructor <;> omega
  ·have:=sizes_valid l (t+a) (by omega) h n hn
   constructor <;> omega
structure Valid (p:Pr):Prop where
 names:freshE [] (p.vars++p.arrays.map (·.name)++p.funcs.map (·.name))=0
 sizes:∀ a∈p.arrays,0<a.size∧a.size≤150000
 own:∀ f∈p.funcs,(f.params++f.locals).Nodup∧∀ x∈f.params++f.locals,x ∉ p.vars++p.arrays.map (·.name)++p.funcs.map (·.name)
 bodies:∀ f∈p.funcs,∃ kn,errSs (envF p.vars (p.arrays.map (·.name)) (p.funcs.map (·.name)) kn f) f.body=0∧Known p.funcs kn
 keys:(scalarsP p.vars p.funcs).Nodup
 main:mainI p∈p.funcs∧(mainI p).name=[109,97,105,110]∧(mainI p).params=[]
 few:(scalarsP p.vars p.funcs).length≤8000
theorem valid_of {p:Pr} (h:checkPr p=0):Valid p:=by
 unfold checkPr checkP at h
 have e1:(p.arrays.map fun a=>(a.name,(a.size:Int))).map (·.1)=p.arrays.map (·.name):=by rw[List.map_map];rfl
 rw[e1] at h
 obtain ⟨h1,h⟩:=orE_zero.1 h
 obtain ⟨h2,h⟩:=orE_zero.1 h
 obtain ⟨h3,h4⟩:=orE_zero.1 h
 have hm:mainI p∈p.funcs∧(mainI p).name=[109,97,105,110]∧(mainI p).params=[]∧(scalarsP p.vars p.funcs).length≤8000:=by
  unfold mainE at h4
  split at h4
  ·rename_i f m hf hms
   split at h4
   ·rename_i h5
    split at h4
    ·rename_i h6
     have e:mainI p=f:=by unfold mainI;rw[hf];rfl
     rw[e]
     exact ⟨List.mem_of_getLast? hf,h5.1,h5.2,h6.1⟩
    ·cases h4
   ·cases h4
  ·cases h4
 refine ⟨h1,fun a ha=>?_,errFs_own _ _ h3,body_valid _ _ h3 (fun k hk=>(List.not_mem_nil hk).elim) (fun f hf=>hf),scal_nodup h1 h3,⟨hm.1,hm.2.1,hm.2.2.1⟩,hm.2.2.2⟩
 have:=sizes_valid _ 0 (by decide) h2 (a.size:Int) (by
  rw[List.map_map]
  exact List.mem_map.2 ⟨a,ha,rfl⟩)
 constructor <;> omega
theorem call_valid {p:Pr} {f:FnD} {kn:List FSum} (hv:Valid p) (hk:Known p.funcs kn) {name:Nm} {n:Nat} (h:callE (envF p.vars (p.arrays.map (·.name)) (p.funcs.map (·.name)) kn f) name n=0) (h1:name≠[105,110]) (h2:name≠[111,117,116]):fnI p name∈p.funcs∧(fnI p name).name=name∧(fnI p name).params.length=n:=by
 unfold callE at h
 rw[if_neg h1,if_neg h2] at h
 unfold CEnv.fn at h
 rw[show (envF p.vars (p.arrays.map (·.name)) (p.funcs.map (·.name)) kn f).funcs=kn from rfl] at h
 cases hf:kn.find? fun f=>decide (f.name=name) with
 |none=>
  rw[hf] at h
  simp only at h
  split at h <;> cases h
 |some k=>
  rw[hf] at h
  simp only at h
  split at h
  ·rename_i hn
   obtain ⟨g,g1,g2,g3⟩:=hk k (List.mem_of_find?_eq_some hf)
   have hkn:k.name=name:=of_decide_eq_true (List.find?_some (p:=fun g:FSum=>decide (g.name=name)) hf)
   have e:=fnI_mem (P:=p) (List.nodup_append.1 (fresh_zero _ _ hv.names).1).2.1 g1
   rw[g2,hkn] at e
   rw[e]
   exact ⟨g1,g2.trans hkn,by rw[g3,hn]⟩
  ·cases h
end Go.Stele
set_option maxRecDepth 100000
namespace Go.Stele
def awakeS:List UInt8:=[102,117,110,99,32,109,97,105,110,40,41,32,123,32,111,117,116,40,50,32,43,32,52,48,41,59,32,125]
def awakeP:Pr:=⟨[],[],[⟨[109,97,105,110],[],[],[.mk 6 [] [] [.mk nCall 0 [111,117,116] [.mk [43] 0 [] [.mk nNum 2 [] [],.mk nNum 40 [] []]]] [] []]⟩]⟩
theorem awake_parse:parseQ awakeS=(awakeP,0):=by kernel_rfl
theorem awake_check:checkPr awakeP=0:=by decide +kernel
theorem awake_run:runI awakeP [] 100=⟨[42],0,5⟩:=by kernel_rfl
theorem awake_law:sourceI awakeS [] 100=⟨[42],0,5⟩:=by
 rw[source_ok awake_parse awake_check]
 exact awake_run
end Go.Stele
