/- Texts joined: GlKv, GlArith, GlRows, GlGrow, GlPair, InpSpec, ChkSpec, FmtSpec, LexCat, ParTok, LexJoin, ParFuel, ParNodes. -/
import Derived.StillTail
import Derived.DeepKeys
import Derived.Lib.Join
import Derived.Test.YtpbbgkoalnonoaaGreatDoorBRowCA2
set_option linter.unusedVariables false
set_option linter.unusedSimpArgs false
set_option maxRecDepth 100000
set_option maxHeartbeats 4000000
namespace Go.GL
open Go.RowKit
abbrev KV:=List (List UInt8×LV)
@[reducible] def strV (k:List UInt8):Value:=.string ⟨k.toArray⟩
def kvs (m:KV):List (Value×LV):=m.map fun p=>(strV p.1,p.2)
def kvGet:KV→List UInt8→Option LV
 |[],_=>none
 |p::r,k=>if p.1=k then some p.2 else kvGet r k
def kvPut:KV→List UInt8→LV→KV
 |[],k,v=>[(k,v)]
 |p::r,k,v=>if p.1=k then (k,v)::r else p::kvPut r k v
theorem kvGet_put (k k':List UInt8) (v:LV):∀ m:KV,kvGet (kvPut m k v) k'=if k=k' then some v else kvGet m k'
 |[]=>by simp only[kvPut,kvGet]
 |p::r=>by
  unfold kvPut
  by_cases h:p.1=k
  ·rw[if_pos h]
   by_cases h':k=k'
   ·simp only[kvGet,if_pos h']
   ·simp only[kvGet,if_neg h']
    rw[if_neg (by rw[h];exact h')]
  ·rw[if_neg h]
   simp only[kvGet]
   rw[kvGet_put k k' v r]
   by_cases h2:p.1=k'
   ·rw[if_pos h2,if_neg (by rw[←h2];exact fun h3=>h h3.symm)]
    simp only[if_pos h2]
   ·simp only[if_neg h2]
theorem kv_find (k:List UInt8):∀ (m:KV) (es:List MapEntry) (i:Nat),es.map (·.key)=(kvs m).map (·.1) →
  (kvGet m k=none∧(∀ v,kvPut m k v=m++[(k,v)])∧Instr.findNow .string (strV k) es i=some none) ∨
  ∃ (j:Nat) (e:MapEntry) (v:LV),Instr.findNow .string (strV k) es i=some (some (i+j,e.val))∧es[j]? = some e∧m[j]? = some (k,v)∧kvGet m k=some v∧∀ v',kvPut m k v'=m.set j (k,v')
 |[],[],i,_=>.inl ⟨rfl,fun _=>rfl,rfl⟩
 |[],_::_,_,h=>by cases h
 |_::_,[],_,h=>by cases h
 |p::m,e::es,i,h=>by
  have h1:e.key=strV p.1:=by
   have:=(List.cons.inj h).1
   exact this
  have h2:es.map (·.key)=(kvs m).map (·.1):=(List.cons.inj h).2
  by_cases hs:p.1=k
  ·right
   have hb:((⟨k.toArray⟩:ByteArray) == ⟨p.1.toArray⟩)=true:=by rw[bytes_beq,decide_eq_true hs.symm]
   refine ⟨0,e,p.2,?_,rfl,by rw[←hs];try rfl,by simp only[kvGet,if_pos hs],fun v'=>by simp only[kvPut,if_pos hs];rfl⟩
   simp only[Instr.findNow,h1,Instr.sameNow,hb,Nat.add_zero]
  ·have hb:((⟨k.toArray⟩:ByteArray) == ⟨p.1.toArray⟩)=false:=by rw[bytes_beq,decide_eq_false (fun h3=>hs h3.symm)]
   rcases kv_find k m es (i+1) h2 with ⟨g1,g2,g3⟩|⟨j,e2,v,g1,g2,g3,g4,g5⟩
   ·left
    refine ⟨by simp only[kvGet,if_neg hs];exact g1,fun v=>by simp only[kvPut,if_neg hs,g2];rfl,?_⟩
    simp only[Instr.findNow,h1,Instr.sameNow,hb]
    exact g3
   ·right
    refine ⟨j+1,e2,v,?_,g2,g3,by simp only[kvGet,if_neg hs];exact g4,fun v'=>by simp only[kvPut,if_neg hs,g5];rfl⟩
    simp only[Instr.findNow,h1,Instr.sameNow,hb]
    rw[g1]
    congr 3
    omega
theorem RepL.setAt {w:World} {L:Live}:∀ {cs:List LV} {xs:List Value},RepL w L cs xs→∀ (j:Nat) {c:LV} {x:Value},Rep w L c x→RepL w L (cs.set j c) (xs.set j x)
 |[],xs,h,j,c,x,hr=>by
  simp only[RepL] at h
  subst h
  simp only[List.set_nil,RepL]
 |d::cs,xs,h,j,c,x,hr=>by
  simp only[RepL] at h
  obtain ⟨y,ys,rfl,h1,h2⟩:=h
  cases j with
  |zero=>
   simp only[List.set_cons_zero,RepL]
   exact ⟨x,ys,rfl,hr,h2⟩
  |succ j=>
   simp only[List.set_cons_succ,RepL]
   exact ⟨y,_,rfl,h1,h2.setAt j hr⟩
section
variable {C:Ctx} {e:Env} {H:Heap} {dst:Option Nat} {ty:TypeId} {pos:String} {aft:Array Edge} {g:Option (Nat×Bool)} {K:LV→Heap→Prop} {X:List PanicEntry→Heap→Prop} {x y:Operand}
theorem left_map {w w':World} {L:Live} {b clock clock':Nat} {es es':List (Value×LV)} (hH:RelH C w L [(b,.map es clock)]) (h1:w'.os=w.os) (h2:w'.tape=w.tape) (h3:w'.output=w.output)
  (h4:w'.heap.size=w.heap.size) (h5:∀ c,c≠b→w'.heap[c]? = w.heap[c]?) (avs:List MapEntry) (h6:w'.heap[b]? = some (.map avs.toArray clock')) (h7:avs.map (·.key)=es'.map (·.1)) (h8:RepL w L (es'.map (·.2)) (avs.map (·.val)))
  (h9:∀ e∈avs,e.born<clock') (h10:(avs.map (·.born)).Nodup) {v:Value} {lv:LV} (hv:∀ L,Rep w' L lv v) (hk:K lv [(b,.map es' clock')]):Left C w L [(b,.map es clock)] w' v K:=by
 obtain ⟨hb0,hbs,hl,xs,hx1,_⟩:=hH.objs _ (List.mem_singleton.2 rfl)
 simp only at hb0 hbs hl hx1
 have hx:Ext w L w' L:=by
  refine ⟨by rw[h4];exact zNr _,fun c hc=>?_,fun c i hi=>?_,fun _=>zNr _⟩
  ·by_cases he:c=b
   ·subst he
    rw[shape_none hx1 rfl]
    exact shape_none h6 rfl
   ·exact shape_of_heap (h5 c he)
  ·by_cases he:c=b
   ·subst he;rw[hl] at hi;omega
   ·exact cell_of_heap (h5 c he) i
 refine ⟨lv,[(b,.map es' clock')],L,⟨h1,h2,h3,hx,fun c hc hn=>h5 c (by simpa using hn),fun _ _ _=>rfl,fun p hp=>.inl (by simp only[List.mem_singleton] at hp;subst hp;simp)⟩,
  ⟨?_,hH.lbase,by rw[h4];exact hH.b0,by rw[h4];exact hH.wf,by simp,fun p hp=>?_⟩,hv L,hk⟩
 ·exact hH.base.trans ⟨h1,h2,h3,by rw[h4];exact zNr _,fun c hc=>h5 c zo⟩
 ·simp only[List.mem_singleton] at hp
  subst hp
  exact ⟨hb0,by rw[h4];exact hbs,hl,avs,h6,h7,RepL.mono hx _ _ h8,h9,h10⟩
theorem S.kvNew {t:TypeId} (hk:∀ b,K (.atom (.map (some b))) ((b,.map (kvs []) 0)::H)):LStep C ⟨dst,.makeMap t none,ty,pos,aft,g⟩ e H K X:=by
 refine LStep.at0 fun ρ w L _ hH=>?_
 have h3:execOp ρ ⟨dst,.makeMap t none,ty,pos,aft,g⟩=(do Pure.pure (.value (←Instr.makeMap t none))):=rfl
 have h4:(Instr.makeMap t none).run C.P w=.ok (.map (some w.heap.size)) (World.push w (.map #[] 0)):=rfl
 rw[h3,Sem.run_bind,h4]
 have:=fr_push hH (.map #[] 0) 0 [(w.heap.size,.map (kvs []) 0)] (fun p hp=>by
  simp only[List.mem_singleton] at hp
  subst hp
  refine ⟨rfl,by simp[Live.upd],[],heap_push_self,rfl,?_,(fun e he=>by cases he),List.nodup_nil⟩
  show RepL _ _ [] []
  simp only[RepL]) (by simp)
 exact ⟨_,_,_,this.1,this.2,rep_atom,hk _⟩
theorem S.kvPut {t kt el:TypeId} (ht:C.P.underlying t=some (.map kt el)) (hkt:C.P.underlying kt=some .string) {b clock:Nat} {m:KV} {F:Heap} {mo z:Operand} {k:List UInt8} {lv:LV} (hm:e.ev mo=.atom (.map (some b))) (hx:e.ev x=str k) (hz:e.ev z=lv)
  (hp:Pick (b,.map (kvs m) clock) H F) (hk:∀ clock',K (.atom undef) ((b,.map (kvs (GL.kvPut m k lv)) clock')::F)):LStep C ⟨dst,.mapUpdate t mo x z,ty,pos,aft,g⟩ e H K X:=by
 refine LStep.at1 hp fun ρ w L h hH=>?_
 obtain ⟨hb0,hbs,hl,avs,hx1,hx2,hx3,hx4,hx5⟩:=hH.objs _ (List.mem_singleton.2 rfl)
 simp only at hb0 hbs hl hx1 hx2 hx3
 have hrz:Rep w L lv (ρ z):=hz▸h z
 have h3:execOp ρ ⟨dst,.mapUpdate t mo x z,ty,pos,aft,g⟩=(do Instr.mapUpdate t (ρ mo) (ρ x) (ρ z);Pure.pure .skip):=rfl
 have hg:(getObj b).run C.P w=.ok (.map avs.toArray clock) w:=by simp only[getObj,Sem.run,hx1]
 have hset:∀ o',(setObj b o').run C.P w=.ok () (setW w b o'):=fun o'=>run_setObj hx1 rfl
 rw[h3,atom_of h hm,atom_of h hx]
 rcases kv_find k m avs 0 hx2 with ⟨g1,g2,g3⟩|⟨j,e2,v,g1,g2,g3,g4,g5⟩
 ·have hf:(Instr.findKey kt (strV k) avs.toArray.toList).run C.P w=.ok none w:=by
   simp only[Instr.findKey,Sem.run_bind,run_underlying' hkt,Result.andThen_ok,g3,Sem.run_pure]
  simp only[Instr.mapUpdate,Sem.run_bind,run_underlying' ht,Result.andThen_ok,hg,run_checkStr hkt,hf]
  rw[hset]
  refine left_map (w':=setW w b _) hH rfl rfl rfl (by simp[setW]) (fun c hc=>setW_other hc) (avs++[⟨strV k,ρ z,clock⟩]) (clock':=clock+1) ((setW_self hbs).trans (by simp)) (es':=kvs (GL.kvPut m k lv)) ?_ ?_ ?_ ?_ (fun _=>rep_atom) (hk _)
  ·rw[g2,kvs,zMa,zMa,zMa,←kvs,hx2]
   try rfl
  ·rw[g2,kvs,zMa,zMa,zMa,←kvs]
   refine RepL.append hx3 ?_
   simp only[zMc,List.map_nil,RepL]
   exact ⟨_,_,rfl,hrz,rfl⟩
  ·intro e' he'
   rcases List.mem_append.1 he' with h1|h1
   ·exact Nat.lt_succ_of_lt (hx4 e' h1)
   ·obtain rfl:=List.mem_singleton.1 h1
    exact Nat.lt_succ_self _
  ·rw[zMa,List.nodup_append]
   refine ⟨hx5,by simp,fun a ha b' hb' he=>?_⟩
   obtain ⟨e',h1,rfl⟩:=List.mem_map.1 ha
   simp only[zMc,List.map_nil,List.mem_singleton] at hb'
   have:=hx4 e' h1
   omega
 ·have hf:(Instr.findKey kt (strV k) avs.toArray.toList).run C.P w=.ok (some (0+j,e2.val)) w:=by
   simp only[Instr.findKey,Sem.run_bind,run_underlying' hkt,Result.andThen_ok,g1,Sem.run_pure]
  have hkey:e2.key=strV k:=by
   have h1:(avs.map (·.key))[j]? = some e2.key:=by rw[List.getElem?_map,g2];try rfl
   rw[hx2,kvs,List.map_map,List.getElem?_map,g3] at h1
   exact (Option.some.inj h1).symm
  have hst:(Instr.keyThatStays (((avs.toArray[0+j]?).map (·.key)).getD (strV k)) (strV k)).run C.P w=.ok (strV k) w:=by
   rw[Nat.zero_add,List.getElem?_toArray,g2]
   simp only[Option.map_some,Option.getD_some,hkey]
   unfold Instr.keyThatStays
   rw[if_pos (by simp only[Instr.sameBits];rw[bytes_beq];simp)]
   try rfl
  simp only[Instr.mapUpdate,Sem.run_bind,run_underlying' ht,Result.andThen_ok,hg,run_checkStr hkt,hf,hst]
  rw[hset]
  have hmod:avs.toArray.modify (0+j) (fun e=>{ e with key:=strV k,val:=ρ z })=(avs.set j { e2 with key:=strV k,val:=ρ z }).toArray:=by
   rw[Nat.zero_add]
   apply Array.ext'
   simp only[Array.toList_modify]
   refine List.ext_getElem? fun i=>?_
   rw[List.getElem?_modify,List.getElem?_set]
   by_cases hi:j=i
   ·subst hi
    have hlt:j<avs.length:=(List.getElem?_eq_some_iff.1 g2).1
    rw[if_pos rfl,g2,if_pos hlt]
    show some _=_
    simp
   ·rw[if_neg hi]
    cases avs[i]? with
    |none=>rfl
    |some a=>
     show some _=_
     simp[hi]
  refine left_map (w':=setW w b _) hH rfl rfl rfl (by simp[setW]) (fun c hc=>setW_other hc) (avs.set j { e2 with key:=strV k,val:=ρ z }) ((setW_self hbs).trans (by rw[hmod])) (es':=kvs (GL.kvPut m k lv)) ?_ ?_ ?_ ?_ (fun _=>rep_atom) (hk _)
  ·rw[g5,kvs,List.map_set,List.map_set,List.map_set,hx2]
   try rfl
  ·rw[g5,kvs,List.map_set,List.map_set,List.map_set]
   exact RepL.setAt hx3 j hrz
  ·intro e' he'
   rcases List.mem_or_eq_of_mem_set he' with h1|h1
   ·exact hx4 e' h1
   ·rw[h1]
    exact hx4 e2 (List.mem_of_getElem? g2)
  ·rw[List.map_set]
   have:(avs.map (·.born)).set j e2.born=avs.map (·.born):=by
    refine List.ext_getElem? fun i=>?_
    rw[List.getElem?_set]
    split
    ·rename_i h1
     subst h1
     split
     ·rw[List.getElem?_map,g2];try rfl
     ·rename_i h2
      rw[List.getElem?_eq_none zo]
    ·rfl
   rw[this]
   exact hx5
theorem kv_look {t kt el:TypeId} (ht:C.P.underlying t=some (.map kt el)) (hkt:C.P.underlying kt=some .string) {zv:Value} {zl:LV} (hz:∀ w,(zeroValue el).run C.P w=.ok zv w) (hzl:∀ w L,Rep w L zl zv) {b clock:Nat} {m:KV} {k:List UInt8} {w:World} {L:Live}
  (hH:RelH C w L H) (hb:(b,.map (kvs m) clock)∈H):∃ v,Rep w L ((kvGet m k).getD zl) v∧∀ w',Agree w L H w'→∀ c,(Instr.lookup t (.map (some b)) (strV k) c).run C.P w'=.ok (if c=true then .tuple #[v,.bool (kvGet m k).isSome] else v) w':=by
 obtain ⟨_,_,_,avs,hx1,hx2,hx3,_⟩:=hH.objs _ hb
 simp only at hx1
 rcases kv_find k m avs 0 hx2 with ⟨g1,g2,g3⟩|⟨j,e2,v,g1,g2,g3,g4,g5⟩
 ·refine ⟨zv,by rw[g1];exact hzl w L,fun w' ha c=>?_⟩
  have hw:w'.heap[b]? = some (.map avs.toArray clock):=(ha.1 _ hb).trans hx1
  have hg:(getObj b).run C.P w'=.ok (.map avs.toArray clock) w':=by simp only[getObj,Sem.run,hw]
  have hf:(Instr.findKey kt (strV k) avs.toArray.toList).run C.P w'=.ok none w':=by
   simp only[Instr.findKey,Sem.run_bind,run_underlying' hkt,Result.andThen_ok,g3,Sem.run_pure]
  simp only[Instr.lookup,Sem.run_bind,run_underlying' ht,Result.andThen_ok,hg,Sem.run_pure,run_checkStr hkt,hf,hz,g1]
  rfl
 ·refine ⟨e2.val,?_,fun w' ha c=>?_⟩
  ·rw[g4]
   obtain ⟨x,h1,h2⟩:=hx3.get (i:=j) (c:=v) (by rw[kvs,List.map_map,List.getElem?_map,g3];try rfl)
   rw[List.getElem?_map,g2] at h1
   obtain rfl:=Option.some.inj h1
   exact h2
  ·have hw:w'.heap[b]? = some (.map avs.toArray clock):=(ha.1 _ hb).trans hx1
   have hg:(getObj b).run C.P w'=.ok (.map avs.toArray clock) w':=by simp only[getObj,Sem.run,hw]
   have hf:(Instr.findKey kt (strV k) avs.toArray.toList).run C.P w'=.ok (some (0+j,e2.val)) w':=by
    simp only[Instr.findKey,Sem.run_bind,run_underlying' hkt,Result.andThen_ok,g1,Sem.run_pure]
   simp only[Instr.lookup,Sem.run_bind,run_underlying' ht,Result.andThen_ok,hg,Sem.run_pure,run_checkStr hkt,hf,g4]
   rfl
theorem Pure.kvGet {t kt el:TypeId} (ht:C.P.underlying t=some (.map kt el)) (hkt:C.P.underlying kt=some .string) {zv:Value} {zl:LV} (hz:∀ w,(zeroValue el).run C.P w=.ok zv w) (hzl:∀ w L,Rep w L zl zv) {b clock:Nat} {m:KV} {k:List UInt8} (hm:e.ev x=.atom (.map (some b))) (hx:e.ev y=str k)
  (hb:(b,.map (kvs m) clock)∈H):Pure C ⟨dst,.lookup t x y false,ty,pos,aft,g⟩ e H ((GL.kvGet m k).getD zl):=fun ρ w L h hH=>by
 obtain ⟨v,h1,h2⟩:=kv_look ht hkt hz hzl (k:=k) hH hb
 refine ⟨v,h1,fun w' ha=>?_⟩
 have h3:execOp ρ ⟨dst,.lookup t x y false,ty,pos,aft,g⟩=(do Pure.pure (.value (←Instr.lookup t (ρ x) (ρ y) false))):=rfl
 rw[h3,atom_of h hm,atom_of h hx,Sem.run_bind,h2 w' ha false]
 try rfl
theorem Pure.kvGet2 {t kt el:TypeId} (ht:C.P.underlying t=some (.map kt el)) (hkt:C.P.underlying kt=some .string) {zv:Value} {zl:LV} (hz:∀ w,(zeroValue el).run C.P w=.ok zv w) (hzl:∀ w L,Rep w L zl zv) {b clock:Nat} {m:KV} {k:List UInt8} (hm:e.ev x=.atom (.map (some b))) (hx:e.ev y=str k)
  (hb:(b,.map (kvs m) clock)∈H):Pure C ⟨dst,.lookup t x y true,ty,pos,aft,g⟩ e H (.tuple [(GL.kvGet m k).getD zl,bool (GL.kvGet m k).isSome]):=fun ρ w L h hH=>by
 obtain ⟨v,h1,h2⟩:=kv_look ht hkt hz hzl (k:=k) hH hb
 refine ⟨.tuple #[v,.bool (GL.kvGet m k).isSome],?_,fun w' ha=>?_⟩
 ·simp only[Rep]
  refine ⟨[v,.bool (GL.kvGet m k).isSome],rfl,?_⟩
  simp only[RepL]
  exact ⟨_,_,rfl,h1,_,_,rfl,rfl,rfl⟩
 ·have h3:execOp ρ ⟨dst,.lookup t x y true,ty,pos,aft,g⟩=(do Pure.pure (.value (←Instr.lookup t (ρ x) (ρ y) true))):=rfl
  rw[h3,atom_of h hm,atom_of h hx,Sem.run_bind,h2 w' ha true]
  try rfl
end
/-! ### The same, by instances -/
class TMap (P:Program) (t:TypeId) (el:outParam TypeId) (zv:outParam Value) (zl:outParam LV):Prop where
 und:∃ kt,P.underlying t=some (.map kt el)∧P.underlying kt=some .string
 zero:∀ w,(zeroValue el).run P w=.ok zv w
 rep:∀ w L,Rep w L zl zv
theorem rep_aggs (w:World) (L:Live) (zs:List Value):Rep w L (.agg (zs.map .atom)) (.agg zs.toArray):=by
 simp only[Rep]
 exact ⟨zs,rfl,repL_atoms zs⟩
section
variable {C:Ctx} {e:Env} {H:Heap} {dst:Option Nat} {ty:TypeId} {pos:String} {aft:Array Edge} {g:Option (Nat×Bool)} {K:LV→Heap→Prop} {X:List PanicEntry→Heap→Prop} {x y:Operand}
theorem Pure.kvHit {t el:TypeId} {zv:Value} {zl lv:LV} [h:TMap C.P t el zv zl] {b clock:Nat} {m:KV} {k:List UInt8} (hm:e.ev x=.atom (.map (some b))) (hx:e.ev y=str k) (hb:(b,.map (kvs m) clock)∈H) (hg:GL.kvGet m k=some lv) :
  Pure C ⟨dst,.lookup t x y false,ty,pos,aft,g⟩ e H lv:=by
 obtain ⟨kt,h1,h2⟩:=h.und
 have:=Pure.kvGet (dst:=dst) (ty:=ty) (pos:=pos) (aft:=aft) (g:=g) h1 h2 h.zero h.rep hm hx hb
 rwa [hg] at this
theorem Pure.kvMiss {t el:TypeId} {zv:Value} {zl:LV} [h:TMap C.P t el zv zl] {b clock:Nat} {m:KV} {k:List UInt8} (hm:e.ev x=.atom (.map (some b))) (hx:e.ev y=str k) (hb:(b,.map (kvs m) clock)∈H) (hg:GL.kvGet m k=none) :
  Pure C ⟨dst,.lookup t x y false,ty,pos,aft,g⟩ e H zl:=by
 obtain ⟨kt,h1,h2⟩:=h.und
 have:=Pure.kvGet (dst:=dst) (ty:=ty) (pos:=pos) (aft:=aft) (g:=g) h1 h2 h.zero h.rep hm hx hb
 rwa [hg] at this
theorem Pure.kvHit2 {t el:TypeId} {zv:Value} {zl lv:LV} [h:TMap C.P t el zv zl] {b clock:Nat} {m:KV} {k:List UInt8} (hm:e.ev x=.atom (.map (some b))) (hx:e.ev y=str k) (hb:(b,.map (kvs m) clock)∈H) (hg:GL.kvGet m k=some lv) :
  Pure C ⟨dst,.lookup t x y true,ty,pos,aft,g⟩ e H (.tuple [lv,bool true]):=by
 obtain ⟨kt,h1,h2⟩:=h.und
 have:=Pure.kvGet2 (dst:=dst) (ty:=ty) (pos:=pos) (aft:=aft) (g:=g) h1 h2 h.zero h.rep hm hx hb
 rwa [hg] at this
theorem Pure.kvMiss2 {t el:TypeId} {zv:Value} {zl:LV} [h:TMap C.P t el zv zl] {b clock:Nat} {m:KV} {k:List UInt8} (hm:e.ev x=.atom (.map (some b))) (hx:e.ev y=str k) (hb:(b,.map (kvs m) clock)∈H) (hg:GL.kvGet m k=none) :
  Pure C ⟨dst,.lookup t x y true,ty,pos,aft,g⟩ e H (.tuple [zl,bool false]):=by
 obtain ⟨kt,h1,h2⟩:=h.und
 have:=Pure.kvGet2 (dst:=dst) (ty:=ty) (pos:=pos) (aft:=aft) (g:=g) h1 h2 h.zero h.rep hm hx hb
 rwa [hg] at this
theorem S.kvSet {t el:TypeId} {zv:Value} {zl:LV} [h:TMap C.P t el zv zl] {b clock:Nat} {m:KV} {F:Heap} {mo z:Operand} {k:List UInt8} {lv:LV} (hm:e.ev mo=.atom (.map (some b))) (hx:e.ev x=str k) (hz:e.ev z=lv)
  (hp:Pick (b,.map (kvs m) clock) H F) (hk:∀ clock',K (.atom undef) ((b,.map (kvs (GL.kvPut m k lv)) clock')::F)):LStep C ⟨dst,.mapUpdate t mo x z,ty,pos,aft,g⟩ e H K X:=by
 obtain ⟨kt,h1,h2⟩:=h.und
 exact S.kvPut h1 h2 hm hx hz hp hk
theorem S.kvIns {t el:TypeId} {zv:Value} {zl:LV} [h:TMap C.P t el zv zl] {b clock:Nat} {m:KV} {F:Heap} {mo z:Operand} {k:List UInt8} {lv:LV} (hm:e.ev mo=.atom (.map (some b))) (hx:e.ev x=str k) (hz:e.ev z=lv)
  (hp:Pick (b,.map (kvs m) clock) H F) (hk:∀ clock',K (.atom undef) ((b,.map (kvs (GL.kvPut m k lv)) clock')::F)):LStep C ⟨dst,.insert t mo x z,ty,pos,aft,g⟩ e H K X:=
 fun ρ w L h1 h2=>(S.kvSet (dst:=dst) (ty:=ty) (pos:=pos) (aft:=aft) (g:=g) (X:=X) hm hx hz hp hk) ρ w L h1 h2
theorem S.kvInsE {t el:TypeId} {zv:Value} {zl:LV} [h:TMap C.P t el zv zl] {b clock:Nat} {m:KV} {F:Heap} {mo z:Operand} {k:List UInt8} {lv:LV} (m':KV) (hm:e.ev mo=.atom (.map (some b))) (hx:e.ev x=str k) (hz:e.ev z=lv)
  (hp:Pick (b,.map (kvs m) clock) H F) (he:GL.kvPut m k lv=m') (hk:∀ clock',K (.atom undef) ((b,.map (kvs m') clock')::F)):LStep C ⟨dst,.insert t mo x z,ty,pos,aft,g⟩ e H K X:=
 S.kvIns hm hx hz hp (he▸hk)
theorem kv_new {k:List UInt8} {v:LV}:∀ {m:KV},k ∉ m.map (·.1)→GL.kvPut m k v=m++[(k,v)]
 |[],_=>rfl
 |p::r,h=>by
  rw[GL.kvPut,if_neg (fun he=>h (by rw[zMc];exact zMi.2 (.inl he.symm))),kv_new (fun hm=>h (by rw[zMc];exact zMo _ hm))]
  try rfl
end
end Go.GL
namespace Go.GL
open Go.RowKit
section
variable {C:Ctx} {e:Env} {H:Heap} {dst:Option Nat} {ty:TypeId} {pos:String} {aft:Array Edge} {g:Option (Nat×Bool)} {xT yT:TypeId} {x y:Operand} {k k2:IntKind} {a b:Int}
theorem run_int2 {P:Program} {op:BinOp} {xT yT:TypeId} {x y:Operand} {k k2:IntKind} {a b:Int} {ρ:Operand→Value} (hx:ρ x=.int k a) (hy:ρ y=.int k2 b) {s:Sem Value}
  (h:(binOp op xT (.int k a) (.int k2 b))=s) {v:Value} (hv:∀ w,s.run P w=.ok v w) (w:World):(execOp ρ ⟨dst,.binOp op xT x y yT,ty,pos,aft,g⟩).run P w=.ok (.value v) w:=by
 subst h
 have he:eqGuard op xT x y (.int k a) (.int k2 b)=Pure.pure ():=by
  unfold eqGuard
  cases op <;> rfl
 simp only[execOp,hx,hy,he,Sem.run_bind,Sem.run_pure,Result.andThen_ok,hv]
theorem Pure.quoW (hx:e.ev x=int k a) (hy:e.ev y=int k b) (hb:b≠0):Pure C ⟨dst,.binOp .quo xT x y yT,ty,pos,aft,g⟩ e H (int k (k.wrap (a.tdiv b))):=
 .of_any fun _ _ _ h=>⟨_,rep_atom,run_int2 (atom_of h hx) (atom_of h hy) (s:=Op.intDiv .quo k a b) (by simp only[binOp,ne_eq,not_true_eq_false,if_false]) (fun _=>by simp only[Op.intDiv,if_neg hb,Sem.run_pure])⟩
end
/-! ### A drawn region whose last operations stand in a row: what is ahead of them only computes or reads. -/
def LS (C:Ctx) (n:Nat) (ops:Array Oper) (K:Env→Prop) (rest:List Oper) (e:Env) (H:Heap):Prop:=
 ∀ a w L,RelE n a e w L→RelH C w L H→wpStill C.P ops w (fun a'=>∃ e',RelE n a' e' w L∧K e') rest a
section still
variable {C:Ctx} {n:Nat} {ops:Array Oper} {K:Env→Prop} {e:Env} {H:Heap} {dst:Option Nat} {op:Op} {ty:TypeId} {pos:String} {aft:Array Edge} {rest:List Oper}
theorem LS.nil (h:K e):LS C n ops K [] e H:=fun _ _ _ hE _=>⟨e,hE,h⟩
theorem still_one {P:Program} {Q:Act→Prop} {a:Act} {w:World} {o:Oper} (hg:Region.wanted o (yielded ops a.tmps)=true) {v:Value} (h:(execOp a.eval o).run P w=.ok (.value v) w) (k:wpStill P ops w Q rest (a.put o.dst v)):wpStill P ops w Q (o::rest) a:=by
 unfold wpStill
 rw[if_pos hg]
 unfold Oper.still
 rw[h]
 exact ⟨rfl,k⟩
theorem LS.pure {lv:LV} (h:Pure C ⟨dst,op,ty,pos,aft,none⟩ e H lv) (hd:dstOk n dst) (k:LS C n ops K rest (e.put dst lv) H):LS C n ops K (⟨dst,op,ty,pos,aft,none⟩::rest) e H:=fun a w L hE hH=>by
 obtain ⟨v,hv,hr⟩:=h a.eval w L hE.ev hH
 exact still_one (by simp[Region.wanted]) (hr w (Agree.refl _ _ _)) (k _ w L (hE.put hd hv) hH)
theorem wpStill_mono {P:Program} {w:World} {Q Q':Act→Prop} (h:∀ a,Q a→Q' a):∀ (l:List Oper) (a:Act),wpStill P ops w Q l a→wpStill P ops w Q' l a
 |[],a,k=>h a k
 |o::l,a,k=>by
  unfold wpStill at k ⊢
  split at k
  ·rename_i hw
   rw[if_pos hw]
   exact Oper.still_mono (fun a=>wpStill_mono h l a) k
  ·rename_i hw
   rw[if_neg hw]
   exact wpStill_mono h l _ k
theorem LCode.tail [hm:TMixed C.P] {id:Nat} {l:List Oper} {Q:Post} (m:Nat) (hB:Region.lexTailB .any l.toArray m=true) (h:LS C n l.toArray (fun e'=>LOps C n l.toArray Q (l.drop m) e' H) (l.take m) e H):LCode C n (.region id l.toArray true) Q e H:=fun a w L hE hH=>by
 refine wp_region_still_tail m hm.out hB ?_
 refine wpStill_mono (fun a' h'=>?_) _ _ (h a w.drew L (hE.mono (ext_drew w L)) hH.drew)
 obtain ⟨e',hE',hk⟩:=h'
 refine wpList_mono (fun x a2 w' hq=>?_) _ _ _ (hk a' w.drew L hE' hH.drew)
 obtain ⟨e2,H',L',h1,h2,h3,h4⟩:=hq
 exact ⟨e2,H',L',h1.of_drew,h2,h3,h4⟩
end still
end Go.GL
namespace Go.GL
open Go.RowKit
section
variable {C:Ctx} {e:Env} {H:Heap} {dst:Option Nat} {ty:TypeId} {pos:String} {aft:Array Edge} {g:Option (Nat×Bool)} {K:LV→Heap→Prop} {X:List PanicEntry→Heap→Prop} {x y:Operand}
theorem Pure.rowLen {t el s:Nat} [TSlice C.P t el s] {a:Option Addr} {m cap:Nat} (hx:e.ev x=.atom (.slice a m cap)):Pure C ⟨dst,.call { callee:=.builtin .len,args:=#[x],argTypes:=#[t] },ty,pos,aft,g⟩ e H (int .i64 m):=
 .of_any fun ρ _ _ h=>⟨_,rep_atom,fun w'=>by
  have hu:=run_underlying' (P:=C.P) (TSlice.und (t:=t)) w'
  rw[execOp_builtin',builtin_len']
  simp[Builtin.len_,hu,goInt,atom_of h hx]⟩
end
section shut
variable {C:Ctx} {n:Nat} {Q:Post} {e:Env} {H F:Heap}
end shut
end Go.GL
namespace Go.GL
open Go.RowKit
section
variable {C:Ctx} {e:Env} {H:Heap} {dst:Option Nat} {ty:TypeId} {pos:String} {aft:Array Edge} {g:Option (Nat×Bool)} {K:LV→Heap→Prop} {X:List PanicEntry→Heap→Prop} {x y:Operand}
theorem run_equal_slice {P:Program} {t el s:Nat} [h:TSlice P t el s] (a:Option Addr) (n m:Nat) (w:World):(Op.equal t (.slice a n m) (.slice none 0 0)).run P w=.ok a.isNone w:=by
 rw[equal_step,Op.equalIn]
 try cases a <;> simp only[Sem.run_bind,run_underlying' h.und,Result.andThen_ok,Sem.run_pure] <;> rfl
theorem S.sliceNil {t el s yT:Nat} [ht:TSlice C.P t el s] {es:List LV} (hx:elems (e.ev x)=some es) (hk:∀ b,(b=true→es=[])→K (bool b) H):LStep C ⟨dst,.binOp .eql t x (.const (.slice none 0 0)) yT,ty,pos,aft,g⟩ e H K X:=fun ρ w L h hH=>by
 obtain ⟨a,cap,hv,hc,hr⟩:=(h x).elems hx
 have h2:=atom_of h (x:=.const (.slice none 0 0)) rfl
 have he:eqGuard .eql t x (.const (.slice none 0 0)) (.slice a es.length cap) (.slice none 0 0)=Pure.pure ():=by simp[eqGuard]
 have hb:binOp .eql t (.slice a es.length cap) (.slice none 0 0)=(do Pure.pure (.bool (←Op.equal t (.slice a es.length cap) (.slice none 0 0)))):=rfl
 have hrun:(execOp ρ ⟨dst,.binOp .eql t x (.const (.slice none 0 0)) yT,ty,pos,aft,g⟩).run C.P w=.ok (.value (.bool a.isNone)) w:=by
  simp only[execOp,hv,h2,he,hb,Sem.run_bind,Sem.run_pure,Result.andThen_ok,run_equal_slice]
 rw[hrun]
 refine ⟨bool a.isNone,H,L,Fr.refl _ _ _,hH,rep_atom,hk _ fun hn=>?_⟩
 cases a with
 |some a=>cases hn
 |none=>
  cases es with
  |nil=>rfl
  |cons v es=>
   obtain ⟨b,off,k,h3,_⟩:=hr (by simp)
   cases h3
theorem Pure.rowCap {t el s:Nat} [TSlice C.P t el s] {a:Option Addr} {m cap:Nat} (hx:e.ev x=.atom (.slice a m cap)):Pure C ⟨dst,.call { callee:=.builtin .cap,args:=#[x],argTypes:=#[t] },ty,pos,aft,g⟩ e H (int .i64 cap):=
 .of_any fun ρ _ _ h=>⟨_,rep_atom,fun w'=>by
  have hu:=run_underlying' (P:=C.P) (TSlice.und (t:=t)) w'
  have h0:∀ (cs:Array Bool) (args:Array Value),builtin .cap #[t] ty cs args=(do Pure.pure (.value (←Builtin.cap_ #[t] ty args))):=fun _ _=>rfl
  rw[execOp_builtin',h0]
  simp[Builtin.cap_,hu,goInt,atom_of h hx]⟩
theorem Pure.rowSlice {t el s:Nat} [ht:TSlice C.P t el s] {a:Option Addr} {m cap n:Nat} {hi:Operand} {k:IntKind} (hx:e.ev x=.atom (.slice a m cap)) (hh:e.ev hi=int k n) (hn:n≤cap) :
  Pure C ⟨dst,.slice t x none (some hi) none,ty,pos,aft,g⟩ e H (.atom (.slice a n cap)):=.of_any fun ρ w L h=>by
 obtain ⟨ti,hti,hsz⟩:=ht.size
 refine ⟨_,rep_atom,fun w'=>?_⟩
 have hb:=run_sliceBounds (P:=C.P) (w':=w') (len:=m) (cap:=cap) (lo:=none) (hi:=some hi) (i:=0) (j:=n) h true rfl ⟨k,hh⟩ zo zo zo
 have h3:execOp ρ ⟨dst,.slice t x none (some hi) none,ty,pos,aft,g⟩=(do Pure.pure (.value (←Instr.sliceAt t (ρ x) none (some (ρ hi)) none))):=rfl
 rw[h3,atom_of h hx]
 simp only[Option.map_none,Option.map_some] at hb
 simp only[Instr.sliceAt,Instr.slice,Sem.run_bind,run_underlying' (P:=C.P) ht.und w',Result.andThen_ok,Sem.run_pure,hb,run_sizeOf' hti,hsz]
 have ha:∀ a:Addr,a.add 0=a:=fun a=>by
  obtain ⟨b,o,sp⟩:=a
  unfold Addr.add
  cases sp <;> simp
 simp[ha]
theorem S.appZeros {sT xT el bytes:Nat} {zv:Value} [ht:TSlice C.P sT el 1] [hr:TRow C.P el 1 bytes] [hz:TZero C.P el [zv]] [hk0:TKind C.P xT .i64] {n:Nat} (hx:e.ev x=nilSlice) (hy:e.ev y=int .i64 n) (hn:0<n) (hroom:n * bytes≤140737488355328)
  (hk:∀ b cap,n≤cap→K (.atom (.slice (some ⟨b,0,none⟩) n cap)) ((b,.cells el (List.replicate cap (.atom zv)))::H)) :
  LStep C ⟨dst,.call { callee:=.builtin .append,args:=#[x,y],argTypes:=#[sT,xT] },ty,pos,aft,g⟩ e H K X:=by
 refine LStep.at0 fun ρ w L h hH=>?_
 have h0:∀ (cs:Array Bool) (args:Array Value),builtin .append #[sT,xT] ty cs args=(do Pure.pure (.value (←Builtin.append_ #[sT,xT] ty args))):=fun _ _=>rfl
 obtain ⟨i,z,hi,hs,hb,hb0,hzz,hzs⟩:=hr.out
 obtain ⟨i',z',hi',hz',hc',hs'⟩:=hz.out
 rw[hi] at hi'
 obtain rfl:=Option.some.inj hi'
 rw[hzz] at hz'
 obtain rfl:=Option.some.inj hz'
 have hmul:n≤n * bytes:=Nat.le_mul_of_pos_right _ hb0
 have wn:IntKind.i64.wrap (n:Int)=n:=wrap_i64 zo
 have n1:¬ ((n:Int)<0):=by omega
 have n2:¬ ((281474976710656:Int)<(n:Int) * (i.bytes:Int)):=by
  rw[hb]
  have:((n * bytes:Nat):Int)≤140737488355328:=by omega
  rw[Int.natCast_mul] at this
  omega
 have h63':¬ (9223372036854775807<(n:Int)):=by omega
 have hfit:=growslice_fits (bytes:=bytes) (need:=n) (old:=0) hn hroom
 have h48':¬ (281474976710656<Builtin.nextslicecap n 0 * i.bytes):=by
  rw[hb]
  omega
 have hn0:¬ n=0:=by omega
 have hz1:∀ m,(Builtin.zeroCells #[zv] m)=(List.replicate m zv).toArray:=fun m=>by
  unfold Builtin.zeroCells
  apply Array.ext
  ·simp
  ·intro j h1 h2
   simp[Nat.mod_one]
 have hcap:n≤grownCap w n 0 el:=by simp[grownCap,Question.cut]
 have hrun:(Builtin.append_ #[sT,xT] ty #[.slice none 0 0,.int .i64 n]).run C.P w=.ok (.slice (some ⟨w.heap.size,0,none⟩) n (grownCap w n 0 el)) (World.push w.drew (.cells (List.replicate (grownCap w n 0 el) zv).toArray el)):=by
  simp[Builtin.append_,run_underlying' ht.und,run_underlying' hk0.und,sizeOf,typeInfo,zeroValue,hi,hs,hzz,hc',asInt,asIntOf,wn,n1,n2,hn0,h63',h48',Question.forced,newRow,grownCap,Builtin.firstCells,hz1]
  show World.push w.drew _=World.push w.drew _
  congr 2
  apply Array.ext'
  have:=hcap
  unfold grownCap at this
  congr 2
  omega
 rw[execOp_builtin',h0]
 simp only[List.map_toArray,zMc,List.map_nil,Sem.run_bind,atom_of h hx,atom_of h hy,hrun,Result.andThen_ok,Sem.run_pure]
 have hHd:=hH.drew
 have hrep:RepL w.drew L (List.replicate (grownCap w n 0 el) (.atom zv)) (List.replicate (grownCap w n 0 el) zv):=by
  have:=repL_atoms (w:=w.drew) (L:=L) (List.replicate (grownCap w n 0 el) zv)
  rwa [List.map_replicate] at this
 have hx':=ext_push hHd.wf (.cells (List.replicate (grownCap w n 0 el) zv).toArray el) 0
 have:=fr_push hHd (.cells (List.replicate (grownCap w n 0 el) zv).toArray el) 0 [(w.heap.size,.cells el (List.replicate (grownCap w n 0 el) (.atom zv)))] (fun p hp=>by
  simp only[List.mem_singleton] at hp
  subst hp
  exact ⟨rfl,by simp[Live.upd],List.replicate (grownCap w n 0 el) zv,heap_push_self,hrep.mono hx' _ _⟩) (by simp)
 exact ⟨_,_,_,this.1.of_drew,this.2,rep_atom,hk _ _ hcap⟩
end
section opened
variable {C:Ctx} {n:Nat} {Q:Post} {e:Env} {H F:Heap}
theorem row_open {w:World} {L:Live} {b el:Nat} {cs:List LV} (hp:Pick (b,.cells el cs) H F) (hH:RelH C w L H) (hl:∀ k cap,cap * k≤cs.length→∃ e s,w.shape? b=some (e,s)∧cap * k≤s):RelH C w L ((b,.row 0)::F):=by
 have hH1:=hH.perm hp
 obtain ⟨hb0,hbs,hlb,xs,hx1,hx2⟩:=hH1.objs _ List.mem_cons_self
 simp only at hb0 hbs hlb hx1 hx2
 refine ⟨hH1.base,hH1.lbase,hH1.b0,hH1.wf,hH1.nodup,fun p hp'=>?_⟩
 rcases zMi.1 hp' with rfl|hp'
 ·exact ⟨hb0,hbs,hlb,_,_,_,hx1,Nat.zero_le _,Nat.zero_le _⟩
 ·exact hH1.objs p (zMo _ hp')
theorem shape_cells {w:World} {L:Live} {b el:Nat} {cs:List LV} (hp:Pick (b,.cells el cs) H F) (hH:RelH C w L H):w.shape? b=some (el,cs.length):=by
 have hH1:=hH.perm hp
 obtain ⟨hb0,hbs,hlb,xs,hx1,hx2⟩:=hH1.objs _ List.mem_cons_self
 simp only at hx1
 simp only[World.shape?,hx1]
 rw[List.size_toArray,hx2.length]
theorem LOps.rowOpen {ops:Array Oper} {rest:List Oper} (d k:Nat) {b el cap:Nat} {cs:List LV} (hp:Pick (b,.cells el cs) H F) (hd:e.s d=.atom (.slice (some ⟨b,0,none⟩) 0 cap)) (hc:cap * k≤cs.length) (h:LOps C n ops Q rest (e.upd d (.app b cap k [])) ((b,.row 0)::F)):LOps C n ops Q rest e H:=fun a w L hE hH=>by
 have hs:=shape_cells hp hH
 have hk:∀ x,x∈keys ((b,LObj.row 0)::F)→x∈keys H:=fun x hx=>by
  have:=((hp.map (·.1)).mem_iff (a:=x)).2 (by simpa using hx)
  exact this
 refine wpList_mono (fun _ _ _=>lift_weak hk) _ _ _ (h a w L ⟨hE.size,hE.ds,fun i=>?_⟩ (row_open hp hH fun k2 cap2 h2=>⟨_,_,hs,h2⟩))
 have hv:=hE.vals i
 simp only[Env.upd]
 cases hb:Nat.beq i d with
 |false=>exact hv
 |true=>
  have hi:=Nat.eq_of_beq_eq_true hb
  subst hi
  rw[hd] at hv
  simp only[Rep] at hv
  rw[hv]
  show Rep w L (.app b cap k []) _
  simp only[Rep]
  refine ⟨rfl,Nat.zero_le _,?_,_,_,hs,hc⟩
  simp only[RepRows]
end opened
end Go.GL
namespace Go.GL
open Go.RowKit
section
variable {C:Ctx} {n:Nat} {Q:Post} {e:Env} {H:Heap} {k:Env→Heap→Prop}
theorem LCode.mid {A:Type} {c:Code} (l:A→List (Nat×LV)) (H1:A→Heap) (F:A→Prop) (hx:LCode C n c (QThen (fun e' H'=>∃ a,F a∧At (l a) (H1 a) e.ds e' H') Q) e H) (hy:∀ a,F a→∀ j:Env,j.ds=e.ds→k (Env.slots j (l a)) (H1 a)):LCode C n c (QThen k Q) e H:=by
 refine LCode.conseq hx ?_
 rintro ex e' H' hq
 cases ex with
 |normal=>
  obtain ⟨a,hF,h1,rfl,h3⟩:=hq
  have:=hy a hF e' h3
  rw[Env.slots_self h1.mem] at this
  exact this
 |exit id=>exact hq
 |goto id=>exact hq
 |ret=>exact hq
 |panic ch=>exact hq
 |outgrown=>exact hq
theorem LCode.midC {A:Type} {c c2:Code} {Q2:Post} (l:A→List (Nat×LV)) (H1:A→Heap) (F:A→Prop) (hx:LCode C n c (QThen (fun e' H'=>∃ a,F a∧AllSlots e' (l a)∧HSub (H1 a) H'∧e'.ds=e.ds) Q) e H) (hy:∀ a,F a→∀ j:Env,j.ds=e.ds→LCode C n c2 Q2 (Env.slots j (l a)) (H1 a)):LCode C n c (QThen (fun e H=>LCode C n c2 Q2 e H) Q) e H:=by
 refine LCode.conseq hx ?_
 rintro ex e' H' hq
 cases ex with
 |normal=>
  obtain ⟨a,hF,h1,h2,h3⟩:=hq
  have:=hy a hF e' h3
  rw[Env.slots_self h1.mem] at this
  exact LCode.weak h2 this
 |exit id=>exact hq
 |goto id=>exact hq
 |ret=>exact hq
 |panic ch=>exact hq
 |outgrown=>exact hq
theorem cells_sub {w:World} {L:Live} {b ty:Nat} {cs cs':List LV} {F:Heap} (hp:Pick (b,.cells ty cs) H F) (hs:SubL cs cs') (hH:RelH C w L H):RelH C w L ((b,.cells ty cs')::F):=by
 have h1:=hH.perm hp
 refine ⟨h1.base,h1.lbase,h1.b0,h1.wf,h1.nodup,fun p hp=>?_⟩
 rcases zMi.1 hp with rfl|hp
 ·obtain ⟨r1,r2,r3,xs,r4,r5⟩:=h1.objs _ List.mem_cons_self
  exact ⟨r1,r2,r3,xs,r4,hs.repL r5⟩
 ·exact h1.objs p (zMo _ hp)
theorem pick_keys {b ty:Nat} {cs cs':List LV} {F:Heap} (hp:Pick (b,.cells ty cs) H F):∀ x,x∈keys ((b,LObj.cells ty cs')::F)→x∈keys H:=fun x hx=>by
 have:keys ((b,LObj.cells ty cs')::F)=keys ((b,LObj.cells ty cs)::F):=rfl
 rw[this] at hx
 exact ((hp.map (·.1)).mem_iff).2 hx
theorem LCode.cellSub {c:Code} {b ty:Nat} {cs cs':List LV} {F:Heap} (hp:Pick (b,.cells ty cs) H F) (hs:SubL cs cs') (h:LCode C n c Q e ((b,.cells ty cs')::F)):LCode C n c Q e H:=fun a w L hE hH=>
 Go.wp_mono (h a w L hE (cells_sub hp hs hH)) fun _ _ _=>lift_weak (pick_keys hp)
theorem LOps.perm {ops:Array Oper} {rest:List Oper} {H':Heap} (s:H.Perm H') (h:LOps C n ops Q rest e H'):LOps C n ops Q rest e H:=LOps.weak ⟨[],by simpa using s⟩ h
end
section
variable {C:Ctx} {e:Env} {H:Heap} {dst:Option Nat} {ty:TypeId} {pos:String} {aft:Array Edge} {g:Option (Nat×Bool)} {x:Operand}
theorem Pure.assertOk {t xT:TypeId} [ht:TConcrete C.P t] {vs:List Value} (hx:e.ev x=.atom (.iface t (.agg vs.toArray))):Pure C ⟨dst,.typeAssert x xT t true,ty,pos,aft,g⟩ e H (.tuple [.agg (vs.map .atom),bool true]):=
 .of_any fun ρ w L h=>⟨.tuple #[.agg vs.toArray,.bool true],by
  simp only[Rep]
  exact ⟨[.agg vs.toArray,.bool true],rfl,by simp only[RepL,Rep];exact ⟨_,_,rfl,⟨vs,rfl,repL_atoms vs⟩,_,_,rfl,rfl,rfl⟩⟩,fun w'=>by
  obtain ⟨d,hd,hm⟩:=ht.out
  have h3:execOp ρ ⟨dst,.typeAssert x xT t true,ty,pos,aft,g⟩=(do Pure.pure (.value (←Instr.typeAssert (ρ x) xT t true))):=rfl
  rw[h3,atom_of h hx]
  simp only[Instr.typeAssert,Sem.run_bind,run_underlying' hd,Result.andThen_ok]
  cases d <;> simp_all⟩
end
theorem LLate.three {C:Ctx} {n:Nat} {ops:Array Oper} {Q:Post} {HF:Heap} {fuel:Nat} {listed:Array Bool} {e:Env} {H:Heap} {i j k:Nat} (hr:Region.ready .any ops listed=[i,j,k]) (h1:LLateOp C n ops Q HF fuel listed e H i) (h2:LLateOp C n ops Q HF fuel listed e H j) (h3:LLateOp C n ops Q HF fuel listed e H k):LLate C n ops Q HF (fuel+1) listed e H:=
 LLate.all hr (by simp) fun q hq=>by
  simp only[zMi,List.not_mem_nil,or_false] at hq
  rcases hq with rfl|rfl|rfl
  ·exact h1
  ·exact h2
  ·exact h3
theorem strs_len (l:List (List UInt8)):∀ v∈l.map str,v.cells.length=1:=fun v hv=>by
 obtain ⟨x,_,rfl⟩:=List.mem_map.1 hv
 rfl
theorem strs_ok:∀ l:List (List UInt8),((l.map str).flatMap LV.cells).all cellOk=true
 |[]=>rfl
 |x::l=>by
  rw[zMc,List.flatMap_cons,List.all_append,strs_ok l]
  try rfl
end Go.GL
/- A small logic over the walk's 'Code.wp': structs of a string and an int, compared. -/
namespace Go.GL
open Go.RowKit
section
variable {C:Ctx} {e:Env} {H:Heap} {dst:Option Nat} {ty:TypeId} {pos:String} {aft:Array Edge} {g:Option (Nat×Bool)} {xT yT:TypeId} {x y:Operand}
end
end Go.GL
namespace Go.Stele
/-! ### A greater limit -/
/-! ### A run -/
def mainI (P:Pr):FnD:=P.funcs.getLast?.getD ⟨[],[],[],[]⟩
end Go.Stele
namespace Go.Stele
abbrev Nm:=List UInt8
def noName:List Nm:=keywords++[[105,110],[111,117,116]]
def isNm (s:Nm):Bool:=decide (s.length≤24) && !noName.contains s && (match s with
 |[]=>false
 |c::r=>isLetter c && r.all isInner)
structure FSum where
 name:Nm
 params:Nat
 need:Nat
 depth:Nat
structure CEnv where
 vars:List Nm
 arrays:List Nm
 later:List Nm
 own:List Nm
 funcs:List FSum
def CEnv.globals (c:CEnv):List Nm:=c.vars++c.arrays++c.later
def CEnv.fn (c:CEnv) (name:Nm):Option FSum:=c.funcs.find? fun f=>decide (f.name=name)
def orE (a b:Int):Int:=if a≠0 then a else b
def binOps:List Nm:=[[124,124],[38,38],[61,61],[33,61],[60],[62],[60,61],[62,61],[94],[43],[45],[42],[47],[37]]
def opnds (op:Nm):Int:=if op=nNum∨op=nVar then 0 else if op=nElem∨op=nNeg∨op=nNot then 1 else if op=nCall then -1 else if op∈binOps then 2 else -2
def scalarE (c:CEnv) (name:Nm):Int:=if name∈c.vars∨name∈c.own then 0 else if name∈c.globals then 10 else 7
def arrayE (c:CEnv) (name:Nm):Int:=if name∈c.arrays then 0 else if name∈c.globals∨name∈c.own then 10 else 7
def callE (c:CEnv) (name:Nm) (n:Nat):Int:=
 if name=[105,110] then (if n=0 then 0 else 1)
 else if name=[111,117,116] then (if n=1 then 0 else 1)
 else match c.fn name with
  |some f=>if n=f.params then 0 else 1
  |none=>if name∈c.vars∨name∈c.arrays∨name∈c.own then 10 else 7
def useE (c:CEnv) (op name:Nm) (n:Nat):Int:=if op=nVar then scalarE c name else if op=nElem then arrayE c name else if op=nCall then callE c name n else 0
mutual
def errE (c:CEnv):Ex→Int
 |.mk op num name args=>if opnds op = -1∨opnds op=args.length then orE (errEs c args) (useE c op name args.length) else 3
def errEs (c:CEnv):List Ex→Int
 |[]=>0
 |x::l=>orE (errE c x) (errEs c l)
end
def stair:Nat→List Nat→Nat→Nat
 |i,[],m=>m
 |i,n::l,m=>stair (i+1) l (max m (i+n))
def callN (c:CEnv) (name:Nm) (ns:List Nat):Nat:=
 if name=[105,110] then 1
 else if name=[111,117,116] then ns.headD 0
 else match c.fn name with
  |some f=>stair 0 ns (max (f.params+1) f.need)
  |none=>0
def opN (c:CEnv) (op name:Nm) (ns:List Nat):Nat:=
 if op=nNum∨op=nVar then 1
 else if op=nElem∨op=nNeg then 1+ns.headD 0
 else if op=nCall then callN c name ns
 else if op=nNot then max 2 (ns.headD 0)
 else if op=[62]∨op=[60,61] then max (max 3 (ns.headD 0)) (1+ns.tail.headD 0)
 else if op=[33,61] then max (max 3 (1+ns.headD 0)) (2+ns.tail.headD 0)
 else if op=[38,38] then max (1+ns.headD 0) (2+ns.tail.headD 0)
 else if op=[124,124] then max (2+ns.headD 0) (3+ns.tail.headD 0)
 else max (max 2 (ns.headD 0)) (1+ns.tail.headD 0)
mutual
def needE (c:CEnv):Ex→Nat
 |.mk op num name args=>opN c op name (needEs c args)
def needEs (c:CEnv):List Ex→List Nat
 |[]=>[]
 |x::l=>needE c x::needEs c l
end
def callD (c:CEnv) (op name:Nm):Nat:=if op=nCall∧name≠[105,110]∧name≠[111,117,116] then (match c.fn name with
 |some f=>f.depth+1
 |none=>0) else 0
mutual
def depE (c:CEnv):Ex→Nat
 |.mk op num name args=>max (depEs c args) (callD c op name)
def depEs (c:CEnv):List Ex→Nat
 |[]=>0
 |x::l=>max (depE c x) (depEs c l)
end
def exOp1:Ex→Nm
 |.mk op _ _ _=>op
def formS:Sm→Bool
 |.mk kind name index value thn els=>
  if kind=1 then decide (name≠[]∧index.length=0∧value.length=1∧thn.length=0∧els.length=0)
  else if kind=2 then decide (name≠[]∧index.length=1∧value.length=1∧thn.length=0∧els.length=0)
  else if kind=3 then decide (name=[]∧index.length=0∧value.length=1)
  else if kind=4 then decide (name=[]∧index.length=0∧value.length=1∧els.length=0)
  else if kind=5 then decide (name=[]∧index.length=0∧value.length=1∧thn.length=0∧els.length=0)
  else if kind=6 then decide (name=[]∧index.length=0∧value.length=1∧thn.length=0∧els.length=0∧exOp1 (value.headD default)=nCall)
  else if kind=7 then decide (name=[]∧index.length=0∧value.length=0∧thn.length=0∧els.length=0)
  else false
mutual
def errS (c:CEnv):Sm→Int
 |.mk kind name index value thn els=>if formS (.mk kind name index value thn els)=false then 3
  else orE (errEs c value) (orE (errEs c index) (orE (if kind=1 then scalarE c name else if kind=2 then arrayE c name else 0) (orE (errSs c thn) (errSs c els))))
def errSs (c:CEnv):List Sm→Int
 |[]=>0
 |s::l=>orE (errS c s) (errSs c l)
end
mutual
def needS (c:CEnv):Sm→Nat
 |.mk kind name index value thn els=>
  if kind=7 then 0
  else if kind=2 then max (needE c (value.headD default)) (2+needE c (index.headD default))
  else if kind=5 then needE c (value.headD default)
  else max 2 (max (max (needE c (value.headD default)) (needSs c thn)) (needSs c els))
def needSs (c:CEnv):List Sm→Nat
 |[]=>0
 |s::l=>max (needS c s) (needSs c l)
end
mutual
def depS (c:CEnv):Sm→Nat
 |.mk kind name index value thn els=>max (max (depEs c value) (depEs c index)) (max (depSs c thn) (depSs c els))
def depSs (c:CEnv):List Sm→Nat
 |[]=>0
 |s::l=>max (depS c s) (depSs c l)
end
def freshE:List Nm→List Nm→Int
 |known,[]=>0
 |known,s::l=>if isNm s=false then 7 else if s∈known then 8 else freshE (s::known) l
def sizesE:Int→List Int→Int
 |total,[]=>0
 |total,n::l=>if n≤0 then 2 else if 150000-total<n then 6 else sizesE (total+n) l
def envF (vars arrays later:List Nm) (known:List FSum) (f:FnD):CEnv:=⟨vars,arrays,later,f.params++f.locals,known⟩
def errF (vars arrays later:List Nm) (known:List FSum) (f:FnD):Int:=orE (freshE (vars++arrays++later) (f.params++f.locals)) (errSs (envF vars arrays later known f) f.body)
def sumF (vars arrays later:List Nm) (known:List FSum) (f:FnD):FSum:=⟨f.name,f.params.length,max (max 2 (f.params.length+1)) (needSs (envF vars arrays later known f) f.body),max 1 (depSs (envF vars arrays later known f) f.body)⟩
def errFs (vars arrays later:List Nm):List FSum→List FnD→Int
 |known,[]=>0
 |known,f::l=>orE (errF vars arrays later known f) (errFs vars arrays later (known++[sumF vars arrays later known f]) l)
def sumFs (vars arrays later:List Nm):List FSum→List FnD→List FSum
 |known,[]=>known
 |known,f::l=>sumFs vars arrays later (known++[sumF vars arrays later known f]) l
def scalarsP (vars:List Nm) (fs:List FnD):List Nm:=vars++(fs.map fun f=>(f.params++f.locals).map fun x=>f.name++[46]++x).flatten
def mainE (vars:List Nm) (fs:List FnD) (sums:List FSum):Int:=match fs.getLast?,sums.getLast? with
 |some f,some m=>if f.name=[109,97,105,110]∧f.params=[] then (if (scalarsP vars fs).length≤8000∧m.need≤200∧m.depth≤60 then 0 else 6) else 9
 |_,_=>9
def checkP (vars:List Nm) (arrays:List (Nm×Int)) (fs:List FnD):Int:=
 orE (freshE [] (vars++arrays.map (·.1)++fs.map (·.name))) (orE (sizesE 0 (arrays.map (·.2)))
  (orE (errFs vars (arrays.map (·.1)) (fs.map (·.name)) [] fs) (mainE vars fs (sumFs vars (arrays.map (·.1)) (fs.map (·.name)) [] fs))))
def checkPr (p:Pr):Int:=checkP p.vars (p.arrays.map fun a=>(a.name,(a.size:Int))) p.funcs
theorem orE_zero {a b:Int}:orE a b=0 ↔ a=0∧b=0:=by
 unfold orE
 split
 ·constructor
  ·intro h;contradiction
  ·rintro ⟨h,_⟩;contradiction
 ·constructor
  ·intro h;exact ⟨by omega,h⟩
  ·rintro ⟨_,h⟩;exact h
end Go.Stele
namespace Go.Stele
def leftLv (k:Nat):Nat:=if k=2 then k+1 else k
end Go.Stele
namespace Go.Stele
def lexAt (s:List UInt8) (line:Int):Except (Int×Int) (List Tok):=lexP s.length s line
end Go.Stele
namespace Go.Stele
open Go.Lib
theorem pu_append (M:Nat):∀ (l r:List UInt8) (acc u:Nat),parseUintM M acc l=.ok u→parseUintM M acc (l++r)=parseUintM M u r
 |[],r,acc,u,h=>by
  rw[parseUintM] at h
  cases h
  rfl
 |c::l,r,acc,u,h=>by
  rw[parseUintM] at h
  rw[List.cons_append,parseUintM]
  split at h
  ·rename_i hc
   rw[if_pos hc]
   split at h
   ·cases h
   ·rename_i h1
    rw[if_neg h1]
    split at h
    ·cases h
    ·rename_i h2
     rw[if_neg h2]
     exact pu_append M l r _ u h
  ·cases h
theorem digit_toNat {d:Nat} (h:d<10):(UInt8.ofNat (48+d)).toNat=48+d:=by
 rw[UInt8.toNat_ofNat']
 omega
theorem pu_dec (M:Nat) (hM:M≤4294967295) (u:Nat) (hu:u≤M):parseUintM M 0 (decDigits u)=.ok u:=by
 induction u using Nat.strongRecOn with
 |_ u ih=>
  have one:∀ a d,d<10→a * 10+d≤M→parseUintM M a [UInt8.ofNat (48+d)]=.ok (a * 10+d):=fun a d hd ha=>by
   rw[parseUintM,digit_toNat hd,if_pos (by omega),if_neg (by omega),if_neg (by omega),parseUintM]
   congr 1
   omega
  rw[decDigits]
  split
  ·have:=one 0 u (by assumption) (by omega)
   simpa using this
  ·rw[pu_append M _ _ 0 (u / 10) (ih (u / 10) (by omega) (by omega)),one _ _ (by omega) (by omega)]
   congr 1
   omega
theorem decDigits_ne (u:Nat):decDigits u≠[]:=by
 rw[decDigits]
 split <;> simp
theorem pu32_dec (u:Nat) (hu:u<4294967296):parseUintB 32 (decDigits u)=.ok u:=by
 rw[parseUintB,if_neg (decDigits_ne u)]
 exact pu_dec _ zDd u (by omega)
theorem nDigits_le:∀ (k u:Nat),u<10 ^ (k+1)→nDigits u≤k+1
 |0,u,h=>by rw[nDigits_small (by simpa using h)];omega
 |k+1,u,h=>by
  by_cases hu:u<10
  ·rw[nDigits_small hu];omega
  ·rw[nDigits_big hu]
   have:=nDigits_le k (u / 10) (by rw[Nat.pow_succ] at h;omega)
   omega
theorem dec_len {u:Nat} (hu:u<4294967296):(decDigits u).length≤10:=by
 rw[decDigits_length]
 exact nDigits_le 9 u (by omega)
theorem pu32_lt {l:List UInt8} {u:Nat} (h:parseUintB 32 l=.ok u):u<4294967296:=by
 have key:∀ (l:List UInt8) (acc u:Nat),acc≤4294967295→parseUintM 4294967295 acc l=.ok u→u≤4294967295:=by
  intro l
  induction l with
  |nil=>intro acc u ha h;rw[parseUintM] at h;cases h;exact ha
  |cons c l ih=>
   intro acc u ha h
   rw[parseUintM] at h
   split at h
   ·split at h
    ·cases h
    ·split at h
     ·cases h
     ·exact ih _ _ (by omega) h
   ·cases h
 rw[parseUintB] at h
 split at h
 ·cases h
 ·have:=key _ _ _ (by omega) h
  omega
def TokOk (t:Tok):Prop:=t.text.length≤100∧(t.kind=1→∃ u,u<4294967296∧parseUintB 32 t.text=.ok u∧t.text=decDigits u)
theorem lexToken_ok (s:List UInt8) (h:(lexToken s).2.2=0):TokOk (lexToken s).1:=by
 match s with
 |[]=>simp[lexToken,tokErr] at h
 |c::r=>
  simp only[lexToken] at h ⊢
  split at h <;> rename_i hc
  ·rw[if_pos hc]
   unfold lexNumber at h ⊢
   split at h
   ·simp[tokErr] at h
   ·rename_i hw
    rw[if_neg hw]
    split at h
    ·rename_i u hu
     have hlt:=pu32_lt hu
     exact ⟨by have:=dec_len hlt;simp only;omega,fun _=>⟨u,hlt,pu32_dec u hlt,rfl⟩⟩
    ·simp[tokErr] at h
  ·rw[if_neg hc]
   split at h <;> rename_i hl
   ·rw[if_pos hl]
    unfold lexName at h ⊢
    split at h
    ·simp[tokErr] at h
    ·rename_i hw
     rw[if_neg hw]
     refine ⟨by simp only;omega,fun hk=>?_⟩
     simp only at hk
     split at hk <;> cases hk
   ·rw[if_neg hl]
    split at h <;> rename_i hq
    ·rw[if_pos hq]
     unfold lexLiteral at h ⊢
     split at h
     ·split at h
      ·simp[tokErr] at h
      ·rename_i hx
       rename_i heq
       rename_i b _ _
       rw[if_neg hx]
       have hb:b.toNat<4294967296:=Nat.lt_trans (UInt8.toNat_lt b) zDd
       exact ⟨by have:=dec_len hb;simp only;omega,fun _=>⟨b.toNat,hb,pu32_dec _ hb,rfl⟩⟩
     ·simp[tokErr] at h
    ·rw[if_neg hq]
     unfold lexSign at h ⊢
     split at h
     ·rename_i x hx
      have h2:=List.mem_of_find?_eq_some hx
      have:∀ x∈signs,x.length≤100:=by decide
      exact ⟨this x h2,fun hk=>by cases hk⟩
     ·simp[tokErr] at h
theorem map_ok {A B:Type} {f:A→B} {r:Except (Int×Int) A} {b:B} (h:r.map f=.ok b):∃ a,r=.ok a∧f a=b:=by
 cases r with
 |ok a=>exact ⟨a,rfl,by injection h⟩
 |error e=>cases h
theorem lexP_ok:∀ (f:Nat) (s:List UInt8) (line:Int) (T:List Tok),lexP f s line=.ok T→T.length≤f∧∀ t∈T,TokOk t
 |0,s,line,T,h=>by
  rw[lexP] at h
  cases h
  exact ⟨zNr _,by simp⟩
 |f+1,s,line,T,h=>by
  rw[lexP] at h
  split at h
  ·cases h
   exact ⟨Nat.zero_le _,by simp⟩
  ·split at h
   ·split at h
    ·cases h
    ·rename_i he
     obtain ⟨T',h1,rfl⟩:=map_ok h
     obtain ⟨k1,k2⟩:=lexP_ok f _ _ _ h1
     refine ⟨by rw[zLc];omega,fun t ht=>?_⟩
     rcases zMi.1 ht with rfl|ht
     ·exact lexToken_ok s (by omega)
     ·exact k2 t ht
   ·obtain ⟨k1,k2⟩:=lexP_ok f _ _ _ h
    exact ⟨by omega,k2⟩
end Go.Stele
namespace Go.Stele
open Go.Lib
def Again (t:Tok):Prop:=t.text.length≤24∧t.text≠[]∧skipLen t.text=0∧(10:UInt8) ∉ t.text∧lexToken t.text=(⟨t.kind,t.text,0⟩,t.text.length,0)
theorem skip_head {c:UInt8} {r:List UInt8} (hw:isWhite c=false) (h47:c≠47):skipLen (c::r)=0:=by
 have h:([47,47]:List UInt8).isPrefixOf (c::r)=false:=by
  cases h:([47,47]:List UInt8).isPrefixOf (c::r) with
  |false=>rfl
  |true=>
   simp only[List.isPrefixOf,zBa,beq_iff_eq] at h
   exact absurd h.1.symm h47
 unfold skipLen
 rw[h,if_neg zDd,List.takeWhile_cons_of_neg (by rw[hw];decide)]
 try rfl
theorem digit_of {d:Nat} (h:d<10):isDigit (UInt8.ofNat (48+d))=true:=by
 have h1:(UInt8.ofNat (48+d)).toNat=48+d:=digit_toNat h
 unfold isDigit cv
 rw[h1]
 simp
 omega
theorem dec_digits (u:Nat):∀ c∈decDigits u,isDigit c=true:=by
 induction u using Nat.strongRecOn with
 |ind u ih=>
  intro c hc
  by_cases h:u<10
  ·rw[decDigits_one h] at hc
   rw[List.mem_singleton.1 hc]
   exact digit_of h
  ·rw[decDigits,dif_neg h] at hc
   rcases List.mem_append.1 hc with hc|hc
   ·exact ih (u / 10) (by omega) c hc
   ·rw[List.mem_singleton.1 hc]
    exact digit_of (by omega)
theorem digit_white {c:UInt8} (h:isDigit c=true):isWhite c=false∧c≠47:=by
 unfold isDigit at h
 rw[zBa,zDe,zDe] at h
 refine ⟨?_,fun hc=>?_⟩
 ·unfold isWhite
  simp only[Bool.or_eq_false_iff,decide_eq_false_iff_not]
  omega
 ·subst hc
  exact absurd h.1 zDd
theorem letter_white {c:UInt8} (h:isLetter c=true):isWhite c=false∧c≠47:=by
 unfold isLetter at h
 rw[zBa,zDe,zDe] at h
 refine ⟨?_,fun hc=>?_⟩
 ·unfold isWhite
  simp only[Bool.or_eq_false_iff,decide_eq_false_iff_not]
  omega
 ·subst hc
  exact absurd h.1 zDd
theorem tw_self {p:UInt8→Bool}:∀ {s:List UInt8},(∀ c∈s,p c=true)→s.takeWhile p=s
 |[],_=>rfl
 |c::s,h=>by rw[List.takeWhile_cons_of_pos (h c zMs),tw_self fun d hd=>h d (zMo _ hd)]
theorem tw_mem {p:UInt8→Bool}:∀ {s:List UInt8} {c:UInt8},c∈s.takeWhile p→p c=true
 |[],_,h=>by cases h
 |d::s,c,h=>by
  by_cases hd:p d=true
  ·rw[List.takeWhile_cons_of_pos hd] at h
   rcases zMi.1 h with rfl|h
   ·exact hd
   ·exact tw_mem h
  ·rw[List.takeWhile_cons_of_neg hd] at h
   cases h
theorem again_dec {u:Nat} (hu:u<4294967296) (l:Int):Again ⟨1,decDigits u,l⟩:=by
 have hd:=dec_digits u
 have hne:=decDigits_ne u
 refine ⟨by have:=dec_len hu;simp only;omega,hne,?_,fun h=>by have:=hd _ h;exact absurd this zDd,?_⟩
 ·show skipLen (decDigits u)=0
  cases hD:decDigits u with
  |nil=>exact absurd hD hne
  |cons c r=>
   have:=digit_white (hd c (by rw[hD];exact List.mem_cons_self ..))
   exact skip_head this.1 this.2
 ·show lexToken (decDigits u)=(⟨1,decDigits u,0⟩,(decDigits u).length,0)
  have h1:lexToken (decDigits u)=lexNumber (decDigits u):=by
   cases hD:decDigits u with
   |nil=>exact absurd hD hne
   |cons c r=>rw[lexToken,if_pos (hd c (by rw[hD];exact List.mem_cons_self ..))]
  rw[h1]
  unfold lexNumber
  rw[tw_self hd,pu32_dec u hu,if_neg]
  unfold wordNext
  rw[List.getElem?_eq_none (zNr _)]
  decide
theorem again_sign:∀ x∈signs,x.length≤24∧x≠[]∧skipLen x=0∧(10:UInt8) ∉ x∧lexToken x=(⟨4,x,0⟩,x.length,0):=by decide +kernel
theorem lexToken_again (s:List UInt8) (h:(lexToken s).2.2=0):Again (lexToken s).1:=by
 match s with
 |[]=>simp[lexToken,tokErr] at h
 |c::r=>
  simp only[lexToken] at h ⊢
  split at h <;> rename_i hc
  ·rw[if_pos hc]
   unfold lexNumber at h ⊢
   split at h
   ·simp[tokErr] at h
   ·rename_i hw
    rw[if_neg hw]
    split at h
    ·rename_i u hu
     exact again_dec (pu32_lt hu) 0
    ·simp[tokErr] at h
  ·rw[if_neg hc]
   split at h <;> rename_i hl
   ·rw[if_pos hl]
    unfold lexName at h ⊢
    split at h
    ·simp[tokErr] at h
    ·rename_i hw
     rw[if_neg hw]
     have hin:isInner c=true:=by simp[isInner,hl]
     have hW:(c::r).takeWhile isInner=c::r.takeWhile isInner:=List.takeWhile_cons_of_pos hin
     have hall:∀ d∈(c::r).takeWhile isInner,isInner d=true:=fun d hd=>tw_mem hd
     have hww:=letter_white hl
     refine ⟨by simp only;omega,by simp only;rw[hW];simp,by simp only;rw[hW];exact skip_head hww.1 hww.2,fun h10=>absurd (hall _ h10) zDd,?_⟩
     simp only
     have h1:lexToken ((c::r).takeWhile isInner)=lexName ((c::r).takeWhile isInner):=by
      rw[hW,lexToken,if_neg hc,if_pos hl]
     rw[h1]
     unfold lexName
     rw[tw_self hall,if_neg hw]
   ·rw[if_neg hl]
    split at h <;> rename_i hq
    ·rw[if_pos hq]
     unfold lexLiteral at h ⊢
     split at h
     ·split at h
      ·simp[tokErr] at h
      ·rename_i hx
       rename_i heq
       rename_i b _ _
       rw[if_neg hx]
       exact again_dec (Nat.lt_trans (UInt8.toNat_lt b) zDd) 0
     ·simp[tokErr] at h
    ·rw[if_neg hq]
     unfold lexSign at h ⊢
     split at h
     ·rename_i x hx
      exact again_sign x (List.mem_of_find?_eq_some hx)
     ·simp[tokErr] at h
theorem lexP_again:∀ (f:Nat) (s:List UInt8) (line:Int) (T:List Tok),lexP f s line=.ok T→∀ t∈T,Again t
 |0,s,line,T,h=>by
  rw[lexP] at h
  cases h
  simp
 |f+1,s,line,T,h=>by
  rw[lexP] at h
  split at h
  ·cases h
   simp
  ·split at h
   ·split at h
    ·cases h
    ·rename_i he
     obtain ⟨T',h1,rfl⟩:=map_ok h
     have k2:=lexP_again f _ _ _ h1
     intro t ht
     rcases zMi.1 ht with rfl|ht
     ·exact lexToken_again s (by omega)
     ·exact k2 t ht
   ·exact lexP_again f _ _ _ h
end Go.Stele
namespace Go.Stele
def Good {A:Type} (T:List Tok) (s:Bool) (i op:Nat) (r:Res A):Prop:=match r with
 |.ok _ i' op'=>i≤i'∧(s=true→i<i')∧(i≤T.length→i'≤T.length)∧op'=op
 |.err _ _=>True
def GoodO {A:Type} (T:List Tok) (s:Bool) (i op:Nat) (r:OR A):Prop:=∀ r',r=some r'→Good T s i op r'
theorem isTok_lt {T:List Tok} {i:Nat} {xs:List (List UInt8)} (h:isTok T i xs=true):i<T.length:=by
 rcases Nat.lt_or_ge i T.length with h1|h1
 ·exact h1
 ·rw[isTok,List.getElem?_eq_none h1] at h;cases h
theorem get_lt {T:List Tok} {i:Nat} {t:Tok} (h:T[i]? = some t):i<T.length:=(List.getElem?_eq_some_iff.1 h).1
theorem sWord_good (T:List Tok) (k:Int) (i op:Nat):Good T true i op (sWord T k i op):=by
 unfold sWord
 split
 ·rename_i t ht
  have:=get_lt ht
  split
  ·exact ⟨by omega,fun _=>by omega,fun _=>by omega,rfl⟩
  ·trivial
 ·trivial
theorem sNeed_good (T:List Tok) (x:List UInt8) (i op:Nat):Good T true i op (sNeed T x i op):=by
 unfold sNeed
 split
 ·rename_i h
  have:=isTok_lt h
  exact ⟨by omega,fun _=>by omega,fun _=>by omega,rfl⟩
 ·trivial
theorem sBegin_ok {T:List Tok} {x:List UInt8} {i op i' op':Nat} {u:Unit} (h:sBegin T x i op=.ok u i' op'):i'=i+1∧op'=op+1∧op<100∧i<T.length:=by
 unfold sBegin at h
 split at h
 ·rename_i h1
  have:=isTok_lt h1
  split at h
  ·cases h
  ·cases h
   exact ⟨rfl,rfl,by omega,this⟩
 ·cases h
theorem sEnd_ok {T:List Tok} {x:List UInt8} {i op i' op':Nat} {u:Unit} (h:sEnd T x i op=.ok u i' op'):i'=i+1∧op'=op-1∧i<T.length:=by
 unfold sEnd sNeed at h
 split at h
 ·rename_i h1
  have:=isTok_lt h1
  cases h
  exact ⟨rfl,rfl,this⟩
 ·cases h
theorem sNumber_good (T:List Tok) (i op:Nat):Good T true i op (sNumber T i op):=by
 have:=sWord_good T 1 i op
 unfold sNumber
 cases h:sWord T 1 i op with
 |ok v i' op'=>rw[h] at this;exact this
 |err l e=>trivial
theorem obind_some {A B:Type} {r:OR A} {f:A→Nat→Nat→OR B} {q:Res B} (h:obind r f=some q) :
  (∃ v i op,r=some (.ok v i op)∧f v i op=some q)∨(∃ l e,r=some (.err l e)∧q=.err l e):=by
 match r,h with
 |some (.ok v i op),h=>exact .inl ⟨v,i,op,rfl,h⟩
 |some (.err l e),h=>exact .inr ⟨l,e,rfl,by simpa [obind] using h.symm⟩
theorem good_bind {A B:Type} {T:List Tok} {s t:Bool} {i op j op1:Nat} {r:OR A} {f:A→Nat→Nat→OR B} (hr:GoodO T s j op1 r)
  (hf:∀ v i' ,r=some (.ok v i' op1)→j≤i'→(s=true→j<i')→(j≤T.length→i'≤T.length)→GoodO T t i op (f v i' op1)):GoodO T t i op (obind r f):=fun q hq=>by
 rcases obind_some hq with ⟨v,i',op',h1,h2⟩|⟨l,e,_,rfl⟩
 ·obtain ⟨g1,g2,g3,g4⟩:=hr _ h1
  subst g4
  exact hf v i' h1 g1 g2 g3 q h2
 ·trivial
theorem good_some {A:Type} {T:List Tok} {s:Bool} {i op:Nat} {r:Res A} (h:Good T s i op r):GoodO T s i op (some r):=fun r' hr=>by cases hr;exact h
theorem good_none {A:Type} {T:List Tok} {s:Bool} {i op:Nat}:GoodO (A:=A) T s i op none:=fun r' hr=>by cases hr
theorem GoodO.from {A:Type} {T:List Tok} {s t:Bool} {i j op:Nat} {r:OR A} (h:GoodO T s j op r) (hij:i≤j) (hs:t=true→i<j∨s=true) (hT:i≤T.length→j≤T.length):GoodO T t i op r:=fun r' hr=>by
 have:=h r' hr
 cases r' with
 |ok v i' op'=>
  obtain ⟨g1,g2,g3,g4⟩:=this
  refine ⟨by omega,fun ht=>?_,fun hi=>g3 (hT hi),g4⟩
  rcases hs ht with h1|h1
  ·omega
  ·have:=g2 h1;omega
 |err l e=>trivial
theorem sNamesLoop_good (T:List Tok):∀ (f:Nat) (acc:List (List UInt8)) (i op:Nat),GoodO T false i op (sNamesLoop T f acc i op)
 |0,_,_,_=>good_none
 |f+1,acc,i,op=>by
  rw[sNamesLoop]
  split
  ·rename_i h
   have:=isTok_lt h
   refine good_bind (good_some (sWord_good T 2 (i+1) op)) fun v i' _ h1 h2 h3=>?_
   exact (sNamesLoop_good T f _ i' op).from (by omega) (by simp) (fun _=>h3 (by omega))
  ·exact good_some ⟨by omega,by simp,fun h=>h,rfl⟩
theorem sNames_good (T:List Tok) (f i op:Nat):GoodO T true i op (sNames T f i op):=
 good_bind (good_some (sWord_good T 2 i op)) fun v i' _ h1 h2 h3=>(sNamesLoop_good T f _ i' op).from h1 (fun _=>.inl (h2 rfl)) h3
theorem good_wrap {A:Type} {T:List Tok} {s:Bool} {x y:List UInt8} {i op:Nat} {g:Nat→Nat→OR A} (hg:i<T.length→op<100→GoodO T s (i+1) (op+1) (g (i+1) (op+1))) :
  GoodO T true i op (obind (some (sBegin T x i op)) fun _ i' op'=>obind (g i' op') fun v i' op'=>obind (some (sEnd T y i' op')) fun _ i' op'=>some (.ok v i' op')):=fun q hq=>by
 rcases obind_some hq with ⟨v,i1,op1,h1,h2⟩|⟨l,e,_,rfl⟩
 ·injection h1 with h1
  obtain ⟨rfl,rfl,ho,hi⟩:=sBegin_ok h1
  rcases obind_some h2 with ⟨w,i2,op2,h3,h4⟩|⟨l,e,_,rfl⟩
  ·obtain ⟨g1,_,g3,rfl⟩:=hg hi ho _ h3
   rcases obind_some h4 with ⟨u,i3,op3,h5,h6⟩|⟨l,e,_,rfl⟩
   ·injection h5 with h5
    obtain ⟨rfl,rfl,hi2⟩:=sEnd_ok h5
    cases h6
    exact ⟨by omega,fun _=>by omega,fun _=>by omega,by omega⟩
   ·trivial
  ·trivial
 ·trivial
theorem ex_good (T:List Tok):∀ f:Nat,(∀ k i op,GoodO T true i op (eLev T f k i op))∧(∀ k e i op,GoodO T false i op (eLoop T f k e i op))∧(∀ i op,GoodO T true i op (eUnary T f i op)) ∧
  (∀ i op,GoodO T true i op (ePrim T f i op))∧(∀ i op,GoodO T true i op (eIndex T f i op))∧(∀ i op,GoodO T true i op (eArgs T f i op))∧(∀ acc i op,GoodO T false i op (eArgsLoop T f acc i op))
 |0=>⟨fun _ _ _=>by rw[eLev];exact good_none,fun _ _ _ _=>by rw[eLoop];exact good_none,fun _ _=>by rw[eUnary];exact good_none,fun _ _=>by rw[ePrim];exact good_none,fun _ _=>by rw[eIndex];exact good_none,fun _ _=>by rw[eArgs];exact good_none,fun _ _ _=>by rw[eArgsLoop];exact good_none⟩
 |f+1=>by
  obtain ⟨hL,hO,hU,hP,hI,hA,hB⟩:=ex_good T f
  have neg:∀ (x:List UInt8) (nm:List UInt8) (i op:Nat),GoodO T true i op (obind (some (sBegin T x i op)) fun _ i' op'=>obind (eUnary T f i' op') fun e i' op'=>some (.ok (Ex.mk nm 0 [] [e]) i' (op'-1))):=fun x nm i op q hq=>by
   rcases obind_some hq with ⟨v,i1,op1,h1,h2⟩|⟨l,e,_,rfl⟩
   ·injection h1 with h1
    obtain ⟨rfl,rfl,ho,hi⟩:=sBegin_ok h1
    rcases obind_some h2 with ⟨w,i2,op2,h3,h4⟩|⟨l,e,_,rfl⟩
    ·obtain ⟨g1,_,g3,rfl⟩:=hU _ _ _ h3
     cases h4
     exact ⟨by omega,fun _=>by omega,fun _=>g3 (by omega),by omega⟩
    ·trivial
   ·trivial
  refine ⟨fun k i op=>?_,fun k e i op=>?_,fun i op=>?_,fun i op=>?_,fun i op=>?_,fun i op=>?_,fun acc i op=>?_⟩
  ·rw[eLev]
   split
   ·exact hU i op
   ·exact good_bind (hL (k+1) i op) fun v i' _ h1 h2 h3=>(hO k v i' op).from h1 (fun _=>.inl (h2 rfl)) h3
  ·rw[eLoop]
   split
   ·rename_i h
    have:=isTok_lt h
    refine good_bind (hL (k+1) (i+1) op) fun v i' _ h1 h2 h3=>?_
    split
    ·exact good_some ⟨by omega,by simp,fun _=>h3 (by omega),rfl⟩
    ·exact (hO k _ i' op).from (by omega) (by simp) (fun _=>h3 (by omega))
   ·exact good_some ⟨by omega,by simp,fun h=>h,rfl⟩
  ·rw[eUnary]
   split
   ·exact neg _ _ _ _
   ·split
    ·exact neg _ _ _ _
    ·exact hP i op
  ·rw[ePrim]
   split
   ·exact good_wrap (g:=fun i op=>eLev T f 0 i op) fun _ _=>hL 0 _ _
   ·split
    ·exact good_bind (good_some (sNumber_good T i op)) fun v i' _ h1 h2 h3=>good_some ⟨h1,fun _=>h2 rfl,h3,rfl⟩
    ·refine good_bind (good_some (sWord_good T 2 i op)) fun v i' _ h1 h2 h3=>?_
     split
     ·exact good_bind (hI i' op) fun v i2 _ g1 g2 g3=>good_some ⟨by omega,fun _=>by have:=h2 rfl;omega,fun h=>g3 (h3 h),rfl⟩
     ·split
      ·exact good_bind (hA i' op) fun v i2 _ g1 g2 g3=>good_some ⟨by omega,fun _=>by have:=h2 rfl;omega,fun h=>g3 (h3 h),rfl⟩
      ·exact good_some ⟨h1,fun _=>h2 rfl,h3,rfl⟩
  ·rw[eIndex]
   exact good_wrap (g:=fun i op=>eLev T f 0 i op) fun _ _=>hL 0 _ _
  ·rw[eArgs]
   exact good_wrap (g:=fun i op=>eArgsLoop T f [] i op) fun _ _=>hB [] _ _
  ·rw[eArgsLoop]
   split
   ·exact good_some ⟨by omega,by simp,fun h=>h,rfl⟩
   ·refine good_bind (s:=false) (j:=i) (op1:=op) ?_ fun v i' _ h1 h2 h3=>?_
    ·split
     ·exact good_some ⟨by omega,by simp,fun h=>h,rfl⟩
     ·exact GoodO.from (good_some (sNeed_good T [44] i op)) (by omega) (by simp) (fun h=>h)
    ·exact good_bind (hL 0 i' op) fun v i2 _ g1 g2 g3=>(hB _ i2 op).from (by omega) (by simp) (fun h=>g3 (h3 h))
end Go.Stele
/- The parser in plain Lean: where statements end; enough fuel. -/
namespace Go.Stele
theorem st_good (T:List Tok):∀ f:Nat,(∀ i op,GoodO T true i op (sBlock T f i op))∧(∀ acc i op,GoodO T false i op (sStmts T f acc i op))∧(∀ i op,GoodO T true i op (sStmt T f i op))∧(∀ i op,GoodO T true i op (sSimple T f i op))
 |0=>⟨fun _ _=>by rw[sBlock];exact good_none,fun _ _ _=>by rw[sStmts];exact good_none,fun _ _=>by rw[sStmt];exact good_none,fun _ _=>by rw[sSimple];exact good_none⟩
 |f+1=>by
  obtain ⟨hB,hL,hS,hM⟩:=st_good T f
  obtain ⟨gL,_,_,_,gI,gA,_⟩:=ex_good T f
  refine ⟨fun i op=>?_,fun acc i op=>?_,fun i op=>?_,fun i op=>?_⟩
  ·rw[sBlock]
   exact good_wrap (g:=fun i op=>sStmts T f [] i op) fun _ _=>hL [] _ _
  ·rw[sStmts]
   split
   ·exact good_some ⟨by omega,by simp,fun h=>h,rfl⟩
   ·exact good_bind (hS i op) fun v i' _ h1 h2 h3=>(hL _ i' op).from h1 (by simp) h3
  ·rw[sStmt]
   split
   ·rename_i h
    have:=isTok_lt h
    refine good_bind (gL 0 (i+1) op) fun v i' _ h1 h2 h3=>good_bind (hB i' op) fun w i2 _ g1 g2 g3=>?_
    split
    ·rename_i h4
     have:=isTok_lt h4
     refine good_bind (hB (i2+1) op) fun x i3 _ k1 k2 k3=>good_some ⟨by omega,fun _=>by omega,fun _=>k3 (by omega),rfl⟩
    ·exact good_some ⟨by omega,fun _=>by omega,fun _=>g3 (h3 (by omega)),rfl⟩
   ·split
    ·rename_i h
     have:=isTok_lt h
     exact good_bind (gL 0 (i+1) op) fun v i' _ h1 h2 h3=>good_bind (hB i' op) fun w i2 _ g1 g2 g3=>good_some ⟨by omega,fun _=>by omega,fun _=>g3 (h3 (by omega)),rfl⟩
    ·exact good_bind (hM i op) fun v i' _ h1 h2 h3=>good_bind (good_some (sNeed_good T [59] i' op)) fun w i2 _ g1 g2 g3=>good_some ⟨by omega,fun _=>by have:=h2 rfl;omega,fun hh=>g3 (h3 hh),rfl⟩
  ·rw[sSimple]
   split
   ·rename_i h
    have:=isTok_lt h
    exact good_bind (gL 0 (i+1) op) fun v i' _ h1 h2 h3=>good_some ⟨by omega,fun _=>by omega,fun _=>h3 (by omega),rfl⟩
   ·split
    ·rename_i h
     have:=isTok_lt h
     exact good_some ⟨by omega,fun _=>by omega,fun _=>by omega,rfl⟩
    ·refine good_bind (good_some (sWord_good T 2 i op)) fun v i' _ h1 h2 h3=>?_
     split
     ·exact good_bind (gA i' op) fun w i2 _ g1 g2 g3=>good_some ⟨by omega,fun _=>by have:=h2 rfl;omega,fun hh=>g3 (h3 hh),rfl⟩
     ·split
      ·exact good_bind (gI i' op) fun w i2 _ g1 g2 g3=>good_bind (good_some (sNeed_good T [61] i2 op)) fun u i3 _ k1 k2 k3=>good_bind (gL 0 i3 op) fun x i4 _ m1 m2 m3=>
        good_some ⟨by omega,fun _=>by have:=h2 rfl;omega,fun hh=>m3 (k3 (g3 (h3 hh))),rfl⟩
      ·exact good_bind (good_some (sNeed_good T [61] i' op)) fun u i3 _ k1 k2 k3=>good_bind (gL 0 i3 op) fun x i4 _ m1 m2 m3=>
        good_some ⟨by omega,fun _=>by have:=h2 rfl;omega,fun hh=>m3 (k3 (h3 hh)),rfl⟩
theorem sVars_good (T:List Tok):∀ (f:Nat) (acc:List (List UInt8)) (i op:Nat),GoodO T (isTok T i [kwVar]) i op (sVars T f acc i op)
 |0,_,_,_=>by rw[sVars];exact good_none
 |f+1,acc,i,op=>by
  rw[sVars]
  split
  ·rename_i h
   have:=isTok_lt h
   exact good_bind (sNames_good T f (i+1) op) fun v i' _ h1 h2 h3=>good_bind (good_some (sNeed_good T [59] i' op)) fun u i2 _ g1 g2 g3=>
    (sVars_good T f _ i2 op).from (by omega) (fun _=>.inl (by omega)) (fun _=>g3 (h3 (by omega)))
  ·rename_i h
   exact good_some ⟨by omega,fun hh=>absurd hh h,fun h=>h,rfl⟩
/-! ### Enough fuel -/
def Ends {A:Type} (r:OR A):Prop:=∃ q,r=some q
theorem ends_bind {A B:Type} {r:OR A} {f:A→Nat→Nat→OR B} (h:Ends r) (k:∀ v i op,r=some (.ok v i op)→Ends (f v i op)):Ends (obind r f):=by
 obtain ⟨q,rfl⟩:=h
 cases q with
 |ok v i op=>exact k v i op rfl
 |err l e=>exact ⟨_,rfl⟩
theorem ends_some {A:Type} {r:Res A}:Ends (some r):=⟨_,rfl⟩
theorem ends_begin {B:Type} {T:List Tok} {x:List UInt8} {i op:Nat} {g:Unit→Nat→Nat→OR B} (k:i<T.length→op<100→Ends (g () (i+1) (op+1))):Ends (obind (some (sBegin T x i op)) g):=
 ends_bind ends_some fun v i1 op1 h1=>by
  injection h1 with h1
  obtain ⟨rfl,rfl,ho,hi⟩:=sBegin_ok h1
  exact k hi ho
theorem ex_ends (T:List Tok):∀ f:Nat,(∀ k i op,k≤6→i≤T.length→10 * (T.length-i)+20-k≤f→Ends (eLev T f k i op))∧(∀ k e i op,k≤5→i≤T.length→10 * (T.length-i)+11≤f→Ends (eLoop T f k e i op)) ∧
  (∀ i op,i≤T.length→10 * (T.length-i)+13≤f→Ends (eUnary T f i op))∧(∀ i op,i≤T.length→10 * (T.length-i)+12≤f→Ends (ePrim T f i op))∧(∀ i op,i≤T.length→10 * (T.length-i)+11≤f→Ends (eIndex T f i op)) ∧
  (∀ i op,i≤T.length→10 * (T.length-i)+12≤f→Ends (eArgs T f i op))∧(∀ acc i op,i≤T.length→10 * (T.length-i)+21≤f→Ends (eArgsLoop T f acc i op))
 |0=>⟨fun _ _ _ _ _ _=>by omega,fun _ _ _ _ _ _ _=>by omega,fun _ _ _ _=>by omega,fun _ _ _ _=>by omega,fun _ _ _ _=>by omega,fun _ _ _ _=>by omega,fun _ _ _ _ _=>by omega⟩
 |f+1=>by
  obtain ⟨hL,hO,hU,hP,hI,hA,hB⟩:=ex_ends T f
  obtain ⟨gL,gO,gU,gP,gI,gA,gB⟩:=ex_good T f
  have neg:∀ (x nm:List UInt8) (i op:Nat),10 * (T.length-i)+13≤f+1→Ends (obind (some (sBegin T x i op)) fun _ i' op'=>obind (eUnary T f i' op') fun e i' op'=>some (.ok (Ex.mk nm 0 [] [e]) i' (op'-1))):=fun x nm i op hf=>
   ends_begin fun hi ho=>ends_bind (hU _ _ (by omega) (by omega)) fun v i2 op2 _=>ends_some
  refine ⟨fun k i op hk hi hf=>?_,fun k e i op hk hi hf=>?_,fun i op hi hf=>?_,fun i op hi hf=>?_,fun i op hi hf=>?_,fun i op hi hf=>?_,fun acc i op hi hf=>?_⟩
  ·rw[eLev]
   split
   ·exact hU i op hi (by omega)
   ·refine ends_bind (hL (k+1) i op (by omega) hi (by omega)) fun v i' op' h=>?_
    obtain ⟨g1,g2,g3,rfl⟩:=gL (k+1) i op _ h
    have:=g2 rfl
    exact hO k v i' op' (by omega) (g3 hi) (by have:=g3 hi;omega)
  ·rw[eLoop]
   split
   ·rename_i h
    have:=isTok_lt h
    refine ends_bind (hL (k+1) (i+1) op (by omega) (by omega) (by omega)) fun v i' op' h=>?_
    obtain ⟨g1,g2,g3,rfl⟩:=gL (k+1) (i+1) op _ h
    have:=g3 (by omega)
    split
    ·exact ends_some
    ·exact hO k _ i' op' hk this (by omega)
   ·exact ends_some
  ·rw[eUnary]
   split
   ·exact neg _ _ _ _ hf
   ·split
    ·exact neg _ _ _ _ hf
    ·exact hP i op hi (by omega)
  ·rw[ePrim]
   split
   ·exact ends_begin fun hlt ho=>ends_bind (hL 0 _ _ (by omega) (by omega) (by omega)) fun v i2 op2 _=>ends_bind ends_some fun _ _ _ _=>ends_some
   ·split
    ·exact ends_bind ends_some fun _ _ _ _=>ends_some
    ·refine ends_bind ends_some fun v i' op' h=>?_
     injection h with h
     have hg:=sWord_good T 2 i op
     rw[h] at hg
     obtain ⟨h1,h2,h3,rfl⟩:=hg
     have:=h2 rfl
     have:=h3 hi
     split
     ·exact ends_bind (hI i' _ (by omega) (by omega)) fun _ _ _ _=>ends_some
     ·split
      ·exact ends_bind (hA i' _ (by omega) (by omega)) fun _ _ _ _=>ends_some
      ·exact ends_some
  ·rw[eIndex]
   exact ends_begin fun hlt ho=>ends_bind (hL 0 _ _ (by omega) (by omega) (by omega)) fun v i2 op2 _=>ends_bind ends_some fun _ _ _ _=>ends_some
  ·rw[eArgs]
   exact ends_begin fun hlt ho=>ends_bind (hB [] _ _ (by omega) (by omega)) fun v i2 op2 _=>ends_bind ends_some fun _ _ _ _=>ends_some
  ·rw[eArgsLoop]
   split
   ·exact ends_some
   ·refine ends_bind ends_some fun v i' op' h=>?_
    have hg:i≤i'∧i'≤T.length:=by
     injection h with h
     split at h
     ·cases h;exact ⟨zNr _,hi⟩
     ·have hg:=sNeed_good T [44] i op
      rw[h] at hg
      exact ⟨hg.1,hg.2.2.1 hi⟩
    refine ends_bind (hL 0 i' op' (by omega) hg.2 (by omega)) fun v2 i2 op2 h2=>?_
    obtain ⟨g1,g2,g3,rfl⟩:=gL 0 i' op' _ h2
    have:=g2 rfl
    have:=g3 hg.2
    exact hB _ i2 _ this (by omega)
theorem st_ends (T:List Tok):∀ f:Nat,(∀ i op,i≤T.length→10 * (T.length-i)+5≤f→Ends (sBlock T f i op))∧(∀ acc i op,i≤T.length→10 * (T.length-i)+14≤f→Ends (sStmts T f acc i op)) ∧
  (∀ i op,i≤T.length→10 * (T.length-i)+13≤f→Ends (sStmt T f i op))∧(∀ i op,i≤T.length→10 * (T.length-i)+12≤f→Ends (sSimple T f i op))
 |0=>⟨fun _ _ _ _=>by omega,fun _ _ _ _ _=>by omega,fun _ _ _ _=>by omega,fun _ _ _ _=>by omega⟩
 |f+1=>by
  obtain ⟨hB,hL,hS,hM⟩:=st_ends T f
  obtain ⟨eL,_,_,_,eI,eA,_⟩:=ex_ends T f
  obtain ⟨gL,_,_,_,gI,gA,_⟩:=ex_good T f
  obtain ⟨kB,kL,kS,kM⟩:=st_good T f
  refine ⟨fun i op hi hf=>?_,fun acc i op hi hf=>?_,fun i op hi hf=>?_,fun i op hi hf=>?_⟩
  ·rw[sBlock]
   exact ends_begin fun hlt ho=>ends_bind (hL [] _ _ (by omega) (by omega)) fun v i2 op2 _=>ends_bind ends_some fun _ _ _ _=>ends_some
  ·rw[sStmts]
   split
   ·exact ends_some
   ·refine ends_bind (hS i op hi (by omega)) fun v i' op' h=>?_
    obtain ⟨g1,g2,g3,rfl⟩:=kS i op _ h
    have:=g2 rfl
    have:=g3 hi
    exact hL _ i' _ (by omega) (by omega)
  ·rw[sStmt]
   split
   ·rename_i h
    have:=isTok_lt h
    refine ends_bind (eL 0 (i+1) op (by omega) (by omega) (by omega)) fun v i' op' h=>?_
    obtain ⟨g1,g2,g3,rfl⟩:=gL 0 (i+1) op _ h
    have:=g2 rfl
    have:=g3 (by omega)
    refine ends_bind (hB i' _ (by omega) (by omega)) fun v2 i2 op2 h2=>?_
    obtain ⟨q1,q2,q3,rfl⟩:=kB i' _ _ h2
    have:=q3 (by omega)
    split
    ·rename_i h4
     have:=isTok_lt h4
     exact ends_bind (hB (i2+1) _ (by omega) (by omega)) fun _ _ _ _=>ends_some
    ·exact ends_some
   ·split
    ·rename_i h
     have:=isTok_lt h
     refine ends_bind (eL 0 (i+1) op (by omega) (by omega) (by omega)) fun v i' op' h=>?_
     obtain ⟨g1,g2,g3,rfl⟩:=gL 0 (i+1) op _ h
     have:=g2 rfl
     have:=g3 (by omega)
     exact ends_bind (hB i' _ (by omega) (by omega)) fun v2 i2 op2 h2=>ends_some
    ·exact ends_bind (hM i op hi (by omega)) fun _ _ _ _=>ends_bind ends_some fun _ _ _ _=>ends_some
  ·rw[sSimple]
   split
   ·rename_i h
    have:=isTok_lt h
    exact ends_bind (eL 0 (i+1) op (by omega) (by omega) (by omega)) fun _ _ _ _=>ends_some
   ·split
    ·exact ends_some
    ·refine ends_bind ends_some fun v i' op' h=>?_
     injection h with h
     have hg:=sWord_good T 2 i op
     rw[h] at hg
     obtain ⟨h1,h2,h3,rfl⟩:=hg
     have:=h2 rfl
     have:=h3 hi
     split
     ·exact ends_bind (eA i' _ (by omega) (by omega)) fun _ _ _ _=>ends_some
     ·have tail:∀ (i2 op2:Nat) (g:Ex→Sm),i'≤i2→i2≤T.length→Ends (obind (some (sNeed T [61] i2 op2)) fun _ i' op'=>obind (eLev T f 0 i' op') fun e i' op'=>some (.ok (g e) i' op')):=fun i2 op2 g hi1 hi2=>by
       refine ends_bind ends_some fun v i3 op3 h3=>?_
       injection h3 with h3
       have hg:=sNeed_good T [61] i2 op2
       rw[h3] at hg
       have:=hg.2.2.1 hi2
       have:=hg.1
       exact ends_bind (eL 0 i3 _ (by omega) (by omega) (by omega)) fun _ _ _ _=>ends_some
      split
      ·refine ends_bind (eI i' _ (by omega) (by omega)) fun v2 i2 op2 h2=>?_
       obtain ⟨q1,q2,q3,rfl⟩:=gI i' _ _ h2
       exact tail i2 _ _ q1 (q3 (by omega))
      ·exact tail i' _ _ (zNr _) (by omega)
theorem sNamesLoop_ends (T:List Tok):∀ (f:Nat) (acc:List (List UInt8)) (i op:Nat),i≤T.length→T.length-i+1≤f→Ends (sNamesLoop T f acc i op)
 |0,_,_,_,_,h=>by omega
 |f+1,acc,i,op,hi,hf=>by
  rw[sNamesLoop]
  split
  ·rename_i h
   have:=isTok_lt h
   refine ends_bind ends_some fun v i' op' h=>?_
   injection h with h
   have hg:=sWord_good T 2 (i+1) op
   rw[h] at hg
   obtain ⟨h1,h2,h3,rfl⟩:=hg
   exact sNamesLoop_ends T f _ i' _ (h3 (by omega)) (by have:=h3 (by omega);omega)
  ·exact ends_some
theorem sNames_ends (T:List Tok) (f i op:Nat) (hi:i≤T.length) (hf:T.length-i+1≤f):Ends (sNames T f i op):=
 ends_bind ends_some fun v i' op' h=>by
  injection h with h
  have hg:=sWord_good T 2 i op
  rw[h] at hg
  obtain ⟨h1,h2,h3,rfl⟩:=hg
  exact sNamesLoop_ends T f _ i' _ (h3 hi) (by have:=h3 hi;omega)
theorem sVars_ends (T:List Tok):∀ (f:Nat) (acc:List (List UInt8)) (i op:Nat),i≤T.length→T.length-i+2≤f→Ends (sVars T f acc i op)
 |0,_,_,_,_,h=>by omega
 |f+1,acc,i,op,hi,hf=>by
  rw[sVars]
  split
  ·rename_i h
   have:=isTok_lt h
   refine ends_bind (sNames_ends T f (i+1) op (by omega) (by omega)) fun v i' op' h=>?_
   obtain ⟨g1,g2,g3,rfl⟩:=sNames_good T f (i+1) op _ h
   have:=g3 (by omega)
   refine ends_bind ends_some fun v i2 op2 h2=>?_
   injection h2 with h2
   have hg:=sNeed_good T [59] i' op'
   rw[h2] at hg
   obtain ⟨h1,h2,h3,rfl⟩:=hg
   have:=h3 (by omega)
   exact sVars_ends T f _ i2 _ (by omega) (by omega)
  ·exact ends_some
theorem obind_word {B:Type} {T:List Tok} {k:Int} {i op:Nat} {g:List UInt8→Nat→Nat→OR B} (h:∀ s,i<T.length→Ends (g s (i+1) op)):Ends (obind (some (sWord T k i op)) g):=
 ends_bind ends_some fun v i' op' hw=>by
  injection hw with hw
  unfold sWord at hw
  split at hw
  ·rename_i t ht
   have:=get_lt ht
   split at hw
   ·cases hw;exact h _ this
   ·cases hw
  ·cases hw
theorem obind_end {B:Type} {T:List Tok} {x:List UInt8} {i op:Nat} {g:Unit→Nat→Nat→OR B} (h:i<T.length→Ends (g () (i+1) (op-1))):Ends (obind (some (sEnd T x i op)) g):=
 ends_bind ends_some fun v i' op' hw=>by
  injection hw with hw
  obtain ⟨rfl,rfl,hlt⟩:=sEnd_ok hw
  exact h hlt
theorem sFunc_ends (T:List Tok) (f i op:Nat) (hi:i≤T.length) (hf:10 * (T.length-i)+14≤f):Ends (sFunc T f i op):=by
 unfold sFunc
 refine obind_word fun s h1=>ends_begin fun h2 h3=>ends_bind ?_ fun v i2 op2 h4=>obind_end fun h5=>ends_begin fun h6 h7=>ends_bind (sVars_ends T f [] _ _ (by omega) ?_) fun v2 i3 op3 h8=>ends_bind ((st_ends T f).2.1 [] _ _ ?_ ?_) fun v3 i4 op4 h9=>ends_bind ends_some fun _ _ _ _=>ends_some
 ·split
  ·exact ends_some
  ·exact sNames_ends T f _ _ (by omega) (by omega)
 ·have:i+1+1≤i2:=by
   split at h4
   ·cases h4;omega
   ·exact (sNames_good T f _ _ _ h4).1
  omega
 ·exact (sVars_good T f _ _ _ _ h8).2.2.1 (by omega)
 ·have:i+1+1≤i2:=by
   split at h4
   ·cases h4;omega
   ·exact (sNames_good T f _ _ _ h4).1
  have:=(sVars_good T f _ _ _ _ h8).1
  omega
theorem sFunc_good (T:List Tok) (f i op:Nat):GoodO T true i op (sFunc T f i op):=by
 intro q hq0
 unfold sFunc at hq0
 cases q with
 |err l e=>trivial
 |ok v i9 op9=>
  rcases obind_some hq0 with ⟨s,i1,op1,h1,hq1⟩|⟨l,e,_,h⟩
  ·injection h1 with h1
   have g1:=sWord_good T 2 i op
   rw[h1] at g1
   obtain ⟨a1,a2,a3,rfl⟩:=g1
   have:=a2 rfl
   rcases obind_some hq1 with ⟨_,i2,op2,h2,hq2⟩|⟨l,e,_,h⟩
   ·injection h2 with h2
    obtain ⟨rfl,rfl,b1,b2⟩:=sBegin_ok h2
    rcases obind_some hq2 with ⟨ps,i3,op3,h3,hq3⟩|⟨l,e,_,h⟩
    ·have c:i1+1≤i3∧(i1+1≤T.length→i3≤T.length)∧op3=op1+1:=by
      split at h3
      ·cases h3;exact ⟨zNr _,fun h=>h,rfl⟩
      ·obtain ⟨c1,_,c3,c4⟩:=sNames_good T f _ _ _ h3
       exact ⟨c1,c3,c4⟩
     obtain ⟨c1,c2,rfl⟩:=c
     rcases obind_some hq3 with ⟨_,i4,op4,h4,hq4⟩|⟨l,e,_,h⟩
     ·injection h4 with h4
      obtain ⟨rfl,rfl,d1⟩:=sEnd_ok h4
      rcases obind_some hq4 with ⟨_,i5,op5,h5,hq5⟩|⟨l,e,_,h⟩
      ·injection h5 with h5
       obtain ⟨rfl,rfl,e1,e2⟩:=sBegin_ok h5
       rcases obind_some hq5 with ⟨ls,i6,op6,h6,hq6⟩|⟨l,e,_,h⟩
       ·obtain ⟨f1,_,f3,rfl⟩:=sVars_good T f _ _ _ _ h6
        have:=f3 (by omega)
        rcases obind_some hq6 with ⟨bs,i7,op7,h7,hq7⟩|⟨l,e,_,h⟩
        ·obtain ⟨k1,_,k3,rfl⟩:=(st_good T f).2.1 _ _ _ _ h7
         have:=k3 (by omega)
         rcases obind_some hq7 with ⟨_,i8,op8,h8,hq8⟩|⟨l,e,_,h⟩
         ·injection h8 with h8
          obtain ⟨rfl,rfl,m1⟩:=sEnd_ok h8
          cases hq8
          exact ⟨by omega,fun _=>by omega,fun _=>by omega,by omega⟩
         ·cases h
        ·cases h
       ·cases h
      ·cases h
     ·cases h
    ·cases h
   ·cases h
  ·cases h
theorem sArray_good (T:List Tok) (i op:Nat):GoodO T true i op (sArray T i op):=by
 intro q hq0
 unfold sArray at hq0
 cases q with
 |err l e=>trivial
 |ok v i9 op9=>
  rcases obind_some hq0 with ⟨s,i1,op1,h1,hq1⟩|⟨l,e,_,h⟩
  ·injection h1 with h1
   have g1:=sWord_good T 2 i op
   rw[h1] at g1
   obtain ⟨a1,a2,a3,rfl⟩:=g1
   have:=a2 rfl
   rcases obind_some hq1 with ⟨_,i2,op2,h2,hq2⟩|⟨l,e,_,h⟩
   ·injection h2 with h2
    obtain ⟨rfl,rfl,b1,b2⟩:=sBegin_ok h2
    rcases obind_some hq2 with ⟨ps,i3,op3,h3,hq3⟩|⟨l,e,_,h⟩
    ·injection h3 with h3
     have g3:=sNumber_good T (i1+1) (op1+1)
     rw[h3] at g3
     obtain ⟨c1,c2,c3,rfl⟩:=g3
     have:=c2 rfl
     rcases obind_some hq3 with ⟨_,i4,op4,h4,hq4⟩|⟨l,e,_,h⟩
     ·injection h4 with h4
      obtain ⟨rfl,rfl,d1⟩:=sEnd_ok h4
      rcases obind_some hq4 with ⟨_,i5,op5,h5,hq5⟩|⟨l,e,_,h⟩
      ·injection h5 with h5
       have g5:=sNeed_good T [59] (i3+1) op4
       rw[h5] at g5
       obtain ⟨e1,e2,e3,rfl⟩:=g5
       have:=e2 rfl
       have:=e3 (by omega)
       cases hq5
       exact ⟨by omega,fun _=>by omega,fun _=>by omega,by omega⟩
      ·cases h
     ·cases h
    ·cases h
   ·cases h
  ·cases h
theorem sArray_ends (T:List Tok) (i op:Nat):Ends (sArray T i op):=by
 unfold sArray
 exact obind_word fun s _=>ends_begin fun _ _=>ends_bind ends_some fun _ _ _ _=>ends_bind ends_some fun _ _ _ _=>ends_bind ends_some fun _ _ _ _=>ends_some
theorem sProg_ends (T:List Tok):∀ (f:Nat) (p:Pr) (i op:Nat),i≤T.length→10 * (T.length-i)+20≤f→Ends (sProg T f p i op)
 |0,_,_,_,_,h=>by omega
 |f+1,p,i,op,hi,hf=>by
  rw[sProg]
  split
  ·exact ends_some
  ·split
   ·rename_i h
    have:=isTok_lt h
    refine ends_bind (sVars_ends T f _ i op hi (by omega)) fun v i' op' h2=>?_
    obtain ⟨g1,g2,g3,rfl⟩:=sVars_good T f _ i op _ h2
    have:=g2 h
    have:=g3 hi
    exact sProg_ends T f _ i' _ (by omega) (by omega)
   ·split
    ·rename_i h
     have:=isTok_lt h
     refine ends_bind (sArray_ends T _ _) fun v i' op' h2=>?_
     obtain ⟨g1,g2,g3,rfl⟩:=sArray_good T _ _ _ h2
     have:=g3 (by omega)
     exact sProg_ends T f _ i' _ (by omega) (by omega)
    ·split
     ·rename_i h
      have:=isTok_lt h
      refine ends_bind (sFunc_ends T f _ _ (by omega) (by omega)) fun v i' op' h2=>?_
      obtain ⟨g1,g2,g3,rfl⟩:=sFunc_good T f _ _ _ h2
      have:=g3 (by omega)
      exact sProg_ends T f _ i' _ (by omega) (by omega)
     ·exact ends_some
end Go.Stele
namespace Go.Stele
theorem nd_word {T:List Tok} {k:Int} {i op:Nat} {s:List UInt8} {i' op':Nat} (h:some (sWord T k i op)=some (.ok s i' op')):i'=i+1∧op'=op:=by
 injection h with h
 unfold sWord at h
 split at h
 ·split at h
  ·cases h;exact ⟨rfl,rfl⟩
  ·cases h
 ·cases h
theorem nd_need {T:List Tok} {x:List UInt8} {i op:Nat} {u:Unit} {i' op':Nat} (h:some (sNeed T x i op)=some (.ok u i' op')):i'=i+1∧op'=op:=by
 injection h with h
 unfold sNeed at h
 split at h
 ·cases h;exact ⟨rfl,rfl⟩
 ·cases h
end Go.Stele
