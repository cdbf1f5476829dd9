import Derived.StillTail
import Derived.Recover
import Derived.Laws.StructEq
import Derived.ChangeKeysEq
import Derived.Lib.ParseIntB
import Derived.Lib.ItoaNum
import Derived.Lib.Join
import Derived.Lib.Split
import Derived.Lib.Strings
import Derived.Lib.SlTrimSet
import Derived.Lib.Replace
import Derived.Test.YtkihibnffkpnkaaGreatDoorBRowL30
set_option linter.unusedVariables false
set_option linter.unusedSimpArgs false
set_option maxRecDepth 100000
set_option maxHeartbeats 4000000
open List (mem_singleton nodup_nil map_nil map_map map_set map_toArray mem_cons_self nil_append length_take length_drop takeWhile_cons_of_pos takeWhile_cons_of_neg takeWhile_prefix cons_append eq_nil_of_length_eq_zero take_succ_cons count_cons count_append take_append_drop not_mem_nil take_zero getLast_mem foldl_cons all_cons all_reverse nodup_cons mem_append)
open Nat (add_zero zero_add zero_le add_mul lt_or_ge add_assoc)
open Option (map_some getD_some)
namespace Go.GL
open Go.RowKit
abbrev KV:=List (List UInt8×LV)
@[reducible] def strV(k:List UInt8):Value:=.string ⟨k.toArray⟩
def kvs(m:KV):List (Value×LV):=m.map λp=>(strV p.1,p.2)
def kvGet:KV->List UInt8->Option LV
 |[],_=>none
 |p::r,k=>if p.1=k then some p.2 else kvGet r k
def kvPut:KV->List UInt8->LV->KV
 |[],k,v=>[(k,v)]
 |p::r,k,v=>if p.1=k then (k,v)::r else p::kvPut r k v
theorem kvGet_put(k k':List UInt8)(v:LV):∀ m:KV,kvGet (kvPut m k v) k'=if k=k' then some v else kvGet m k'
 |[]=>by simp only[kvPut,kvGet]
 |p::r=>by
  unfold kvPut
  by_cases h:p.1=k
  rw[if_pos h]
  by_cases h':k=k'
  simp only[kvGet,if_pos h'];simp only[kvGet,if_neg h'];rw[if_neg (by rw[h];exact h')];rw[if_neg h];simp only[kvGet];rw[kvGet_put k k' v r]
  by_cases h2:p.1=k'
  rw[if_pos h2,if_neg (by rw[<-h2];exact λh3=>h h3.symm)];simp only[if_pos h2];simp only[if_neg h2]
theorem qog(k:List UInt8):∀ (m:KV) (es:List MapEntry) (i:Nat),es.map (·.key)=(kvs m).map (·.1) ->
  (kvGet m k=none/\(∀ v,kvPut m k v=m++[(k,v)])/\Instr.findNow .string (strV k) es i=some none) ∨
  ∃ (j:Nat) (e:MapEntry) (v:LV),Instr.findNow .string (strV k) es i=some (some (i+j,e.val))/\es[j]? = some e/\m[j]? = some (k,v)/\kvGet m k=some v/\∀ v',kvPut m k v'=m.set j (k,v')
 |[],[],i,_=>.inl ⟨rfl,λ_=>rfl,rfl⟩
 |[],_::_,_,h=>by cases h
 |_::_,[],_,h=>by cases h
 |p::m,e::es,i,h=>by
  have h1:e.key=strV p.1:=by
   have:=(List.cons.inj h).1;exact this
  have h2:es.map (·.key)=(kvs m).map (·.1):=(List.cons.inj h).2
  by_cases hs:p.1=k
  ·right;have hb:((⟨k.toArray⟩:ByteArray) == ⟨p.1.toArray⟩)=true:=by rw[qdm,decide_eq_true hs.symm]
   refine⟨0,e,p.2,?_,rfl,by rw[<-hs];try rfl,by simp only[kvGet,if_pos hs],λv'=>by simp only[kvPut,if_pos hs];rfl⟩;simp only[Instr.findNow,h1,Instr.sameNow,hb,add_zero]
  have hb:((⟨k.toArray⟩:ByteArray) == ⟨p.1.toArray⟩)=false:=by rw[qdm,decide_eq_false (λh3=>hs h3.symm)]
  rcases qog k m es (i+1) h2 with⟨g1,g2,g3⟩|⟨j,e2,v,g1,g2,g3,g4,g5⟩;left;refine⟨by simp only[kvGet,if_neg hs];exact g1,λv=>by simp only[kvPut,if_neg hs,g2];rfl,?_⟩;simp only[Instr.findNow,h1,Instr.sameNow,hb];exact g3;right;refine⟨j+1,e2,v,?_,g2,g3,by simp only[kvGet,if_neg hs];exact g4,λv'=>by simp only[kvPut,if_neg hs,g5];rfl⟩;simp only[Instr.findNow,h1,Instr.sameNow,hb];rw[g1];congr 3;omega
theorem RepL.setAt{w:World}{L:Live}:∀ {cs:List LV} {xs:List Value},RepL w L cs xs->∀ (j:Nat) {c:LV} {x:Value},Rep w L c x->RepL w L (cs.set j c) (xs.set j x)
 |[],xs,h,j,c,x,hr=>by
  simp only[RepL] at h;subst h
  simp only[List.set_nil,RepL]
 |d::cs,xs,h,j,c,x,hr=>by
  simp only[RepL] at h;obtain⟨y,ys,rfl,h1,h2⟩:=h
  cases j with
  |zero=>
   simp only[List.set_cons_zero,RepL]
   exact⟨x,ys,rfl,hr,h2⟩
  |succ j=>
   simp only[List.set_cons_succ,RepL];exact⟨y,_,rfl,h1,h2.setAt j hr⟩
section
variable{C:Ctx}{e:Env}{H:Heap}{dst:Option Nat}{ty:TypeId}{pos:String}{aft:Array Edge}{g:Option (Nat×Bool)}{K:LV->Heap->Prop}{X:List PanicEntry->Heap->Prop}{x y:Operand}
theorem qpt{w w':World}{L:Live}{b clock clock':Nat}{es es':List (Value×LV)}(hH:RelH C w L [(b,.map es clock)])(h1:w'.os=w.os)(h2:w'.tape=w.tape)(h3:w'.output=w.output)
  (h4:w'.heap.size=w.heap.size) (h5:∀ c,c≠b->w'.heap[c]? = w.heap[c]?) (avs:List MapEntry) (h6:w'.heap[b]? = some (.map avs.toArray clock')) (h7:avs.map (·.key)=es'.map (·.1)) (h8:RepL w L (es'.map (·.2)) (avs.map (·.val)))
  (h9:∀ e∈avs,e.born<clock') (h10:(avs.map (·.born)).Nodup) {v:Value} {lv:LV} (hv:∀ L,Rep w' L lv v) (hk:K lv [(b,.map es' clock')]):Left C w L [(b,.map es clock)] w' v K:=by
 obtain⟨hb0,hbs,hl,xs,hx1,_⟩:=hH.objs _ (List.mem_singleton.2 rfl);simp only at hb0 hbs hl hx1
 have hx:Ext w L w' L:=by
  refine⟨by rw[h4];exact zNr _,λc hc=>?_,λc i hi=>?_,λ_=>zNr _⟩
  by_cases he:c=b
  subst he;rw[qdV hx1 rfl];exact qdV h6 rfl;exact qbK (h5 c he)
  by_cases he:c=b
  subst he;rw[hl] at hi;omega;exact cell_of_heap (h5 c he) i
 refine⟨lv,[(b,.map es' clock')],L,⟨h1,h2,h3,hx,λc hc hn=>h5 c (by simpa using hn),λ_ _ _=>rfl,λp hp=>.inl (by simp only[mem_singleton] at hp;subst hp;simp)⟩,
  ⟨?_,hH.lbase,by rw[h4];exact hH.b0,by rw[h4];exact hH.wf,by simp,λp hp=>?_⟩,hv L,hk⟩
 exact hH.base.trans ⟨h1,h2,h3,by rw[h4];exact zNr _,λc hc=>h5 c zo⟩;simp only[mem_singleton] at hp;subst hp;exact⟨hb0,by rw[h4];exact hbs,hl,avs,h6,h7,RepL.mono hx _ _ h8,h9,h10⟩
theorem S.kvNew{t:TypeId}(hk:∀ b,K (.atom (.map (some b))) ((b,.map (kvs []) 0)::H)):qae C ⟨dst,.makeMap t none,ty,pos,aft,g⟩ e H K X:=by
 refine qae.at0 λρ w L _ hH=>?_;have h3:execOp ρ ⟨dst,.makeMap t none,ty,pos,aft,g⟩=(do Pure.pure (.value (<-Instr.makeMap t none))):=rfl;have h4:(Instr.makeMap t none).run C.P w=.ok (.map (some w.heap.size)) (World.push w (.map #[] 0)):=rfl;rw[h3,Sem.run_bind,h4]
 have:=qex hH (.map #[] 0) 0 [(w.heap.size,.map (kvs []) 0)] (λp hp=>by
  simp only[mem_singleton] at hp;subst hp;refine⟨rfl,by simp[Live.upd],[],qaG,rfl,?_,(λe he=>by cases he),nodup_nil⟩;show RepL _ _ [] []
  simp only[RepL]) (by simp)
 exact⟨_,_,_,this.1,this.2,qai,hk _⟩
theorem S.kvPut{t kt el:TypeId}(ht:C.P.underlying t=some (.map kt el))(hkt:C.P.underlying kt=some .string){b clock:Nat}{m:KV}{F:Heap}{mo z:Operand}{k:List UInt8}{lv:LV}(hm:e.ev mo=.atom (.map (some b)))(hx:e.ev x=str k)(hz:e.ev z=lv)
  (hp:Pick (b,.map (kvs m) clock) H F) (hk:∀ clock',K (.atom undef) ((b,.map (kvs (GL.kvPut m k lv)) clock')::F)):qae C ⟨dst,.mapUpdate t mo x z,ty,pos,aft,g⟩ e H K X:=by
 refine qae.at1 hp λρ w L h hH=>?_;obtain⟨hb0,hbs,hl,avs,hx1,hx2,hx3,hx4,hx5⟩:=hH.objs _ (List.mem_singleton.2 rfl);simp only at hb0 hbs hl hx1 hx2 hx3;have hrz:Rep w L lv (ρ z):=hz▸h z;have h3:execOp ρ ⟨dst,.mapUpdate t mo x z,ty,pos,aft,g⟩=(do Instr.mapUpdate t (ρ mo) (ρ x) (ρ z);Pure.pure .skip):=rfl;have hg:(getObj b).run C.P w=.ok (.map avs.toArray clock) w:=by simp only[getObj,Sem.run,hx1]
 have hset:∀ o',(setObj b o').run C.P w=.ok () (setW w b o'):=λo'=>qeM hx1 rfl;rw[h3,qaf h hm,qaf h hx];rcases qog k m avs 0 hx2 with⟨g1,g2,g3⟩|⟨j,e2,v,g1,g2,g3,g4,g5⟩
 ·have hf:(Instr.findKey kt (strV k) avs.toArray.toList).run C.P w=.ok none w:=by
   simp only[Instr.findKey,Sem.run_bind,qaa hkt,Result.andThen_ok,g3,Sem.run_pure]
  simp only[Instr.mapUpdate,Sem.run_bind,qaa ht,Result.andThen_ok,hg,qb3 hkt,hf];rw[hset];refine qpt (w':=setW w b _) hH rfl rfl rfl (by simp[setW]) (λc hc=>qdU hc) (avs++[⟨strV k,ρ z,clock⟩]) (clock':=clock+1) ((qeF hbs).trans (by simp)) (es':=kvs (GL.kvPut m k lv)) ?_ ?_ ?_ ?_ (λ_=>qai) (hk _)
  ·rw[g2,kvs,zMa,zMa,zMa,<-kvs,hx2]
   try rfl
  rw[g2,kvs,zMa,zMa,zMa,<-kvs];refine RepL.append hx3 ?_;simp only[zMc,map_nil,RepL];exact⟨_,_,rfl,hrz,rfl⟩;intro e' he';rcases List.mem_append.1 he' with h1|h1;exact Nat.lt_succ_of_lt (hx4 e' h1);obtain rfl:=List.mem_singleton.1 h1;exact Nat.lt_succ_self _;rw[zMa,List.nodup_append];refine⟨hx5,by simp,λa ha b' hb' he=>?_⟩;obtain⟨e',h1,rfl⟩:=List.mem_map.1 ha;simp only[zMc,map_nil,mem_singleton] at hb';have:=hx4 e' h1;omega
 have hf:(Instr.findKey kt (strV k) avs.toArray.toList).run C.P w=.ok (some (0+j,e2.val)) w:=by
  simp only[Instr.findKey,Sem.run_bind,qaa hkt,Result.andThen_ok,g1,Sem.run_pure]
 have hkey:e2.key=strV k:=by
  have h1:(avs.map (·.key))[j]? = some e2.key:=by rw[List.getElem?_map,g2];try rfl
  rw[hx2,kvs,map_map,List.getElem?_map,g3] at h1;exact(Option.some.inj h1).symm
 have hst:(Instr.keyThatStays (((avs.toArray[0+j]?).map (·.key)).getD (strV k)) (strV k)).run C.P w=.ok (strV k) w:=by
  rw[zero_add,List.getElem?_toArray,g2];simp only[map_some,getD_some,hkey];unfold Instr.keyThatStays;rw[if_pos (by simp only[Instr.sameBits];rw[qdm];simp)]
  try rfl
 simp only[Instr.mapUpdate,Sem.run_bind,qaa ht,Result.andThen_ok,hg,qb3 hkt,hf,hst];rw[hset]
 have hmod:avs.toArray.modify (0+j) (λe=>{ e with key:=strV k,val:=ρ z })=(avs.set j { e2 with key:=strV k,val:=ρ z }).toArray:=by
  rw[zero_add];apply Array.ext';simp only[Array.toList_modify];refine List.ext_getElem? λi=>?_;rw[List.getElem?_modify,List.getElem?_set]
  by_cases hi:j=i
  subst hi;have hlt:j<avs.length:=(List.getElem?_eq_some_iff.1 g2).1;rw[if_pos rfl,g2,if_pos hlt];show some _=_
  simp
  rw[if_neg hi]
  cases avs[i]? with
  |none=>rfl
  |some a=>
   show some _=_;simp[hi]
 refine qpt (w':=setW w b _) hH rfl rfl rfl (by simp[setW]) (λc hc=>qdU hc) (avs.set j { e2 with key:=strV k,val:=ρ z }) ((qeF hbs).trans (by rw[hmod])) (es':=kvs (GL.kvPut m k lv)) ?_ ?_ ?_ ?_ (λ_=>qai) (hk _)
 ·rw[g5,kvs,map_set,map_set,map_set,hx2]
  try rfl
 rw[g5,kvs,map_set,map_set,map_set];exact RepL.setAt hx3 j hrz;intro e' he';rcases List.mem_or_eq_of_mem_set he' with h1|h1;exact hx4 e' h1;rw[h1];exact hx4 e2 (List.mem_of_getElem? g2);rw[map_set]
 have:(avs.map (·.born)).set j e2.born=avs.map (·.born):=by
  refine List.ext_getElem? λi=>?_;rw[List.getElem?_set];split
  ·rename_i h1
   subst h1;split
   ·rw[List.getElem?_map,g2];try rfl
   rename_i h2
   rw[List.getElem?_eq_none zo]
  rfl
 rw[this];exact hx5
theorem qss{t kt el:TypeId}(ht:C.P.underlying t=some (.map kt el))(hkt:C.P.underlying kt=some .string){zv:Value}{zl:LV}(hz:∀ w,(zeroValue el).run C.P w=.ok zv w)(hzl:∀ w L,Rep w L zl zv){b clock:Nat}{m:KV}{k:List UInt8}{w:World}{L:Live}
  (hH:RelH C w L H) (hb:(b,.map (kvs m) clock)∈H):∃ v,Rep w L ((kvGet m k).getD zl) v/\∀ w',qeL w L H w'->∀ c,(Instr.lookup t (.map (some b)) (strV k) c).run C.P w'=.ok (if c=true then .tuple #[v,.bool (kvGet m k).isSome] else v) w':=by
 obtain⟨_,_,_,avs,hx1,hx2,hx3,_⟩:=hH.objs _ hb;simp only at hx1;rcases qog k m avs 0 hx2 with⟨g1,g2,g3⟩|⟨j,e2,v,g1,g2,g3,g4,g5⟩;refine⟨zv,by rw[g1];exact hzl w L,λw' ha c=>?_⟩;have hw:w'.heap[b]? = some (.map avs.toArray clock):=(ha.1 _ hb).trans hx1;have hg:(getObj b).run C.P w'=.ok (.map avs.toArray clock) w':=by simp only[getObj,Sem.run,hw]
 have hf:(Instr.findKey kt (strV k) avs.toArray.toList).run C.P w'=.ok none w':=by
  simp only[Instr.findKey,Sem.run_bind,qaa hkt,Result.andThen_ok,g3,Sem.run_pure]
 simp only[Instr.lookup,Sem.run_bind,qaa ht,Result.andThen_ok,hg,Sem.run_pure,qb3 hkt,hf,hz,g1];rfl;refine⟨e2.val,?_,λw' ha c=>?_⟩
 ·rw[g4];obtain⟨x,h1,h2⟩:=hx3.get (i:=j) (c:=v) (by rw[kvs,map_map,List.getElem?_map,g3];try rfl);rw[List.getElem?_map,g2] at h1;obtain rfl:=Option.some.inj h1;exact h2
 have hw:w'.heap[b]? = some (.map avs.toArray clock):=(ha.1 _ hb).trans hx1;have hg:(getObj b).run C.P w'=.ok (.map avs.toArray clock) w':=by simp only[getObj,Sem.run,hw]
 have hf:(Instr.findKey kt (strV k) avs.toArray.toList).run C.P w'=.ok (some (0+j,e2.val)) w':=by
  simp only[Instr.findKey,Sem.run_bind,qaa hkt,Result.andThen_ok,g1,Sem.run_pure]
 simp only[Instr.lookup,Sem.run_bind,qaa ht,Result.andThen_ok,hg,Sem.run_pure,qb3 hkt,hf,g4];rfl
theorem Pure.kvGet{t kt el:TypeId}(ht:C.P.underlying t=some (.map kt el))(hkt:C.P.underlying kt=some .string){zv:Value}{zl:LV}(hz:∀ w,(zeroValue el).run C.P w=.ok zv w)(hzl:∀ w L,Rep w L zl zv){b clock:Nat}{m:KV}{k:List UInt8}(hm:e.ev x=.atom (.map (some b)))(hx:e.ev y=str k)
  (hb:(b,.map (kvs m) clock)∈H):Pure C ⟨dst,.lookup t x y false,ty,pos,aft,g⟩ e H ((GL.kvGet m k).getD zl):=λρ w L h hH=>by
 obtain⟨v,h1,h2⟩:=qss ht hkt hz hzl (k:=k) hH hb;refine⟨v,h1,λw' ha=>?_⟩;have h3:execOp ρ ⟨dst,.lookup t x y false,ty,pos,aft,g⟩=(do Pure.pure (.value (<-Instr.lookup t (ρ x) (ρ y) false))):=rfl;rw[h3,qaf h hm,qaf h hx,Sem.run_bind,h2 w' ha false]
 try rfl
theorem Pure.kvGet2{t kt el:TypeId}(ht:C.P.underlying t=some (.map kt el))(hkt:C.P.underlying kt=some .string){zv:Value}{zl:LV}(hz:∀ w,(zeroValue el).run C.P w=.ok zv w)(hzl:∀ w L,Rep w L zl zv){b clock:Nat}{m:KV}{k:List UInt8}(hm:e.ev x=.atom (.map (some b)))(hx:e.ev y=str k)
  (hb:(b,.map (kvs m) clock)∈H):Pure C ⟨dst,.lookup t x y true,ty,pos,aft,g⟩ e H (.tuple [(GL.kvGet m k).getD zl,bool (GL.kvGet m k).isSome]):=λρ w L h hH=>by
 obtain⟨v,h1,h2⟩:=qss ht hkt hz hzl (k:=k) hH hb;refine⟨.tuple #[v,.bool (GL.kvGet m k).isSome],?_,λw' ha=>?_⟩;simp only[Rep];refine⟨[v,.bool (GL.kvGet m k).isSome],rfl,?_⟩;simp only[RepL];exact⟨_,_,rfl,h1,_,_,rfl,rfl,rfl⟩;have h3:execOp ρ ⟨dst,.lookup t x y true,ty,pos,aft,g⟩=(do Pure.pure (.value (<-Instr.lookup t (ρ x) (ρ y) true))):=rfl;rw[h3,qaf h hm,qaf h hx,Sem.run_bind,h2 w' ha true]
 try rfl
end
class TMap (P:Program) (t:TypeId) (el:outParam TypeId) (zv:outParam Value) (zl:outParam LV):Prop where
 und:∃ kt,P.underlying t=some (.map kt el)/\P.underlying kt=some .string
 zero:∀ w,(zeroValue el).run P w=.ok zv w
 rep:∀ w L,Rep w L zl zv
theorem qvE(w:World)(L:Live)(zs:List Value):Rep w L (.agg (zs.map .atom)) (.agg zs.toArray):=by
 simp only[Rep];exact⟨zs,rfl,qa3 zs⟩
section
variable{C:Ctx}{e:Env}{H:Heap}{dst:Option Nat}{ty:TypeId}{pos:String}{aft:Array Edge}{g:Option (Nat×Bool)}{K:LV->Heap->Prop}{X:List PanicEntry->Heap->Prop}{x y:Operand}
theorem Pure.kvHit{t el:TypeId}{zv:Value}{zl lv:LV} [h:TMap C.P t el zv zl]{b clock:Nat}{m:KV}{k:List UInt8}(hm:e.ev x=.atom (.map (some b)))(hx:e.ev y=str k)(hb:(b,.map (kvs m) clock)∈H)(hg:GL.kvGet m k=some lv) :
  Pure C ⟨dst,.lookup t x y false,ty,pos,aft,g⟩ e H lv:=by
 obtain⟨kt,h1,h2⟩:=h.und;have:=Pure.kvGet (dst:=dst) (ty:=ty) (pos:=pos) (aft:=aft) (g:=g) h1 h2 h.zero h.rep hm hx hb
 rwa [hg] at this
theorem Pure.kvMiss{t el:TypeId}{zv:Value}{zl:LV} [h:TMap C.P t el zv zl]{b clock:Nat}{m:KV}{k:List UInt8}(hm:e.ev x=.atom (.map (some b)))(hx:e.ev y=str k)(hb:(b,.map (kvs m) clock)∈H)(hg:GL.kvGet m k=none) :
  Pure C ⟨dst,.lookup t x y false,ty,pos,aft,g⟩ e H zl:=by
 obtain⟨kt,h1,h2⟩:=h.und;have:=Pure.kvGet (dst:=dst) (ty:=ty) (pos:=pos) (aft:=aft) (g:=g) h1 h2 h.zero h.rep hm hx hb
 rwa [hg] at this
theorem Pure.kvHit2{t el:TypeId}{zv:Value}{zl lv:LV} [h:TMap C.P t el zv zl]{b clock:Nat}{m:KV}{k:List UInt8}(hm:e.ev x=.atom (.map (some b)))(hx:e.ev y=str k)(hb:(b,.map (kvs m) clock)∈H)(hg:GL.kvGet m k=some lv) :
  Pure C ⟨dst,.lookup t x y true,ty,pos,aft,g⟩ e H (.tuple [lv,bool true]):=by
 obtain⟨kt,h1,h2⟩:=h.und;have:=Pure.kvGet2 (dst:=dst) (ty:=ty) (pos:=pos) (aft:=aft) (g:=g) h1 h2 h.zero h.rep hm hx hb
 rwa [hg] at this
theorem Pure.kvMiss2{t el:TypeId}{zv:Value}{zl:LV} [h:TMap C.P t el zv zl]{b clock:Nat}{m:KV}{k:List UInt8}(hm:e.ev x=.atom (.map (some b)))(hx:e.ev y=str k)(hb:(b,.map (kvs m) clock)∈H)(hg:GL.kvGet m k=none) :
  Pure C ⟨dst,.lookup t x y true,ty,pos,aft,g⟩ e H (.tuple [zl,bool false]):=by
 obtain⟨kt,h1,h2⟩:=h.und;have:=Pure.kvGet2 (dst:=dst) (ty:=ty) (pos:=pos) (aft:=aft) (g:=g) h1 h2 h.zero h.rep hm hx hb
 rwa [hg] at this
theorem S.kvSet{t el:TypeId}{zv:Value}{zl:LV} [h:TMap C.P t el zv zl]{b clock:Nat}{m:KV}{F:Heap}{mo z:Operand}{k:List UInt8}{lv:LV}(hm:e.ev mo=.atom (.map (some b)))(hx:e.ev x=str k)(hz:e.ev z=lv)
  (hp:Pick (b,.map (kvs m) clock) H F) (hk:∀ clock',K (.atom undef) ((b,.map (kvs (GL.kvPut m k lv)) clock')::F)):qae C ⟨dst,.mapUpdate t mo x z,ty,pos,aft,g⟩ e H K X:=by
 obtain⟨kt,h1,h2⟩:=h.und;exact S.kvPut h1 h2 hm hx hz hp hk
theorem S.kvIns{t el:TypeId}{zv:Value}{zl:LV} [h:TMap C.P t el zv zl]{b clock:Nat}{m:KV}{F:Heap}{mo z:Operand}{k:List UInt8}{lv:LV}(hm:e.ev mo=.atom (.map (some b)))(hx:e.ev x=str k)(hz:e.ev z=lv)
  (hp:Pick (b,.map (kvs m) clock) H F) (hk:∀ clock',K (.atom undef) ((b,.map (kvs (GL.kvPut m k lv)) clock')::F)):qae C ⟨dst,.insert t mo x z,ty,pos,aft,g⟩ e H K X:=
 λρ w L h1 h2=>(S.kvSet (dst:=dst) (ty:=ty) (pos:=pos) (aft:=aft) (g:=g) (X:=X) hm hx hz hp hk) ρ w L h1 h2
theorem S.kvInsE{t el:TypeId}{zv:Value}{zl:LV} [h:TMap C.P t el zv zl]{b clock:Nat}{m:KV}{F:Heap}{mo z:Operand}{k:List UInt8}{lv:LV}(m':KV)(hm:e.ev mo=.atom (.map (some b)))(hx:e.ev x=str k)(hz:e.ev z=lv)
  (hp:Pick (b,.map (kvs m) clock) H F) (he:GL.kvPut m k lv=m') (hk:∀ clock',K (.atom undef) ((b,.map (kvs m') clock')::F)):qae C ⟨dst,.insert t mo x z,ty,pos,aft,g⟩ e H K X:=
 S.kvIns hm hx hz hp (he▸hk)
theorem qpU{k:List UInt8}{v:LV}:∀ {m:KV},k ∉ m.map (·.1)->GL.kvPut m k v=m++[(k,v)]
 |[],_=>rfl
 |p::r,h=>by
  rw[GL.kvPut,if_neg (λhe=>h (by rw[zMc];exact zMi.2 (.inl he.symm))),qpU (λhm=>h (by rw[zMc];exact zMo _ hm))]
  try rfl
end
variable{C:Ctx}{dst:Option Nat}{ty:TypeId}{pos:String}{aft:Array Edge}{g:Option (Nat×Bool)}{e:Env}{H:Heap}{K:LV->Heap->Prop}{X:List PanicEntry->Heap->Prop}
theorem S.setPut{t kt el:TypeId}(ht:C.P.underlying t=some (.map kt el))(hkt:C.P.underlying kt=some .string){b clock:Nat}{es:Array MapEntry}{p:List UInt8->Bool}{F:Heap}{m z:Operand}{x:Operand}{k:List UInt8}(hm:e.ev m=.atom (.map (some b)))(hx:e.ev x=str k)(hz:e.ev z=bool true)
  (hp:Pick (b,.obj (.map es clock)) H F) (hs:SetMap es p) (hk:∀ es' clock',SetMap es' (λs=>p s || decide (s=k))->K (.atom undef) ((b,.obj (.map es' clock'))::F)):qae C ⟨dst,.mapUpdate t m x z,ty,pos,aft,g⟩ e H K X:=
 λρ w L h hH=>(S.setAdd (dst:=dst) (ty:=ty) (pos:=pos) (aft:=aft) (g:=g) (X:=X) ht hkt hm hx hz hp hs hk) ρ w L h hH
theorem quJ{P:Program}{fn:Func}{r s t q:ResultVar}(h:fn.results=#[r,s,t,q]){tmps:Array Value}{w:World}{v u x y:Value}(h1:(qbh tmps r).run P w=.ok v w)(h2:(qbh tmps s).run P w=.ok u w)(h3:(qbh tmps t).run P w=.ok x w)(h4:(qbh tmps q).run P w=.ok y w) :
  (results fn tmps).run P w=.ok (.tuple #[v,u,x,y]) w:=by
 have:results fn tmps=(do let v <-qbh tmps r;let u <-qbh tmps s;let x <-qbh tmps t;let y <-qbh tmps q;Pure.pure (.tuple #[v,u,x,y])):=by
  cases r <;> cases s <;> cases t <;> cases q <;> simp[results,h,qbh]
 rw[this,qdK h1,qdK h2,qdK h3,qdK h4]
 try rfl
theorem qnY{C:Ctx}{n:Nat}{fn:Func}{e:Env}{H:Heap}{a:Act}{w:World}{L:Live}(hE:RelE n a e w L)(hH:RelH C w L H){vs:List LV}
  (h:qbW C n e H fn.results.toList vs) (h3:fn.results.size=4):∃ v,(results fn a.tmps).run C.P w=.ok v w/\Rep w L (qbI vs) v:=by
 obtain⟨rs,hrs⟩:∃ rs,fn.results=List.toArray rs:=⟨fn.results.toList,by simp⟩;rw[hrs] at h h3;simp only[List.size_toArray] at h h3
 match rs,vs,h,h3,hrs with
 |[r,s,t,q],[x,y,z,o],h,_,hrs=>
  obtain⟨v1,g1,r1⟩:=h.1 a w L hE hH;obtain⟨v2,g2,r2⟩:=h.2.1 a w L hE hH;obtain⟨v3,g3,r3⟩:=h.2.2.1 a w L hE hH;obtain⟨v4,g4,r4⟩:=h.2.2.2.1 a w L hE hH
  exact⟨_,quJ hrs g1 g2 g3 g4,by simp only[qbI,Rep];exact⟨[v1,v2,v3,v4],rfl,by simp only[RepL];exact⟨v1,_,rfl,r1,v2,_,rfl,r2,v3,_,rfl,r3,v4,_,rfl,r4,rfl⟩⟩⟩
 |[_,_,_,_],[],h,_,_=>exact h.elim
 |[_,_,_,_],[_],h,_,_=>exact h.2.elim
 |[_,_,_,_],[_,_],h,_,_=>exact h.2.2.elim
 |[_,_,_,_],[_,_,_],h,_,_=>exact h.2.2.2.elim
 |[_,_,_,_],_::_::_::_::_::_,h,_,_=>exact h.2.2.2.2.elim
theorem LCalls.intro4{C:Ctx}{f:FuncId}{fn:Func}{c:Code}{n:Nat}{args:List LV}{H:Heap}{R:LRes->Heap->Prop}(hf:C.P.funcs[f]? = some fn)(hb:fn.body=some c)(hn:fn.ntmps=n)(h3:Nat.beq fn.results.size 4=true)
  (hl:Nat.ble args.length n=true) (h:qag C n c (qad C n fn.results.toList R) (qfC args) H):LCalls C f args H R:=λvs w L hv hH=>by
 subst hn;have hl':args.length<=fn.ntmps:=by simpa using hl
 have h3':fn.results.size=4:=Nat.eq_of_beq_eq_true h3;have hlen:=hv.length;refine calls_of_wp hf hb (Go.wp_mono (h _ w L ⟨?_,rfl,λi=>?_⟩ hH) λex a' w' hq=>?_)
 simp;omega
 exact zT0;obtain⟨e',H',L',g1,g2,g3,g4⟩:=hq
 have ret:RelE fn.ntmps a' e' w' L'->(e'.ds=[]/\∃ vs H'',qbW C fn.ntmps e' H' fn.results.toList vs/\HSub H'' H'/\R (.ret (qbI vs)) H'') ->
   a'.defers=[]/\∃ v,(results fn a'.tmps).run C.P w'=.ok v w'/\qcG C w L H (λv=>R (.ret v)) (λch=>R (.panic ch)) (.returned v) w':=λhE hr=>by
  obtain⟨h1,vs',H'',h2,h4,h5⟩:=hr;obtain⟨v,r1,r2⟩:=qnY hE g2 h2 h3';exact⟨hE.ds.trans h1,v,r1,qbI vs',H'',L',g1.weak h4,g2.weak h4,r2,h5⟩
 cases ex with
 |normal=>exact ret g3 g4
 |ret=>exact ret g3 g4
 |panic ch=>
  obtain⟨h1,H'',h4,h5⟩:=g4
  exact⟨g3.trans h1,H'',L',g1.weak h4,g2.weak h4,h5⟩
 |exit id=>exact g4.elim
 |goto id=>exact g4.elim
 |outgrown=>exact g4.elim
section
variable{C:Ctx}{e:Env}{H:Heap}{dst:Option Nat}{ty:TypeId}{pos:String}{aft:Array Edge}{g:Option (Nat×Bool)}{xT yT:TypeId}{x y:Operand}{k k2:IntKind}{a b:Int}
theorem qg6{P:Program}{op:BinOp}{xT yT:TypeId}{x y:Operand}{k k2:IntKind}{a b:Int}{ρ:Operand->Value}(hx:ρ x=.int k a)(hy:ρ y=.int k2 b){s:Sem Value}
  (h:(binOp op xT (.int k a) (.int k2 b))=s) {v:Value} (hv:∀ w,s.run P w=.ok v w) (w:World):(execOp ρ ⟨dst,.binOp op xT x y yT,ty,pos,aft,g⟩).run P w=.ok (.value v) w:=by
 subst h
 have he:eqGuard op xT x y (.int k a) (.int k2 b)=Pure.pure ():=by
  unfold eqGuard;cases op <;> rfl
 simp only[execOp,hx,hy,he,Sem.run_bind,Sem.run_pure,Result.andThen_ok,hv]
theorem Pure.quoW(hx:e.ev x=int k a)(hy:e.ev y=int k b)(hb:b≠0):Pure C ⟨dst,.binOp .quo xT x y yT,ty,pos,aft,g⟩ e H (int k (k.wrap (a.tdiv b))):=
 .of_any λ_ _ _ h=>⟨_,qai,qg6 (qaf h hx) (qaf h hy) (s:=Op.intDiv .quo k a b) (by simp only[binOp,ne_eq,not_true_eq_false,if_false]) (λ_=>by simp only[Op.intDiv,if_neg hb,Sem.run_pure])⟩
theorem Pure.remW(hx:e.ev x=int k a)(hy:e.ev y=int k b)(hb:b≠0):Pure C ⟨dst,.binOp .rem xT x y yT,ty,pos,aft,g⟩ e H (int k (a.tmod b)):=
 .of_any λ_ _ _ h=>⟨_,qai,qg6 (qaf h hx) (qaf h hy) (s:=Op.intDiv .rem k a b) (by simp only[binOp,ne_eq,not_true_eq_false,if_false]) (λ_=>by simp only[Op.intDiv,if_neg hb,Sem.run_pure])⟩
theorem Pure.shr(hx:e.ev x=int k a)(hy:e.ev y=int k2 b)(hb:0<=b):Pure C ⟨dst,.binOp .shr xT x y yT,ty,pos,aft,g⟩ e H (int k (a.fdiv (2 ^ min b.toNat k.bits))):=
 .of_any λ_ _ _ h=>⟨_,qai,qg6 (qaf h hx) (qaf h hy) (s:=Op.shift .shr k a k2 b) (by simp only[binOp]) (λ_=>by simp only[Op.shift,if_neg (Int.not_lt.2 hb),Sem.run_pure])⟩
theorem Pure.shlW(hx:e.ev x=int k a)(hy:e.ev y=int k2 b)(hb:0<=b):Pure C ⟨dst,.binOp .shl xT x y yT,ty,pos,aft,g⟩ e H (int k (k.wrap (a * 2 ^ min b.toNat k.bits))):=
 .of_any λ_ _ _ h=>⟨_,qai,qg6 (qaf h hx) (qaf h hy) (s:=Op.shift .shl k a k2 b) (by simp only[binOp]) (λ_=>by simp only[Op.shift,if_neg (Int.not_lt.2 hb),Sem.run_pure])⟩
theorem Pure.xorW(hx:e.ev x=int k a)(hy:e.ev y=int k b):Pure C ⟨dst,.binOp .xor xT x y yT,ty,pos,aft,g⟩ e H (int k (k.wrap ((BitVec.ofInt k.bits a ^^^ BitVec.ofInt k.bits b).toNat:Nat))):=
 .of_any λ_ _ _ h=>⟨_,qai,qg6 (qaf h hx) (qaf h hy) (s:=Op.intBits .xor k a b) (by simp only[binOp,ne_eq,not_true_eq_false,if_false]) (λ_=>rfl)⟩
end
theorem qiq{P:Program}{md:Region.Mode}{ops:Array Oper}{Q:Exit->Act->World->Prop}{S S':World->Prop}(hS:∀ w,S' w->S w):∀ (fuel:Nat) (listed:Array Bool) (a:Act) (w:World),
  wpAnyH P md ops Q S' fuel listed a w->wpAnyH P md ops Q S fuel listed a w
 |0,_,_,_,k=>k
 |fuel+1,_,_,_,k=>⟨k.1,λi hi=>wpOp_mono (λa' w' h=>⟨hS _ h.1,qiq hS fuel _ a' w' h.2⟩) (k.2 i hi)⟩
theorem qaJ.any{C:Ctx}{n:Nat}{ops:Array Oper}{Q:Post}{HF:Heap}{fuel:Nat}{listed:Array Bool}{e:Env}{H:Heap}(HF':Heap)(hs:∀ p∈HF,p∈HF')(h:LAny C n ops Q HF' fuel listed e H):qaJ C n ops Q HF fuel listed e H:=λw0 L0 a w L hL hA _ hE hH=>
 qiq (λw' hw'=>⟨λp hp=>(hw'.1 p (hs p hp)).trans (hA.1 p hp),λb i hi=>(hw'.2 b i (Nat.lt_of_lt_of_le hi (hL b))).trans (hA.2 b i hi)⟩) _ _ _ _ (h a w L hE hH)
def LS(C:Ctx)(n:Nat)(ops:Array Oper)(K:Env->Prop)(rest:List Oper)(e:Env)(H:Heap):Prop:=
 ∀ a w L,RelE n a e w L->RelH C w L H->wpStill C.P ops w (λa'=>∃ e',RelE n a' e' w L/\K e') rest a
section still
variable{C:Ctx}{n:Nat}{ops:Array Oper}{K:Env->Prop}{e:Env}{H:Heap}{dst:Option Nat}{op:Op}{ty:TypeId}{pos:String}{aft:Array Edge}{rest:List Oper}
theorem LS.nil(h:K e):LS C n ops K [] e H:=λ_ _ _ hE _=>⟨e,hE,h⟩
theorem qta{P:Program}{Q:Act->Prop}{a:Act}{w:World}{o:Oper}(hg:Region.wanted o (yielded ops a.tmps)=true){v:Value}(h:(execOp a.eval o).run P w=.ok (.value v) w)(k:wpStill P ops w Q rest (a.put o.dst v)):wpStill P ops w Q (o::rest) a:=by
 unfold wpStill;rw[if_pos hg];unfold Oper.still;rw[h];exact⟨rfl,k⟩
theorem lP{lv:LV}(h:Pure C ⟨dst,op,ty,pos,aft,none⟩ e H lv)(hd:qc5 n dst)(k:LS C n ops K rest (e.put dst lv) H):LS C n ops K (⟨dst,op,ty,pos,aft,none⟩::rest) e H:=λa w L hE hH=>by
 obtain⟨v,hv,hr⟩:=h a.eval w L hE.ev hH;exact qta (by simp[Region.wanted]) (hr w (qeL.refl _ _ _)) (k _ w L (hE.put hd hv) hH)
theorem qfF{P:Program}{w:World}{Q Q':Act->Prop}(h:∀ a,Q a->Q' a):∀ (l:List Oper) (a:Act),wpStill P ops w Q l a->wpStill P ops w Q' l a
 |[],a,k=>h a k
 |o::l,a,k=>by
  unfold wpStill at k ⊢;split at k
  rename_i hw
  rw[if_pos hw];exact Oper.still_mono (λa=>qfF h l a) k
  rename_i hw
  rw[if_neg hw];exact qfF h l _ k
theorem qag.tail [hm:TMixed C.P] {id:Nat} {l:List Oper} {Q:Post} (m:Nat) (hB:Region.lexTailB .any l.toArray m=true) (h:LS C n l.toArray (λe'=>LOps C n l.toArray Q (l.drop m) e' H) (l.take m) e H):qag C n (.region id l.toArray true) Q e H:=λa w L hE hH=>by
 refine wp_region_still_tail m hm.out hB ?_;refine qfF (λa' h'=>?_) _ _ (h a w.drew L (hE.mono (qeh w L)) hH.drew);obtain⟨e',hE',hk⟩:=h';refine qbC (λx a2 w' hq=>?_) _ _ _ (hk a' w.drew L hE' hH.drew);obtain⟨e2,H',L',h1,h2,h3,h4⟩:=hq;exact⟨e2,H',L',h1.of_drew,h2,h3,h4⟩
end still
@[reducible] def rowV(b n:Nat):LV:=.atom (.slice (some ⟨b,0,none⟩) n n)
section
variable{C:Ctx}{e:Env}{H:Heap}{dst:Option Nat}{ty:TypeId}{pos:String}{aft:Array Edge}{g:Option (Nat×Bool)}{K:LV->Heap->Prop}{X:List PanicEntry->Heap->Prop}{x y:Operand}
theorem qrk(n:Nat)(z:Value):(Array.range n).map (λi=>(if n * 1=0 then #[] else #[z])[i % (if n * 1=0 then (#[]:Array Value) else #[z]).size]!)=(List.replicate n z).toArray:=by
 rcases Nat.eq_zero_or_pos n with rfl|hn
 simp
 rw[if_neg zo];apply Array.ext
 simp
 intro i h1 h2;simp[Nat.mod_one]
theorem S.makeRow{t el bytes:Nat}{zv:Value} [ht:TSlice C.P t el 1] [hr:TRow C.P el 1 bytes] [hz:TZero C.P el [zv]]{n:Nat}{k k2:IntKind}(hx:e.ev x=int k n)(hy:e.ev y=int k2 n)(hb:bytes * n<=100000000000)(hn:n<=100000000000)
  (hk:∀ b,K (rowV b n) ((b,.cells el (List.replicate n (.atom zv)))::H)):qae C ⟨dst,.makeSlice t x y,ty,pos,aft,g⟩ e H K X:=by
 refine qae.at0 λρ w L h hH=>?_;have h3:execOp ρ ⟨dst,.makeSlice t x y,ty,pos,aft,g⟩=(do Pure.pure (.value (<-Instr.makeSlice t (ρ x) (ρ y)))):=rfl;obtain⟨i,z,hi,hs,hby,hb0,hzz,hzs⟩:=hr.out;obtain⟨i',z',hi',hz',hc',hs'⟩:=hz.out;rw[hi] at hi';obtain rfl:=Option.some.inj hi';rw[hzz] at hz';obtain rfl:=Option.some.inj hz';have wn:IntKind.i64.wrap (n:Int)=n:=qep zo;have n1:¬ ((n:Int)<0):=by omega
 have n2:¬ ((281474976710656:Int)<(i.bytes:Int) * n):=by
  rw[hby];have:((bytes * n:Nat):Int)<=100000000000:=by omega
  rw[Int.natCast_mul] at this;omega
 have n3:¬ (n * i.bytes > roomBytes):=by
  rw[hby,Nat.mul_comm];unfold roomBytes;omega
 have hrun:(Instr.makeSlice t (.int k n) (.int k2 n)).run C.P w=.ok (.slice (some ⟨w.heap.size,0,none⟩) n n) (World.push w (.cells (List.replicate n zv).toArray el)):=by
  have hrz:=qrk n zv
  by_cases h0:n=0
  ·subst h0;have wz:IntKind.i64.wrap 0=0:=qep zo;simp[Instr.makeSlice,qaa ht.und,asInt,asIntOf,qdI hi,qbE hi,hs,wz,newRow,askRoom,roomBytes,newObj,World.push,Sem.run_bind,Sem.run_pure];have e0:(Array.range 0).map (λ_=>(default:Value))=#[]:=by simp
   rw[e0]
   try rfl
  simp only[Nat.mul_one,h0,if_false] at hrz;simp[Instr.makeSlice,qaa ht.und,asInt,asIntOf,qdI hi,qbE hi,hs,wn,n1,n2,n3,h0,zeroValue,hzz,hc',newRow,askRoom,newObj,World.push,Sem.run_bind,Sem.run_pure,hrz];simp at hrz;rw[hrz]
  try rfl
 rw[h3,qaf h hx,qaf h hy,Sem.run_bind,hrun]
 have hrep:RepL w L (List.replicate n (.atom zv)) (List.replicate n zv):=by
  have:=qa3 (w:=w) (L:=L) (List.replicate n zv)
  rwa [List.map_replicate] at this
 have hx':=qeq hH.wf (.cells (List.replicate n zv).toArray el) 0
 have:=qex hH (.cells (List.replicate n zv).toArray el) 0 [(w.heap.size,.cells el (List.replicate n (.atom zv)))] (λp hp=>by
  simp only[mem_singleton] at hp;subst hp
  exact⟨rfl,by simp[Live.upd],List.replicate n zv,qaG,hrep.mono hx' _ _⟩) (by simp)
 exact⟨_,_,_,this.1,this.2,qai,hk _⟩
theorem Pure.indexRow{t el s:Nat} [ht:TSlice C.P t el s]{b off m cap:Nat}{n:Int}{k:IntKind}(hx:e.ev x=.atom (.slice (some ⟨b,off,none⟩) m cap))(hy:e.ev y=int k n)(h0:0<=n)(hn:n<m) :
  Pure C ⟨dst,.indexAddr t x y,ty,pos,aft,g⟩ e H (ptr b (off+n.toNat * s)):=.of_any λρ w L h=>by
 obtain⟨i,hi,hsz⟩:=ht.size;refine⟨_,qai,λw'=>?_⟩;have h3:execOp ρ ⟨dst,.indexAddr t x y,ty,pos,aft,g⟩=(do Pure.pure (.value (<-Instr.indexAt t (ρ x) (ρ y)))):=rfl;rw[h3,qaf h hx,qaf h hy];have hc:0<=n/\n<(m:Int):=⟨h0,hn⟩;simp[Instr.indexAt,asIntOf,qaa ht.und,hc,qbE hi,add_mk,hsz]
theorem Pure.rowLen{t el s:Nat} [TSlice C.P t el s]{a:Option Addr}{m cap:Nat}(hx:e.ev x=.atom (.slice a m cap)):Pure C ⟨dst,.call { callee:=.builtin .len,args:=#[x],argTypes:=#[t] },ty,pos,aft,g⟩ e H (int .i64 m):=
 .of_any λρ _ _ h=>⟨_,qai,λw'=>by
  have hu:=qaa (P:=C.P) (TSlice.und (t:=t)) w';rw[qay,qev]
  simp[Builtin.len_,hu,goInt,qaf h hx]⟩
end
section shut
variable{C:Ctx}{n:Nat}{Q:Post}{e:Env}{H F:Heap}
end shut
section
variable{C:Ctx}{e:Env}{H:Heap}{dst:Option Nat}{ty:TypeId}{pos:String}{aft:Array Edge}{g:Option (Nat×Bool)}{K:LV->Heap->Prop}{X:List PanicEntry->Heap->Prop}{x y:Operand}
theorem qjU{P:Program}{t el s:Nat} [h:TSlice P t el s](a:Option Addr)(n m:Nat)(w:World):(Op.equal t (.slice a n m) (.slice none 0 0)).run P w=.ok a.isNone w:=by
 rw[qgm,Op.equalIn]
 try cases a <;> simp only[Sem.run_bind,qaa h.und,Result.andThen_ok,Sem.run_pure] <;> rfl
theorem S.sliceNil{t el s yT:Nat} [ht:TSlice C.P t el s]{es:List LV}(hx:elems (e.ev x)=some es)(hk:∀ b,(b=true->es=[])->K (bool b) H):qae C ⟨dst,.binOp .eql t x (.const (.slice none 0 0)) yT,ty,pos,aft,g⟩ e H K X:=λρ w L h hH=>by
 obtain⟨a,cap,hv,hc,hr⟩:=(h x).elems hx;have h2:=qaf h (x:=.const (.slice none 0 0)) rfl;have he:eqGuard .eql t x (.const (.slice none 0 0)) (.slice a es.length cap) (.slice none 0 0)=Pure.pure ():=by simp[eqGuard]
 have hb:binOp .eql t (.slice a es.length cap) (.slice none 0 0)=(do Pure.pure (.bool (<-Op.equal t (.slice a es.length cap) (.slice none 0 0)))):=rfl
 have hrun:(execOp ρ ⟨dst,.binOp .eql t x (.const (.slice none 0 0)) yT,ty,pos,aft,g⟩).run C.P w=.ok (.value (.bool a.isNone)) w:=by
  simp only[execOp,hv,h2,he,hb,Sem.run_bind,Sem.run_pure,Result.andThen_ok,qjU]
 rw[hrun];refine⟨bool a.isNone,H,L,Fr.refl _ _ _,hH,qai,hk _ λhn=>?_⟩
 cases a with
 |some a=>cases hn
 |none=>
  cases es with
  |nil=>rfl
  |cons v es=>
   obtain⟨b,off,k,h3,_⟩:=hr (by simp);cases h3
theorem Pure.rowCap{t el s:Nat} [TSlice C.P t el s]{a:Option Addr}{m cap:Nat}(hx:e.ev x=.atom (.slice a m cap)):Pure C ⟨dst,.call { callee:=.builtin .cap,args:=#[x],argTypes:=#[t] },ty,pos,aft,g⟩ e H (int .i64 cap):=
 .of_any λρ _ _ h=>⟨_,qai,λw'=>by
  have hu:=qaa (P:=C.P) (TSlice.und (t:=t)) w';have h0:∀ (cs:Array Bool) (args:Array Value),builtin .cap #[t] ty cs args=(do Pure.pure (.value (<-Builtin.cap_ #[t] ty args))):=λ_ _=>rfl;rw[qay,h0]
  simp[Builtin.cap_,hu,goInt,qaf h hx]⟩
theorem Pure.rowSlice{t el s:Nat} [ht:TSlice C.P t el s]{a:Option Addr}{m cap n:Nat}{hi:Operand}{k:IntKind}(hx:e.ev x=.atom (.slice a m cap))(hh:e.ev hi=int k n)(hn:n<=cap) :
  Pure C ⟨dst,.slice t x none (some hi) none,ty,pos,aft,g⟩ e H (.atom (.slice a n cap)):=.of_any λρ w L h=>by
 obtain⟨ti,hti,hsz⟩:=ht.size;refine⟨_,qai,λw'=>?_⟩;have hb:=qd2 (P:=C.P) (w':=w') (len:=m) (cap:=cap) (lo:=none) (hi:=some hi) (i:=0) (j:=n) h true rfl ⟨k,hh⟩ zo zo zo;have h3:execOp ρ ⟨dst,.slice t x none (some hi) none,ty,pos,aft,g⟩=(do Pure.pure (.value (<-Instr.sliceAt t (ρ x) none (some (ρ hi)) none))):=rfl;rw[h3,qaf h hx];simp only[Option.map_none,map_some] at hb;simp only[Instr.sliceAt,Instr.slice,Sem.run_bind,qaa (P:=C.P) ht.und w',Result.andThen_ok,Sem.run_pure,hb,qbE hti,hsz]
 have ha:∀ a:Addr,a.add 0=a:=λa=>by
  obtain⟨b,o,sp⟩:=a;unfold Addr.add;cases sp <;> simp
 simp[ha]
theorem S.appZeros{sT xT el bytes:Nat}{zv:Value} [ht:TSlice C.P sT el 1] [hr:TRow C.P el 1 bytes] [hz:TZero C.P el [zv]] [hk0:TKind C.P xT .i64]{n:Nat}(hx:e.ev x=qab)(hy:e.ev y=int .i64 n)(hn:0<n)(hroom:n * bytes<=140737488355328)
  (hk:∀ b cap,n<=cap->K (.atom (.slice (some ⟨b,0,none⟩) n cap)) ((b,.cells el (List.replicate cap (.atom zv)))::H)) :
  qae C ⟨dst,.call { callee:=.builtin .append,args:=#[x,y],argTypes:=#[sT,xT] },ty,pos,aft,g⟩ e H K X:=by
 refine qae.at0 λρ w L h hH=>?_;have h0:∀ (cs:Array Bool) (args:Array Value),builtin .append #[sT,xT] ty cs args=(do Pure.pure (.value (<-Builtin.append_ #[sT,xT] ty args))):=λ_ _=>rfl;obtain⟨i,z,hi,hs,hb,hb0,hzz,hzs⟩:=hr.out;obtain⟨i',z',hi',hz',hc',hs'⟩:=hz.out;rw[hi] at hi';obtain rfl:=Option.some.inj hi';rw[hzz] at hz';obtain rfl:=Option.some.inj hz';have hmul:n<=n * bytes:=Nat.le_mul_of_pos_right _ hb0;have wn:IntKind.i64.wrap (n:Int)=n:=qep zo;have n1:¬ ((n:Int)<0):=by omega
 have n2:¬ ((281474976710656:Int)<(n:Int) * (i.bytes:Int)):=by
  rw[hb];have:((n * bytes:Nat):Int)<=140737488355328:=by omega
  rw[Int.natCast_mul] at this;omega
 have h63':¬ (9223372036854775807<(n:Int)):=by omega
 have hfit:=growslice_fits (bytes:=bytes) (need:=n) (old:=0) hn hroom
 have h48':¬ (281474976710656<Builtin.nextslicecap n 0 * i.bytes):=by
  rw[hb];omega
 have hn0:¬ n=0:=by omega
 have hz1:∀ m,(Builtin.zeroCells #[zv] m)=(List.replicate m zv).toArray:=λm=>by
  unfold Builtin.zeroCells;apply Array.ext
  simp
  intro j h1 h2;simp[Nat.mod_one]
 have hcap:n<=grownCap w n 0 el:=by simp[grownCap,Question.cut]
 have hrun:(Builtin.append_ #[sT,xT] ty #[.slice none 0 0,.int .i64 n]).run C.P w=.ok (.slice (some ⟨w.heap.size,0,none⟩) n (grownCap w n 0 el)) (World.push w.drew (.cells (List.replicate (grownCap w n 0 el) zv).toArray el)):=by
  simp[Builtin.append_,qaa ht.und,qaa hk0.und,sizeOf,typeInfo,zeroValue,hi,hs,hzz,hc',asInt,asIntOf,wn,n1,n2,hn0,h63',h48',Question.forced,newRow,grownCap,Builtin.firstCells,hz1];show World.push w.drew _=World.push w.drew _;congr 2;apply Array.ext';have:=hcap;unfold grownCap at this;congr 2;omega
 rw[qay,h0];simp only[map_toArray,zMc,map_nil,Sem.run_bind,qaf h hx,qaf h hy,hrun,Result.andThen_ok,Sem.run_pure];have hHd:=hH.drew
 have hrep:RepL w.drew L (List.replicate (grownCap w n 0 el) (.atom zv)) (List.replicate (grownCap w n 0 el) zv):=by
  have:=qa3 (w:=w.drew) (L:=L) (List.replicate (grownCap w n 0 el) zv)
  rwa [List.map_replicate] at this
 have hx':=qeq hHd.wf (.cells (List.replicate (grownCap w n 0 el) zv).toArray el) 0
 have:=qex hHd (.cells (List.replicate (grownCap w n 0 el) zv).toArray el) 0 [(w.heap.size,.cells el (List.replicate (grownCap w n 0 el) (.atom zv)))] (λp hp=>by
  simp only[mem_singleton] at hp;subst hp
  exact⟨rfl,by simp[Live.upd],List.replicate (grownCap w n 0 el) zv,qaG,hrep.mono hx' _ _⟩) (by simp)
 exact⟨_,_,_,this.1.of_drew,this.2,qai,hk _ _ hcap⟩
end
section opened
variable{C:Ctx}{n:Nat}{Q:Post}{e:Env}{H F:Heap}
theorem quP{w:World}{L:Live}{b el:Nat}{cs:List LV}(hp:Pick (b,.cells el cs) H F)(hH:RelH C w L H)(hl:∀ k cap,cap * k<=cs.length->∃ e s,w.shape? b=some (e,s)/\cap * k<=s):RelH C w L ((b,.row 0)::F):=by
 have hH1:=hH.perm hp;obtain⟨hb0,hbs,hlb,xs,hx1,hx2⟩:=hH1.objs _ mem_cons_self;simp only at hb0 hbs hlb hx1 hx2;refine⟨hH1.base,hH1.lbase,hH1.b0,hH1.wf,hH1.nodup,λp hp'=>?_⟩;rcases zMi.1 hp' with rfl|hp';exact⟨hb0,hbs,hlb,_,_,_,hx1,zero_le _,zero_le _⟩;exact hH1.objs p (zMo _ hp')
theorem qo6{w:World}{L:Live}{b el:Nat}{cs:List LV}(hp:Pick (b,.cells el cs) H F)(hH:RelH C w L H):w.shape? b=some (el,cs.length):=by
 have hH1:=hH.perm hp;obtain⟨hb0,hbs,hlb,xs,hx1,hx2⟩:=hH1.objs _ mem_cons_self;simp only at hx1;simp only[World.shape?,hx1];rw[List.size_toArray,hx2.length]
theorem LOps.rowOpen{ops:Array Oper}{rest:List Oper}(d k:Nat){b el cap:Nat}{cs:List LV}(hp:Pick (b,.cells el cs) H F)(hd:e.s d=.atom (.slice (some ⟨b,0,none⟩) 0 cap))(hc:cap * k<=cs.length)(h:LOps C n ops Q rest (e.upd d (.app b cap k [])) ((b,.row 0)::F)):LOps C n ops Q rest e H:=λa w L hE hH=>by
 have hs:=qo6 hp hH
 have hk:∀ x,x∈keys ((b,LObj.row 0)::F)->x∈keys H:=λx hx=>by
  have:=((hp.map (·.1)).mem_iff (a:=x)).2 (by simpa using hx);exact this
 refine qbC (λ_ _ _=>qhE hk) _ _ _ (h a w L ⟨hE.size,hE.ds,λi=>?_⟩ (quP hp hH λk2 cap2 h2=>⟨_,_,hs,h2⟩));have hv:=hE.vals i;simp only[Env.upd]
 cases hb:Nat.beq i d with
 |false=>exact hv
 |true=>
  have hi:=Nat.eq_of_beq_eq_true hb;subst hi;rw[hd] at hv;simp only[Rep] at hv;rw[hv];show Rep w L (.app b cap k []) _;simp only[Rep];refine⟨rfl,zero_le _,?_,_,_,hs,hc⟩;simp only[qak]
end opened
section
variable{C:Ctx}{e:Env}{H:Heap}{dst:Option Nat}{ty:TypeId}{pos:String}{aft:Array Edge}{g:Option (Nat×Bool)}{K:LV->Heap->Prop}{X:List PanicEntry->Heap->Prop}{x y z:Operand}{k:IntKind}
theorem quT(a b:Nat):(if (a:Int)<(b:Int) then (b:Int) else (a:Int))=((max a b:Nat):Int):=by
 split <;> omega
theorem Pure.max2{a b:Nat}(hx:e.ev x=int k (a:Int))(hy:e.ev y=int k (b:Int)){t u:TypeId}:Pure C ⟨dst,.call { callee:=.builtin .max,args:=#[x,y],argTypes:=#[t,u] },ty,pos,aft,g⟩ e H (int k ((max a b:Nat):Int)):=
 .of_any λρ _ _ h=>⟨_,qai,λw'=>by
  have h0:∀ (cs:Array Bool) (args:Array Value),builtin .max #[t,u] ty cs args=(do Pure.pure (.value (<-Builtin.max_ #[t,u] ty args))):=λ_ _=>rfl;rw[qay,h0];have:=quT a b;simp[Builtin.max_,Builtin.max2,qaf h hx,qaf h hy]
  split <;> omega⟩
theorem Pure.max3{a b c:Nat}(hx:e.ev x=int k (a:Int))(hy:e.ev y=int k (b:Int))(hz:e.ev z=int k (c:Int)){t u v:TypeId}:Pure C ⟨dst,.call { callee:=.builtin .max,args:=#[x,y,z],argTypes:=#[t,u,v] },ty,pos,aft,g⟩ e H (int k ((max (max a b) c:Nat):Int)):=
 .of_any λρ _ _ h=>⟨_,qai,λw'=>by
  have h0:∀ (cs:Array Bool) (args:Array Value),builtin .max #[t,u,v] ty cs args=(do Pure.pure (.value (<-Builtin.max_ #[t,u,v] ty args))):=λ_ _=>rfl;rw[qay,h0];simp[Builtin.max_,Builtin.max2,qaf h hx,qaf h hy,qaf h hz]
  repeat' split
  all_goals omega⟩
theorem Pure.max2e{A B:Int}(a b:Nat)(hx:e.ev x=int k A)(hy:e.ev y=int k B)(ha:A=(a:Int))(hb:B=(b:Int)){t u:TypeId}:Pure C ⟨dst,.call { callee:=.builtin .max,args:=#[x,y],argTypes:=#[t,u] },ty,pos,aft,g⟩ e H (int k ((max a b:Nat):Int)):=by
 subst ha hb;exact Pure.max2 hx hy
theorem Pure.max3e{A B D:Int}(a b d:Nat)(hx:e.ev x=int k A)(hy:e.ev y=int k B)(hz:e.ev z=int k D)(ha:A=(a:Int))(hb:B=(b:Int))(hd:D=(d:Int)){t u v:TypeId}:Pure C ⟨dst,.call { callee:=.builtin .max,args:=#[x,y,z],argTypes:=#[t,u,v] },ty,pos,aft,g⟩ e H (int k ((max (max a b) d:Nat):Int)):=by
 subst ha hb hd;exact Pure.max3 hx hy hz
theorem Pure.eqlT{a b:Int}{xT yT:TypeId}(h:a=b)(hx:e.ev x=int k a)(hy:e.ev y=int k b):Pure C ⟨dst,.binOp .eql xT x y yT,ty,pos,aft,g⟩ e H (bool true):=by
 have:=Pure.eql (C:=C) (H:=H) (dst:=dst) (ty:=ty) (pos:=pos) (aft:=aft) (g:=g) (xT:=xT) (yT:=yT) hx hy
 rwa [decide_eq_true h] at this
theorem Pure.eqlF{a b:Int}{xT yT:TypeId}(h:¬ a=b)(hx:e.ev x=int k a)(hy:e.ev y=int k b):Pure C ⟨dst,.binOp .eql xT x y yT,ty,pos,aft,g⟩ e H (bool false):=by
 have:=Pure.eql (C:=C) (H:=H) (dst:=dst) (ty:=ty) (pos:=pos) (aft:=aft) (g:=g) (xT:=xT) (yT:=yT) hx hy
 rwa [decide_eq_false h] at this
def qdO(m:KV)(l:List (List UInt8)):Prop:=∀ k,kvGet m k=if k∈l then some (bool true) else none
theorem qdO.nil:qdO [] []:=λk=>by simp[kvGet]
theorem qdO.add{m:KV}{l:List (List UInt8)}(h:qdO m l)(s:List UInt8):qdO (kvPut m s (bool true)) (l++[s]):=λk=>by
 rw[kvGet_put,h k]
 by_cases h1:s=k
 rw[if_pos h1,if_pos (by rw[h1];simp)];rw[if_neg h1]
 by_cases h2:k∈l
 rw[if_pos h2,if_pos (List.mem_append_left _ h2)]
 rw[if_neg h2,if_neg (by
  intro h3;rcases List.mem_append.1 h3 with h3|h3;exact h2 h3
  exact h1 (List.mem_singleton.1 h3).symm)]
theorem Pure.setHas{t el:TypeId}{zv:Value} [h:TMap C.P t el zv (bool false)]{b clock:Nat}{m:KV}{l:List (List UInt8)}{s:List UInt8}(hm:e.ev x=.atom (.map (some b)))(hx:e.ev y=str s)(hb:(b,.map (kvs m) clock)∈H)(hs:qdO m l) :
  Pure C ⟨dst,.lookup t x y false,ty,pos,aft,g⟩ e H (bool (decide (s∈l))):=by
 by_cases h1:s∈l
 rw[decide_eq_true h1];exact Pure.kvHit hm hx hb (by rw[hs s,if_pos h1]);rw[decide_eq_false h1];exact Pure.kvMiss hm hx hb (by rw[hs s,if_neg h1])
end
def qbq(C:Ctx)(f:FuncId)(args:List LV)(u:FrameMode)(H:Heap)(R:FrameMode->Heap->Prop):Prop:=
 ∀ (vs:List Value) w L,RepL w L args vs->RelH C w L H->CallsD C.P f vs.toArray u w λe u' w'=>(∃ v,e=.returned v)/\qfk C w L H w' (R u')
def qj4(C:Ctx)(n:Nat)(rs:List ResultVar)(R:LRes->Heap->Prop):List Deferred->FrameMode->Env->Heap->Prop
 |[],.returning,e,H=>∃ vs H',qbW C n e H rs vs/\HSub H' H/\R (.ret (qbI vs)) H'
 |[],.panicking ch,_,H=>∃ H',HSub H' H/\R (.panic ch) H'
 |[],.run,_,_=>False
 |d::ds,u,e,H=>u≠.run/\∃ f cap H1 F,d={ target:=.fn (.func f) cap,args:=#[] }/\TEnter C.P f/\H.Perm (H1++F) /\
   qbq C f (cap.toList.map .atom) u H1 λu' H'=>qj4 C n rs R ds (settle u') e (H'++F)
def qqA(C:Ctx)(n:Nat)(w:World)(L:Live)(K:List Nat)(Q:Post):Exit->Act->World->Prop:=
 λx a' w'=>∃ e' H' L',Fr K w L w' L' H'/\RelH C w' L' H'/\RelE n a' e' w' L'/\Q x e' H'
theorem qjJ{C:Ctx}{n:Nat}{w w1:World}{L L1:Live}{K:List Nat}{H1:Heap}{Q:Post}(f:Fr K w L w1 L1 H1){x:Exit}{a:Act}{w':World}
  (k:qqA C n w1 L1 (keys H1) Q x a w'):qqA C n w L K Q x a w':=
 let ⟨e',H',L',h1,h2,h3,h4⟩:=k
 ⟨e',H',L',f.trans h1,h2,h3,h4⟩
def qcc(C:Ctx)(n:Nat)(ops:Array Oper)(Q:Post)(rest:List Oper)(e:Env)(H:Heap):Prop:=
 ∀ a w L,RelE n a e w L->RelH C w L H->wpList C.P ops (qqA C n w L (keys H) Q) rest a w
def qaU(C:Ctx)(n:Nat)(c:Code)(Q:Post)(e:Env)(H:Heap):Prop:=
 ∀ a w L,RelE n a e w L->RelH C w L H->c.wp C.P (qqA C n w L (keys H) Q) a w
section P
variable{C:Ctx}{n:Nat}{ops:Array Oper}{Q:Post}{e:Env}{H:Heap}
theorem qcc.nil(h:Q .normal e H):qcc C n ops Q [] e H:=λ_ _ L hE hH=>⟨e,H,L,Fr.refl _ _ _,hH,hE,h⟩
theorem qcc.step{dst:Option Nat}{op:Op}{ty:TypeId}{pos:String}{aft:Array Edge}{rest:List Oper}
  (h:qae C ⟨dst,op,ty,pos,aft,none⟩ e H (λlv H'=>qcc C n ops Q rest (e.put dst lv) H') (λch H'=>Q (.panic ch) e H'))
  (hd:qc5 n dst):qcc C n ops Q (⟨dst,op,ty,pos,aft,none⟩::rest) e H:=λa w L hE hH=>by
 unfold wpList;rw[if_pos (by simp[Region.wanted])];have hs:=h a.eval w L hE.ev hH;refine .inl ?_;unfold Oper.wp
 have left:∀ {w' v},Left C w L H w' v (λlv H'=>qcc C n ops Q rest (e.put dst lv) H')->wpList C.P ops (qqA C n w L (keys H) Q) rest (a.put dst v) w':=λh=>by
  obtain⟨lv,H',L',h1,h2,h3,h4⟩:=h;exact qbC (λ_ _ _=>qjJ h1) _ _ _ (h4 _ _ L' ((hE.mono h1.ext).put hd h3) h2)
 have leftX:∀ {w' ch},qfk C w L H w' (λH'=>Q (.panic ch) e H')->qqA C n w L (keys H) Q (.panic ch) a w':=λh=>by
  obtain⟨H',L',h1,h2,h3⟩:=h;exact⟨e,H',L',h1,h2,hE.mono h1.ext,h3⟩
 generalize (execOp a.eval ⟨dst,op,ty,pos,aft,none⟩).run C.P w=r at hs ⊢;unfold qe3 at hs;split at hs;exact left hs;exact left hs;obtain⟨rfl,hs⟩:=hs;refine Calls.mono hs λe w' he=>?_
 cases e with
 |returned v=>exact left he
 |panicked ch=>exact leftX he
 |outgrown=>exact he.elim
 exact leftX hs;exact hs.elim
theorem qcc.pure{dst:Option Nat}{op:Op}{ty:TypeId}{pos:String}{aft:Array Edge}{rest:List Oper}{lv:LV}
  (h:Pure C ⟨dst,op,ty,pos,aft,none⟩ e H lv) (hd:qc5 n dst) (k:qcc C n ops Q rest (e.put dst lv) H):qcc C n ops Q (⟨dst,op,ty,pos,aft,none⟩::rest) e H:=
 qcc.step (h.step k) hd
theorem qaU.region{id:Nat}{l:List Oper}(h:qcc C n l.toArray Q l e H):qaU C n (.region id l.toArray false) Q e H:=λa w L hE hH=>wp_region_lit (h a w L hE hH)
theorem qaU.ret(h:Q .ret e H):qaU C n .ret Q e H:=λ_ _ L hE hH=>wp_ret ⟨e,H,L,Fr.refl _ _ _,hH,hE,h⟩
theorem qaU.seq{x y:Code}(h:qaU C n x (qax (λe H=>qaU C n y Q e H) Q) e H):qaU C n (.seq x y) Q e H:=λa w L hE hH=>by
 refine wp_seq (Go.wp_mono (h a w L hE hH) λex a' w' hq=>?_);obtain⟨e',H',L',h1,h2,h3,h4⟩:=hq
 cases ex with
 |normal=>exact Go.wp_mono (h4 a' w' L' h3 h2) λ_ _ _=>qjJ h1
 |exit id=>exact⟨e',H',L',h1,h2,h3,h4⟩
 |goto id=>exact⟨e',H',L',h1,h2,h3,h4⟩
 |ret=>exact⟨e',H',L',h1,h2,h3,h4⟩
 |panic ch=>exact⟨e',H',L',h1,h2,h3,h4⟩
 |outgrown=>exact⟨e',H',L',h1,h2,h3,h4⟩
theorem qaU.block{id:Nat}{c:Code}(h:qaU C n c (qam id Q) e H):qaU C n (.block id c) Q e H:=λa w L hE hH=>by
 refine wp_block (Go.wp_mono (h a w L hE hH) λex a' w' hq=>?_);obtain⟨e',H',L',h1,h2,h3,h4⟩:=hq
 cases ex with
 |exit id'=>
  simp only[Exit.inBlock,qam] at h4 ⊢;split
  rename_i hid;rw[if_pos hid] at h4;exact⟨e',H',L',h1,h2,h3,h4⟩
  rename_i hid;rw[if_neg hid] at h4;exact⟨e',H',L',h1,h2,h3,h4⟩
 |normal=>exact⟨e',H',L',h1,h2,h3,h4⟩
 |goto id=>exact⟨e',H',L',h1,h2,h3,h4⟩
 |ret=>exact⟨e',H',L',h1,h2,h3,h4⟩
 |panic ch=>exact⟨e',H',L',h1,h2,h3,h4⟩
 |outgrown=>exact⟨e',H',L',h1,h2,h3,h4⟩
def QNo(Q:Post):Post
 |.panic _,_,_=>False
 |x,e,H=>Q x e H
theorem qaU.of{c:Code}(h:qag C n c (QNo Q) e H):qaU C n c Q e H:=λa w L hE hH=>by
 refine Go.wp_mono (h a w L hE hH) λex a' w' hq=>?_;obtain⟨e',H',L',h1,h2,h3,h4⟩:=hq
 cases ex with
 |panic ch=>exact h4.elim
 |normal=>exact⟨e',H',L',h1,h2,h3,h4⟩
 |exit id=>exact⟨e',H',L',h1,h2,h3,h4⟩
 |goto id=>exact⟨e',H',L',h1,h2,h3,h4⟩
 |ret=>exact⟨e',H',L',h1,h2,h3,h4⟩
 |outgrown=>exact⟨e',H',L',h1,h2,h3,h4⟩
theorem QNo.normal{k:Env->Heap->Prop}(h:k e H):QNo (qax k Q) .normal e H:=h
theorem QNo.ret(h:Q .ret e H):QNo Q .ret e H:=h
end P
def qb6(C:Ctx)(n:Nat)(rs:List ResultVar)(R:LRes->Heap->Prop):Post
 |.normal,e,H|.ret,e,H=>qj4 C n rs R e.ds .returning e H
 |.panic ch,e,H=>qj4 C n rs R e.ds (.panicking ch) e H
 |_,_,_=>False
theorem qtD{C:Ctx}{n:Nat}{fn:Func}{R:LRes->Heap->Prop}{w0:World}{L0:Live}{H0:Heap}(h3:fn.results.size<=3)(tmps:Array Value):∀ (ds:List Deferred) (u:FrameMode) (e:Env) (H:Heap) (w:World) (L:Live),tmps.size=n->(∀ i,Rep w L (e.s i) (tmps.getD i undef))->RelH C w L H->Fr (keys H0) w0 L0 w L H ->
  qj4 C n fn.results.toList R ds u e H->Leaves C.P fn tmps (qcG C w0 L0 H0 (λv=>R (.ret v)) (λch=>R (.panic ch))) ds u w
 |[],.returning,e,H,w,L,hn,hv,hH,hF,h=>by
  obtain⟨vs,H',h1,h2,h5⟩:=h;obtain⟨v,r1,r2⟩:=qhW (a:={ tmps,defers:=e.ds }) ⟨hn,rfl,hv⟩ hH h1 h3
  exact⟨v,r1,qbI vs,H',L,hF.weak h2,hH.weak h2,r2,h5⟩
 |[],.panicking ch,e,H,w,L,hn,hv,hH,hF,h=>by
  obtain⟨H',h2,h5⟩:=h
  exact⟨H',L,hF.weak h2,hH.weak h2,h5⟩
 |[],.run,e,H,w,L,hn,hv,hH,hF,h=>h.elim
 |d::ds,u,e,H,w,L,hn,hv,hH,hF,h=>by
  obtain⟨hu,f,cap,H1,F,rfl,hen,hp,hc⟩:=h;refine⟨hu,.func f,cap,f,cap,rfl,by simp[invoke,qfu],?_⟩;have hH':=hH.perm hp;have:=hc cap.toList w L (qa3 _) hH'.left;simp only[Array.toArray_toList] at this;refine CallsD.mono this ?_;rintro ex u' w' ⟨⟨v,rfl⟩,hx⟩;obtain⟨H',L',g1,g2,g3⟩:=qfk.frame hH' hx;exact qtD h3 tmps ds (settle u') e H' w' L' hn (λi=>(hv i).mono g1.ext _ _) g2 (hF.trans (g1.perm hp.symm)) g3
theorem qbq.mono{C:Ctx}{f:FuncId}{args:List LV}{u:FrameMode}{H:Heap}{R R':FrameMode->Heap->Prop}(h:qbq C f args u H R)(hr:∀ u H,R u H->R' u H):qbq C f args u H R':=λvs w L h1 h2=>
 CallsD.mono (h vs w L h1 h2) λ_ _ _ ⟨h3,h4⟩=>⟨h3,h4.mono (hr _)⟩
theorem LCalls.introD{C:Ctx}{f:FuncId}{fn:Func}{c:Code}{n:Nat}{args:List LV}{H:Heap}{R:LRes->Heap->Prop}(hf:C.P.funcs[f]? = some fn)(hb:fn.body=some c)(hn:fn.ntmps=n)(h3:Nat.ble fn.results.size 3=true)
  (hl:Nat.ble args.length n=true) (h:qaU C n c (qb6 C n fn.results.toList R) (qfC args) H):LCalls C f args H R:=λvs w L hv hH=>by
 subst hn;have hl':args.length<=fn.ntmps:=by simpa using hl
 have h3':fn.results.size<=3:=by simpa using h3
 have hlen:=hv.length;refine calls_of_wp_defers hf hb (Go.wp_mono (h _ w L ⟨?_,rfl,λi=>?_⟩ hH) λex a' w' hq=>?_)
 simp;omega
 exact zT0;obtain⟨e',H',L',g1,g2,g3,g4⟩:=hq
 have ret:∀ u,qj4 C fn.ntmps fn.results.toList R e'.ds u e' H'->Leaves C.P fn a'.tmps (qcG C w L H (λv=>R (.ret v)) (λch=>R (.panic ch))) a'.defers u w':=λu hu=>by
  rw[g3.ds];exact qtD h3' a'.tmps _ u e' H' w' L' g3.size g3.vals g2 g1 hu
 cases ex with
 |normal=>exact ret _ g4
 |ret=>exact ret _ g4
 |panic ch=>exact ret _ g4
 |exit id=>exact g4.elim
 |goto id=>exact g4.elim
 |outgrown=>exact g4.elim
abbrev qm8:=Exit->FrameMode->Env->Heap->Prop
def qd4(C:Ctx)(n:Nat)(c:Code)(Q:qm8)(u:FrameMode)(e:Env)(H:Heap):Prop:=
 ∀ a w L (c0:Frame) cs,c0.mode=u->RelE n a e w L->RelH C w L H ->
  c.wpS C.P (λx a' cs' w'=>∃ u' e' H' L',cs'={ c0 with mode:=u' }::cs/\Fr (keys H) w L w' L' H'/\RelH C w' L' H'/\RelX n x a' e' w' L'/\Q x u' e' H') a (c0::cs) w
theorem qmk{P:Program}{c:Code}{Q Q':Exit->Act->List Frame->World->Prop}{a:Act}{cs:List Frame}{w:World}(h:c.wpS P Q a cs w)(hq:∀ x a cs w,Q x a cs w->Q' x a cs w):c.wpS P Q' a cs w:=λb k h1 h2=>
 let ⟨e,a',cs',w',q,r⟩:=h b k h1 h2
 ⟨e,a',cs',w',hq _ _ _ _ q,r⟩
section S
variable{C:Ctx}{n:Nat}{Q:qm8}{u:FrameMode}{e:Env}{H:Heap}
theorem qd4.of{c:Code}(h:qag C n c (λx e H=>Q x u e H) e H):qd4 C n c Q u e H:=λa w L c0 cs hu hE hH=>by
 refine wpS_of_wp (Go.wp_mono (h a w L hE hH) λx a' w' hq=>?_);obtain⟨e',H',L',h1,h2,h3,h4⟩:=hq;exact⟨u,e',H',L',by subst hu;rfl,h1,h2,h3,h4⟩
theorem qd4.seq{x y:Code}(h:qd4 C n x (λex u' e' H'=>match ex with|.normal=>qd4 C n y Q u' e' H'|ex=>Q ex u' e' H') u e H):qd4 C n (.seq x y) Q u e H:=λa w L c0 cs hu hE hH=>by
 refine wpS_seq (qmk (h a w L c0 cs hu hE hH) λex a' cs' w' hq=>?_);obtain⟨u',e',H',L',rfl,h1,h2,h3,h4⟩:=hq
 cases ex with
 |normal=>
  refine qmk (h4 a' w' L' { c0 with mode:=u' } cs rfl h3 h2) ?_;rintro ex a2 cs2 w2 ⟨u2,e2,H2,L2,rfl,g1,g2,g3,g4⟩
  exact⟨u2,e2,H2,L2,rfl,h1.trans g1,g2,g3,g4⟩
 |exit id=>exact⟨u',e',H',L',rfl,h1,h2,h3,h4⟩
 |goto id=>exact⟨u',e',H',L',rfl,h1,h2,h3,h4⟩
 |ret=>exact⟨u',e',H',L',rfl,h1,h2,h3,h4⟩
 |panic ch=>exact⟨u',e',H',L',rfl,h1,h2,h3,h4⟩
 |outgrown=>exact⟨u',e',H',L',rfl,h1,h2,h3,h4⟩
def qik:FrameMode->Value×FrameMode
 |.panicking ({ v,recovered:=false,goexit:=false }::older)=>(v,.panicking ({ v,recovered:=true }::older))
 |u=>(.nilIface,u)
theorem qou{P:Program}{ρ:Operand->Value}{dst:Option Nat}{ty:TypeId}{pos:String}{aft:Array Edge}{g:Option (Nat×Bool)}(w:World) :
  (execOp ρ ⟨dst,.call { callee:=.builtin .recover,args:=#[],argTypes:=#[] },ty,pos,aft,g⟩).run P w=.ok .recover w:=by
 rfl
theorem qn9(c0:Frame)(cs:List Frame):recoverD (c0::cs)=none/\qik c0.mode=(.nilIface,c0.mode)∨recoverD (c0::cs)=some ((qik c0.mode).1,{ c0 with mode:=(qik c0.mode).2 }::cs):=by
 obtain⟨fn,tmps,todo,defers,mode,kind,ro⟩:=c0
 cases mode with
 |run=>exact .inl ⟨rfl,rfl⟩
 |returning=>exact .inl ⟨rfl,rfl⟩
 |panicking ch=>
  cases ch with
  |nil=>exact .inl ⟨rfl,rfl⟩
  |cons p older=>
   obtain⟨v,r,g⟩:=p;cases r <;> cases g <;> first|exact .inl ⟨rfl,rfl⟩|exact .inr rfl
theorem qd4.recover{id t s:Nat}{ty ty':TypeId}{pos pos':String}{aft aft':Array Edge}(ht:Nat.blt t n=true)(hs:Nat.blt s n=true)(h:Q .normal (qik u).2 ((e.upd t (.atom (qik u).1)).upd s (.atom (qik u).1)) H) :
  qd4 C n (.region id #[⟨some t,.call { callee:=.builtin .recover,args:=#[],argTypes:=#[] },ty,pos,aft,none⟩,⟨some s,.assign (.tmp t),ty',pos',aft',none⟩] false) Q u e H:=λa w L c0 cs hu hE hH=>by
 refine wpS_region ?_;have hE1:∀ v,RelE n (a.put (some t) v) (e.upd t (.atom v)) w L:=λv=>hE.put (dst:=some t) (by simp only[qc5,dstB];exact ht) qai
 have hev:∀ v,(a.put (some t) v).eval (.tmp t)=v:=λv=>by
  have:=(hE1 v).ev (.tmp t);simpa [Env.ev,Env.upd,Rep] using this
 have hE2:∀ v,RelE n ((a.put (some t) v).put (some s) v) ((e.upd t (.atom v)).upd s (.atom v)) w L:=λv=>(hE1 v).put (dst:=some s) (by simp only[qc5,dstB];exact hs) qai
 have h1:∀ v cs1,wpOpsS C.P #[⟨some t,.call { callee:=.builtin .recover,args:=#[],argTypes:=#[] },ty,pos,aft,none⟩,⟨some s,.assign (.tmp t),ty',pos',aft',none⟩] (λx a' cs' w'=>∃ u' e' H' L',cs'={ c0 with mode:=u' }::cs/\Fr (keys H) w L w' L' H'/\RelH C w' L' H'/\RelX n x a' e' w' L'/\Q x u' e' H') [1] (a.put (some t) v) cs1 w
   ↔ (λx a' cs' w'=>∃ u' e' H' L',cs'={ c0 with mode:=u' }::cs/\Fr (keys H) w L w' L' H'/\RelH C w' L' H'/\RelX n x a' e' w' L'/\Q x u' e' H') Exit.normal ((a.put (some t) v).put (some s) v) cs1 w:=by
  intro v cs1;have hr:(execOp (a.put (some t) v).eval ⟨some s,.assign (.tmp t),ty',pos',aft',none⟩).run C.P w=.ok (.value ((a.put (some t) v).eval (.tmp t))) w:=rfl;simp only[wpOpsS,List.getElem?_toArray,List.getElem?_cons_succ,List.getElem?_cons_zero,Region.wanted,if_true,hr,Oper.upon,hev]
 have h0:(execOp a.eval ⟨some t,.call { callee:=.builtin .recover,args:=#[],argTypes:=#[] },ty,pos,aft,none⟩).run C.P w=.ok .recover w:=qou w;have hl:List.range (#[(⟨some t,.call { callee:=.builtin .recover,args:=#[],argTypes:=#[] },ty,pos,aft,none⟩:Oper),⟨some s,.assign (.tmp t),ty',pos',aft',none⟩]:Array Oper).size=[0,1]:=rfl;rw[hl,wpOpsS];simp only[List.getElem?_toArray,List.getElem?_cons_zero,Region.wanted,if_true,h0];rcases qn9 c0 cs with⟨h2,h3⟩|h2;simp only[h2];rw[h1];subst hu;rw[h3] at h;exact⟨c0.mode,_,H,L,rfl,Fr.refl _ _ _,hH,hE2 _,h⟩;simp only[h2];rw[h1];subst hu;exact⟨_,_,H,L,rfl,Fr.refl _ _ _,hH,hE2 _,h⟩
def quL(R:FrameMode->Heap->Prop):qm8
 |.normal,u,e,H|.ret,u,e,H=>e.ds=[]/\∃ H',HSub H' H/\R u H'
 |_,_,_,_=>False
theorem qbq.intro{f:FuncId}{fn:Func}{c:Code}{args:List LV}{R:FrameMode->Heap->Prop}(hf:C.P.funcs[f]? = some fn)(hb:fn.body=some c)(hn:fn.ntmps=n)(h3:fn.results=#[])
  (hl:Nat.ble args.length n=true) (h:qd4 C n c (quL R) u (qfC args) H):qbq C f args u H R:=λvs w L hv hH=>by
 subst hn;have hl':args.length<=fn.ntmps:=by simpa using hl
 have hlen:=hv.length
 have hE0:RelE fn.ntmps { tmps:=vs.toArray++Array.replicate (fn.ntmps-vs.toArray.size) undef,defers:=[] } (qfC args) w L:=by
  refine⟨?_,rfl,λi=>?_⟩
  simp;omega
  exact zT0
 refine callsD_of_wpS hf hb λc0 cs hu=>qmk (h _ w L c0 cs hu hE0 hH) λex a' cs' w' hq=>?_;obtain⟨u',e',H',L',rfl,g1,g2,g3,g4⟩:=hq
 have fin:RelE fn.ntmps a' e' w' L'->(e'.ds=[]/\∃ H'',HSub H'' H'/\R u' H'')->a'.defers=[]/\∃ u'',({ c0 with mode:=u' }::cs:List Frame)={ c0 with mode:=u'' }::cs/\∃ v,(results fn a'.tmps).run C.P w'=.ok v w'/\(∃ v',Ending.returned v=.returned v')/\qfk C w L H w' (R u''):=λhE ⟨h1,H'',h2,h4⟩=>
  ⟨hE.ds.trans h1,u',rfl,_,qpL h3 _ _,⟨_,rfl⟩,H'',L',g1.weak h2,g2.weak h2,h4⟩
 cases ex with
 |normal=>exact fin g3 g4
 |ret=>exact fin g3 g4
 |panic ch=>exact g4.elim
 |exit id=>exact g4.elim
 |goto id=>exact g4.elim
 |outgrown=>exact g4.elim
end S
section defer
variable{C:Ctx}{n:Nat}{ops:Array Oper}{Q:Post}{e:Env}{H:Heap}
theorem qcc.defer{dst:Option Nat}{fo:Operand}{f:FuncId}{caps:Array Value}{ty:TypeId}{pos:String}{aft:Array Edge}{rest:List Oper}(hf:e.ev fo=.atom (.func (.func f) #[] caps))(hd:dst=none)
  (k:qcc C n ops Q rest ⟨e.s,{ target:=.fn (.func f) caps,args:=#[] }::e.ds⟩ H):qcc C n ops Q (⟨dst,.defer { callee:=.value fo,args:=#[],argTypes:=#[] },ty,pos,aft,none⟩::rest) e H:=λa w L hE hH=>by
 subst hd;have hv:=hE.ev fo;rw[hf] at hv;simp only[Rep] at hv
 have hr:(execOp a.eval ⟨none,.defer { callee:=.value fo,args:=#[],argTypes:=#[] },ty,pos,aft,none⟩).run C.P w=.ok (.defer { target:=.fn (.func f) caps,args:=#[] }) w:=by
  have h3:execOp a.eval ⟨none,.defer { callee:=.value fo,args:=#[],argTypes:=#[] },ty,pos,aft,none⟩=(do let d <-Deferred.ofValue (a.eval fo) ((#[]:Array Operand).map a.eval);Pure.pure (.defer d)):=rfl;rw[h3,hv];simp only[Deferred.ofValue,map_toArray,map_nil];rfl
 unfold wpList;rw[if_pos (by simp[Region.wanted])];refine .inl ?_;unfold Oper.wp;rw[hr];simp only[Oper.upon,Act.put];exact k _ w L ⟨hE.size,by show _::a.defers=_;rw[hE.ds],hE.vals⟩ hH
end defer
inductive MRow (el:TypeId) (s:Nat):Value->List LV->Heap->Prop
 |nil:MRow el s (.slice none 0 0) [] []
 |row {b cap:Nat} {es spare:List LV} (hs:∀ v∈es,v.cells.length=s) (hc:es.length<=cap) (hl:es.length * s+spare.length=cap * s) :
   MRow el s (.slice (some ⟨b,0,none⟩) es.length cap) es [(b,.cells el (es.flatMap LV.cells++spare))]
section
variable{C:Ctx}{e:Env}{H:Heap}{x y:Operand}{dst:Option Nat}{ty:TypeId}{pos:String}{aft:Array Edge}{g:Option (Nat×Bool)}{K:LV->Heap->Prop}{X:List PanicEntry->Heap->Prop}
theorem qnR{w:World}{L:Live}(hH:RelH C w L []){el s cap:Nat}{es:List LV}{xs rest:List Value}(hr:RepL w L (es.flatMap LV.cells) xs)(hs:∀ v∈es,v.cells.length=s)(hc:es.length<=cap)(hl:es.length * s+rest.length=cap * s)
  (hk:∀ v' H',MRow el s v' es H'->K (.atom v') H') :
  Left C w L [] (World.push w (.cells (xs++rest).toArray el)) (.slice (some ⟨w.heap.size,0,none⟩) es.length cap) K:=by
 have hx:=qeq hH.wf (.cells (xs++rest).toArray el) 0
 have:=qex hH (.cells (xs++rest).toArray el) 0 [(w.heap.size,.cells el (es.flatMap LV.cells++rest.map .atom))] (λp hp=>by
  simp only[mem_singleton] at hp;subst hp
  exact⟨rfl,by simp[Live.upd],xs++rest,qaG,RepL.append (hr.mono hx _ _) (qa3 rest)⟩) (by simp)
 exact⟨.atom _,_,_,this.1,this.2,qai,hk _ _ (MRow.row hs hc (by simpa using hl))⟩
theorem qae.appM{sT xT el s bytes:Nat} [ht:TSlice C.P sT el s] [hr:TRow C.P el s bytes]{e2 s2:Nat} [hx2:TSlice C.P xT e2 s2]{v:Value}{es ms:List LV}
  (hx:e.ev x=.atom v) (ha:MRow el s v es H) (hy:GL.elems (e.ev y)=some ms) (hms:∀ v∈ms,v.cells.length=s) (hok:(ms.flatMap LV.cells).all qc0=true) (hroom:(es.length+ms.length) * bytes<=140737488355328)
  (hk:∀ v' H',MRow el s v' (es++ms) H'->K (.atom v') H'):qae C ⟨dst,.call { callee:=.builtin .append,args:=#[x,y],argTypes:=#[sT,xT] },ty,pos,aft,g⟩ e H K X:=by
 have h0:∀ (cs:Array Bool) (args:Array Value),builtin .append #[sT,xT] ty cs args=(do Pure.pure (.value (<-Builtin.append_ #[sT,xT] ty args))):=λ_ _=>rfl
 cases ha with
 |nil=>
  by_cases hne:ms=[]
  subst hne;exact qae.appendNilNil rfl ⟨e2,hx2.und⟩ hx hy (hk _ _ MRow.nil);intro ρ w L h hH;have hpos:0<ms.length:=List.length_pos_iff.2 hne;obtain⟨ay,cy,new,hyv,hyc,hyr,hyl,hyf⟩:=qcK (s:=s) (h y) hy hms;rw[hyv] at hyf;have hlen:∀ w':World,(Builtin.lenOf (.slice ay ms.length cy)).run C.P w'=.ok ms.length w':=λw'=>by simp[Builtin.lenOf]
  obtain⟨cap',rest,r1,r2,r3⟩:=qbw (ty:=ty) (P:=C.P) (w:=w) (sT:=sT) (xT:=xT) (a:=none) (len:=0) (cap:=0) (n:=ms.length) (xv:=.slice ay ms.length cy) (old:=[]) (new:=new) (.inr ⟨_,hx2.und⟩) hlen (λw' hw=>hyf C.P w' hw)
   (λw' _=>by simp[Builtin.firstCells]) (by simpa using hroom) zo
  rw[qay,h0];simp only[map_toArray,zMc,map_nil,Sem.run_bind,qaf h hx,hyv,r3,Result.andThen_ok,Sem.run_pure,nil_append,zero_add]
  obtain⟨lv,H',L',g1,g2,g3,g4⟩:=qnR (K:=K) (el:=el) (es:=ms) (cap:=cap') (xs:=new) (rest:=rest) hH.drew (hyr.mono (qeh w L) _ _) hms zo (by
   rw[r2,<-add_mul];congr 1;omega) (λv' H' h'=>hk v' H' h')
  exact⟨lv,H',L',g1.of_drew,g2,g3,g4⟩
 |row hs hc hl=>
  rename_i b cap spare
  intro ρ w L h hH;obtain⟨hb0,hbs,hlb,zs,hz1,hz2⟩:=hH.objs _ (List.mem_singleton.2 rfl);simp only at hb0 hbs hlb hz1;obtain⟨ay,cy,new,hyv,hyc,hyr,hyl,hyf⟩:=qcK (s:=s) (h y) hy hms;rw[hyv] at hyf;have hlen:∀ w':World,(Builtin.lenOf (.slice ay ms.length cy)).run C.P w'=.ok ms.length w':=λw'=>by simp[Builtin.lenOf]
  have hfl:(es.flatMap LV.cells).length=es.length * s:=qda hs;have hzl:zs.length=es.length * s+spare.length:=by rw[hz2.length,zLa,hfl]
  have hzt:RepL w L (es.flatMap LV.cells) (zs.take (es.length * s)):=by
   have:=hz2.take (es.length * s)
   rwa [List.take_left' hfl] at this
  rw[qay,h0];simp only[map_toArray,zMc,map_nil,Sem.run_bind,qaf h hx,hyv]
  by_cases hcc:es.length+ms.length<=cap
  have hrun:=qdF (ty:=ty) (P:=C.P) (w:=w) (sT:=sT) (xT:=xT) (s:=s) (a:=some ⟨b,0,none⟩) (len:=es.length) (cap:=cap) (n:=ms.length) (xv:=.slice ay ms.length cy) (new:=new) (.inr ⟨_,hx2.und⟩) hlen (λw' hw=>hyf C.P w' hw) hcc;have hmul:(es.length+ms.length) * s<=cap * s:=Nat.mul_le_mul_right _ hcc;rw[add_mul] at hmul;obtain⟨w',r1,r2,r3,r4,r5,r6,r7⟩:=qcb (P:=C.P) (b:=b) (off:=0+es.length * s) (t:=el) (fr:=(0,0)) new 0 w zs hz1 zo (λj _ _=>by simp) (qi6 hyr hok);rw[hrun];simp only[add_mk,r1,Result.andThen_ok,Sem.run_pure];have he:0+es.length * s+0=es.length * s:=by omega
  rw[he] at r7;have hnl:new.length=ms.length * s:=hyl
  have hdr:RepL w L (spare.drop (ms.length * s)) (zs.drop (es.length * s+new.length)):=by
   have:=hz2.drop (es.length * s+new.length)
   rwa [List.drop_append,List.drop_eq_nil_of_le zo,nil_append,hfl,show es.length * s+new.length-es.length * s=ms.length * s by omega] at this
  refine qeR (v:=.slice (some ⟨b,0,none⟩) (es.length+ms.length) cap) (lv:=.atom (.slice (some ⟨b,0,none⟩) (es.length+ms.length) cap)) (K:=K) (cs':=es.flatMap LV.cells++ms.flatMap LV.cells++spare.drop (ms.length * s)) hH r2 r3 r4 r5 r6 r7 ?_ (RepL.append (RepL.append hzt hyr) hdr) qai ?_;simp only[zLa,length_take,length_drop,hfl];omega
  have hb:MRow el s (.slice (some ⟨b,0,none⟩) (es++ms).length cap) (es++ms) [(b,.cells el ((es++ms).flatMap LV.cells++spare.drop (ms.length * s)))]:=MRow.row (λv hv=>by
    rcases List.mem_append.1 hv with hv|hv;exact hs v hv;exact hms v hv) (by rw[zLa];exact hcc) (by
    rw[zLa,length_drop,add_mul]
    omega)
  rw[zLa,List.flatMap_append] at hb;exact hk _ _ hb
  have hold:∀ w':World,w'.heap=w.heap->(Builtin.firstCells s es.length (.slice (some ⟨b,0,none⟩) es.length cap)).run C.P w'=.ok (zs.take (es.length * s)).toArray w':=λw' hw=>by
   have:=qbz (P:=C.P) (w:=w') (b:=b) (off:=0) (es.length * s) 0 #[] (zs.take (es.length * s)) (by rw[length_take];omega) (λj x' hj=>by
    have hj':zs[j]? = some x':=by
     rw[List.getElem?_take] at hj;split at hj;exact hj;cases hj
    simp[World.cell?,hw,hz1,hj'])
   simp only[Builtin.firstCells,loadCells,this]
   simp
  obtain⟨cap',rest,r1,r2,r3⟩:=qbw (ty:=ty) (P:=C.P) (w:=w) (sT:=sT) (xT:=xT) (a:=some ⟨b,0,none⟩) (len:=es.length) (cap:=cap) (n:=ms.length) (xv:=.slice ay ms.length cy) (old:=zs.take (es.length * s)) (new:=new) (.inr ⟨_,hx2.und⟩) hlen (λw' hw=>hyf C.P w' hw) hold hroom zo;rw[r3];simp only[Result.andThen_ok,Sem.run_pure];have hH0:RelH C w L []:=hH.sub (List.nil_sublist _)
  obtain⟨lv,H',L',g1,g2,g3,g4⟩:=qnR (K:=K) (el:=el) (s:=s) (es:=es++ms) (cap:=cap') (xs:=zs.take (es.length * s)++new) (rest:=rest) hH0.drew (by
    rw[List.flatMap_append];exact(RepL.append hzt hyr).mono (qeh w L) _ _) (λv hv=>by
    rcases List.mem_append.1 hv with hv|hv;exact hs v hv;exact hms v hv) (by rw[zLa];omega) (by
    rw[r2,zLa,<-add_mul];congr 1;omega) (λv' H' h'=>hk v' H' h')
  rw[zLa] at g3;exact⟨lv,H',L',g1.of_drew.wide (by simp),g2,g3,g4⟩
theorem S.appM{sT xT el s bytes:Nat} [ht:TSlice C.P sT el s] [hr:TRow C.P el s bytes]{e2 s2:Nat} [hx2:TSlice C.P xT e2 s2]{v:Value}{es ms:List LV}{HM F:Heap}
  (hx:e.ev x=.atom v) (hp:H.Perm (HM++F)) (ha:MRow el s v es HM) (hy:GL.elems (e.ev y)=some ms) (hms:∀ v∈ms,v.cells.length=s) (hok:(ms.flatMap LV.cells).all qc0=true) (hroom:(es.length+ms.length) * bytes<=140737488355328)
  (hk:∀ v' H',MRow el s v' (es++ms) H'->K (.atom v') (F++H')):qae C ⟨dst,.call { callee:=.builtin .append,args:=#[x,y],argTypes:=#[sT,xT] },ty,pos,aft,g⟩ e H K X:=by
 refine qae.conseq (K:=λlv H'=>∃ v' H2,lv=.atom v'/\H'=H2++F/\MRow el s v' (es++ms) H2) (qae.frame hp (qae.appM hx ha hy hms hok hroom λv' H' h=>⟨v',H',rfl,rfl,h⟩)) ?_;rintro lv H' ⟨v',H2,rfl,rfl,h⟩;exact⟨_,F++H2,vR _,⟨[],by simpa using zPc⟩,hk _ _ h⟩
theorem Pure.mlen{t el el2 s s2:Nat} [TSlice C.P t el2 s2]{v:Value}{es:List LV}{Hv:Heap}(hx:e.ev x=.atom v)(ha:MRow el s v es Hv):Pure C ⟨dst,.call { callee:=.builtin .len,args:=#[x],argTypes:=#[t] },ty,pos,aft,g⟩ e H (int .i64 es.length):=by
 cases ha with
 |nil=>exact Pure.rowLen (m:=0) hx
 |row=>exact Pure.rowLen hx
end
theorem quf(P:List LV):∀ (Q:List LV) (f:Nat) (vs:List LV),setL (P++Q) (P.length+f) vs=P++setL Q f vs:=by
 induction P with
 |nil=>intro Q f vs;simp
 |cons p P ih=>
  intro Q f vs;have:(p::P).length+f=(P.length+f)+1:=by simp only[zLc];omega
  rw[this];show setL (p::(P++Q)) (P.length+f+1) vs=_;rw[setL,ih]
  try rfl
section
variable{C:Ctx}{e:Env}{H:Heap}{x y:Operand}{dst:Option Nat}{ty:TypeId}{pos:String}{aft:Array Edge}{g:Option (Nat×Bool)}{K:LV->Heap->Prop}{X:List PanicEntry->Heap->Prop}
theorem MRow.addr{el s:Nat}{v:Value}{es:List LV}{HM:Heap}(h:MRow el s v es HM)(hne:es≠[]):∃ b cap spare,v=.slice (some ⟨b,0,none⟩) es.length cap/\HM=[(b,.cells el (es.flatMap LV.cells++spare))]/\es.length<=cap/\es.length * s+spare.length=cap * s:=by
 cases h with
 |nil=>exact absurd rfl hne
 |row hs hc hl=>exact⟨_,_,_,rfl,rfl,hc,hl⟩
end
section settle
variable{C:Ctx}{n:Nat}{Q:Post}{e:Env}{H F:Heap}
end settle
section
variable{C:Ctx}{e:Env}{H:Heap}{x y:Operand}{dst:Option Nat}{ty:TypeId}{pos:String}{aft:Array Edge}{g:Option (Nat×Bool)}{K:LV->Heap->Prop}{X:List PanicEntry->Heap->Prop}
theorem Pure.indexRowE{t el s:Nat} [ht:TSlice C.P t el s]{b off m cap o:Nat}{n:Int}{k:IntKind}(hx:e.ev x=.atom (.slice (some ⟨b,off,none⟩) m cap))(hy:e.ev y=int k n)(h0:0<=n)(hn:n<m)(ho:off+n.toNat * s=o) :
  Pure C ⟨dst,.indexAddr t x y,ty,pos,aft,g⟩ e H (ptr b o):=ho▸Pure.indexRow hx hy h0 hn
theorem Pure.lsliceE{t el s:Nat}{lo hi:Option Operand}{es ms:List LV}{i j:Int} [ht:TSlice C.P t el s](hx:elems (e.ev x)=some es)
  (hlo:qeX e lo 0 i) (hhi:qeX e hi es.length j) (h0:0<=i) (h1:i<=j) (h2:j<=es.length) (hs:∀ v∈es,v.cells.length=s) (he:(es.take j.toNat).drop i.toNat=ms) :
  Pure C ⟨dst,.slice t x lo hi none,ty,pos,aft,g⟩ e H (.list ms):=he▸Pure.lslice hx hlo hhi h0 h1 h2 hs
end
theorem MRow.of_cells{el b m cap:Nat}{es spare:List LV}(hs:∀ v∈es,v.cells.length=1)(hf:es.flatMap LV.cells=es)(hm:es.length=m)(hc:m<=cap)(hl:m+spare.length=cap) :
  MRow el 1 (.slice (some ⟨b,0,none⟩) m cap) es [(b,.cells el (es++spare))]:=by
 subst hm;have:=MRow.row (el:=el) (s:=1) (b:=b) (cap:=cap) (es:=es) (spare:=spare) hs hc zo
 rwa [hf] at this
section
variable{C:Ctx}{n:Nat}{Q:Post}{e:Env}{H F:Heap}
end
section
variable{C:Ctx}{e:Env}{H:Heap}{dst:Option Nat}{ty:TypeId}{pos:String}{aft:Array Edge}{g:Option (Nat×Bool)}{K:LV->Heap->Prop}{X:List PanicEntry->Heap->Prop}{x y:Operand}
theorem qfy{P:Program}{kt:TypeId}{kd k:IntKind}{n:Int}(hkt:P.underlying kt=some (.int kd))(b:Bool)(w:World):(Instr.checkKey b 10000 kt (.int k n)).run P w=.ok () w:=by
 have hck:Instr.checkKey b 10000 kt (.int k n)=Instr.checkKey b (9999+1) kt (.int k n):=rfl;rw[hck,Instr.checkKey];simp only[Sem.run_bind,qaa hkt,Result.andThen_ok,Sem.run_pure]
theorem S.insertK{t kt el:TypeId}{kd k:IntKind}(ht:C.P.underlying t=some (.map kt el))(hkt:C.P.underlying kt=some (.int kd)){b clock:Nat}{es es':Array MapEntry}{F:Heap}{m z:Operand}{n:Int}{v:Value}(hm:e.ev m=.atom (.map (some b)))(hx:e.ev x=int k n)(hz:e.ev z=.atom v)
  (hp:Pick (b,.obj (.map es clock)) H F) (hnew:Instr.findNow (.int kd) (.int k n) es.toList 0=some none) (he:es.push { key:=.int k n,val:=v,born:=clock }=es') (hk:K (.atom undef) ((b,.obj (.map es' (clock+1)))::F)):qae C ⟨dst,.insert t m x z,ty,pos,aft,g⟩ e H K X:=by
 subst he;refine qae.at1 hp λρ w L h hH=>?_;obtain⟨hb0,hbs,hl,hx1,hx2⟩:=hH.objs _ (List.mem_singleton.2 rfl);simp only at hb0 hbs hl hx1 hx2;have h3:execOp ρ ⟨dst,.insert t m x z,ty,pos,aft,g⟩=(do Instr.mapUpdate t (ρ m) (ρ x) (ρ z);Pure.pure .skip):=rfl
 have hf:(Instr.findKey kt (.int k n) es.toList).run C.P w=.ok none w:=by
  simp only[Instr.findKey,Sem.run_bind,qaa hkt,Result.andThen_ok,hnew,Sem.run_pure]
 have hc:=qfy (P:=C.P) (n:=n) (k:=k) hkt false w;have hg:(getObj b).run C.P w=.ok (.map es clock) w:=by simp only[getObj,Sem.run,hx1]
 rw[h3,qaf h hm,qaf h hx,qaf h hz];simp only[Instr.mapUpdate,Sem.run_bind,qaa ht,Result.andThen_ok,hg,hc,hf];have hs:(setObj b (.map (es.push { key:=.int k n,val:=v,born:=clock }) (clock+1))).run C.P w=.ok () (setW w b (.map (es.push { key:=.int k n,val:=v,born:=clock }) (clock+1))):=qeM hx1 rfl;rw[hs];exact qhC (w':=setW w b (.map (es.push { key:=.int k n,val:=v,born:=clock }) (clock+1))) hH rfl rfl rfl rfl (by simp[setW]) (λc hc=>qdU hc) (qeF hbs) (λ_=>qai) hk
end
section
variable{C:Ctx}{e:Env}{H:Heap}{dst:Option Nat}{ty:TypeId}{pos:String}{aft:Array Edge}{g:Option (Nat×Bool)}{x y:Operand}
theorem Pure.lookupHit2{t kt el:TypeId}{kd k:IntKind}(ht:C.P.underlying t=some (.map kt el))(hkt:C.P.underlying kt=some (.int kd)){b clock j:Nat}{es:Array MapEntry}{n:Int}{v:Value}(hm:e.ev x=.atom (.map (some b)))(hx:e.ev y=int k n)
  (hb:(b,LObj.obj (.map es clock))∈H) (hf:Instr.findNow (.int kd) (.int k n) es.toList 0=some (some (j,v))):Pure C ⟨dst,.lookup t x y true,ty,pos,aft,g⟩ e H (.tuple [.atom v,bool true]):=λρ w L h hH=>by
 obtain⟨_,_,_,hx1,_⟩:=hH.objs _ hb;simp only at hx1;refine⟨.tuple #[v,.bool true],?_,λw' ha=>?_⟩;simp only[Rep];refine⟨[v,.bool true],rfl,?_⟩;simp only[RepL];exact⟨_,_,rfl,qai,_,_,rfl,rfl,rfl⟩;have hw:w'.heap[b]? = some (.map es clock):=(ha.1 _ hb).trans hx1;have h3:execOp ρ ⟨dst,.lookup t x y true,ty,pos,aft,g⟩=(do Pure.pure (.value (<-Instr.lookup t (ρ x) (ρ y) true))):=rfl;have hg:(getObj b).run C.P w'=.ok (.map es clock) w':=by simp only[getObj,Sem.run,hw]
 rw[h3,qaf h hm,qaf h hx]
 have hf2:(Instr.findKey kt (.int k n) es.toList).run C.P w'=.ok (some (j,v)) w':=by
  simp only[Instr.findKey,Sem.run_bind,qaa hkt,Result.andThen_ok,hf,Sem.run_pure]
 have hc:=qfy (P:=C.P) (n:=n) (k:=k) hkt;simp only[Instr.lookup,Sem.run_bind,qaa ht,Result.andThen_ok,hg,Sem.run_pure,hc,hf2];rfl
theorem Pure.lookupMiss2{t kt el:TypeId}{kd k:IntKind}(ht:C.P.underlying t=some (.map kt el))(hkt:C.P.underlying kt=some (.int kd)){b clock:Nat}{es:Array MapEntry}{n:Int}{zv:Value}(hz:∀ w,(zeroValue el).run C.P w=.ok zv w)(hm:e.ev x=.atom (.map (some b)))(hx:e.ev y=int k n)
  (hb:(b,LObj.obj (.map es clock))∈H) (hf:Instr.findNow (.int kd) (.int k n) es.toList 0=some none):Pure C ⟨dst,.lookup t x y true,ty,pos,aft,g⟩ e H (.tuple [.atom zv,bool false]):=λρ w L h hH=>by
 obtain⟨_,_,_,hx1,_⟩:=hH.objs _ hb;simp only at hx1;refine⟨.tuple #[zv,.bool false],?_,λw' ha=>?_⟩;simp only[Rep];refine⟨[zv,.bool false],rfl,?_⟩;simp only[RepL];exact⟨_,_,rfl,qai,_,_,rfl,rfl,rfl⟩;have hw:w'.heap[b]? = some (.map es clock):=(ha.1 _ hb).trans hx1;have h3:execOp ρ ⟨dst,.lookup t x y true,ty,pos,aft,g⟩=(do Pure.pure (.value (<-Instr.lookup t (ρ x) (ρ y) true))):=rfl;have hg:(getObj b).run C.P w'=.ok (.map es clock) w':=by simp only[getObj,Sem.run,hw]
 rw[h3,qaf h hm,qaf h hx]
 have hf2:(Instr.findKey kt (.int k n) es.toList).run C.P w'=.ok none w':=by
  simp only[Instr.findKey,Sem.run_bind,qaa hkt,Result.andThen_ok,hf,Sem.run_pure]
 have hc:=qfy (P:=C.P) (n:=n) (k:=k) hkt;simp only[Instr.lookup,Sem.run_bind,qaa ht,Result.andThen_ok,hg,Sem.run_pure,hc,hf2,hz];rfl
end
section
variable{C:Ctx}{n:Nat}{Q:Post}{e:Env}{H:Heap}
theorem qaU.weak{c:Code}{H':Heap}(s:HSub H' H)(h:qaU C n c Q e H'):qaU C n c Q e H:=λa w L hE hH=>
 Go.wp_mono (h a w L hE (hH.weak s)) λ_ _ _ ⟨e',H2,L',h1,h2,h3,h4⟩=>⟨e',H2,L',h1.wide s.keys,h2,h3,h4⟩
theorem qaU.conseq{c:Code}{Q':Post}(h:qaU C n c Q e H)(hq:∀ x e H,Q x e H->Q' x e H):qaU C n c Q' e H:=λa w L hE hH=>
 Go.wp_mono (h a w L hE hH) λ_ _ _ ⟨e',H2,L',h1,h2,h3,h4⟩=>⟨e',H2,L',h1,h2,h3,hq _ _ _ h4⟩
theorem qaU.loop{c:Code}(I:Nat->Env->Heap->Prop)(k:Nat)(h0:I k e H)
  (round:∀ k e H,I k e H->qaU C n c (qax (λe' H'=>∃ m,m<k/\I m e' H') Q) e H):qaU C n (.loop c) Q e H:=λa w L hE hH=>by
 refine qjf (I:=λk a' w'=>∃ e' H' L',Fr (keys H) w L w' L' H'/\RelH C w' L' H'/\RelE n a' e' w' L'/\I k e' H') (n:=k) ?_ ⟨e,H,L,Fr.refl _ _ _,hH,hE,h0⟩;rintro k a1 w1 ⟨e1,H1,L1,h1,h2,h3,h4⟩;refine Go.wp_mono (round k e1 H1 h4 a1 w1 L1 h3 h2) λex a' w' hq=>?_;obtain⟨e',H',L',g1,g2,g3,g4⟩:=hq
 cases ex with
 |normal=>
  obtain⟨m,hm,g4⟩:=g4
  exact⟨m,hm,e',H',L',h1.trans g1,g2,g3,g4⟩
 |exit id=>exact⟨e',H',L',h1.trans g1,g2,g3,g4⟩
 |goto id=>exact⟨e',H',L',h1.trans g1,g2,g3,g4⟩
 |ret=>exact⟨e',H',L',h1.trans g1,g2,g3,g4⟩
 |panic ch=>exact⟨e',H',L',h1.trans g1,g2,g3,g4⟩
 |outgrown=>exact⟨e',H',L',h1.trans g1,g2,g3,g4⟩
theorem qaU.loopI{c:Code}(I:Nat->List (Nat×LV)->Heap->Prop)(h0:∃ k l H0,I k l H0/\qcH e l/\HSub H0 H)
  (round:∀ k l H,I k l H->∀ j:Env,j.ds=e.ds->qaU C n c (qax (qwu I k e.ds) Q) (Env.slots j l) H):qaU C n (.loop c) Q e H:=by
 obtain⟨k,l,H0,h0,h1,h2⟩:=h0;refine qaU.weak h2 (qaU.loop (λk e' H'=>∃ l H0,I k l H0/\qcH e' l/\HSub H0 H'/\e'.ds=e.ds) k ⟨l,H0,h0,h1,zhR _,rfl⟩ ?_);rintro k e' H' ⟨l,H0,g0,g1,g2,g3⟩;have:=round k l H0 g0 e' g3;rw[Env.slots_self g1.mem] at this;refine qaU.weak g2 (qaU.conseq this ?_);rintro ex e2 H2 hq
 cases ex with
 |normal=>
  obtain⟨m,l',H3,r1,r2,r3,r4,r5⟩:=hq
  exact⟨m,r1,l',H3,r2,r3,r4,r5⟩
 |exit id=>exact hq
 |goto id=>exact hq
 |ret=>exact hq
 |panic ch=>exact hq
 |outgrown=>exact hq
end
section
variable{C:Ctx}{e:Env}{H:Heap}{x y:Operand}{dst:Option Nat}{ty:TypeId}{pos:String}{aft:Array Edge}{g:Option (Nat×Bool)}
theorem Pure.bytesStrE{s d el:TypeId} [hs:TSlice C.P s el 1] [he:TKind C.P el .u8] [hd:TStr C.P d]{l:List UInt8}(hx:elems (e.ev x)=some (byts l)):Pure C ⟨dst,.convert s d x,ty,pos,aft,g⟩ e H (str l):=by
 by_cases hne:l=[]
 subst hne;intro ρ w L h _;obtain⟨a,cap,hv,hcap,hr⟩:=(h x).elems hx;refine⟨_,qai,λw' ha=>?_⟩;have h0:execOp ρ ⟨dst,.convert s d x,ty,pos,aft,g⟩=(do Pure.pure (.value (<-convert s d (ρ x)))):=rfl;have hlen:(byts []).length=0:=rfl
 have hc:(convert s d (.slice a 0 cap)).run C.P w'=.ok (.string ⟨#[]⟩) w':=by
  rw[run_convert_bytes_string w' s d el a 0 cap hs.und he.und hd.und]
  cases a with
  |none=>rfl
  |some a=>exact run_bytesToString w' a 0 cap [] (run_loadCells_list (P:=C.P) w' a [] λj v hj=>by cases hj)
 rw[h0,hv,hlen];simp only[Sem.run_bind,hc,Result.andThen_ok,Sem.run_pure];exact Pure.bytesStr hx hne
end
class TOut (P:Program) (t:TypeId):Prop where
 und:P.underlying t=some (.struct (P.fieldsOf t))
 apart:P.stoodInHeld t=false
 guard:P.eqGuardType P.depth t=false
 fields : ∃ f0 f1 f2 : Field, (P.fieldsOf t).toList = [f0, f1, f2] ∧ (f0.name ≠ "_" ∧ f0.offset = 0 ∧ P.underlying f0.type = some .string) ∧ (f1.name ≠ "_" ∧ f1.offset = 1 ∧ P.underlying f1.type = some (.int .i64)) ∧ (f2.name ≠ "_" ∧ f2.offset = 2 ∧ P.underlying f2.type = some (.int .i64))
def qoV (P : Program) (f : Field) (o : Nat) : Bool := f.name != "_" && f.offset == o && (match P.underlying f.type with | some .string => true | _ => false)
def qpR (P : Program) (f : Field) (o : Nat) : Bool := f.name != "_" && f.offset == o && (match P.underlying f.type with | some (.int .i64) => true | _ => false)
def qv8(P:Program)(t:TypeId):Bool:=(match P.underlying t with|some (.struct _)=>true|_=>false) && !P.stoodInHeld t && !P.eqGuardType P.depth t && (match (P.fieldsOf t).toList with|[f0,f1,f2]=>qoV P f0 0 && qpR P f1 1 && qpR P f2 2|_=>false)
theorem qqV {P : Program} {f : Field} {o : Nat} (h : qoV P f o = true) : f.name ≠ "_" ∧ f.offset = o ∧ P.underlying f.type = some .string := by
 unfold qoV at h;simp only[zBa,bne_iff_ne,beq_iff_eq] at h;obtain⟨⟨h1,h2⟩,h3⟩:=h;refine⟨h1,h2,?_⟩;split at h3
 assumption
 cases h3
theorem qm2 {P : Program} {f : Field} {o : Nat} (h : qpR P f o = true) : f.name ≠ "_" ∧ f.offset = o ∧ P.underlying f.type = some (.int .i64) := by
 unfold qpR at h;simp only[zBa,bne_iff_ne,beq_iff_eq] at h;obtain⟨⟨h1,h2⟩,h3⟩:=h;refine⟨h1,h2,?_⟩;split at h3
 assumption
 cases h3
theorem TOut.of{P:Program}{t:TypeId}(h:qv8 P t=true):TOut P t:=by
 unfold qv8 at h;simp only[zBa,Bool.not_eq_true'] at h;obtain⟨⟨⟨h1,h2⟩,h3⟩,h4⟩:=h;refine⟨?_,h2,h3,?_⟩;split at h1
 rename_i fs hu
 rw[hu];simp[Program.fieldsOf,hu];cases h1;split at h4
 rename_i f0 f1 f2 hf
 simp only[zBa] at h4;exact⟨f0,f1,f2,hf,qqV h4.1.1,qm2 h4.1.2,qm2 h4.2⟩;cases h4
theorem qgR{P:Program}{t:TypeId}{d:TypeDesc}(hu:P.underlying t=some d)(hp:d=.string∨d=.int .i64){xs:Array Value}{off:Nat}{v:Value}(hx:xs[off]? = some v)(w:World):(part t xs off).run P w=.ok v w:=
 run_part_plain w (by rcases hp with rfl|rfl <;> simp[Program.plainKey,hu]) hx
theorem qmY{P:Program}{t:TypeId}(hu:P.underlying t=some .string)(d:Nat)(a b:List UInt8)(w:World):(Op.equalIn (d+1) t (.string ⟨a.toArray⟩) (.string ⟨b.toArray⟩)).run P w=.ok (decide (a=b)) w:=by
 simp only[Op.equalIn,Sem.run_bind,qaa hu,Result.andThen_ok,Sem.run_pure];rw[beq_toListBytes,ByteArray.toList_eq,ByteArray.toList_eq];congr 1
 by_cases h:a=b <;> simp[h]
theorem qg4{P:Program}{t:TypeId}(hu:P.underlying t=some (.int .i64))(d:Nat)(a b:Int)(w:World):(Op.equalIn (d+1) t (.int .i64 a) (.int .i64 b)).run P w=.ok (decide (a=b)) w:=by
 simp only[Op.equalIn,Sem.run_bind,qaa hu,Result.andThen_ok,Sem.run_pure,if_true];congr 1
theorem qs6{P:Program}{t:TypeId} [h:TOut P t](a b:List UInt8)(x y u v:Int)(w:World) :
  (Op.equal t (.agg #[.string ⟨a.toArray⟩,.int .i64 x,.int .i64 u]) (.agg #[.string ⟨b.toArray⟩,.int .i64 y,.int .i64 v])).run P w=.ok (decide (a=b/\x=y/\u=v)) w:=by
 obtain⟨f0,f1,f2,hf,⟨n0,o0,u0⟩,⟨n1,o1,u1⟩,⟨n2,o2,u2⟩⟩:=h.fields;rw[qgm,run_equalIn_struct w 9999 t _ _ h.und h.apart,hf];have p0:∀ (s:List UInt8) (i j:Int),(part f0.type #[.string ⟨s.toArray⟩,.int .i64 i,.int .i64 j] f0.offset).run P w=.ok (.string ⟨s.toArray⟩) w:=λs i j=>qgR u0 (.inl rfl) (by rw[o0];try rfl) w;have p1:∀ (s:List UInt8) (i j:Int),(part f1.type #[.string ⟨s.toArray⟩,.int .i64 i,.int .i64 j] f1.offset).run P w=.ok (.int .i64 i) w:=λs i j=>qgR u1 (.inr rfl) (by rw[o1];try rfl) w;have p2:∀ (s:List UInt8) (i j:Int),(part f2.type #[.string ⟨s.toArray⟩,.int .i64 i,.int .i64 j] f2.offset).run P w=.ok (.int .i64 j) w:=λs i j=>qgR u2 (.inr rfl) (by rw[o2];try rfl) w;have e0:=qmY u0 9998 a b w;have e1:=qg4 u1 9998 x y w;have e2:=qg4 u2 9998 u v w;have q1:∀ a b:Int,(Op.equalIn 9999 f1.type (.int .i64 a) (.int .i64 b)).run P w=.ok (decide (a=b)) w:=λa b=>qg4 u1 9998 a b w;have q2:∀ a b:Int,(Op.equalIn 9999 f2.type (.int .i64 a) (.int .i64 b)).run P w=.ok (decide (a=b)) w:=λa b=>qg4 u2 9998 a b w;have q0:(Op.equalIn 9999 f0.type (.string ⟨a.toArray⟩) (.string ⟨b.toArray⟩)).run P w=.ok (decide (a=b)) w:=qmY u0 9998 a b w;simp only[Op.eqFields,n0,n1,n2,ne_eq,not_false_eq_true,if_true,Sem.run_bind,p0,q0,Result.andThen_ok]
 by_cases ha:a=b
 simp only[ha,decide_true,Bool.not_true,Bool.false_eq_true,if_false,Sem.run_bind,p1,q1,Result.andThen_ok,true_and]
 by_cases hx:x=y
 simp only[hx,decide_true,Bool.not_true,Bool.false_eq_true,if_false,Sem.run_bind,p2,q2,Result.andThen_ok,true_and]
 by_cases hu:u=v
 simp[hu];simp[hu];simp[hx];simp[ha]
section
variable{C:Ctx}{e:Env}{H:Heap}{dst:Option Nat}{ty:TypeId}{pos:String}{aft:Array Edge}{g:Option (Nat×Bool)}{x y:Operand}
theorem qv3{ρ:Operand->Value}{w:World}{L:Live}(h:∀ x,Rep w L (e.ev x) (ρ x)){x:Operand}{a:List UInt8}{i j:Int}(hx:e.ev x=.agg [str a,int .i64 i,int .i64 j]):ρ x=.agg #[.string ⟨a.toArray⟩,.int .i64 i,.int .i64 j]:=by
 have hv:=h x;rw[hx] at hv;simp only[Rep,RepL,str,int] at hv;obtain⟨vs,h1,v0,r0,e0,rfl,v1,r1,e1,rfl,v2,r2,e2,rfl,e3⟩:=hv;rw[h1,e0,e1,e2,e3]
theorem Pure.eqOut{t yT:TypeId} [h:TOut C.P t]{a b:List UInt8}{i j k l:Int}(hx:e.ev x=.agg [str a,int .i64 i,int .i64 j])(hy:e.ev y=.agg [str b,int .i64 k,int .i64 l]) :
  Pure C ⟨dst,.binOp .eql t x y yT,ty,pos,aft,g⟩ e H (bool (decide (a=b/\i=k/\j=l))):=
 .of_any λρ _ _ hr=>⟨_,qai,λw'=>by
  have h1:=qv3 hr hx;have h2:=qv3 hr hy
  have he:(eqGuard .eql t x y (.agg #[.string ⟨a.toArray⟩,.int .i64 i,.int .i64 j]) (.agg #[.string ⟨b.toArray⟩,.int .i64 k,.int .i64 l])).run C.P w'=.ok () w':=by
   simp[eqGuard,h.guard]
  have hb:binOp .eql t (.agg #[.string ⟨a.toArray⟩,.int .i64 i,.int .i64 j]) (.agg #[.string ⟨b.toArray⟩,.int .i64 k,.int .i64 l])=(do Pure.pure (.bool (<-Op.equal t (.agg #[.string ⟨a.toArray⟩,.int .i64 i,.int .i64 j]) (.agg #[.string ⟨b.toArray⟩,.int .i64 k,.int .i64 l])))):=rfl
  simp only[execOp,h1,h2,he,hb,Sem.run_bind,Sem.run_pure,Result.andThen_ok,qs6]⟩
theorem Pure.eqOutT{t yT:TypeId} [h:TOut C.P t]{a b:List UInt8}{i j k l:Int}(hx:e.ev x=.agg [str a,int .i64 i,int .i64 j])(hy:e.ev y=.agg [str b,int .i64 k,int .i64 l])(h1:a=b)(h2:i=k)(h3:j=l) :
  Pure C ⟨dst,.binOp .eql t x y yT,ty,pos,aft,g⟩ e H (bool true):=by
 have:=Pure.eqOut (C:=C) (H:=H) (dst:=dst) (ty:=ty) (pos:=pos) (aft:=aft) (g:=g) (t:=t) (yT:=yT) hx hy
 rwa [decide_eq_true ⟨h1,h2,h3⟩] at this
end
end Go.GL
namespace Go.Stele
@[reducible] def cv(c:UInt8):Int:=(c.toNat:Int)
def qap(c:UInt8):Bool:=decide (48<=cv c) && decide (cv c<=57)
def qaV(c:UInt8):Bool:=decide (97<=cv c) && decide (cv c<=122)
def qaW(c:UInt8):Bool:=qaV c || qap c || decide (cv c=95)
def qwG(c:UInt8):Bool:=!decide (cv c=10)
def qdy(c:UInt8):Bool:=decide (cv c=32) || decide (cv c=9) || decide (cv c=10)
structure Tok where
 kind:Int
 text:List UInt8
 line:Int
 deriving DecidableEq,Inhabited
theorem qgy{p:UInt8->Bool}{s:List UInt8}{m:Nat}(hm:m<s.length)(h:s.takeWhile p=s.take m++(s.drop m).takeWhile p) :
  (p s[m]=true->s.takeWhile p=s.take (m+1)++(s.drop (m+1)).takeWhile p)/\(p s[m]=false->s.takeWhile p=s.take m):=by
 have h1:s.drop m=s[m]::s.drop (m+1):=List.drop_eq_getElem_cons hm;constructor;intro hp;rw[h,h1,takeWhile_cons_of_pos hp,List.take_succ_eq_append_getElem hm];simp only[zAs,List.singleton_append];intro hp;rw[h,h1,takeWhile_cons_of_neg (by simp[hp])]
 simp
theorem qlX{p:UInt8->Bool}{s:List UInt8}{m:Nat}(hm:s.length<=m)(h:s.takeWhile p=s.take m++(s.drop m).takeWhile p):s.takeWhile p=s.take m:=by
 rw[h,List.drop_eq_nil_of_le hm]
 simp
def qbp(s:List UInt8):Nat:=if [47,47].isPrefixOf s then (s.takeWhile qwG).length else (s.takeWhile qdy).length
end Go.Stele
namespace Go.Stele
def qw5:Tok:=⟨0,[],0⟩
abbrev TokR:=Tok×Nat×Int
def qb9(e:Int):TokR:=(qw5,0,e)
def qdk(s:List UInt8)(n:Nat):Bool:=match s[n]? with
 |some c=>qaV c || decide (cv c=95)
 |none=>false
def qdo(s:List UInt8):TokR:=
 if qdk s (s.takeWhile qap).length then qb9 3 else
  match Go.Lib.parseUintB 32 (s.takeWhile qap) with
  |.ok u=>(⟨1,Go.Lib.decDigits u,0⟩,(s.takeWhile qap).length,0)
  |_=>qb9 2
def qcr:List UInt8->TokR
 |_::b::c::_=>if (!decide (cv c=39)) || decide (cv b<32) || decide (126<cv b) || decide (cv b=39) || decide (cv b=92) then qb9 3 else (⟨1,Go.Lib.decDigits b.toNat,0⟩,3,0)
 |_=>qb9 3
def qdl:List (List UInt8):=[[97,114,114,97,121],[101,108,115,101],[102,117,110,99],[104,97,108,116],[105,102],[114,101,116,117,114,110],[118,97,114],[119,104,105,108,101]]
def qcO:List (List UInt8):=[[38,38],[124,124],[61,61],[33,61],[60,61],[62,61],[60],[62],[94],[43],[45],[42],[47],[37],[33],[61],[40],[41],[123],[125],[91],[93],[44],[59]]
def qfD(s:List UInt8):TokR:=
 if 24<(s.takeWhile qaW).length then qb9 7 else (⟨if qdl.contains (s.takeWhile qaW) then 3 else 2,s.takeWhile qaW,0⟩,(s.takeWhile qaW).length,0)
def qgC(s:List UInt8):TokR:=match qcO.find? (λx=>x.isPrefixOf s) with
 |some x=>(⟨4,x,0⟩,x.length,0)
 |none=>qb9 3
def qaw(s:List UInt8):TokR:=match s with
 |[]=>qb9 3
 |c::_=>if qap c then qdo s else if qaV c then qfD s else if decide (cv c=39) then qcr s else qgC s
def lexP:Nat->List UInt8->Int->Except (Int×Int) (List Tok)
 |0,_,_=>.ok []
 |fuel+1,s,line=>
  if s=[] then .ok [] else
  if qbp s=0 then
   if (qaw s).2.2≠0 then .error (line,(qaw s).2.2)
   else (lexP fuel (s.drop (qaw s).2.1) (line+((s.take (qaw s).2.1).count 10:Nat))).map ({ (qaw s).1 with line:=line }::·)
  else lexP fuel (s.drop (qbp s)) (line+((s.take (qbp s)).count 10:Nat))
theorem qet(p:UInt8->Bool)(s:List UInt8):(s.takeWhile p).length<=s.length:=(takeWhile_prefix p).length_le
theorem qfe(s:List UInt8)(h:(qaw s).2.2=0):0<(qaw s).2.1/\(qaw s).2.1<=s.length:=by
 match s with
 |[]=>simp[qaw,qb9] at h
 |c::r=>
  simp only[qaw] at h ⊢;split at h <;> rename_i hc;rw[if_pos hc];unfold qdo at h ⊢;split at h;simp[qb9] at h
  rename_i hw
  rw[if_neg hw];split at h
  rename_i u hu
  refine⟨?_,qet _ _⟩;rw[takeWhile_cons_of_pos hc]
  simp
  simp[qb9] at h;rw[if_neg hc];split at h <;> rename_i hl;rw[if_pos hl];unfold qfD at h ⊢;split at h;simp[qb9] at h
  rename_i hw
  rw[if_neg hw];refine⟨?_,qet _ _⟩;rw[takeWhile_cons_of_pos (by simp[qaW,hl])]
  simp
  rw[if_neg hl];split at h <;> rename_i hq;rw[if_pos hq];unfold qcr at h ⊢;split at h;split at h;simp[qb9] at h
  rename_i hx
  rename_i heq
  rw[if_neg hx,heq]
  simp
  simp[qb9] at h;rw[if_neg hq];unfold qgC at h ⊢;split at h
  rename_i x hx
  have h1:=List.find?_some hx;have h2:=List.mem_of_find?_eq_some hx;refine⟨?_,(List.isPrefixOf_iff_prefix.1 h1).length_le⟩;have:∀ x∈qcO,0<x.length:=by decide
  exact this x h2;simp[qb9] at h
theorem qkZ(s:List UInt8):qbp s<=s.length:=by
 unfold qbp;split <;> exact qet _ _
inductive Res (A:Type) where
 |ok (v:A) (at' op:Nat)
 |err (line e:Int)
def qf3(T:List Tok)(i:Nat):Int:=match T[min i (T.length-1)]? with
 |some t=>t.line
 |none=>1
def qiH{A:Type}(T:List Tok)(i:Nat):Res A:=.err (qf3 T i) 3
def isTok(T:List Tok)(i:Nat)(xs:List (List UInt8)):Bool:=match T[i]? with
 |some t=>(decide (t.kind=3) || decide (t.kind=4)) && xs.contains t.text
 |none=>false
def qc7(T:List Tok)(k:Int)(i op:Nat):Res (List UInt8):=match T[i]? with
 |some t=>if t.kind=k then .ok t.text (i+1) op else qiH T i
 |none=>qiH T i
def qds(T:List Tok)(x:List UInt8)(i op:Nat):Res Unit:=if isTok T i [x] then .ok () (i+1) op else qiH T i
def qbV(T:List Tok)(x:List UInt8)(i op:Nat):Res Unit:=
 if isTok T i [x] then (if 100<=op then .err (qf3 T i) 6 else .ok () (i+1) (op+1)) else qiH T i
def Res.bind{A B:Type}(r:Res A)(f:A->Nat->Nat->Res B):Res B:=match r with
 |.ok v i op=>f v i op
 |.err l e=>.err l e
def qs5(s:List UInt8):Nat:=match Go.Lib.parseUintB 32 s with
 |.ok u=>u
 |_=>0
end Go.Stele
namespace Go.Stele
inductive Ex where
 |mk (op:List UInt8) (num:Nat) (name:List UInt8) (args:List Ex)
 deriving Inhabited
inductive Sm where
 |mk (kind:Int) (name:List UInt8) (index value:List Ex) (thn els:List Sm)
 deriving Inhabited
structure FnD where
 name:List UInt8
 params:List (List UInt8)
 locals:List (List UInt8)
 body:List Sm
 deriving Inhabited
structure Ar where
 name:List UInt8
 size:Nat
 deriving Inhabited
structure Pr where
 vars:List (List UInt8)
 arrays:List Ar
 funcs:List FnD
 deriving Inhabited
def qb1:Nat->List (List UInt8)
 |0=>[[124,124]]
 |1=>[[38,38]]
 |2=>[[61,61],[33,61],[60],[62],[60,61],[62,61]]
 |3=>[[94]]
 |4=>[[43],[45]]
 |5=>[[42],[47],[37]]
 |_=>[]
abbrev OR(A:Type):=Option (Res A)
def qaE{A B:Type}(r:OR A)(f:A->Nat->Nat->OR B):OR B:=match r with
 |none=>none
 |some (.ok v i op)=>f v i op
 |some (.err l e)=>some (.err l e)
def qeI(T:List Tok)(i:Nat):List UInt8:=match T[i]? with
 |some t=>t.text
 |none=>[]
def qkf(T:List Tok)(i:Nat):Int:=match T[i]? with
 |some t=>t.kind
 |none=>0
def sEnd(T:List Tok)(x:List UInt8)(i op:Nat):Res Unit:=(qds T x i op).bind λ_ i' op'=>.ok () i' (op'-1)
def qcQ(T:List Tok)(i op:Nat):Res Nat:=(qc7 T 1 i op).bind λs i' op'=>.ok (qs5 s) i' op'
def qaR(T:List Tok):Nat->List (List UInt8)->Nat->Nat->OR (List (List UInt8))
 |0,_,_,_=>none
 |f+1,acc,i,op=>if isTok T i [[44]] then qaE (some (qc7 T 2 (i+1) op)) λs i' op'=>qaR T f (acc++[s]) i' op' else some (.ok acc i op)
def qej(T:List Tok)(f:Nat)(i op:Nat):OR (List (List UInt8)):=qaE (some (qc7 T 2 i op)) λs i' op'=>qaR T f [s] i' op'
def nNeg:List UInt8:=[110,101,103]
def nNot:List UInt8:=[110,111,116]
def nNum:List UInt8:=[110,117,109]
def qec:List UInt8:=[101,108,101,109]
def qbN:List UInt8:=[99,97,108,108]
def nVar:List UInt8:=[118,97,114]
mutual
def eLev(T:List Tok):Nat->Nat->Nat->Nat->OR Ex
 |0,_,_,_=>none
 |f+1,k,i,op=>if k=6 then qb4 T f i op else qaE (eLev T f (k+1) i op) λe i' op'=>qdE T f k e i' op'
def qdE(T:List Tok):Nat->Nat->Ex->Nat->Nat->OR Ex
 |0,_,_,_,_=>none
 |f+1,k,e,i,op=>
  if isTok T i (qb1 k) then qaE (eLev T f (k+1) (i+1) op) λe2 i' op'=>
   if k=2 then some (.ok (.mk (qeI T i) 0 [] [e,e2]) i' op') else qdE T f k (.mk (qeI T i) 0 [] [e,e2]) i' op'
  else some (.ok e i op)
def qb4(T:List Tok):Nat->Nat->Nat->OR Ex
 |0,_,_=>none
 |f+1,i,op=>
  if isTok T i [[45]] then qaE (some (qbV T [45] i op)) λ_ i' op'=>qaE (qb4 T f i' op') λe i' op'=>some (.ok (.mk nNeg 0 [] [e]) i' (op'-1))
  else if isTok T i [[33]] then qaE (some (qbV T [33] i op)) λ_ i' op'=>qaE (qb4 T f i' op') λe i' op'=>some (.ok (.mk nNot 0 [] [e]) i' (op'-1))
  else qeg T f i op
def qeg(T:List Tok):Nat->Nat->Nat->OR Ex
 |0,_,_=>none
 |f+1,i,op=>
  if isTok T i [[40]] then qaE (some (qbV T [40] i op)) λ_ i' op'=>qaE (eLev T f 0 i' op') λe i' op'=>qaE (some (sEnd T [41] i' op')) λ_ i' op'=>some (.ok e i' op')
  else if qkf T i=1 then qaE (some (qcQ T i op)) λn i' op'=>some (.ok (.mk nNum n [] []) i' op')
  else qaE (some (qc7 T 2 i op)) λs i' op'=>
   if isTok T i' [[91]] then qaE (qcg T f i' op') λe i' op'=>some (.ok (.mk qec 0 s [e]) i' op')
   else if isTok T i' [[40]] then qaE (qd9 T f i' op') λl i' op'=>some (.ok (.mk qbN 0 s l) i' op')
   else some (.ok (.mk nVar 0 s []) i' op')
def qcg(T:List Tok):Nat->Nat->Nat->OR Ex
 |0,_,_=>none
 |f+1,i,op=>qaE (some (qbV T [91] i op)) λ_ i' op'=>qaE (eLev T f 0 i' op') λe i' op'=>qaE (some (sEnd T [93] i' op')) λ_ i' op'=>some (.ok e i' op')
def qd9(T:List Tok):Nat->Nat->Nat->OR (List Ex)
 |0,_,_=>none
 |f+1,i,op=>qaE (some (qbV T [40] i op)) λ_ i' op'=>qaE (qaP T f [] i' op') λl i' op'=>qaE (some (sEnd T [41] i' op')) λ_ i' op'=>some (.ok l i' op')
def qaP(T:List Tok):Nat->List Ex->Nat->Nat->OR (List Ex)
 |0,_,_,_=>none
 |f+1,acc,i,op=>
  if isTok T i [[41]] then some (.ok acc i op)
  else qaE (some (if acc=[] then .ok () i op else qds T [44] i op)) λ_ i' op'=>qaE (eLev T f 0 i' op') λe i' op'=>qaP T f (acc++[e]) i' op'
end
def kwIf:List UInt8:=[105,102]
def qvT:List UInt8:=[101,108,115,101]
def qsX:List UInt8:=[119,104,105,108,101]
def qpS:List UInt8:=[114,101,116,117,114,110]
def qv1:List UInt8:=[104,97,108,116]
def qkI:List UInt8:=[118,97,114]
def qjd:List UInt8:=[97,114,114,97,121]
def qrw:List UInt8:=[102,117,110,99]
mutual
def qci(T:List Tok):Nat->Nat->Nat->OR (List Sm)
 |0,_,_=>none
 |f+1,i,op=>qaE (some (qbV T [123] i op)) λ_ i' op'=>qaE (qbQ T f [] i' op') λl i' op'=>qaE (some (sEnd T [125] i' op')) λ_ i' op'=>some (.ok l i' op')
def qbQ(T:List Tok):Nat->List Sm->Nat->Nat->OR (List Sm)
 |0,_,_,_=>none
 |f+1,acc,i,op=>if isTok T i [[125]] then some (.ok acc i op) else qaE (qee T f i op) λs i' op'=>qbQ T f (acc++[s]) i' op'
def qee(T:List Tok):Nat->Nat->Nat->OR Sm
 |0,_,_=>none
 |f+1,i,op=>
  if isTok T i [kwIf] then qaE (eLev T f 0 (i+1) op) λe i' op'=>qaE (qci T f i' op') λth i' op'=>
   if isTok T i' [qvT] then qaE (qci T f (i'+1) op') λel i' op'=>some (.ok (.mk 3 [] [] [e] th el) i' op') else some (.ok (.mk 3 [] [] [e] th []) i' op')
  else if isTok T i [qsX] then qaE (eLev T f 0 (i+1) op) λe i' op'=>qaE (qci T f i' op') λth i' op'=>some (.ok (.mk 4 [] [] [e] th []) i' op')
  else qaE (qbH T f i op) λs i' op'=>qaE (some (qds T [59] i' op')) λ_ i' op'=>some (.ok s i' op')
def qbH(T:List Tok):Nat->Nat->Nat->OR Sm
 |0,_,_=>none
 |f+1,i,op=>
  if isTok T i [qpS] then qaE (eLev T f 0 (i+1) op) λe i' op'=>some (.ok (.mk 5 [] [] [e] [] []) i' op')
  else if isTok T i [qv1] then some (.ok (.mk 7 [] [] [] [] []) (i+1) op)
  else qaE (some (qc7 T 2 i op)) λs i' op'=>
   if isTok T i' [[40]] then qaE (qd9 T f i' op') λl i' op'=>some (.ok (.mk 6 [] [] [.mk qbN 0 s l] [] []) i' op')
   else if isTok T i' [[91]] then qaE (qcg T f i' op') λx i' op'=>qaE (some (qds T [61] i' op')) λ_ i' op'=>qaE (eLev T f 0 i' op') λe i' op'=>some (.ok (.mk 2 s [x] [e] [] []) i' op')
   else qaE (some (qds T [61] i' op')) λ_ i' op'=>qaE (eLev T f 0 i' op') λe i' op'=>some (.ok (.mk 1 s [] [e] [] []) i' op')
end
def qcz(T:List Tok):Nat->List (List UInt8)->Nat->Nat->OR (List (List UInt8))
 |0,_,_,_=>none
 |f+1,acc,i,op=>if isTok T i [qkI] then qaE (qej T f (i+1) op) λl i' op'=>qaE (some (qds T [59] i' op')) λ_ i' op'=>qcz T f (acc++l) i' op' else some (.ok acc i op)
def qgq(T:List Tok)(f:Nat)(i op:Nat):OR FnD:=
 qaE (some (qc7 T 2 i op)) λnm i' op'=>qaE (some (qbV T [40] i' op')) λ_ i' op'=>
 qaE (if isTok T i' [[41]] then some (.ok [] i' op') else qej T f i' op') λps i' op'=>qaE (some (sEnd T [41] i' op')) λ_ i' op'=>
 qaE (some (qbV T [123] i' op')) λ_ i' op'=>qaE (qcz T f [] i' op') λls i' op'=>qaE (qbQ T f [] i' op') λb i' op'=>
 qaE (some (sEnd T [125] i' op')) λ_ i' op'=>some (.ok ⟨nm,ps,ls,b⟩ i' op')
def qey(T:List Tok)(i op:Nat):OR Ar:=
 qaE (some (qc7 T 2 i op)) λnm i' op'=>qaE (some (qbV T [91] i' op')) λ_ i' op'=>qaE (some (qcQ T i' op')) λn i' op'=>
 qaE (some (sEnd T [93] i' op')) λ_ i' op'=>qaE (some (qds T [59] i' op')) λ_ i' op'=>some (.ok ⟨nm,n⟩ i' op')
def qcN(T:List Tok):Nat->Pr->Nat->Nat->OR Pr
 |0,_,_,_=>none
 |f+1,p,i,op=>
  if T.length<=i then some (.ok p i op)
  else if isTok T i [qkI] then qaE (qcz T f [] i op) λl i' op'=>qcN T f { p with vars:=p.vars++l } i' op'
  else if isTok T i [qjd] then qaE (qey T (i+1) op) λa i' op'=>qcN T f { p with arrays:=p.arrays++[a] } i' op'
  else if isTok T i [qrw] then qaE (qgq T f (i+1) op) λa i' op'=>qcN T f { p with funcs:=p.funcs++[a] } i' op'
  else some (qiH T i)
def exOp:Ex->List UInt8|.mk o _ _ _=>o
def qe2:Ex->Nat|.mk _ n _ _=>n
def qcW:Ex->List UInt8|.mk _ _ n _=>n
def qvN:Sm->Int|.mk k _ _ _ _ _=>k
def qvY:Sm->List UInt8|.mk _ n _ _ _ _=>n
def qr7:Sm->List Ex|.mk _ _ i _ _ _=>i
def qth:Sm->List Ex|.mk _ _ _ v _ _=>v
def Good{A:Type}(T:List Tok)(s:Bool)(i op:Nat)(r:Res A):Prop:=match r with
 |.ok _ i' op'=>i<=i'/\(s=true->i<i')/\(i<=T.length->i'<=T.length)/\op'=op
 |.err _ _=>True
def qcZ{A:Type}(T:List Tok)(s:Bool)(i op:Nat)(r:OR A):Prop:=∀ r',r=some r'->Good T s i op r'
theorem qaK{T:List Tok}{i:Nat}{xs:List (List UInt8)}(h:isTok T i xs=true):i<T.length:=by
 rcases lt_or_ge i T.length with h1|h1;exact h1;rw[isTok,List.getElem?_eq_none h1] at h;cases h
theorem qjX{T:List Tok}{i:Nat}{t:Tok}(h:T[i]? = some t):i<T.length:=(List.getElem?_eq_some_iff.1 h).1
theorem qbJ(T:List Tok)(k:Int)(i op:Nat):Good T true i op (qc7 T k i op):=by
 unfold qc7;split
 rename_i t ht
 have:=qjX ht;split;exact⟨by omega,λ_=>by omega,λ_=>by omega,rfl⟩;trivial;trivial
theorem qbg(T:List Tok)(x:List UInt8)(i op:Nat):Good T true i op (qds T x i op):=by
 unfold qds;split
 rename_i h
 have:=qaK h;exact⟨by omega,λ_=>by omega,λ_=>by omega,rfl⟩;trivial
theorem qbB{T:List Tok}{x:List UInt8}{i op i' op':Nat}{u:Unit}(h:qbV T x i op=.ok u i' op'):i'=i+1/\op'=op+1/\op<100/\i<T.length:=by
 unfold qbV at h;split at h
 rename_i h1
 have:=qaK h1;split at h;cases h;cases h;exact⟨rfl,rfl,by omega,this⟩;cases h
theorem qgM{T:List Tok}{x:List UInt8}{i op i' op':Nat}{u:Unit}(h:sEnd T x i op=.ok u i' op'):i'=i+1/\op'=op-1/\i<T.length:=by
 unfold sEnd qds at h;split at h
 rename_i h1
 have:=qaK h1;cases h;exact⟨rfl,rfl,this⟩;cases h
theorem qfQ(T:List Tok)(i op:Nat):Good T true i op (qcQ T i op):=by
 have:=qbJ T 1 i op;unfold qcQ
 cases h:qc7 T 1 i op with
 |ok v i' op'=>rw[h] at this;exact this
 |err l e=>trivial
theorem qaz{A B:Type}{r:OR A}{f:A->Nat->Nat->OR B}{q:Res B}(h:qaE r f=some q) :
  (∃ v i op,r=some (.ok v i op)/\f v i op=some q)∨(∃ l e,r=some (.err l e)/\q=.err l e):=by
 match r,h with
 |some (.ok v i op),h=>exact .inl ⟨v,i,op,rfl,h⟩
 |some (.err l e),h=>exact .inr ⟨l,e,rfl,by simpa [qaE] using h.symm⟩
theorem qaM{A B:Type}{T:List Tok}{s t:Bool}{i op j op1:Nat}{r:OR A}{f:A->Nat->Nat->OR B}(hr:qcZ T s j op1 r)
  (hf:∀ v i' ,r=some (.ok v i' op1)->j<=i'->(s=true->j<i')->(j<=T.length->i'<=T.length)->qcZ T t i op (f v i' op1)):qcZ T t i op (qaE r f):=λq hq=>by
 rcases qaz hq with⟨v,i',op',h1,h2⟩|⟨l,e,_,rfl⟩;obtain⟨g1,g2,g3,g4⟩:=hr _ h1;subst g4;exact hf v i' h1 g1 g2 g3 q h2;trivial
theorem qaH{A:Type}{T:List Tok}{s:Bool}{i op:Nat}{r:Res A}(h:Good T s i op r):qcZ T s i op (some r):=λr' hr=>by cases hr;exact h
theorem qbX{A:Type}{T:List Tok}{s:Bool}{i op:Nat}:qcZ (A:=A) T s i op none:=λr' hr=>by cases hr
theorem qcZ.from{A:Type}{T:List Tok}{s t:Bool}{i j op:Nat}{r:OR A}(h:qcZ T s j op r)(hij:i<=j)(hs:t=true->i<j∨s=true)(hT:i<=T.length->j<=T.length):qcZ T t i op r:=λr' hr=>by
 have:=h r' hr
 cases r' with
 |ok v i' op'=>
  obtain⟨g1,g2,g3,g4⟩:=this;refine⟨by omega,λht=>?_,λhi=>g3 (hT hi),g4⟩;rcases hs ht with h1|h1;omega
  have:=g2 h1;omega
 |err l e=>trivial
theorem qfT(T:List Tok):∀ (f:Nat) (acc:List (List UInt8)) (i op:Nat),qcZ T false i op (qaR T f acc i op)
 |0,_,_,_=>qbX
 |f+1,acc,i,op=>by
  rw[qaR];split
  rename_i h
  have:=qaK h;refine qaM (qaH (qbJ T 2 (i+1) op)) λv i' _ h1 h2 h3=>?_;exact(qfT T f _ i' op).from (by omega) (by simp) (λ_=>h3 (by omega));exact qaH ⟨by omega,by simp,λh=>h,rfl⟩
theorem qcm(T:List Tok)(f i op:Nat):qcZ T true i op (qej T f i op):=
 qaM (qaH (qbJ T 2 i op)) λv i' _ h1 h2 h3=>(qfT T f _ i' op).from h1 (λ_=>.inl (h2 rfl)) h3
theorem qhb{A:Type}{T:List Tok}{s:Bool}{x y:List UInt8}{i op:Nat}{g:Nat->Nat->OR A}(hg:i<T.length->op<100->qcZ T s (i+1) (op+1) (g (i+1) (op+1))) :
  qcZ T true i op (qaE (some (qbV T x i op)) λ_ i' op'=>qaE (g i' op') λv i' op'=>qaE (some (sEnd T y i' op')) λ_ i' op'=>some (.ok v i' op')):=λq hq=>by
 rcases qaz hq with⟨v,i1,op1,h1,h2⟩|⟨l,e,_,rfl⟩;injection h1 with h1;obtain⟨rfl,rfl,ho,hi⟩:=qbB h1;rcases qaz h2 with⟨w,i2,op2,h3,h4⟩|⟨l,e,_,rfl⟩;obtain⟨g1,_,g3,rfl⟩:=hg hi ho _ h3;rcases qaz h4 with⟨u,i3,op3,h5,h6⟩|⟨l,e,_,rfl⟩;injection h5 with h5;obtain⟨rfl,rfl,hi2⟩:=qgM h5;cases h6;exact⟨by omega,λ_=>by omega,λ_=>by omega,by omega⟩;trivial;trivial;trivial
theorem qcU(T:List Tok):∀ f:Nat,(∀ k i op,qcZ T true i op (eLev T f k i op))/\(∀ k e i op,qcZ T false i op (qdE T f k e i op))/\(∀ i op,qcZ T true i op (qb4 T f i op)) /\
  (∀ i op,qcZ T true i op (qeg T f i op))/\(∀ i op,qcZ T true i op (qcg T f i op))/\(∀ i op,qcZ T true i op (qd9 T f i op))/\(∀ acc i op,qcZ T false i op (qaP T f acc i op))
 |0=>⟨λ_ _ _=>by rw[eLev];exact qbX,λ_ _ _ _=>by rw[qdE];exact qbX,λ_ _=>by rw[qb4];exact qbX,λ_ _=>by rw[qeg];exact qbX,λ_ _=>by rw[qcg];exact qbX,λ_ _=>by rw[qd9];exact qbX,λ_ _ _=>by rw[qaP];exact qbX⟩
 |f+1=>by
  obtain⟨hL,hO,hU,hP,hI,hA,hB⟩:=qcU T f
  have neg:∀ (x:List UInt8) (nm:List UInt8) (i op:Nat),qcZ T true i op (qaE (some (qbV T x i op)) λ_ i' op'=>qaE (qb4 T f i' op') λe i' op'=>some (.ok (Ex.mk nm 0 [] [e]) i' (op'-1))):=λx nm i op q hq=>by
   rcases qaz hq with⟨v,i1,op1,h1,h2⟩|⟨l,e,_,rfl⟩;injection h1 with h1;obtain⟨rfl,rfl,ho,hi⟩:=qbB h1;rcases qaz h2 with⟨w,i2,op2,h3,h4⟩|⟨l,e,_,rfl⟩;obtain⟨g1,_,g3,rfl⟩:=hU _ _ _ h3;cases h4;exact⟨by omega,λ_=>by omega,λ_=>g3 (by omega),by omega⟩;trivial;trivial
  refine⟨λk i op=>?_,λk e i op=>?_,λi op=>?_,λi op=>?_,λi op=>?_,λi op=>?_,λacc i op=>?_⟩;rw[eLev];split;exact hU i op;exact qaM (hL (k+1) i op) λv i' _ h1 h2 h3=>(hO k v i' op).from h1 (λ_=>.inl (h2 rfl)) h3;rw[qdE];split
  rename_i h
  have:=qaK h;refine qaM (hL (k+1) (i+1) op) λv i' _ h1 h2 h3=>?_;split;exact qaH ⟨by omega,by simp,λ_=>h3 (by omega),rfl⟩;exact(hO k _ i' op).from (by omega) (by simp) (λ_=>h3 (by omega));exact qaH ⟨by omega,by simp,λh=>h,rfl⟩;rw[qb4];split;exact neg _ _ _ _;split;exact neg _ _ _ _;exact hP i op;rw[qeg];split;exact qhb (g:=λi op=>eLev T f 0 i op) λ_ _=>hL 0 _ _;split;exact qaM (qaH (qfQ T i op)) λv i' _ h1 h2 h3=>qaH ⟨h1,λ_=>h2 rfl,h3,rfl⟩;refine qaM (qaH (qbJ T 2 i op)) λv i' _ h1 h2 h3=>?_;split;exact qaM (hI i' op) λv i2 _ g1 g2 g3=>qaH ⟨by omega,λ_=>by have:=h2 rfl;omega,λh=>g3 (h3 h),rfl⟩;split;exact qaM (hA i' op) λv i2 _ g1 g2 g3=>qaH ⟨by omega,λ_=>by have:=h2 rfl;omega,λh=>g3 (h3 h),rfl⟩;exact qaH ⟨h1,λ_=>h2 rfl,h3,rfl⟩;rw[qcg];exact qhb (g:=λi op=>eLev T f 0 i op) λ_ _=>hL 0 _ _;rw[qd9];exact qhb (g:=λi op=>qaP T f [] i op) λ_ _=>hB [] _ _;rw[qaP];split;exact qaH ⟨by omega,by simp,λh=>h,rfl⟩;refine qaM (s:=false) (j:=i) (op1:=op) ?_ λv i' _ h1 h2 h3=>?_;split;exact qaH ⟨by omega,by simp,λh=>h,rfl⟩;exact qcZ.from (qaH (qbg T [44] i op)) (by omega) (by simp) (λh=>h);exact qaM (hL 0 i' op) λv i2 _ g1 g2 g3=>(hB _ i2 op).from (by omega) (by simp) (λh=>g3 (h3 h))
end Go.Stele
namespace Go.Stele
theorem qgI(T:List Tok):∀ f:Nat,(∀ i op,qcZ T true i op (qci T f i op))/\(∀ acc i op,qcZ T false i op (qbQ T f acc i op))/\(∀ i op,qcZ T true i op (qee T f i op))/\(∀ i op,qcZ T true i op (qbH T f i op))
 |0=>⟨λ_ _=>by rw[qci];exact qbX,λ_ _ _=>by rw[qbQ];exact qbX,λ_ _=>by rw[qee];exact qbX,λ_ _=>by rw[qbH];exact qbX⟩
 |f+1=>by
  obtain⟨hB,hL,hS,hM⟩:=qgI T f;obtain⟨gL,_,_,_,gI,gA,_⟩:=qcU T f;refine⟨λi op=>?_,λacc i op=>?_,λi op=>?_,λi op=>?_⟩;rw[qci];exact qhb (g:=λi op=>qbQ T f [] i op) λ_ _=>hL [] _ _;rw[qbQ];split;exact qaH ⟨by omega,by simp,λh=>h,rfl⟩;exact qaM (hS i op) λv i' _ h1 h2 h3=>(hL _ i' op).from h1 (by simp) h3;rw[qee];split
  rename_i h
  have:=qaK h;refine qaM (gL 0 (i+1) op) λv i' _ h1 h2 h3=>qaM (hB i' op) λw i2 _ g1 g2 g3=>?_;split
  rename_i h4
  have:=qaK h4;refine qaM (hB (i2+1) op) λx i3 _ k1 k2 k3=>qaH ⟨by omega,λ_=>by omega,λ_=>k3 (by omega),rfl⟩;exact qaH ⟨by omega,λ_=>by omega,λ_=>g3 (h3 (by omega)),rfl⟩;split
  rename_i h
  have:=qaK h;exact qaM (gL 0 (i+1) op) λv i' _ h1 h2 h3=>qaM (hB i' op) λw i2 _ g1 g2 g3=>qaH ⟨by omega,λ_=>by omega,λ_=>g3 (h3 (by omega)),rfl⟩;exact qaM (hM i op) λv i' _ h1 h2 h3=>qaM (qaH (qbg T [59] i' op)) λw i2 _ g1 g2 g3=>qaH ⟨by omega,λ_=>by have:=h2 rfl;omega,λhh=>g3 (h3 hh),rfl⟩;rw[qbH];split
  rename_i h
  have:=qaK h;exact qaM (gL 0 (i+1) op) λv i' _ h1 h2 h3=>qaH ⟨by omega,λ_=>by omega,λ_=>h3 (by omega),rfl⟩;split
  rename_i h
  have:=qaK h;exact qaH ⟨by omega,λ_=>by omega,λ_=>by omega,rfl⟩;refine qaM (qaH (qbJ T 2 i op)) λv i' _ h1 h2 h3=>?_;split;exact qaM (gA i' op) λw i2 _ g1 g2 g3=>qaH ⟨by omega,λ_=>by have:=h2 rfl;omega,λhh=>g3 (h3 hh),rfl⟩;split
  exact qaM (gI i' op) λw i2 _ g1 g2 g3=>qaM (qaH (qbg T [61] i2 op)) λu i3 _ k1 k2 k3=>qaM (gL 0 i3 op) λx i4 _ m1 m2 m3=>
   qaH ⟨by omega,λ_=>by have:=h2 rfl;omega,λhh=>m3 (k3 (g3 (h3 hh))),rfl⟩
  exact qaM (qaH (qbg T [61] i' op)) λu i3 _ k1 k2 k3=>qaM (gL 0 i3 op) λx i4 _ m1 m2 m3=>
   qaH ⟨by omega,λ_=>by have:=h2 rfl;omega,λhh=>m3 (k3 (h3 hh)),rfl⟩
theorem qcs(T:List Tok):∀ (f:Nat) (acc:List (List UInt8)) (i op:Nat),qcZ T (isTok T i [qkI]) i op (qcz T f acc i op)
 |0,_,_,_=>by rw[qcz];exact qbX
 |f+1,acc,i,op=>by
  rw[qcz];split
  rename_i h
  have:=qaK h
  exact qaM (qcm T f (i+1) op) λv i' _ h1 h2 h3=>qaM (qaH (qbg T [59] i' op)) λu i2 _ g1 g2 g3=>
   (qcs T f _ i2 op).from (by omega) (λ_=>.inl (by omega)) (λ_=>g3 (h3 (by omega)))
  rename_i h
  exact qaH ⟨by omega,λhh=>absurd hh h,λh=>h,rfl⟩
def Ends{A:Type}(r:OR A):Prop:=∃ q,r=some q
theorem qas{A B:Type}{r:OR A}{f:A->Nat->Nat->OR B}(h:Ends r)(k:∀ v i op,r=some (.ok v i op)->Ends (f v i op)):Ends (qaE r f):=by
 obtain⟨q,rfl⟩:=h
 cases q with
 |ok v i op=>exact k v i op rfl
 |err l e=>exact⟨_,rfl⟩
theorem qar{A:Type}{r:Res A}:Ends (some r):=⟨_,rfl⟩
theorem qcM{B:Type}{T:List Tok}{x:List UInt8}{i op:Nat}{g:Unit->Nat->Nat->OR B}(k:i<T.length->op<100->Ends (g () (i+1) (op+1))):Ends (qaE (some (qbV T x i op)) g):=
 qas qar λv i1 op1 h1=>by
  injection h1 with h1;obtain⟨rfl,rfl,ho,hi⟩:=qbB h1;exact k hi ho
theorem qsT(T:List Tok):∀ f:Nat,(∀ k i op,k<=6->i<=T.length->10 * (T.length-i)+20-k<=f->Ends (eLev T f k i op))/\(∀ k e i op,k<=5->i<=T.length->10 * (T.length-i)+11<=f->Ends (qdE T f k e i op)) /\
  (∀ i op,i<=T.length->10 * (T.length-i)+13<=f->Ends (qb4 T f i op))/\(∀ i op,i<=T.length->10 * (T.length-i)+12<=f->Ends (qeg T f i op))/\(∀ i op,i<=T.length->10 * (T.length-i)+11<=f->Ends (qcg T f i op)) /\
  (∀ i op,i<=T.length->10 * (T.length-i)+12<=f->Ends (qd9 T f i op))/\(∀ acc i op,i<=T.length->10 * (T.length-i)+21<=f->Ends (qaP T f acc i op))
 |0=>⟨λ_ _ _ _ _ _=>by omega,λ_ _ _ _ _ _ _=>by omega,λ_ _ _ _=>by omega,λ_ _ _ _=>by omega,λ_ _ _ _=>by omega,λ_ _ _ _=>by omega,λ_ _ _ _ _=>by omega⟩
 |f+1=>by
  obtain⟨hL,hO,hU,hP,hI,hA,hB⟩:=qsT T f;obtain⟨gL,gO,gU,gP,gI,gA,gB⟩:=qcU T f
  have neg:∀ (x nm:List UInt8) (i op:Nat),10 * (T.length-i)+13<=f+1->Ends (qaE (some (qbV T x i op)) λ_ i' op'=>qaE (qb4 T f i' op') λe i' op'=>some (.ok (Ex.mk nm 0 [] [e]) i' (op'-1))):=λx nm i op hf=>
   qcM λhi ho=>qas (hU _ _ (by omega) (by omega)) λv i2 op2 _=>qar
  refine⟨λk i op hk hi hf=>?_,λk e i op hk hi hf=>?_,λi op hi hf=>?_,λi op hi hf=>?_,λi op hi hf=>?_,λi op hi hf=>?_,λacc i op hi hf=>?_⟩;rw[eLev];split;exact hU i op hi (by omega);refine qas (hL (k+1) i op (by omega) hi (by omega)) λv i' op' h=>?_;obtain⟨g1,g2,g3,rfl⟩:=gL (k+1) i op _ h;have:=g2 rfl;exact hO k v i' op' (by omega) (g3 hi) (by have:=g3 hi;omega);rw[qdE];split
  rename_i h
  have:=qaK h;refine qas (hL (k+1) (i+1) op (by omega) (by omega) (by omega)) λv i' op' h=>?_;obtain⟨g1,g2,g3,rfl⟩:=gL (k+1) (i+1) op _ h;have:=g3 (by omega);split;exact qar;exact hO k _ i' op' hk this (by omega);exact qar;rw[qb4];split;exact neg _ _ _ _ hf;split;exact neg _ _ _ _ hf;exact hP i op hi (by omega);rw[qeg];split;exact qcM λhlt ho=>qas (hL 0 _ _ (by omega) (by omega) (by omega)) λv i2 op2 _=>qas qar λ_ _ _ _=>qar;split;exact qas qar λ_ _ _ _=>qar;refine qas qar λv i' op' h=>?_;injection h with h;have hg:=qbJ T 2 i op;rw[h] at hg;obtain⟨h1,h2,h3,rfl⟩:=hg;have:=h2 rfl;have:=h3 hi;split;exact qas (hI i' _ (by omega) (by omega)) λ_ _ _ _=>qar;split;exact qas (hA i' _ (by omega) (by omega)) λ_ _ _ _=>qar;exact qar;rw[qcg];exact qcM λhlt ho=>qas (hL 0 _ _ (by omega) (by omega) (by omega)) λv i2 op2 _=>qas qar λ_ _ _ _=>qar;rw[qd9];exact qcM λhlt ho=>qas (hB [] _ _ (by omega) (by omega)) λv i2 op2 _=>qas qar λ_ _ _ _=>qar;rw[qaP];split;exact qar;refine qas qar λv i' op' h=>?_
  have hg:i<=i'/\i'<=T.length:=by
   injection h with h;split at h;cases h;exact⟨zNr _,hi⟩;have hg:=qbg T [44] i op;rw[h] at hg;exact⟨hg.1,hg.2.2.1 hi⟩
  refine qas (hL 0 i' op' (by omega) hg.2 (by omega)) λv2 i2 op2 h2=>?_;obtain⟨g1,g2,g3,rfl⟩:=gL 0 i' op' _ h2;have:=g2 rfl;have:=g3 hg.2;exact hB _ i2 _ this (by omega)
theorem qrW(T:List Tok):∀ f:Nat,(∀ i op,i<=T.length->10 * (T.length-i)+5<=f->Ends (qci T f i op))/\(∀ acc i op,i<=T.length->10 * (T.length-i)+14<=f->Ends (qbQ T f acc i op)) /\
  (∀ i op,i<=T.length->10 * (T.length-i)+13<=f->Ends (qee T f i op))/\(∀ i op,i<=T.length->10 * (T.length-i)+12<=f->Ends (qbH T f i op))
 |0=>⟨λ_ _ _ _=>by omega,λ_ _ _ _ _=>by omega,λ_ _ _ _=>by omega,λ_ _ _ _=>by omega⟩
 |f+1=>by
  obtain⟨hB,hL,hS,hM⟩:=qrW T f;obtain⟨eL,_,_,_,eI,eA,_⟩:=qsT T f;obtain⟨gL,_,_,_,gI,gA,_⟩:=qcU T f;obtain⟨kB,kL,kS,kM⟩:=qgI T f;refine⟨λi op hi hf=>?_,λacc i op hi hf=>?_,λi op hi hf=>?_,λi op hi hf=>?_⟩;rw[qci];exact qcM λhlt ho=>qas (hL [] _ _ (by omega) (by omega)) λv i2 op2 _=>qas qar λ_ _ _ _=>qar;rw[qbQ];split;exact qar;refine qas (hS i op hi (by omega)) λv i' op' h=>?_;obtain⟨g1,g2,g3,rfl⟩:=kS i op _ h;have:=g2 rfl;have:=g3 hi;exact hL _ i' _ (by omega) (by omega);rw[qee];split
  rename_i h
  have:=qaK h;refine qas (eL 0 (i+1) op (by omega) (by omega) (by omega)) λv i' op' h=>?_;obtain⟨g1,g2,g3,rfl⟩:=gL 0 (i+1) op _ h;have:=g2 rfl;have:=g3 (by omega);refine qas (hB i' _ (by omega) (by omega)) λv2 i2 op2 h2=>?_;obtain⟨q1,q2,q3,rfl⟩:=kB i' _ _ h2;have:=q3 (by omega);split
  rename_i h4
  have:=qaK h4;exact qas (hB (i2+1) _ (by omega) (by omega)) λ_ _ _ _=>qar;exact qar;split
  rename_i h
  have:=qaK h;refine qas (eL 0 (i+1) op (by omega) (by omega) (by omega)) λv i' op' h=>?_;obtain⟨g1,g2,g3,rfl⟩:=gL 0 (i+1) op _ h;have:=g2 rfl;have:=g3 (by omega);exact qas (hB i' _ (by omega) (by omega)) λv2 i2 op2 h2=>qar;exact qas (hM i op hi (by omega)) λ_ _ _ _=>qas qar λ_ _ _ _=>qar;rw[qbH];split
  rename_i h
  have:=qaK h;exact qas (eL 0 (i+1) op (by omega) (by omega) (by omega)) λ_ _ _ _=>qar;split;exact qar;refine qas qar λv i' op' h=>?_;injection h with h;have hg:=qbJ T 2 i op;rw[h] at hg;obtain⟨h1,h2,h3,rfl⟩:=hg;have:=h2 rfl;have:=h3 hi;split;exact qas (eA i' _ (by omega) (by omega)) λ_ _ _ _=>qar
  have tail:∀ (i2 op2:Nat) (g:Ex->Sm),i'<=i2->i2<=T.length->Ends (qaE (some (qds T [61] i2 op2)) λ_ i' op'=>qaE (eLev T f 0 i' op') λe i' op'=>some (.ok (g e) i' op')):=λi2 op2 g hi1 hi2=>by
   refine qas qar λv i3 op3 h3=>?_;injection h3 with h3;have hg:=qbg T [61] i2 op2;rw[h3] at hg;have:=hg.2.2.1 hi2;have:=hg.1;exact qas (eL 0 i3 _ (by omega) (by omega) (by omega)) λ_ _ _ _=>qar
  split;refine qas (eI i' _ (by omega) (by omega)) λv2 i2 op2 h2=>?_;obtain⟨q1,q2,q3,rfl⟩:=gI i' _ _ h2;exact tail i2 _ _ q1 (q3 (by omega));exact tail i' _ _ (zNr _) (by omega)
theorem qfI(T:List Tok):∀ (f:Nat) (acc:List (List UInt8)) (i op:Nat),i<=T.length->T.length-i+1<=f->Ends (qaR T f acc i op)
 |0,_,_,_,_,h=>by omega
 |f+1,acc,i,op,hi,hf=>by
  rw[qaR];split
  rename_i h
  have:=qaK h;refine qas qar λv i' op' h=>?_;injection h with h;have hg:=qbJ T 2 (i+1) op;rw[h] at hg;obtain⟨h1,h2,h3,rfl⟩:=hg;exact qfI T f _ i' _ (h3 (by omega)) (by have:=h3 (by omega);omega);exact qar
theorem qkc(T:List Tok)(f i op:Nat)(hi:i<=T.length)(hf:T.length-i+1<=f):Ends (qej T f i op):=
 qas qar λv i' op' h=>by
  injection h with h;have hg:=qbJ T 2 i op;rw[h] at hg;obtain⟨h1,h2,h3,rfl⟩:=hg;exact qfI T f _ i' _ (h3 hi) (by have:=h3 hi;omega)
theorem qii(T:List Tok):∀ (f:Nat) (acc:List (List UInt8)) (i op:Nat),i<=T.length->T.length-i+2<=f->Ends (qcz T f acc i op)
 |0,_,_,_,_,h=>by omega
 |f+1,acc,i,op,hi,hf=>by
  rw[qcz];split
  rename_i h
  have:=qaK h;refine qas (qkc T f (i+1) op (by omega) (by omega)) λv i' op' h=>?_;obtain⟨g1,g2,g3,rfl⟩:=qcm T f (i+1) op _ h;have:=g3 (by omega);refine qas qar λv i2 op2 h2=>?_;injection h2 with h2;have hg:=qbg T [59] i' op';rw[h2] at hg;obtain⟨h1,h2,h3,rfl⟩:=hg;have:=h3 (by omega);exact qii T f _ i2 _ (by omega) (by omega);exact qar
theorem qlr{B:Type}{T:List Tok}{k:Int}{i op:Nat}{g:List UInt8->Nat->Nat->OR B}(h:∀ s,i<T.length->Ends (g s (i+1) op)):Ends (qaE (some (qc7 T k i op)) g):=
 qas qar λv i' op' hw=>by
  injection hw with hw;unfold qc7 at hw;split at hw
  rename_i t ht
  have:=qjX ht;split at hw;cases hw;exact h _ this;cases hw;cases hw
theorem qtZ{B:Type}{T:List Tok}{x:List UInt8}{i op:Nat}{g:Unit->Nat->Nat->OR B}(h:i<T.length->Ends (g () (i+1) (op-1))):Ends (qaE (some (sEnd T x i op)) g):=
 qas qar λv i' op' hw=>by
  injection hw with hw;obtain⟨rfl,rfl,hlt⟩:=qgM hw;exact h hlt
theorem qq2(T:List Tok)(f i op:Nat)(hi:i<=T.length)(hf:10 * (T.length-i)+14<=f):Ends (qgq T f i op):=by
 unfold qgq;refine qlr λs h1=>qcM λh2 h3=>qas ?_ λv i2 op2 h4=>qtZ λh5=>qcM λh6 h7=>qas (qii T f [] _ _ (by omega) ?_) λv2 i3 op3 h8=>qas ((qrW T f).2.1 [] _ _ ?_ ?_) λv3 i4 op4 h9=>qas qar λ_ _ _ _=>qar;split;exact qar;exact qkc T f _ _ (by omega) (by omega)
 have:i+1+1<=i2:=by
  split at h4;cases h4;omega;exact(qcm T f _ _ _ h4).1
 omega;exact(qcs T f _ _ _ _ h8).2.2.1 (by omega)
 have:i+1+1<=i2:=by
  split at h4;cases h4;omega;exact(qcm T f _ _ _ h4).1
 have:=(qcs T f _ _ _ _ h8).1;omega
theorem qeA(T:List Tok)(f i op:Nat):qcZ T true i op (qgq T f i op):=by
 intro q hq0;unfold qgq at hq0
 cases q with
 |err l e=>trivial
 |ok v i9 op9=>
  rcases qaz hq0 with⟨s,i1,op1,h1,hq1⟩|⟨l,e,_,h⟩;injection h1 with h1;have g1:=qbJ T 2 i op;rw[h1] at g1;obtain⟨a1,a2,a3,rfl⟩:=g1;have:=a2 rfl;rcases qaz hq1 with⟨_,i2,op2,h2,hq2⟩|⟨l,e,_,h⟩;injection h2 with h2;obtain⟨rfl,rfl,b1,b2⟩:=qbB h2;rcases qaz hq2 with⟨ps,i3,op3,h3,hq3⟩|⟨l,e,_,h⟩
  have c:i1+1<=i3/\(i1+1<=T.length->i3<=T.length)/\op3=op1+1:=by
   split at h3;cases h3;exact⟨zNr _,λh=>h,rfl⟩;obtain⟨c1,_,c3,c4⟩:=qcm T f _ _ _ h3;exact⟨c1,c3,c4⟩
  obtain⟨c1,c2,rfl⟩:=c;rcases qaz hq3 with⟨_,i4,op4,h4,hq4⟩|⟨l,e,_,h⟩;injection h4 with h4;obtain⟨rfl,rfl,d1⟩:=qgM h4;rcases qaz hq4 with⟨_,i5,op5,h5,hq5⟩|⟨l,e,_,h⟩;injection h5 with h5;obtain⟨rfl,rfl,e1,e2⟩:=qbB h5;rcases qaz hq5 with⟨ls,i6,op6,h6,hq6⟩|⟨l,e,_,h⟩;obtain⟨f1,_,f3,rfl⟩:=qcs T f _ _ _ _ h6;have:=f3 (by omega);rcases qaz hq6 with⟨bs,i7,op7,h7,hq7⟩|⟨l,e,_,h⟩;obtain⟨k1,_,k3,rfl⟩:=(qgI T f).2.1 _ _ _ _ h7;have:=k3 (by omega);rcases qaz hq7 with⟨_,i8,op8,h8,hq8⟩|⟨l,e,_,h⟩;injection h8 with h8;obtain⟨rfl,rfl,m1⟩:=qgM h8;cases hq8;exact⟨by omega,λ_=>by omega,λ_=>by omega,by omega⟩;cases h;cases h;cases h;cases h;cases h;cases h;cases h;cases h
theorem qdY(T:List Tok)(i op:Nat):qcZ T true i op (qey T i op):=by
 intro q hq0;unfold qey at hq0
 cases q with
 |err l e=>trivial
 |ok v i9 op9=>
  rcases qaz hq0 with⟨s,i1,op1,h1,hq1⟩|⟨l,e,_,h⟩;injection h1 with h1;have g1:=qbJ T 2 i op;rw[h1] at g1;obtain⟨a1,a2,a3,rfl⟩:=g1;have:=a2 rfl;rcases qaz hq1 with⟨_,i2,op2,h2,hq2⟩|⟨l,e,_,h⟩;injection h2 with h2;obtain⟨rfl,rfl,b1,b2⟩:=qbB h2;rcases qaz hq2 with⟨ps,i3,op3,h3,hq3⟩|⟨l,e,_,h⟩;injection h3 with h3;have g3:=qfQ T (i1+1) (op1+1);rw[h3] at g3;obtain⟨c1,c2,c3,rfl⟩:=g3;have:=c2 rfl;rcases qaz hq3 with⟨_,i4,op4,h4,hq4⟩|⟨l,e,_,h⟩;injection h4 with h4;obtain⟨rfl,rfl,d1⟩:=qgM h4;rcases qaz hq4 with⟨_,i5,op5,h5,hq5⟩|⟨l,e,_,h⟩;injection h5 with h5;have g5:=qbg T [59] (i3+1) op4;rw[h5] at g5;obtain⟨e1,e2,e3,rfl⟩:=g5;have:=e2 rfl;have:=e3 (by omega);cases hq5;exact⟨by omega,λ_=>by omega,λ_=>by omega,by omega⟩;cases h;cases h;cases h;cases h;cases h
theorem qoK(T:List Tok)(i op:Nat):Ends (qey T i op):=by
 unfold qey;exact qlr λs _=>qcM λ_ _=>qas qar λ_ _ _ _=>qas qar λ_ _ _ _=>qas qar λ_ _ _ _=>qar
theorem qdR(T:List Tok):∀ (f:Nat) (p:Pr) (i op:Nat),i<=T.length->10 * (T.length-i)+20<=f->Ends (qcN T f p i op)
 |0,_,_,_,_,h=>by omega
 |f+1,p,i,op,hi,hf=>by
  rw[qcN];split;exact qar;split
  rename_i h
  have:=qaK h;refine qas (qii T f _ i op hi (by omega)) λv i' op' h2=>?_;obtain⟨g1,g2,g3,rfl⟩:=qcs T f _ i op _ h2;have:=g2 h;have:=g3 hi;exact qdR T f _ i' _ (by omega) (by omega);split
  rename_i h
  have:=qaK h;refine qas (qoK T _ _) λv i' op' h2=>?_;obtain⟨g1,g2,g3,rfl⟩:=qdY T _ _ _ h2;have:=g3 (by omega);exact qdR T f _ i' _ (by omega) (by omega);split
  rename_i h
  have:=qaK h;refine qas (qq2 T f _ _ (by omega) (by omega)) λv i' op' h2=>?_;obtain⟨g1,g2,g3,rfl⟩:=qeA T f _ _ _ h2;have:=g3 (by omega);exact qdR T f _ i' _ (by omega) (by omega);exact qar
open Go.Lib
theorem qmx(M:Nat):∀ (l r:List UInt8) (acc u:Nat),parseUintM M acc l=.ok u->parseUintM M acc (l++r)=parseUintM M u r
 |[],r,acc,u,h=>by
  rw[parseUintM] at h;cases h
  rfl
 |c::l,r,acc,u,h=>by
  rw[parseUintM] at h;rw[cons_append,parseUintM];split at h
  rename_i hc
  rw[if_pos hc];split at h;cases h
  rename_i h1
  rw[if_neg h1];split at h;cases h
  rename_i h2
  rw[if_neg h2];exact qmx M l r _ u h;cases h
theorem qkt{d:Nat}(h:d<10):(UInt8.ofNat (48+d)).toNat=48+d:=by
 rw[UInt8.toNat_ofNat'];omega
theorem qyy(M:Nat)(hM:M<=4294967295)(u:Nat)(hu:u<=M):parseUintM M 0 (decDigits u)=.ok u:=by
 induction u using Nat.strongRecOn with
 |_ u ih=>
  have one:∀ a d,d<10->a * 10+d<=M->parseUintM M a [UInt8.ofNat (48+d)]=.ok (a * 10+d):=λa d hd ha=>by
   rw[parseUintM,qkt hd,if_pos (by omega),if_neg (by omega),if_neg (by omega),parseUintM];congr 1;omega
  rw[decDigits];split;have:=one 0 u (by assumption) (by omega);simpa using this;rw[qmx M _ _ 0 (u / 10) (ih (u / 10) (by omega) (by omega)),one _ _ (by omega) (by omega)];congr 1;omega
theorem qcq(u:Nat):decDigits u≠[]:=by
 rw[decDigits];split <;> simp
theorem qml(u:Nat)(hu:u<4294967296):parseUintB 32 (decDigits u)=.ok u:=by
 rw[parseUintB,if_neg (qcq u)];exact qyy _ zDd u (by omega)
theorem qf1:∀ (k u:Nat),u<10 ^ (k+1)->nDigits u<=k+1
 |0,u,h=>by rw[nDigits_small (by simpa using h)];omega
 |k+1,u,h=>by
  by_cases hu:u<10
  rw[nDigits_small hu];omega;rw[nDigits_big hu];have:=qf1 k (u / 10) (by rw[Nat.pow_succ] at h;omega);omega
theorem qh6{u:Nat}(hu:u<4294967296):(decDigits u).length<=10:=by
 rw[decDigits_length];exact qf1 9 u (by omega)
theorem qn0{l:List UInt8}{u:Nat}(h:parseUintB 32 l=.ok u):u<4294967296:=by
 have key:∀ (l:List UInt8) (acc u:Nat),acc<=4294967295->parseUintM 4294967295 acc l=.ok u->u<=4294967295:=by
  intro l
  induction l with
  |nil=>intro acc u ha h;rw[parseUintM] at h;cases h;exact ha
  |cons c l ih=>
   intro acc u ha h;rw[parseUintM] at h;split at h;split at h;cases h;split at h;cases h;exact ih _ _ (by omega) h;cases h
 rw[parseUintB] at h;split at h;cases h;have:=key _ _ _ (by omega) h;omega
def qxC(t:Tok):Prop:=t.text.length<=100/\(t.kind=1->∃ u,u<4294967296/\parseUintB 32 t.text=.ok u/\t.text=decDigits u)
theorem qo7(s:List UInt8)(h:(qaw s).2.2=0):qxC (qaw s).1:=by
 match s with
 |[]=>simp[qaw,qb9] at h
 |c::r=>
  simp only[qaw] at h ⊢;split at h <;> rename_i hc;rw[if_pos hc];unfold qdo at h ⊢;split at h;simp[qb9] at h
  rename_i hw
  rw[if_neg hw];split at h
  rename_i u hu
  have hlt:=qn0 hu;exact⟨by have:=qh6 hlt;simp only;omega,λ_=>⟨u,hlt,qml u hlt,rfl⟩⟩;simp[qb9] at h;rw[if_neg hc];split at h <;> rename_i hl;rw[if_pos hl];unfold qfD at h ⊢;split at h;simp[qb9] at h
  rename_i hw
  rw[if_neg hw];refine⟨by simp only;omega,λhk=>?_⟩;simp only at hk;split at hk <;> cases hk;rw[if_neg hl];split at h <;> rename_i hq;rw[if_pos hq];unfold qcr at h ⊢;split at h;split at h;simp[qb9] at h
  rename_i hx
  rename_i heq
  rename_i b _ _
  rw[if_neg hx];have hb:b.toNat<4294967296:=Nat.lt_trans (UInt8.toNat_lt b) zDd;exact⟨by have:=qh6 hb;simp only;omega,λ_=>⟨b.toNat,hb,qml _ hb,rfl⟩⟩;simp[qb9] at h;rw[if_neg hq];unfold qgC at h ⊢;split at h
  rename_i x hx
  have h2:=List.mem_of_find?_eq_some hx;have:∀ x∈qcO,x.length<=100:=by decide
  exact⟨this x h2,λhk=>by cases hk⟩;simp[qb9] at h
theorem qyz{A B:Type}{f:A->B}{r:Except (Int×Int) A}{b:B}(h:r.map f=.ok b):∃ a,r=.ok a/\f a=b:=by
 cases r with
 |ok a=>exact⟨a,rfl,by injection h⟩
 |error e=>cases h
theorem qoD:∀ (f:Nat) (s:List UInt8) (line:Int) (T:List Tok),lexP f s line=.ok T->T.length<=f/\∀ t∈T,qxC t
 |0,s,line,T,h=>by
  rw[lexP] at h;cases h
  exact⟨zNr _,by simp⟩
 |f+1,s,line,T,h=>by
  rw[lexP] at h;split at h;cases h;exact⟨zero_le _,by simp⟩;split at h;split at h;cases h
  rename_i he
  obtain⟨T',h1,rfl⟩:=qyz h;obtain⟨k1,k2⟩:=qoD f _ _ _ h1;refine⟨by rw[zLc];omega,λt ht=>?_⟩;rcases zMi.1 ht with rfl|ht;exact qo7 s (by omega);exact k2 t ht;obtain⟨k1,k2⟩:=qoD f _ _ _ h;exact⟨by omega,k2⟩
abbrev Wd:=List UInt8
def numW(w:Wd):Option Nat:=match Go.Lib.parseUintB 32 w with
 |.ok u=>if Go.Lib.decDigits u=w then some u else none
 |_=>none
def qkr(s:Wd):Bool:=match s with
 |[]=>false
 |c::r=>decide (s.length<=40) && qaV c && s.all qaW
def defW(w:Wd):Option Wd:=if w.getLast? = some 58/\qkr w.dropLast=true then some w.dropLast else none
def refW(w:Wd):Option Wd:=match w with
 |[]=>none
 |c::r=>if c=38/\qkr r=true then some r else none
def wdAt(l:List Wd)(i:Nat):Wd:=(l[i]?).getD []
def qd1(a:Nat)(op:Wd)(b:Nat):Option Nat:=
 if op=[43] then some ((a+b) % 4294967296)
 else if op=[45] then some ((a+4294967296-b) % 4294967296)
 else if op=[42] then some (a * b % 4294967296)
 else if op=[94] then some (a ^^^ b)
 else if op=[60] then some (if a<b then 1 else 0)
 else if op=[47] then (if b=0 then none else some (a / b))
 else if op=[37] then (if b=0 then none else some (a % b))
 else none
def qa1(x op y:Wd):Option Wd:=match numW x,numW y with
 |some a,some b=>match qd1 a op b with
  |some c=>if (Go.Lib.decDigits c).length<=x.length+y.length+1 then some (Go.Lib.decDigits c) else none
  |none=>none
 |_,_=>none
def qdb(v:List Wd)(i:Nat):Option Wd:=match refW (wdAt v i) with
 |some l=>if wdAt v (i+1)=[63] then some l else none
 |none=>none
abbrev qeZ:=Nat×List Wd
def qhK(v:List Wd):qeZ:=match qa1 (wdAt v 0) (wdAt v 2) (wdAt v 1) with
 |some s=>(3,[s])
 |none=>(0,[])
def qcV(v:List Wd):qeZ:=
 if wdAt v 0=[48]/\(wdAt v 1=[43]∨wdAt v 1=[45]∨wdAt v 1=[94])∨wdAt v 0=[49]/\(wdAt v 1=[42]∨wdAt v 1=[47]) then (2,[]) else (0,[])
def qcx(v:List Wd):qeZ:=
 if (wdAt v 1=[43]∨wdAt v 1=[42]∨wdAt v 1=[94])/\wdAt v 3=wdAt v 1 then
  (match qa1 (wdAt v 0) (wdAt v 1) (wdAt v 2) with
  |some s=>(4,[s,wdAt v 1])
  |none=>(0,[]))
 else (0,[])
def qiT(v:List Wd):qeZ:=if (numW (wdAt v 0)).isSome=true/\wdAt v 1=[64]/\wdAt v 2=wdAt v 0/\wdAt v 3=[33] then (4,[]) else (0,[])
def qdw(v:List Wd):qeZ:=if (qdb v 4).isSome=true/\wdAt v 0=[49]/\wdAt v 1=[60]/\wdAt v 2=[49]/\wdAt v 3=[60] then (6,[wdAt v 4,wdAt v 5]) else (0,[])
def qeT(v:List Wd):qeZ:=match numW (wdAt v 0) with
 |some n=>if n≠0/\(qdb v 1).isSome=true then (3,[]) else (0,[])
 |none=>(0,[])
def qf0(l:Wd):List Wd->Bool
 |[]=>false
 |w::r=>match defW w with
  |some d=>decide (d=l) || qf0 l r
  |none=>false
def qhU(v:List Wd):qeZ:=match qdb v 1 with
 |some l=>if wdAt v 0=[48]/\qf0 l (v.drop 3)=true then (3,[]) else (0,[])
 |none=>(0,[])
def qcu(v:List Wd):Nat:=if (qdb v 1).isSome=true/\wdAt v 0=[48] then 3 else if wdAt v 0=[59]∨wdAt v 0=[36] then 1 else 0
def qbU(v:List Wd):Nat:=(v.takeWhile λw=>(defW w).isNone).length
def qiQ(v:List Wd):qeZ:=if 0<qcu v/\0<qbU (v.drop (qcu v)) then (qcu v+qbU (v.drop (qcu v)),v.take (qcu v)) else (0,[])
def qcA(used:Wd->Bool)(v:List Wd):qeZ:=match defW (wdAt v 0) with
 |some l=>if used l=true then (0,[]) else (1,[])
 |none=>(0,[])
def qa2(used:Wd->Bool)(v:List Wd):qeZ:=
 if (qhK v).1≠0 then qhK v else if (qcV v).1≠0 then qcV v else if (qcx v).1≠0 then qcx v else if (qiT v).1≠0 then qiT v else if (qdw v).1≠0 then qdw v else
 if (qeT v).1≠0 then qeT v else if (qhU v).1≠0 then qhU v else if (qiQ v).1≠0 then qiQ v else qcA used v
def qcB(used:Wd->Bool):Nat->List Wd->List Wd
 |0,_=>[]
 |_+1,[]=>[]
 |f+1,w::r=>if (qa2 used (w::r)).1=0 then w::qcB used f r else (qa2 used (w::r)).2++qcB used f ((w::r).drop (qa2 used (w::r)).1)
def qaO(l:List Wd)(s:Wd):Bool:=l.any λw=>decide (refW w=some s)
def qed(l:List Wd):List Wd:=qcB (qaO l) l.length l
theorem qbT{v:List Wd}{i:Nat}(h:wdAt v i≠[]):i<v.length:=by
 rcases lt_or_ge i v.length with h1|h1;exact h1;exact absurd (by simp[wdAt,List.getElem?_eq_none h1]) h
theorem qsP{w:Wd}{n:Nat}(h:numW w=some n):w≠[]:=by
 rintro rfl;have:numW []=none:=by decide +kernel
 rw[this] at h;cases h
theorem qcF{v:List Wd}{i:Nat}{l:Wd}(h:qdb v i=some l):i+1<v.length:=by
 unfold qdb at h;split at h;split at h
 rename_i h2
 exact qbT (by rw[h2];decide);cases h;cases h
theorem qxj{a b:Nat}{op:Wd}{c:Nat}(h:qd1 a op b=some c):op≠[]:=by
 rintro rfl;have:qd1 a [] b=none:=rfl;rw[this] at h;cases h
theorem qcR{x op y s:Wd}(h:qa1 x op y=some s):x≠[]/\op≠[]/\y≠[]:=by
 unfold qa1 at h;split at h
 rename_i a b ha hb
 split at h
 rename_i c hc
 exact⟨qsP ha,qxj hc,qsP hb⟩;cases h;cases h
def qfE(v:List Wd)(r:qeZ):Prop:=r.1≠0->r.1<=v.length/\r.2.length<r.1
theorem qbf(v:List Wd):qfE v (0,[]):=λh=>absurd rfl h
theorem qxr(v:List Wd):qfE v (qhK v):=by
 unfold qhK;split
 rename_i s h
 obtain⟨_,h2,_⟩:=qcR h;have:=qbT h2;exact λ_=>⟨by simp only;omega,by simp⟩;exact qbf v
theorem qrq(v:List Wd):qfE v (qcV v):=by
 unfold qcV;split
 rename_i h
 have:wdAt v 1≠[]:=by
  intro h0;rw[h0] at h;rcases h with⟨_,h|h|h⟩|⟨_,h|h⟩ <;> cases h
 have:=qbT this;exact λ_=>⟨by simp only;omega,by simp⟩;exact qbf v
theorem qqK(v:List Wd):qfE v (qcx v):=by
 unfold qcx;split
 rename_i h
 split
 rename_i s hs
 have h3:wdAt v 3≠[]:=by rw[h.2];exact(qcR hs).2.1
 have:=qbT h3;exact λ_=>⟨by simp only;omega,by simp⟩;exact qbf v;exact qbf v
theorem qwx(v:List Wd):qfE v (qiT v):=by
 unfold qiT;split
 rename_i h
 have:=qbT (v:=v) (i:=3) (by rw[h.2.2.2];decide);exact λ_=>⟨by simp only;omega,by simp⟩;exact qbf v
theorem qs7(v:List Wd):qfE v (qdw v):=by
 unfold qdw;split
 rename_i h
 obtain⟨l,hl⟩:=Option.isSome_iff_exists.1 h.1;have:=qcF hl;exact λ_=>⟨by simp only;omega,by simp⟩;exact qbf v
theorem qun(v:List Wd):qfE v (qeT v):=by
 unfold qeT;split;split
 rename_i h
 obtain⟨l,hl⟩:=Option.isSome_iff_exists.1 h.2;have:=qcF hl;exact λ_=>⟨by simp only;omega,by simp⟩;exact qbf v;exact qbf v
theorem qxs(v:List Wd):qfE v (qhU v):=by
 unfold qhU;split
 rename_i l hl
 split;have:=qcF hl;exact λ_=>⟨by simp only;omega,by simp⟩;exact qbf v;exact qbf v
theorem qwk(v:List Wd):qcu v<=v.length:=by
 unfold qcu;split
 rename_i h
 obtain⟨l,hl⟩:=Option.isSome_iff_exists.1 h.1;have:=qcF hl;omega;split
 rename_i h
 have:=qbT (v:=v) (i:=0) (by rcases h with h|h <;> rw[h] <;> decide);omega;omega
theorem qwK(v:List Wd):qfE v (qiQ v):=by
 unfold qiQ;split
 rename_i h
 intro _;have h1:=qwk v;have h2:qbU (v.drop (qcu v))<=(v.drop (qcu v)).length:=(takeWhile_prefix _).length_le;rw[length_drop] at h2;simp only[length_take];omega;exact qbf v
theorem qsW(used:Wd->Bool)(v:List Wd):qfE v (qcA used v):=by
 unfold qcA;split
 rename_i l hl
 split;exact qbf v
 have:wdAt v 0≠[]:=by
  intro h0;rw[h0] at hl;cases hl
 have:=qbT this;exact λ_=>⟨by simp only;omega,by simp⟩;exact qbf v
theorem qfr(used:Wd->Bool)(v:List Wd):qfE v (qa2 used v):=by
 unfold qa2;split;exact qxr v;split;exact qrq v;split;exact qqK v;split;exact qwx v;split;exact qs7 v;split;exact qun v;split;exact qxs v;split;exact qwK v;exact qsW used v
theorem qjS(used:Wd->Bool):∀ (f:Nat) (l:List Wd),(qcB used f l).length<=l.length
 |0,l=>zero_le _
 |f+1,[]=>zNr _
 |f+1,w::r=>by
  rw[qcB];split;have:=qjS used f r;simp only[zLc];omega
  rename_i h
  obtain⟨h1,h2⟩:=qfr used (w::r) h;have:=qjS used f ((w::r).drop (qa2 used (w::r)).1);rw[length_drop] at this;rw[zLa];omega
theorem qgj{c:UInt8}(hc:qdy c=true)(b:List UInt8):qbp (c::b)=(b.takeWhile qdy).length+1:=by
 have h47:([47,47]:List UInt8).isPrefixOf (c::b)=false:=by
  cases h:([47,47]:List UInt8).isPrefixOf (c::b) with
  |false=>rfl
  |true=>
   simp only[List.isPrefixOf,zBa,beq_iff_eq] at h;rw[<-h.1] at hc;exact absurd hc zDd
 unfold qbp;rw[h47,if_neg zDd,takeWhile_cons_of_pos hc]
 try rfl
theorem qkz:∀ (f g:Nat) (s:List UInt8) (line:Int),s.length<=f->s.length<=g->lexP f s line=lexP g s line
 |0,g,s,line,hf,_=>by
  have:s=[]:=eq_nil_of_length_eq_zero (by omega);subst this
  cases g with
  |zero=>rfl
  |succ g=>rw[lexP,lexP,if_pos rfl]
 |f+1,0,s,line,_,hg=>by
  have:s=[]:=eq_nil_of_length_eq_zero (by omega);subst this
  rw[lexP,lexP,if_pos rfl]
 |f+1,g+1,s,line,hf,hg=>by
  rw[lexP,lexP]
  by_cases h0:s=[]
  rw[if_pos h0,if_pos h0];rw[if_neg h0,if_neg h0]
  by_cases hk:qbp s=0
  rw[if_pos hk,if_pos hk]
  by_cases he:(qaw s).2.2≠0
  rw[if_pos he,if_pos he];rw[if_neg he,if_neg he];obtain⟨h1,h2⟩:=qfe s (by simpa using he);rw[qkz f g _ _ (by rw[length_drop];omega) (by rw[length_drop];omega)];rw[if_neg hk,if_neg hk];exact qkz f g _ _ (by rw[length_drop];omega) (by rw[length_drop];omega)
def qif(s:List UInt8)(line:Int):Except (Int×Int) (List Tok):=lexP s.length s line
theorem qdf{f:Nat}{s:List UInt8}(h:s.length<=f)(line:Int):lexP f s line=qif s line:=qkz _ _ _ _ h (zNr _)
theorem qnk(line:Int):qif [] line=.ok []:=rfl
theorem qgK{c:UInt8}(hc:qdy c=true)(b:List UInt8)(line:Int):qif (c::b) line=qif b (line+(([c]:List UInt8).count 10:Nat)):=by
 rw[<-qdf (f:=b.length+1) (by simp),lexP,if_neg (by simp),if_neg (by rw[qgj hc];omega),qgj hc,List.drop_succ_cons,take_succ_cons,qdf (by rw[length_drop];omega)]
 cases b with
 |nil=>simp[qnk]
 |cons d b=>
  by_cases hd:qdy d=true
  rw[<-qdf (f:=b.length+1) (s:=d::b) (by simp),lexP,if_neg (by simp),if_neg (by rw[qgj hd];omega),qgj hd,takeWhile_cons_of_pos hd,zLc,List.drop_succ_cons,take_succ_cons,qdf (by rw[length_drop];omega)];congr 1;rw[count_cons,List.count_singleton,count_cons];omega;rw[takeWhile_cons_of_neg hd]
  simp
theorem qp5{p:UInt8->Bool}(hp:p 10=false)(b:List UInt8):∀ s:List UInt8,(s++10::b).takeWhile p=s.takeWhile p
 |[]=>by rw[nil_append,takeWhile_cons_of_neg (by simp[hp])];rfl
 |c::s=>by
  rw[cons_append]
  by_cases h:p c=true
  rw[takeWhile_cons_of_pos h,takeWhile_cons_of_pos h,qp5 hp b s];rw[takeWhile_cons_of_neg h,takeWhile_cons_of_neg h]
theorem qos(b:List UInt8):∀ (x s:List UInt8),(10:UInt8) ∉ x->x.isPrefixOf (s++10::b)=x.isPrefixOf s
 |[],s,_=>by simp
 |c::x,[],h=>by
  have:¬ c=10:=λhc=>h (by rw[hc];exact mem_cons_self ..)
  simp[List.isPrefixOf,this]
 |c::x,d::s,h=>by
  have:=qos b x s λhx=>h (zMo _ hx);simp only[cons_append,List.isPrefixOf,this]
theorem qpD(b s:List UInt8):∀ L:List (List UInt8),(∀ x∈L,(10:UInt8) ∉ x)->L.find? (λx=>x.isPrefixOf (s++10::b))=L.find? (λx=>x.isPrefixOf s)
 |[],_=>rfl
 |x::L,h=>by
  rw[List.find?_cons,List.find?_cons,qos b x s (h x zMs),qpD b s L λy hy=>h y (zMo _ hy)]
theorem qnx(b s:List UInt8){n:Nat}(hn:n<=s.length):qdk (s++10::b) n=qdk s n:=by
 unfold qdk;rcases lt_or_ge n s.length with h|h;rw[List.getElem?_append_left h];have:n=s.length:=by omega
 subst this;rw[List.getElem?_append_right (zNr _),List.getElem?_eq_none (zNr _)];rw[Nat.sub_self,List.getElem?_cons_zero]
 try rfl
theorem qmE(b s:List UInt8)(h:(qaw s).2.2=0):qaw (s++10::b)=qaw s:=by
 match s with
 |[]=>simp[qaw,qb9] at h
 |c::r=>
  simp only[cons_append,qaw] at h ⊢
  by_cases hc:qap c=true
  rw[if_pos hc,if_pos hc];unfold qdo;have e1:(c::(r++10::b)).takeWhile qap=(c::r).takeWhile qap:=qp5 zDd b (c::r);have e2:=qnx b (c::r) (qet qap (c::r));rw[cons_append] at e2;rw[e1,e2];rw[if_neg hc] at h ⊢;rw[if_neg hc]
  by_cases hl:qaV c=true
  rw[if_pos hl,if_pos hl];unfold qfD;have e1:(c::(r++10::b)).takeWhile qaW=(c::r).takeWhile qaW:=qp5 zDd b (c::r);rw[e1];rw[if_neg hl] at h ⊢;rw[if_neg hl]
  by_cases hq:decide (cv c=39)=true
  rw[if_pos hq] at h ⊢;rw[if_pos hq]
  match r with
  |[]=>simp[qcr,qb9] at h
  |[d]=>simp[qcr,qb9] at h
  |d::e::r=>rfl
  rw[if_neg hq,if_neg hq];unfold qgC;have e1:=qpD b (c::r) qcO zDd;rw[cons_append] at e1;rw[e1]
theorem qhB(b:List UInt8):∀ (n:Nat) (s:List UInt8) (line:Int) (A:List Tok),s.length<=n->qif s line=.ok A->qif (s++10::b) line=(qif b (line+(s.count 10:Nat)+1)).map (A++·)
 |n,[],line,A,_,h=>by
  rw[qnk] at h;cases h;rw[nil_append,qgK zDd]
  simp
  cases qif b (line+1) <;> rfl
 |0,c::r,_,_,hn,_=>by simp at hn
 |n+1,c::r,line,A,hn,h=>by
  by_cases hw:qdy c=true
  rw[qgK hw] at h;rw[cons_append,qgK hw,qhB b n r _ A (by simpa using hn) h];rw[count_cons (l:=r),List.count_singleton];congr 2;omega;have hkeep:(c::r).takeWhile qdy=[]:=takeWhile_cons_of_neg hw;have hp:([47,47]:List UInt8).isPrefixOf (c::r++10::b)=([47,47]:List UInt8).isPrefixOf (c::r):=qos b [47,47] (c::r) zDd
  have hk:qbp (c::r++10::b)=qbp (c::r):=by
   unfold qbp;rw[hp,qp5 zDd,hkeep,cons_append,takeWhile_cons_of_neg hw]
  rw[<-qdf (f:=n+1) hn,lexP,if_neg (by simp)] at h;rw[<-qdf (f:=(r++10::b).length+1) (by simp),lexP,if_neg (by simp),hk]
  by_cases hz:qbp (c::r)=0
  ·rw[if_pos hz] at h ⊢
   by_cases he:(qaw (c::r)).2.2≠0
   rw[if_pos he] at h;cases h;have he':(qaw (c::r)).2.2=0:=by simpa using he
   rw[if_neg he] at h;obtain⟨h1,h2⟩:=qfe _ he';rw[qmE b _ he',if_neg he,List.drop_append_of_le_length h2,List.take_append_of_le_length h2];rw[qdf (by rw[length_drop];omega)] at h;rw[qdf (by simp only[zLa,length_drop,zLc] at h2 ⊢;omega)]
   cases hx:qif ((c::r).drop (qaw (c::r)).2.1) (line+(((c::r).take (qaw (c::r)).2.1).count 10:Nat)) with
   |error e=>rw[hx] at h;cases h
   |ok A2=>
    rw[hx] at h;cases h;rw[qhB b n _ _ A2 (by rw[length_drop];omega) hx];have hc:(c::r).count 10=((c::r).take (qaw (c::r)).2.1).count 10+((c::r).drop (qaw (c::r)).2.1).count 10:=by rw[<-count_append,take_append_drop]
    rw[show line+(((c::r).take (qaw (c::r)).2.1).count 10:Nat)+(((c::r).drop (qaw (c::r)).2.1).count 10:Nat)+1=line+((c::r).count 10:Nat)+1 by rw[hc];omega]
    try cases qif b (line+((c::r).count 10:Nat)+1) <;> rfl
  rw[if_neg hz] at h ⊢;have h2:=qkZ (c::r);rw[List.drop_append_of_le_length h2,List.take_append_of_le_length h2];rw[qdf (by rw[length_drop];omega)] at h;rw[qdf (by simp only[zLa,length_drop,zLc] at h2 ⊢;omega)];rw[qhB b n _ _ A (by rw[length_drop];omega) h];have hc:(c::r).count 10=((c::r).take (qbp (c::r))).count 10+((c::r).drop (qbp (c::r))).count 10:=by rw[<-count_append,take_append_drop]
  congr 2;rw[hc];omega
def kt(t:Tok):Int×List UInt8:=(t.kind,t.text)
theorem qji:∀ (f:Nat) (s:List UInt8) (l1 l2:Int) (A:List Tok),lexP f s l1=.ok A->∃ B,lexP f s l2=.ok B/\B.map kt=A.map kt
 |0,_,_,_,_,h=>by
  cases h
  exact⟨[],rfl,rfl⟩
 |f+1,s,l1,l2,A,h=>by
  rw[lexP] at h ⊢;split at h
  rename_i h0
  cases h;rw[if_pos h0];exact⟨[],rfl,rfl⟩
  rename_i h0
  rw[if_neg h0];split at h
  ·rename_i hk
   rw[if_pos hk];split at h;cases h
   rename_i he
   rw[if_neg he]
   cases hx:lexP f (s.drop (qaw s).2.1) (l1+((s.take (qaw s).2.1).count 10:Nat)) with
   |error e=>rw[hx] at h;cases h
   |ok A2=>
    rw[hx] at h;cases h;obtain⟨B,h1,h2⟩:=qji f _ _ (l2+((s.take (qaw s).2.1).count 10:Nat)) A2 hx;rw[h1];exact⟨_,rfl,by rw[zMc,zMc,h2];try rfl⟩
  rename_i hk
  rw[if_neg hk];exact qji f _ _ _ A h
theorem qpw{d:Nat}(h:d<10):qap (UInt8.ofNat (48+d))=true:=by
 have h1:(UInt8.ofNat (48+d)).toNat=48+d:=qkt h;unfold qap cv;rw[h1]
 simp
 omega
theorem qgf(u:Nat):∀ c∈decDigits u,qap c=true:=by
 induction u using Nat.strongRecOn with
 |ind u ih=>
  intro c hc
  by_cases h:u<10
  rw[decDigits_one h] at hc;rw[List.mem_singleton.1 hc];exact qpw h;rw[decDigits,dif_neg h] at hc;rcases List.mem_append.1 hc with hc|hc;exact ih (u / 10) (by omega) c hc;rw[List.mem_singleton.1 hc];exact qpw (by omega)
theorem qcP(w:Wd)(n:Nat):numW w=some n ↔ n<4294967296/\decDigits n=w:=by
 unfold numW;constructor;intro h;split at h
 rename_i u hu
 split at h
 rename_i he
 cases h;exact⟨qn0 hu,he⟩;cases h;cases h;rintro⟨h1,h2⟩;subst h2;rw[qml n h1]
 simp
theorem qjr{w:Wd}{n:Nat}(h:numW w=some n):n<4294967296:=((qcP w n).1 h).1
theorem qgb{n:Nat}(h:n<4294967296):numW (decDigits n)=some n:=(qcP _ n).2 ⟨h,rfl⟩
theorem qku{a b c:Nat}{op:Wd}(ha:a<4294967296)(hb:b<4294967296)(h:qd1 a op b=some c):c<4294967296:=by
 unfold qd1 at h;split at h;cases h;omega;split at h;cases h;omega;split at h;cases h;exact Nat.mod_lt _ zDd;split at h;cases h;exact Nat.xor_lt_two_pow (n:=32) ha hb;split at h;cases h;split <;> decide;split at h;split at h;cases h;cases h;exact Nat.lt_of_le_of_lt (Nat.div_le_self _ _) ha;split at h;split at h;cases h;cases h
 rename_i hb0
 have:=Nat.mod_lt a (Nat.pos_of_ne_zero hb0);omega;cases h
def qbS(v:List Wd):Prop:=wdAt v 0=[48]/\(wdAt v 1=[43]∨wdAt v 1=[45]∨wdAt v 1=[94])∨wdAt v 0=[49]/\(wdAt v 1=[42]∨wdAt v 1=[47])
instance(v:List Wd):Decidable (qbS v):=by unfold qbS;infer_instance
def qa0(v:List Wd):Prop:=(wdAt v 1=[43]∨wdAt v 1=[42]∨wdAt v 1=[94])/\wdAt v 3=wdAt v 1
instance(v:List Wd):Decidable (qa0 v):=by unfold qa0;infer_instance
def qhn(v:List Wd):Prop:=(numW (wdAt v 0)).isSome=true/\wdAt v 1=[64]/\wdAt v 2=wdAt v 0/\wdAt v 3=[33]
instance(v:List Wd):Decidable (qhn v):=by unfold qhn;infer_instance
def qc3(v:List Wd):Prop:=(qdb v 4).isSome=true/\wdAt v 0=[49]/\wdAt v 1=[60]/\wdAt v 2=[49]/\wdAt v 3=[60]
instance(v:List Wd):Decidable (qc3 v):=by unfold qc3;infer_instance
def qei(v:List Wd):Bool:=match numW (wdAt v 0) with
 |some n=>decide (n≠0/\(qdb v 1).isSome=true)
 |none=>false
def qij(v:List Wd):Bool:=match qdb v 1 with
 |some l=>decide (wdAt v 0=[48]/\qf0 l (v.drop 3)=true)
 |none=>false
def qkJ(v:List Wd):Prop:=0<qcu v/\0<qbU (v.drop (qcu v))
instance(v:List Wd):Decidable (qkJ v):=by unfold qkJ;infer_instance
def qdB(v:List Wd):Option Wd:=qa1 (wdAt v 0) (wdAt v 2) (wdAt v 1)
def qbm(v:List Wd):Option Wd:=qa1 (wdAt v 0) (wdAt v 1) (wdAt v 2)
section
variable{v:List Wd}{used:Wd->Bool}
theorem qwv{s:Wd}(h:qdB v=some s):qhK v=(3,[s]):=by unfold qhK;unfold qdB at h;rw[h]
theorem qfW(h:qdB v=none):qhK v=(0,[]):=by unfold qhK;unfold qdB at h;rw[h]
theorem qrj(h:qbS v):qcV v=(2,[]):=if_pos h
theorem qc6(h:¬ qbS v):qcV v=(0,[]):=if_neg h
theorem qqT{s:Wd}(h:qa0 v)(h2:qbm v=some s):qcx v=(4,[s,wdAt v 1]):=by
 unfold qcx;unfold qbm at h2;unfold qa0 at h;rw[if_pos h,h2]
theorem qdT(h:¬ qa0 v∨qbm v=none):qcx v=(0,[]):=by
 unfold qcx;unfold qbm at h
 by_cases hc:qa0 v
 rcases h with h|h;exact absurd hc h;unfold qa0 at hc;rw[if_pos hc,h];unfold qa0 at hc;rw[if_neg hc]
theorem qwe(h:qhn v):qiT v=(4,[]):=if_pos h
theorem qkg(h:¬ qhn v):qiT v=(0,[]):=if_neg h
theorem qtQ(h:qc3 v):qdw v=(6,[wdAt v 4,wdAt v 5]):=if_pos h
theorem qg1(h:¬ qc3 v):qdw v=(0,[]):=if_neg h
theorem qvq(h:qei v=true):qeT v=(3,[]):=by
 unfold qei at h;unfold qeT;split at h
 ·rename_i n hn
  try rw[hn]
  exact if_pos (of_decide_eq_true h)
 cases h
theorem qlY(h:qei v=false):qeT v=(0,[]):=by
 unfold qei at h;unfold qeT;split at h
 ·rename_i n hn
  try rw[hn]
  exact if_neg (of_decide_eq_false h)
 rename_i hn
 first|rw[hn]|rfl
theorem qxg(h:qij v=true):qhU v=(3,[]):=by
 unfold qij at h;unfold qhU;split at h
 ·rename_i n hn
  try rw[hn]
  exact if_pos (of_decide_eq_true h)
 cases h
theorem qtu(h:qij v=false):qhU v=(0,[]):=by
 unfold qij at h;unfold qhU;split at h
 ·rename_i n hn
  try rw[hn]
  exact if_neg (of_decide_eq_false h)
 rename_i hn
 first|rw[hn]|rfl
theorem qwM(h:qkJ v):qiQ v=(qcu v+qbU (v.drop (qcu v)),v.take (qcu v)):=if_pos h
theorem qw1(h:¬ qkJ v):qiQ v=(0,[]):=if_neg h
theorem qu2{s:Wd}(h:qdB v=some s):qa2 used v=(3,[s]):=by
 unfold qa2;rw[qwv h]
 try rfl
theorem qui(h1:qdB v=none)(h:qbS v):qa2 used v=(2,[]):=by
 unfold qa2;rw[qfW h1,qrj h]
 try rfl
theorem quQ{s:Wd}(h1:qdB v=none)(h2:¬ qbS v)(h:qa0 v)(h':qbm v=some s):qa2 used v=(4,[s,wdAt v 1]):=by
 unfold qa2;rw[qfW h1,qc6 h2,qqT h h']
 try rfl
theorem qvf(h1:qdB v=none)(h2:¬ qbS v)(h3:¬ qa0 v∨qbm v=none)(h:qhn v):qa2 used v=(4,[]):=by
 unfold qa2;rw[qfW h1,qc6 h2,qdT h3,qwe h]
 try rfl
theorem qvB(h1:qdB v=none)(h2:¬ qbS v)(h3:¬ qa0 v∨qbm v=none)(h4:¬ qhn v)(h:qc3 v):qa2 used v=(6,[wdAt v 4,wdAt v 5]):=by
 unfold qa2;rw[qfW h1,qc6 h2,qdT h3,qkg h4,qtQ h]
 try rfl
theorem quF(h1:qdB v=none)(h2:¬ qbS v)(h3:¬ qa0 v∨qbm v=none)(h4:¬ qhn v)(h5:¬ qc3 v)(h:qei v=true):qa2 used v=(3,[]):=by
 unfold qa2;rw[qfW h1,qc6 h2,qdT h3,qkg h4,qg1 h5,qvq h]
 try rfl
theorem quV(h1:qdB v=none)(h2:¬ qbS v)(h3:¬ qa0 v∨qbm v=none)(h4:¬ qhn v)(h5:¬ qc3 v)(h6:qei v=false)(h:qij v=true):qa2 used v=(3,[]):=by
 unfold qa2;rw[qfW h1,qc6 h2,qdT h3,qkg h4,qg1 h5,qlY h6,qxg h]
 try rfl
theorem quI(h1:qdB v=none)(h2:¬ qbS v)(h3:¬ qa0 v∨qbm v=none)(h4:¬ qhn v)(h5:¬ qc3 v)(h6:qei v=false)(h7:qij v=false)(h:qkJ v):qa2 used v=(qcu v+qbU (v.drop (qcu v)),v.take (qcu v)):=by
 unfold qa2;have h0:qcu v+qbU (v.drop (qcu v))≠0:=by have:=h.1;omega
 rw[qfW h1,qc6 h2,qdT h3,qkg h4,qg1 h5,qlY h6,qtu h7,qwM h];simp only[ne_eq,not_true_eq_false,if_false,h0,not_false_eq_true,if_true]
theorem quc(h1:qdB v=none)(h2:¬ qbS v)(h3:¬ qa0 v∨qbm v=none)(h4:¬ qhn v)(h5:¬ qc3 v)(h6:qei v=false)(h7:qij v=false)(h8:¬ qkJ v):qa2 used v=qcA used v:=by
 unfold qa2;rw[qfW h1,qc6 h2,qdT h3,qkg h4,qg1 h5,qlY h6,qtu h7,qw1 h8]
 try rfl
end
def qaT(c:UInt8):List UInt8->List (List UInt8)
 |[]=>[[]]
 |d::r=>if d=c then []::qaT c r else match qaT c r with
  |p::ps=>(d::p)::ps
  |[]=>[[d]]
theorem qhr(c:UInt8):∀ s,∃ p ps,qaT c s=p::ps
 |[]=>⟨_,_,rfl⟩
 |d::r=>by
  obtain⟨p,ps,h⟩:=qhr c r;rw[qaT,h];split;exact⟨_,_,rfl⟩;exact⟨_,_,rfl⟩
theorem qeH(c:UInt8)(r:List UInt8):qaT c (c::r)=[]::qaT c r:=by rw[qaT,if_pos rfl]
theorem qe1{c d:UInt8}(h:d≠c)(r:List UInt8):∃ p ps,qaT c r=p::ps/\qaT c (d::r)=(d::p)::ps:=by
 obtain⟨p,ps,hp⟩:=qhr c r;exact⟨p,ps,hp,by rw[qaT,if_neg h,hp]⟩
theorem qdW{c:UInt8}:∀ {s:List UInt8},c ∉ s->qaT c s=[s]
 |[],_=>rfl
 |d::r,h=>by
  have hd:d≠c:=λe=>h (by rw[e];exact mem_cons_self ..);have hr:c ∉ r:=λe=>h (zMo _ e);rw[qaT,if_neg hd,qdW hr]
theorem qig{c:UInt8}:∀ {a b:List UInt8},c ∉ a->qaT c (a++c::b)=a::qaT c b
 |[],b,_=>qeH c b
 |d::a,b,h=>by
  have hd:d≠c:=λe=>h (by rw[e];exact mem_cons_self ..);have ha:c ∉ a:=λe=>h (zMo _ e);rw[cons_append,qaT,if_neg hd,qig ha]
theorem qgl{c:UInt8}:∀ {s:List UInt8},c ∉ s->index s [c] = -1
 |[],_=>rfl
 |d::r,h=>by
  have hd:¬ c=d:=λe=>h (by rw[e];exact mem_cons_self ..);have hr:c ∉ r:=λe=>h (zMo _ e);have hp:([c]:List UInt8).isPrefixOf (d::r)=false:=by simp[List.isPrefixOf,hd]
  rw[index,hp,qgl hr]
  try rfl
theorem qgW{c:UInt8}:∀ {a b:List UInt8},c ∉ a->index (a++c::b) [c]=(a.length:Int)
 |[],b,_=>by
  have hp:([c]:List UInt8).isPrefixOf (c::b)=true:=by simp[List.isPrefixOf]
  rw[nil_append,index,hp]
  try rfl
 |d::a,b,h=>by
  have hd:¬ c=d:=λe=>h (by rw[e];exact mem_cons_self ..);have ha:c ∉ a:=λe=>h (zMo _ e);have hp:([c]:List UInt8).isPrefixOf (d::(a++c::b))=false:=by simp[List.isPrefixOf,hd]
  rw[cons_append,index,hp,qgW ha,if_neg zDd,if_neg (by
   intro h;have:=eq_of_beq h
   omega)]
  simp
theorem qjz{c:UInt8}{s:List UInt8}(h:c∈s):∃ a b,s=a++c::b/\c ∉ a:=List.eq_append_cons_of_mem h
theorem qwj(c:UInt8)(s:List UInt8):(cut s [c]).1=s.takeWhile (λd=>decide (d≠c)):=by
 by_cases h:c∈s
 obtain⟨a,b,rfl,ha⟩:=qjz h
 have h1:∀ x∈a,decide (x≠c)=true:=λx hx=>by
  simp only[zDe];rintro rfl;exact ha hx
 rw[cut,qgW ha,if_pos (by omega),List.takeWhile_append_of_pos h1,takeWhile_cons_of_neg (by simp)]
 simp
 have h1:∀ x∈s,decide (x≠c)=true:=λx hx=>by
  simp only[zDe];rintro rfl;exact h hx
 rw[cut,qgl h,if_neg zDd];have:=List.takeWhile_append_of_pos (l₂:=[]) h1;simpa using this.symm
theorem qhd(c:UInt8):∀ (f:Nat) (s:List UInt8),s.length<f->countFrom [c] f s=s.count c
 |0,s,h=>by omega
 |f+1,s,h=>by
  rw[countFrom]
  by_cases hc:c∈s
  ·obtain⟨a,b,rfl,ha⟩:=qjz hc
   rw[qgW ha,if_neg (by
    intro h;have:=eq_of_beq h
    omega)]
   have hd:(a++c::b).drop ((a.length:Int).toNat+[c].length)=b:=by
    rw[show(a.length:Int).toNat+[c].length=a.length+1 by simp];rw[<-List.drop_drop,List.drop_left]
    try rfl
   rw[hd,qhd c f b (by simp only[zLa,zLc] at h;omega)];rw[count_append,List.count_cons_self,List.count_eq_zero.2 ha];omega
  rw[qgl hc,if_pos zDd,List.count_eq_zero.2 hc]
theorem qk5(c:UInt8):∀ (k:Nat) (s:List UInt8),s.count c<=k->splitK [c] 0 k s=qaT c s
 |0,s,h=>by
  have hc:c ∉ s:=List.count_eq_zero.1 (by omega)
  rw[splitK,qdW hc]
 |k+1,s,h=>by
  rw[splitK]
  by_cases hc:c∈s
  ·obtain⟨a,b,rfl,ha⟩:=qjz hc
   rw[qgW ha,if_neg (by
    intro h;have:=eq_of_beq h
    omega),qig ha]
   have hd:(a++c::b).drop ((a.length:Int).toNat+[c].length)=b:=by
    rw[show(a.length:Int).toNat+[c].length=a.length+1 by simp];rw[<-List.drop_drop,List.drop_left]
    try rfl
   rw[hd,show(a.length:Int).toNat+0=a.length by simp,List.take_left,qk5 c k b (by
    rw[count_append,List.count_cons_self] at h
    omega)]
  rw[qgl hc,if_pos zDd,qdW hc]
theorem qry(c:UInt8)(s:List UInt8):split s [c]=qaT c s:=by
 rw[split,count,qk5 c _ s (by rw[qhd c _ s (by omega)];exact zNr _)]
def full(l:List (List UInt8)):List Wd:=l.filter λw=>decide (w≠[])
def qfH(s:List UInt8):List Wd:=full (qaT 32 (s.takeWhile λd=>decide (d≠35)))
def qbl(s:List UInt8):List Wd:=(qaT 10 s).flatMap qfH
def qfl(cur:List UInt8):List Wd:=if cur=[] then [] else [cur]
def qiV:List UInt8->Bool->List UInt8->List Wd
 |cur,_,[]=>qfl cur
 |cur,com,c::r=>
  if c=10 then qfl cur++qiV [] false r
  else if com=true then qiV cur true r
  else if c=35 then qfl cur++qiV [] true r
  else if c=32 then qfl cur++qiV [] false r
  else qiV (cur++[c]) false r
def qhH(cur:List UInt8)(com:Bool)(l:List UInt8):List Wd:=if com=true then qfl cur else qfH (cur++l)
theorem qu9(a b:List (List UInt8)):full (a++b)=full a++full b:=List.filter_append ..
theorem ql3(a:List UInt8):full [a]=qfl a:=by
 unfold full qfl
 by_cases h:a=[] <;> simp[h]
def qeK(cur:List UInt8):Prop:=∀ c∈cur,c≠10/\c≠32/\c≠35
theorem qrO{cur:List UInt8}(h:qeK cur)(l:List UInt8):qfH (cur++35::l)=qfl cur:=by
 have h1:∀ x∈cur,decide (x≠35)=true:=λx hx=>by simp only[zDe];exact(h x hx).2.2
 have h2:(32:UInt8) ∉ cur:=λhx=>(h 32 hx).2.1 rfl;unfold qfH;rw[List.takeWhile_append_of_pos h1,takeWhile_cons_of_neg (by simp),zLz,qdW h2,ql3]
theorem qlE{cur:List UInt8}(h:qeK cur):qfH cur=qfl cur:=by
 have h1:∀ x∈cur,decide (x≠35)=true:=λx hx=>by simp only[zDe];exact(h x hx).2.2
 have h2:(32:UInt8) ∉ cur:=λhx=>(h 32 hx).2.1 rfl;have h3:=List.takeWhile_append_of_pos (l₂:=[]) h1;rw[zLz,List.takeWhile_nil,zLz] at h3;unfold qfH;rw[h3,qdW h2,ql3]
theorem qkQ{cur:List UInt8}(h:qeK cur)(l:List UInt8):qfH (cur++32::l)=qfl cur++qfH l:=by
 have h1:∀ x∈cur,decide (x≠35)=true:=λx hx=>by simp only[zDe];exact(h x hx).2.2
 have h2:(32:UInt8) ∉ cur:=λhx=>(h 32 hx).2.1 rfl;unfold qfH;rw[List.takeWhile_append_of_pos h1,takeWhile_cons_of_pos zDd,qig h2,<-List.singleton_append,qu9,ql3]
theorem qh8:∀ (s cur:List UInt8) (com:Bool) (p:List UInt8) (ps:List (List UInt8)),qeK cur->(com=true->cur=[])->qaT 10 s=p::ps->qiV cur com s=qhH cur com p++ps.flatMap qfH
 |[],cur,com,p,ps,hc,hcom,hp=>by
  cases hp;rw[qiV,qhH]
  cases com with
  |true=>simp
  |false=>simp[qlE hc]
 |c::r,cur,com,p,ps,hc,hcom,hp=>by
  obtain⟨q,qs,hq⟩:=qhr 10 r;rw[qiV]
  by_cases h10:c=10
  subst h10;rw[qeH,hq] at hp;cases hp;rw[if_pos rfl,qh8 r [] false q qs (λx hx=>by cases hx) (by simp) hq]
  have:qhH cur com []=qfl cur:=by
   unfold qhH
   cases com with
   |true=>rfl
   |false=>rw[if_neg zDd,zLz,qlE hc]
  rw[this];simp[qhH];clear hq;obtain⟨q,qs,hq,hp'⟩:=qe1 h10 r;rw[hp'] at hp;cases hp;rw[if_neg h10]
  cases com with
  |true=>
   obtain rfl:=hcom rfl;rw[if_pos rfl,qh8 r [] true q ps (λx hx=>by cases hx) (λ_=>rfl) hq]
   simp[qhH]
  |false=>
   rw[if_neg zDd]
   by_cases h35:c=35
   subst h35;rw[if_pos rfl,qh8 r [] true q ps (λx hx=>by cases hx) (λ_=>rfl) hq];have:qhH cur false (35::q)=qfl cur:=by unfold qhH;rw[if_neg zDd,qrO hc]
   rw[this];simp[qhH,qfl];rw[if_neg h35]
   by_cases h32:c=32
   subst h32;rw[if_pos rfl,qh8 r [] false q ps (λx hx=>by cases hx) (by simp) hq];have:qhH cur false (32::q)=qfl cur++qfH q:=by unfold qhH;rw[if_neg zDd,qkQ hc]
   rw[this,zAs];simp[qhH]
   rw[if_neg h32,qh8 r (cur++[c]) false q ps (λx hx=>by
    rcases List.mem_append.1 hx with h|h;exact hc x h;obtain rfl:=List.mem_singleton.1 h
    exact⟨h10,h32,h35⟩) (by simp) hq]
   simp[qhH]
theorem qqz(s:List UInt8):qiV [] false s=qbl s:=by
 obtain⟨p,ps,hp⟩:=qhr 10 s;rw[qh8 s [] false p ps (λx hx=>by cases hx) (by simp) hp];unfold qbl;rw[hp];simp[qhH]
theorem qp9(used:Wd->Bool):∀ (f:Nat) (l:List Wd),l.length<=f->qcB used f l=l∨(qcB used f l).length<l.length
 |0,l,h=>by
  have:l=[]:=eq_nil_of_length_eq_zero (by omega);subst this
  exact .inl rfl
 |f+1,[],_=>.inl rfl
 |f+1,w::r,h=>by
  rw[qcB];split;rcases qp9 used f r (by simp only[zLc] at h;omega) with h1|h1;rw[h1];exact .inl rfl;right;simp only[zLc];omega
  rename_i h0
  obtain⟨h1,h2⟩:=qfr used (w::r) h0;have:=qjS used f ((w::r).drop (qa2 used (w::r)).1);rw[length_drop] at this;right;rw[zLa];omega
theorem qlN(l:List Wd):qed l=l∨(qed l).length<l.length:=qp9 _ _ l (zNr _)
def optF:Nat->List Wd->List Wd
 |0,l=>l
 |f+1,l=>if qed l=l then l else optF f (qed l)
def optP(l:List Wd):List Wd:=optF l.length l
theorem qmU:∀ (f g:Nat) (l:List Wd),l.length<=f->l.length<=g->optF f l=optF g l
 |0,0,_,_,_=>rfl
 |0,g+1,l,h,_=>by
  have:l=[]:=eq_nil_of_length_eq_zero (by omega);subst this
  rw[optF,optF,if_pos (by rfl)]
 |f+1,0,l,_,h=>by
  have:l=[]:=eq_nil_of_length_eq_zero (by omega);subst this
  rw[optF,optF,if_pos (by rfl)]
 |f+1,g+1,l,h1,h2=>by
  rw[optF,optF];split;rfl
  rename_i h
  rcases qlN l with h3|h3;exact absurd h3 h;exact qmU f g (qed l) (by omega) (by omega)
theorem qwh{l:List Wd}(h:qed l=l):optP l=l:=by
 unfold optP
 cases l with
 |nil=>rfl
 |cons w r=>rw[zLc,optF,if_pos h]
theorem qtt{l:List Wd}(h:qed l≠l):optP l=optP (qed l):=by
 rcases qlN l with h3|h3;exact absurd h3 h;have h4:∃ k,l.length=k+1:=⟨l.length-1,by omega⟩;obtain⟨k,hk⟩:=h4;unfold optP;rw[hk,optF,if_neg h];exact qmU _ _ _ (by omega) (zNr _)
theorem qlM{v:List Wd}{i:Nat}(h:i<v.length):wdAt v i∈v:=by
 unfold wdAt;rw[List.getElem?_eq_getElem h];exact List.getElem_mem h
theorem qhN{x op y s:Wd}(h:qa1 x op y=some s):∃ c,c<4294967296/\s=decDigits c:=by
 unfold qa1 at h;split at h
 rename_i a b ha hb
 split at h
 rename_i c hc
 split at h;cases h;exact⟨c,qku (qjr ha) (qjr hb) hc,rfl⟩;cases h;cases h;cases h
theorem qvh{P:Wd->Prop}(hd:∀ n,n<4294967296->P (decDigits n))(used:Wd->Bool)(v:List Wd)(hv:∀ w∈v,P w):∀ w∈(qa2 used v).2,P w:=by
 have none:∀ n:Nat,∀ w∈((n,[]):qeZ).2,P w:=λ_ w hw=>by cases hw
 by_cases h1:∃ s,qdB v=some s
 obtain⟨s,h1⟩:=h1;rw[qu2 h1];obtain⟨c,hc,rfl⟩:=qhN h1;intro w hw;rcases List.mem_singleton.1 hw with rfl;exact hd c hc
 have h1:qdB v=Option.none:=by
  cases h:qdB v with
  |none=>rfl
  |some s=>exact absurd ⟨s,h⟩ h1
 by_cases h2:qbS v
 rw[qui h1 h2];exact none _
 by_cases h3:qa0 v/\∃ s,qbm v=some s
 obtain⟨h3,s,h4⟩:=h3;rw[quQ h1 h2 h3 h4];obtain⟨c,hc,rfl⟩:=qhN h4;have h5:=qbT (qcR h4).2.1;intro w hw;simp only[zMi,not_mem_nil,or_false] at hw;rcases hw with rfl|rfl;exact hd c hc;exact hv _ (qlM h5)
 have h3:¬ qa0 v∨qbm v=Option.none:=by
  by_cases hc:qa0 v
  exact zT24;exact .inl hc
 by_cases h4:qhn v
 rw[qvf h1 h2 h3 h4];exact none _
 by_cases h5:qc3 v
 rw[qvB h1 h2 h3 h4 h5];obtain⟨l,hl⟩:=Option.isSome_iff_exists.1 h5.1;have h6:=qcF hl;intro w hw;simp only[zMi,not_mem_nil,or_false] at hw;rcases hw with rfl|rfl;exact hv _ (qlM (by omega));exact hv _ (qlM (by omega))
 cases h6:qei v with
 |true=>rw[quF h1 h2 h3 h4 h5 h6];exact none _
 |false=>
  cases h7:qij v with
  |true=>rw[quV h1 h2 h3 h4 h5 h6 h7];exact none _
  |false=>
   by_cases h8:qkJ v
   rw[quI h1 h2 h3 h4 h5 h6 h7 h8];exact λw hw=>hv w (List.mem_of_mem_take hw);rw[quc h1 h2 h3 h4 h5 h6 h7 h8];unfold qcA;split;split <;> exact none _;exact none _
theorem qfV{P:Wd->Prop}(hd:∀ n,n<4294967296->P (decDigits n))(used:Wd->Bool):∀ (f:Nat) (l:List Wd),(∀ w∈l,P w)->∀ w∈qcB used f l,P w
 |0,_,_=>λw hw=>by cases hw
 |f+1,[],_=>λw hw=>by cases hw
 |f+1,a::r,hl=>by
  rw[qcB];split;intro w hw;rcases zMi.1 hw with rfl|hw;exact hl _ zMs;exact qfV hd used f r (λx hx=>hl x (zMo _ hx)) w hw;intro w hw;rcases List.mem_append.1 hw with hw|hw;exact qvh hd used (a::r) hl w hw;exact qfV hd used f _ (λx hx=>hl x (List.mem_of_mem_drop hx)) w hw
theorem qpH{P:Wd->Prop}(hd:∀ n,n<4294967296->P (decDigits n)):∀ (f:Nat) (l:List Wd),(∀ w∈l,P w)->∀ w∈optF f l,P w
 |0,l,h=>h
 |f+1,l,h=>by
  rw[optF];split;exact h;exact qpH hd f _ (qfV hd _ _ l h)
theorem qur{P:Wd->Prop}(hd:∀ n,n<4294967296->P (decDigits n)){l:List Wd}(h:∀ w∈l,P w):∀ w∈optP l,P w:=qpH hd _ l h
def qbx(w:Wd):Prop:=w≠[]/\qeK w
theorem qfq(n:Nat):qbx (decDigits n):=⟨qcq n,λc hc=>by
 have:=qgf n c hc
 refine⟨?_,?_,?_⟩ <;> (rintro rfl;exact absurd this zDd)⟩
theorem qiz{c:UInt8}{l:List UInt8}:∀ p∈qaT c l,c ∉ p/\∀ x∈p,x∈l:=by
 induction l with
 |nil=>
  intro p hp;obtain rfl:=List.mem_singleton.1 hp
  exact⟨by simp,by simp⟩
 |cons d r ih=>
  intro p hp
  by_cases h:d=c
  subst h;rw[qeH] at hp;rcases zMi.1 hp with rfl|hp;exact⟨by simp,by simp⟩;exact⟨(ih p hp).1,λx hx=>zMo _ ((ih p hp).2 x hx)⟩;obtain⟨q,qs,h1,h2⟩:=qe1 h r;rw[h2] at hp;rw[h1] at ih;rcases zMi.1 hp with rfl|hp;have:=ih q zMs;refine⟨λhm=>?_,λx hx=>?_⟩;rcases zMi.1 hm with e|hm;exact h e.symm;exact this.1 hm;rcases zMi.1 hx with rfl|hx;exact mem_cons_self ..;exact zMo _ (this.2 x hx);have:=ih p (zMo _ hp);exact⟨this.1,λx hx=>zMo _ (this.2 x hx)⟩
theorem qoE{l:List UInt8}(h:(10:UInt8) ∉ l):∀ w∈qfH l,qbx w:=by
 intro w hw;obtain⟨h1,h2⟩:=List.mem_filter.1 hw;obtain⟨h3,h4⟩:=qiz w h1;refine⟨of_decide_eq_true h2,λc hc=>⟨?_,?_,?_⟩⟩;rintro rfl;exact h ((takeWhile_prefix _).subset (h4 _ hc));rintro rfl;exact h3 hc;rintro rfl
 have:∀ (l:List UInt8),(35:UInt8) ∉ l.takeWhile λd=>decide (d≠35):=by
  intro l
  induction l with
  |nil=>simp
  |cons d r ih=>
   rw[List.takeWhile_cons];split
   rename_i hd
   intro hm;rcases zMi.1 hm with e|hm;rw[<-e] at hd;simp at hd;exact ih hm
   simp
 exact this _ (h4 _ hc)
theorem qis(s:List UInt8):∀ w∈qbl s,qbx w:=by
 intro w hw;obtain⟨p,hp,hw⟩:=List.mem_flatMap.1 hw;exact qoE (qiz p hp).1 w hw
theorem qkb(x y:Wd)(r:List Wd):join (x::y::r) [32]=x++32::join (y::r) [32]:=by simp[join]
theorem qnU:∀ (l:List Wd),(∀ w∈l,qbx w)->(10:UInt8) ∉ join l [32]
 |[],_=>by simp[join]
 |[a],h=>by
  rw[join_one]
  exact λhm=>((h a zMs).2 10 hm).1 rfl
 |a::b::r,h=>by
  rw[qkb];intro hm;rcases List.mem_append.1 hm with hm|hm;exact((h a zMs).2 10 hm).1 rfl;rcases zMi.1 hm with e|hm;exact absurd e zDd;exact qnU (b::r) (λx hx=>h x (zMo _ hx)) hm
theorem qnd:∀ (l:List Wd),(∀ w∈l,qbx w)->qfH (join l [32])=l
 |[],_=>rfl
 |[a],h=>by
  obtain⟨h1,h2⟩:=h a zMs;rw[join_one,qlE h2]
  simp[qfl,h1]
 |a::b::r,h=>by
  obtain⟨h1,h2⟩:=h a zMs;rw[qkb,qkQ h2,qnd (b::r) λx hx=>h x (zMo _ hx)];simp[qfl,h1]
theorem qf2{l:List Wd}(h:∀ w∈l,qbx w):qbl (join l [32])=l:=by
 unfold qbl;rw[qdW (qnU l h)];simp[qnd l h]
theorem quq{a b:List Wd}(ha:∀ w∈a,qbx w)(hb:∀ w∈b,qbx w)(h:join a [32]=join b [32]):a=b:=by
 rw[<-qf2 ha,<-qf2 hb,h]
theorem qq0{l:List Wd}(h:∀ w∈l,qbx w):∀ w∈qed l,qbx w:=qfV (λn _=>qfq n) _ _ l h
theorem qtJ{l:List Wd}(h:∀ w∈l,qbx w):∀ w∈optP l,qbx w:=qur (λn _=>qfq n) h
def qcD(s:List UInt8):List UInt8×Int:=if 400000<s.length then ([],6) else (join (optP (qbl s)) [32],0)
def tot(l:List Wd):Nat:=(l.map λw=>w.length+1).sum
theorem qaN(w:Wd)(l:List Wd):tot (w::l)=w.length+1+tot l:=by simp[tot]
theorem qba:tot []=0:=rfl
theorem qbd(a b:List Wd):tot (a++b)=tot a+tot b:=by simp[tot]
theorem qnj(l:List Wd)(n:Nat):tot l=tot (l.take n)+tot (l.drop n):=by rw[<-qbd,take_append_drop]
theorem qgi:∀ l:List Wd,(join l [32]).length<=tot l
 |[]=>zero_le _
 |[a]=>by
  rw[join_one,qaN]
  omega
 |a::b::r=>by
  have:=qgi (b::r);rw[qkb,qaN];simp only[zLa,zLc];omega
theorem qeP{x op y s:Wd}(h:qa1 x op y=some s):s.length<=x.length+y.length+1:=by
 unfold qa1 at h;split at h;split at h;split at h
 rename_i hle
 cases h;exact hle;cases h;cases h;cases h
theorem qub(used:Wd->Bool)(v:List Wd):tot (qa2 used v).2<=tot (v.take (qa2 used v).1):=by
 by_cases h1:∃ s,qdB v=some s
 obtain⟨s,h1⟩:=h1;rw[qu2 h1];have hl:=qeP h1;have hlt:=qbT (qcR h1).2.1
 match v,hlt,hl with
 |a::b::c::r,_,hl=>
  simp only[wdAt,List.getElem?_cons_zero,List.getElem?_cons_succ,getD_some] at hl;simp only[take_succ_cons,take_zero,qaN,qba];omega
 have h1:qdB v=Option.none:=by
  cases h:qdB v with
  |none=>rfl
  |some s=>exact absurd ⟨s,h⟩ h1
 by_cases h2:qbS v
 rw[qui h1 h2];exact zero_le _
 by_cases h3:qa0 v/\∃ s,qbm v=some s
 obtain⟨h3,s,h4⟩:=h3;rw[quQ h1 h2 h3 h4];have hl:=qeP h4;have h5:wdAt v 3≠[]:=by rw[h3.2];exact(qcR h4).2.1
 have hlt:=qbT h5
 match v,hlt,hl with
 |a::b::c::d::r,_,hl=>
  simp only[wdAt,List.getElem?_cons_zero,List.getElem?_cons_succ,getD_some] at hl ⊢;simp only[take_succ_cons,take_zero,qaN,qba];omega
 have h3:¬ qa0 v∨qbm v=Option.none:=by
  by_cases hc:qa0 v
  exact zT24;exact .inl hc
 by_cases h4:qhn v
 rw[qvf h1 h2 h3 h4];exact zero_le _
 by_cases h5:qc3 v
 rw[qvB h1 h2 h3 h4 h5];obtain⟨l,hl⟩:=Option.isSome_iff_exists.1 h5.1;have h6:=qcF hl
 match v,h6 with
 |a::b::c::d::e::f::r,_=>
  simp only[wdAt,List.getElem?_cons_zero,List.getElem?_cons_succ,getD_some];simp only[take_succ_cons,take_zero,qaN,qba];omega
 cases h6:qei v with
 |true=>rw[quF h1 h2 h3 h4 h5 h6];exact zero_le _
 |false=>
  cases h7:qij v with
  |true=>rw[quV h1 h2 h3 h4 h5 h6 h7];exact zero_le _
  |false=>
   by_cases h8:qkJ v
   rw[quI h1 h2 h3 h4 h5 h6 h7 h8];simp only;have:=qnj (v.take (qcu v+qbU (v.drop (qcu v)))) (qcu v);rw[List.take_take,Nat.min_eq_left (by omega)] at this;omega;rw[quc h1 h2 h3 h4 h5 h6 h7 h8];unfold qcA;split;split <;> exact zero_le _;exact zero_le _
theorem qhh(used:Wd->Bool):∀ (f:Nat) (l:List Wd),tot (qcB used f l)<=tot l
 |0,_=>zero_le _
 |f+1,[]=>zNr _
 |f+1,a::r=>by
  rw[qcB];split;rw[qaN,qaN];have:=qhh used f r;omega;have h1:=qub used (a::r);have h2:=qhh used f ((a::r).drop (qa2 used (a::r)).1);have h3:=qnj (a::r) (qa2 used (a::r)).1;rw[qbd];omega
theorem qqo:∀ (f:Nat) (l:List Wd),tot (optF f l)<=tot l
 |0,l=>zNr _
 |f+1,l=>by
  rw[optF];split;exact zNr _;exact zNt (qqo f _) (qhh _ _ l)
theorem qge:∀ (s cur:List UInt8) (com:Bool),tot (qiV cur com s)<=cur.length+s.length+1
 |[],cur,com=>by
  rw[qiV];unfold qfl;split;exact zero_le _
  simp[tot]
 |c::r,cur,com=>by
  have hf:tot (qfl cur)<=cur.length+1:=by
   unfold qfl;split;exact zero_le _;simp[tot]
  rw[qiV];simp only[zLc];split;have:=qge r [] false;rw[qbd];simp only[zLn] at this;omega;split;have:=qge r cur true;omega;split;have:=qge r [] true;rw[qbd];simp only[zLn] at this;omega;split;have:=qge r [] false;rw[qbd];simp only[zLn] at this;omega;have:=qge r (cur++[c]) false;rw[zLa,List.length_singleton] at this;omega
theorem qhm(s:List UInt8):tot (qbl s)<=s.length+1:=by
 rw[<-qqz];have:=qge s [] false;simpa using this
theorem qvG(s:List UInt8):(join (optP (qbl s)) [32]).length<=s.length+1:=
 zNt (qgi _) (zNt (qqo _ _) (qhm s))
theorem qph(c:UInt8)(r:List UInt8):qkr (c::r)=(decide ((c::r).length<=40) && qaV c && (c::r).all qaW):=rfl
theorem qvv{s:Wd}(h:qkr s=true):s≠[]:=by
 rintro rfl;cases h
def qkK:Nat->List (List UInt8)->List (Wd×Nat)
 |_,[]=>[]
 |n,l::r=>(qfH l).map (λw=>(w,n+1))++qkK (n+1) r
def qgr(s:List UInt8):List (Wd×Nat):=qkK 0 (qaT 10 s)
theorem qmO:∀ (l:List (List UInt8)) (n:Nat),(qkK n l).map (·.1)=l.flatMap qfH
 |[],_=>rfl
 |a::r,n=>by
  rw[qkK,zMa,map_map,qmO r];simp[Function.comp_def]
theorem qd0(s:List UInt8):(qgr s).map (·.1)=qbl s:=qmO _ 0
theorem qqv{l:List (List UInt8)}{i:Nat}(h:i<l.length)(n:Nat):qkK n (l.drop i)=(qfH l[i]).map (λw=>(w,n+1))++qkK (n+1) (l.drop (i+1)):=by
 rw[List.drop_eq_getElem_cons h,qkK]
theorem qrQ{l:List (List UInt8)}{i:Nat}(h:i<l.length):full (l.drop i)=if l[i]=[] then full (l.drop (i+1)) else l[i]::full (l.drop (i+1)):=by
 rw[List.drop_eq_getElem_cons h];unfold full;rw[List.filter_cons]
 by_cases hc:l[i]=[]
 simp[hc];simp[hc]
theorem qid(c:UInt8):∀ s,(qaT c s).length<=s.length+1
 |[]=>by simp[qaT]
 |d::r=>by
  have:=qid c r
  by_cases h:d=c
  subst h;rw[qeH];simp only[zLc];omega;obtain⟨p,ps,h1,h2⟩:=qe1 h r;rw[h2];rw[h1] at this;simp only[zLc] at this ⊢;omega
theorem qdg{c:UInt8}:∀ {s p:List UInt8},p∈qaT c s->p.length<=s.length
 |[],p,h=>by
  obtain rfl:=List.mem_singleton.1 h
  exact zNr _
 |d::r,p,h=>by
  by_cases hd:d=c
  subst hd;rw[qeH] at h;rcases zMi.1 h with rfl|h;exact zero_le _;have:=qdg h;simp only[zLc];omega;obtain⟨q,qs,h1,h2⟩:=qe1 hd r;rw[h2] at h;rcases zMi.1 h with rfl|h;have:=qdg (c:=c) (s:=r) (p:=q) (by rw[h1];exact mem_cons_self ..);simp only[zLc];omega;have:=qdg (c:=c) (s:=r) (p:=p) (by rw[h1];exact zMo _ h);simp only[zLc];omega
theorem qin(s:List UInt8):(qbl s).length<=s.length+1:=by
 have h1:=qhm s
 have h2:(qbl s).length<=tot (qbl s):=by
  unfold tot;generalize qbl s=l
  induction l with
  |nil=>exact zNr _
  |cons a l ih=>
   simp only[zLc,zMc,List.sum_cons];omega
 omega
theorem qrI{l:List Wd}{w:Wd}(h:w∈l):w.length+1<=tot l:=by
 induction l with
 |nil=>cases h
 |cons a l ih=>
  rw[qaN];rcases zMi.1 h with rfl|h;omega;have:=ih h;omega
theorem ql2(l:List Wd):l.length<=tot l:=by
 induction l with
 |nil=>exact zero_le _
 |cons a l ih=>
  rw[qaN,zLc];omega
theorem qtK(l:List Wd):tot (qed l)<=tot l:=qhh _ _ _
def qdA:List UInt8:=[43,45,42,47,37,94,60,64,33,63,58,59,44,46,36,48,49,50,51,52,53,54,55,56,57]
def qka(w:Wd):Bool:=w.all λc=>qdA.contains c
def defs(l:List Wd):List Wd:=l.filterMap defW
def OkW(ds:List Wd)(w:Wd):Prop:=match defW w with
 |some _=>True
 |none=>match refW w with
  |some d=>d∈ds
  |none=>qka w=true
def qgN(l:List Wd):Prop:=(defs l).Nodup/\∀ w∈l,OkW (defs l) w
def qbP(w:Wd):Bool:=match w with
 |[]=>false
 |c::_=>qap c
def qbc(w:Wd):Bool:=match w.getLast? with
 |some c=>qap c
 |none=>false
def one(d:Bool):Nat:=if d=true then 1 else 0
def lenW:Bool->List Wd->Nat
 |_,[]=>0
 |d,w::r=>match defW w with
  |some _=>lenW d r
  |none=>match refW w with
   |some _=>one d+6+lenW true r
   |none=>one (d && qbP w)+w.length+lenW (qbc w) r
structure Sign(w:Wd):Prop where
 d:defW w=none
 r:refW w=none
 f:qbP w=false
 l:qbc w=false
 n:w.length=1
structure Num(w:Wd):Prop where
 d:defW w=none
 r:refW w=none
 f:qbP w=true
 l:qbc w=true
 n:1<=w.length
 c:qka w=true
theorem qkY{c:UInt8}(h:qap c=true):qdA.contains c=true:=by
 have:∀ n:Nat,n<256->qap (UInt8.ofNat n)=true->qdA.contains (UInt8.ofNat n)=true:=by decide +kernel
 have h1:=this c.toNat c.toNat_lt;rw[UInt8.ofNat_toNat] at h1;exact h1 h
theorem qjG(n:Nat):Num (decDigits n):=by
 have hd:=qgf n;have hne:=qcq n;generalize decDigits n=w at hd hne
 cases w with
 |nil=>exact absurd rfl hne
 |cons c r=>
  have hc:=hd c zMs;have hl:(c::r).getLast? = some ((c::r).getLast (by simp)):=List.getLast?_eq_some_getLast (by simp);have hlm:=hd _ (getLast_mem (l:=c::r) (by simp));refine⟨?_,?_,hc,?_,by simp,?_⟩;unfold defW;rw[hl,if_neg];intro h;rw[Option.some.inj h.1] at hlm;exact absurd hlm zDd;unfold refW;simp only;rw[if_neg];intro h;rw[h.1] at hc;exact absurd hc zDd;unfold qbc;rw[hl];exact hlm;unfold qka;rw[List.all_eq_true];exact λx hx=>qkY (hd x hx)
theorem qkn{w:Wd}{n:Nat}(h:numW w=some n):Num w:=by
 rw[<-((qcP w n).1 h).2];exact qjG n
theorem qc8{w:Wd}(h:w∈([[43],[45],[42],[94],[60],[47],[37],[64],[33],[63],[59],[36]]:List Wd)):Sign w:=by
 have:∀ w∈([[43],[45],[42],[94],[60],[47],[37],[64],[33],[63],[59],[36]]:List Wd),defW w=none/\refW w=none/\qbP w=false/\qbc w=false/\w.length=1:=by decide +kernel
 obtain⟨h1,h2,h3,h4,h5⟩:=this w h;exact⟨h1,h2,h3,h4,h5⟩
theorem qr3{a b c:Nat}{op:Wd}(h:qd1 a op b=some c):Sign op:=by
 apply qc8;unfold qd1 at h;simp only[zMi,not_mem_nil,or_false];split at h;exact .inl ‹_›;split at h;exact .inr (.inl ‹_›);split at h;exact .inr (.inr (.inl ‹_›));split at h;exact .inr (.inr (.inr (.inl ‹_›)));split at h;exact .inr (.inr (.inr (.inr (.inl ‹_›))));split at h;exact .inr (.inr (.inr (.inr (.inr (.inl ‹_›)))));split at h;exact .inr (.inr (.inr (.inr (.inr (.inr (.inl ‹_›))))));cases h
theorem qfY{x op y s:Wd}(h:qa1 x op y=some s):Num x/\Sign op/\Num y/\Num s:=by
 obtain⟨c,_,rfl⟩:=qhN h;unfold qa1 at h;split at h
 rename_i a b ha hb
 split at h
 rename_i c' hc
 exact⟨qkn ha,qr3 hc,qkn hb,qjG c⟩;cases h;cases h
theorem qbe{w d:Wd}(h:refW w=some d):defW w=none:=by
 unfold refW at h;split at h;cases h
 rename_i c r
 split at h
 rename_i hc
 obtain⟨rfl,hn⟩:=hc;unfold defW;rw[if_neg];rintro⟨_,h2⟩
 cases r with
 |nil=>cases hn
 |cons e r=>
  rw[List.dropLast_cons_of_ne_nil (by simp),qph] at h2;have:qaV 38=false:=by decide
  rw[this] at h2;simp at h2
 cases h
theorem qh0{v:List Wd}{i:Nat}{l:Wd}(h:qdb v i=some l):refW (wdAt v i)=some l/\wdAt v (i+1)=[63]:=by
 unfold qdb at h;split at h
 rename_i d hd
 split at h;cases h;exact⟨hd,‹_›⟩;cases h;cases h
theorem quH{w l:Wd}(h:defW w=some l)(d:Bool)(r:List Wd):lenW d (w::r)=lenW d r:=by
 rw[lenW,h]
theorem qpA{w l:Wd}(h:refW w=some l)(d:Bool)(r:List Wd):lenW d (w::r)=one d+6+lenW true r:=by
 rw[lenW,qbe h,h]
theorem Sign.len{w:Wd}(h:Sign w)(d:Bool)(r:List Wd):lenW d (w::r)=1+lenW false r:=by
 rw[lenW,h.d,h.r,h.f,h.l,h.n,Bool.and_false];simp[one]
theorem Num.len{w:Wd}(h:Num w)(d:Bool)(r:List Wd):lenW d (w::r)=one d+w.length+lenW true r:=by
 rw[lenW,h.d,h.r,h.f,h.l,Bool.and_true]
theorem one_le(d:Bool):one d<=1:=by cases d <;> simp[one]
theorem qoS:∀ r:List Wd,lenW true r<=lenW false r+1/\lenW false r<=lenW true r
 |[]=>⟨by simp[lenW],by simp[lenW]⟩
 |w::r=>by
  have ih:=qoS r;have e1:one true=1:=rfl;have e0:one false=0:=rfl;have h1:=one_le (qbP w);rw[lenW,lenW]
  cases defW w with
  |some l=>exact ih
  |none=>
   cases refW w with
   |some l=>simp only;omega
   |none=>
    simp only[Bool.true_and,Bool.false_and,e0];omega
theorem qmu(d:Bool)(r:List Wd):lenW d r<=lenW false r+1/\lenW false r<=lenW d r:=by
 cases d with
 |true=>exact qoS r
 |false=>exact⟨by omega,zNr _⟩
theorem qeB(r:List Wd):∀ (m:List Wd) (d:Bool),lenW false r<=lenW d (m++r)
 |[],d=>(qmu d r).2
 |w::m,d=>by
  rw[cons_append,lenW]
  cases defW w with
  |some l=>exact qeB r m d
  |none=>
   cases refW w with
   |some l=>have:=qeB r m true;simp only;omega
   |none=>have:=qeB r m (qbc w);simp only;omega
theorem qjl{w:Wd}(h:Num w∨Sign w)(m r:List Wd)(d:Bool):lenW d r<=lenW d (w::(m++r)):=by
 have h1:=(qmu d r).1;rcases h with h|h;have h2:=qeB r m true;have h3:=h.n;rw[h.len];omega;have h2:=qeB r m false;rw[h.len];omega
theorem qfK{x y:List Wd}(h:∀ d,lenW d x<=lenW d y):∀ (m:List Wd) (d:Bool),lenW d (m++x)<=lenW d (m++y)
 |[],d=>h d
 |w::m,d=>by
  rw[cons_append,cons_append,lenW,lenW]
  cases defW w with
  |some l=>exact qfK h m d
  |none=>
   cases refW w with
   |some l=>have:=qfK h m true;simp only;omega
   |none=>have:=qfK h m (qbc w);simp only;omega
theorem qcT(w:Wd)(l:List Wd):defs (w::l)=(match defW w with|some d=>[d]|none=>[])++defs l:=by
 unfold defs;rw[List.filterMap_cons]
 try cases defW w <;> rfl
theorem qaC{w:Wd}(h:defW w=none)(l:List Wd):defs (w::l)=defs l:=by rw[qcT,h];try rfl
theorem qgc(a b:List Wd):defs (a++b)=defs a++defs b:=List.filterMap_append
theorem qsC{p:Wd->Bool}:∀ {l:List Wd} {x:Wd},x∈l.takeWhile p->p x=true
 |[],x,h=>by cases h
 |a::l,x,h=>by
  rw[List.takeWhile_cons] at h;split at h;rcases zMi.1 h with rfl|h
  assumption
  exact qsC h;cases h
structure RuleFine(used:Wd->Bool)(v:List Wd)(r:qeZ):Prop where
 len:∀ d rest,lenW d (r.2++rest)<=lenW d (v.take r.1++rest)
 put:defs r.2=[]
 took:∀ d∈defs (v.take r.1),used d=false
theorem num0:Num [48]:=qjG 0 |> λh=>by rwa [decDigits_one zDd] at h
theorem num1:Num [49]:=qjG 1 |> λh=>by rwa [decDigits_one zDd] at h
theorem qg9(used:Wd->Bool)(v:List Wd)(h:(qa2 used v).1≠0):RuleFine used v (qa2 used v):=by
 by_cases h1:∃ s,qdB v=some s
 ·obtain⟨s,h1⟩:=h1;rw[qu2 h1];have hl:=qeP h1;have hlt:=qbT (qcR h1).2.1;obtain⟨k1,k2,k3,k4⟩:=qfY h1
  match v,hlt,hl,k1,k2,k3 with
  |a::b::c::r,_,hl,k1,k2,k3=>
   simp only[wdAt,List.getElem?_cons_zero,List.getElem?_cons_succ,getD_some] at hl k1 k2 k3;refine⟨λd rest=>?_,by rw[qaC k4.d];try rfl,λd hd=>?_⟩;simp only[take_succ_cons,take_zero,cons_append,nil_append];rw[k4.len,k1.len,k3.len,k2.len];have:=(qoS rest).1;have e1:one true=1:=rfl;omega;simp only[take_succ_cons,take_zero] at hd;rw[qaC k1.d,qaC k3.d,qaC k2.d] at hd;cases hd
 have h1:qdB v=Option.none:=by
  cases h:qdB v with
  |none=>rfl
  |some s=>exact absurd ⟨s,h⟩ h1
 by_cases h2:qbS v
 rw[qui h1 h2]
 have hop:Num (wdAt v 0)/\Sign (wdAt v 1):=by
  rcases h2 with⟨e,h|h|h⟩|⟨e,h|h⟩;exact⟨by rw[e];exact num0,by rw[h];exact qc8 zDd⟩;exact⟨by rw[e];exact num0,by rw[h];exact qc8 zDd⟩;exact⟨by rw[e];exact num0,by rw[h];exact qc8 zDd⟩;exact⟨by rw[e];exact num1,by rw[h];exact qc8 zDd⟩;exact⟨by rw[e];exact num1,by rw[h];exact qc8 zDd⟩
 have hlt:1<v.length:=qbT (by intro h0;have:=hop.2.n;rw[h0] at this;cases this)
 match v,hlt,hop with
 |a::b::r,_,hop=>
  simp only[wdAt,List.getElem?_cons_zero,List.getElem?_cons_succ,getD_some] at hop;refine⟨λd rest=>qjl (.inl hop.1) [b] rest d,rfl,λd hd=>?_⟩;simp only[take_succ_cons,take_zero] at hd;rw[qaC hop.1.d,qaC hop.2.d] at hd;cases hd
 by_cases h3:qa0 v/\∃ s,qbm v=some s
 ·obtain⟨h3,s,h4⟩:=h3;rw[quQ h1 h2 h3 h4];have hl:=qeP h4;have h5:wdAt v 3≠[]:=by rw[h3.2];exact(qcR h4).2.1
  have hlt:=qbT h5;have heq:=h3.2;obtain⟨k1,k2,k3,k4⟩:=qfY h4
  match v,hlt,hl,k1,k2,k3,heq with
  |a::b::c::e::r,_,hl,k1,k2,k3,heq=>
   simp only[wdAt,List.getElem?_cons_zero,List.getElem?_cons_succ,getD_some] at hl k1 k2 k3 heq ⊢;subst heq;refine⟨λd rest=>?_,by rw[qaC k4.d,qaC k2.d];try rfl,λd hd=>?_⟩;simp only[take_succ_cons,take_zero,cons_append,nil_append];rw[k4.len,k1.len,k2.len,k2.len,k3.len,k2.len];omega;simp only[take_succ_cons,take_zero] at hd;rw[qaC k1.d,qaC k2.d,qaC k3.d,qaC k2.d] at hd;cases hd
 have h3:¬ qa0 v∨qbm v=Option.none:=by
  by_cases hc:qa0 v
  exact zT24;exact .inl hc
 by_cases h4:qhn v
 rw[qvf h1 h2 h3 h4];obtain⟨g1,g2,g3,g4⟩:=h4;obtain⟨n,hn⟩:=Option.isSome_iff_exists.1 g1;have kn:=qkn hn;have hlt:=qbT (v:=v) (i:=3) (by rw[g4];decide)
 match v,hlt,g2,g3,g4,kn with
 |a::b::c::e::r,_,g2,g3,g4,kn=>
  simp only[wdAt,List.getElem?_cons_zero,List.getElem?_cons_succ,getD_some] at g2 g3 g4 kn;subst g2 g3 g4;refine⟨λd rest=>qjl (.inl kn) [[64],c,[33]] rest d,rfl,λd hd=>?_⟩;simp only[take_succ_cons,take_zero] at hd;rw[qaC kn.d,qaC (qc8 zDd).d,qaC kn.d,qaC (qc8 zDd).d] at hd;cases hd
 by_cases h5:qc3 v
 ·rw[qvB h1 h2 h3 h4 h5];obtain⟨g0,g1,g2,g3,g4⟩:=h5;obtain⟨l,hl⟩:=Option.isSome_iff_exists.1 g0;have h6:=qcF hl;obtain⟨j1,j2⟩:=qh0 hl
  match v,h6,g1,g2,g3,g4,j1,j2 with
  |a::b::c::e::p::q::r,_,g1,g2,g3,g4,j1,j2=>
   simp only[wdAt,List.getElem?_cons_zero,List.getElem?_cons_succ,getD_some] at g1 g2 g3 g4 j1 j2 ⊢;subst g1 g2 g3 g4 j2;have s60:Sign [60]:=qc8 zDd;have s63:Sign [63]:=qc8 zDd;refine⟨λd rest=>?_,by rw[qaC (qbe j1),qaC s63.d];try rfl,λd hd=>?_⟩;simp only[take_succ_cons,take_zero,cons_append,nil_append];rw[num1.len,s60.len,num1.len,s60.len];have:=(qmu d (p::[63]::rest)).1;have e1:([49]:Wd).length=1:=rfl;omega;simp only[take_succ_cons,take_zero] at hd;rw[qaC num1.d,qaC s60.d,qaC num1.d,qaC s60.d,qaC (qbe j1),qaC s63.d] at hd;cases hd
 have three:∀ (x:Wd),Num x->wdAt v 0=x->(qdb v 1).isSome=true->RuleFine used v (3,[]):=λx hx h0 hj=>by
  obtain⟨l,hl⟩:=Option.isSome_iff_exists.1 hj;have h6:=qcF hl;obtain⟨j1,j2⟩:=qh0 hl;clear h hj
  match v,h6,h0,j1,j2 with
  |a::p::q::r,_,h0,j1,j2=>
   simp only[wdAt,List.getElem?_cons_zero,List.getElem?_cons_succ,getD_some] at h0 j1 j2;subst h0 j2;refine⟨λd rest=>qjl (.inl hx) [p,[63]] rest d,rfl,λd hd=>?_⟩;simp only[take_succ_cons,take_zero] at hd;rw[qaC hx.d,qaC (qbe j1),qaC (qc8 zDd).d] at hd;cases hd
 cases h6:qei v with
 |true=>
  rw[quF h1 h2 h3 h4 h5 h6];unfold qei at h6;split at h6
  rename_i n hn
  exact three _ (qkn hn) rfl (of_decide_eq_true h6).2
  cases h6
 |false=>
  cases h7:qij v with
  |true=>
   rw[quV h1 h2 h3 h4 h5 h6 h7];unfold qij at h7;split at h7
   ·rename_i l hl
    exact three _ num0 (of_decide_eq_true h7).1 (by rw[hl];try rfl)
   cases h7
  |false=>
   by_cases h8:qkJ v
   ·rw[quI h1 h2 h3 h4 h5 h6 h7 h8]
    have hst:defs (v.take (qcu v))=[]/\∀ (d:Bool) (x y:List Wd),lenW false x<=lenW false y->lenW d (v.take (qcu v)++x)<=lenW d (v.take (qcu v)++y):=by
     have hp:=h8.1;revert hp;unfold qcu;split
     ·rename_i hj
      intro _;obtain⟨l,hl⟩:=Option.isSome_iff_exists.1 hj.1;have h6:=qcF hl;obtain⟨j1,j2⟩:=qh0 hl;have h0:=hj.2;clear hj h8 hl h h1 h2 h3 h4 h5 h7 three
      match v,h6,h0,j1,j2 with
      |a::p::q::r,_,h0,j1,j2=>
       simp only[wdAt,List.getElem?_cons_zero,List.getElem?_cons_succ,getD_some] at h0 j1 j2;subst h0 j2;have s63:Sign [63]:=qc8 zDd;refine⟨?_,λd x y hxy=>?_⟩
       ·simp only[take_succ_cons,take_zero];rw[qaC num0.d,qaC (qbe j1),qaC s63.d]
        try rfl
       simp only[take_succ_cons,take_zero,cons_append,nil_append];rw[num0.len,num0.len,qpA j1,qpA j1,s63.len,s63.len];omega
     split
     ·rename_i hs
      intro _
      have hsg:Sign (wdAt v 0):=by
       rcases hs with h|h <;> rw[h] <;> exact qc8 zDd
      have hlt:0<v.length:=qbT (by intro h0;have:=hsg.n;rw[h0] at this;cases this);clear hs h8 h h1 h2 h3 h4 h5 h6 h7 three
      match v,hlt,hsg with
      |a::r,_,hsg=>
       simp only[wdAt,List.getElem?_cons_zero,getD_some] at hsg;refine⟨?_,λd x y hxy=>?_⟩
       ·simp only[take_succ_cons,take_zero];rw[qaC hsg.d]
        try rfl
       simp only[take_succ_cons,take_zero,cons_append,nil_append];rw[hsg.len,hsg.len];omega
     intro hp;omega
    have htk:v.take (qcu v+qbU (v.drop (qcu v)))=v.take (qcu v)++(v.drop (qcu v)).takeWhile λw=>(defW w).isNone:=by
     rw[List.take_add];congr 1;unfold qbU;exact(List.prefix_iff_eq_take.1 (takeWhile_prefix _)).symm
    refine⟨λd rest=>?_,hst.1,λd hd=>?_⟩;simp only;rw[htk,zAs];exact hst.2 d _ _ (qeB rest _ false);simp only at hd;rw[htk,qgc,hst.1,nil_append] at hd;exfalso;obtain⟨w,hw,hwd⟩:=List.mem_filterMap.1 hd;have:=qsC hw;rw[hwd] at this;cases this
   rw[quc h1 h2 h3 h4 h5 h6 h7 h8] at h ⊢
   have hU:qcA used v=match defW (wdAt v 0) with
    |some l=>if used l=true then (0,[]) else (1,[])
    |none=>(0,[]):=rfl
   cases hd:defW (wdAt v 0) with
   |none=>rw[hd] at hU;rw[hU] at h;exact absurd rfl h
   |some l=>
    rw[hd] at hU;simp only at hU
    by_cases hu:used l=true
    rw[if_pos hu] at hU;rw[hU] at h;exact absurd rfl h;rw[if_neg hu] at hU;rw[hU];have hlt:0<v.length:=qbT (by intro h0;rw[h0] at hd;cases hd);clear hU h h1 h2 h3 h4 h5 h6 h7 h8 three
    match v,hlt,hd with
    |a::r,_,hd=>
     simp only[wdAt,List.getElem?_cons_zero,getD_some] at hd;refine⟨λd rest=>?_,rfl,λd hdd=>?_⟩;simp only[take_succ_cons,take_zero,cons_append,nil_append];rw[quH hd];exact zNr _;simp only[take_succ_cons,take_zero] at hdd;rw[qcT,hd] at hdd;have:d=l:=by simpa [defs] using hdd
     rw[this];exact Bool.eq_false_iff.2 hu
theorem qia(used:Wd->Bool):∀ (f:Nat) (l:List Wd) (d:Bool),l.length<=f->lenW d (qcB used f l)<=lenW d l
 |0,l,d,h=>by
  have:l=[]:=eq_nil_of_length_eq_zero (by omega);subst this
  exact zNr _
 |f+1,[],d,_=>zNr _
 |f+1,w::r,d,h=>by
  rw[qcB];split;exact qfK (x:=qcB used f r) (y:=r) (λd=>qia used f r d (by simp only[zLc] at h;omega)) [w] d
  rename_i h0
  have hR:=qg9 used (w::r) h0;have hk:=qfr used (w::r) h0;have ih:=λd=>qia used f ((w::r).drop (qa2 used (w::r)).1) d (by rw[length_drop];omega);have h1:=qfK ih (qa2 used (w::r)).2 d;have h2:=hR.len d ((w::r).drop (qa2 used (w::r)).1);rw[take_append_drop] at h2;exact zNt h1 h2
theorem qhX(used:Wd->Bool):∀ (f:Nat) (l:List Wd),l.length<=f->(defs (qcB used f l)).Sublist (defs l)/\∀ d∈defs l,used d=true->d∈defs (qcB used f l)
 |0,l,h=>by
  have:l=[]:=eq_nil_of_length_eq_zero (by omega);subst this
  exact⟨List.Sublist.refl _,λd hd=>by cases hd⟩
 |f+1,[],_=>⟨List.Sublist.refl _,λd hd=>by cases hd⟩
 |f+1,w::r,h=>by
  rw[qcB];split;obtain⟨i1,i2⟩:=qhX used f r (by simp only[zLc] at h;omega);rw[qcT w r,qcT w (qcB used f r)];refine⟨List.Sublist.append (List.Sublist.refl _) i1,λd hd hu=>?_⟩;rcases List.mem_append.1 hd with hd|hd;exact List.mem_append_left _ hd;exact List.mem_append_right _ (i2 d hd hu)
  rename_i h0
  have hR:=qg9 used (w::r) h0;obtain⟨i1,i2⟩:=qhX used f ((w::r).drop (qa2 used (w::r)).1) (by have:=qfr used (w::r) h0;rw[length_drop];omega);have hs:defs (w::r)=defs ((w::r).take (qa2 used (w::r)).1)++defs ((w::r).drop (qa2 used (w::r)).1):=by rw[<-qgc,take_append_drop]
  rw[qgc,hR.put,nil_append];refine⟨i1.trans (by rw[hs];exact List.sublist_append_right _ _),λd hd hu=>?_⟩;rw[hs] at hd;rcases List.mem_append.1 hd with hd|hd;rw[hR.took d hd] at hu;cases hu;exact i2 d hd hu
theorem qpG{l:List Wd}(h:qgN l):qgN (qed l):=by
 obtain⟨h1,h2⟩:=h;obtain⟨i1,i2⟩:=qhX (qaO l) l.length l (zNr _);refine⟨h1.sublist i1,λw hw=>?_⟩;have hm:=qfV (P:=λw=>w∈l∨∃ n,w=decDigits n) (λn _=>.inr ⟨n,rfl⟩) (qaO l) l.length l (λw hw=>.inl hw) w hw;rcases hm with hm|⟨n,rfl⟩;have hk:=h2 w hm;unfold OkW at hk ⊢
 cases hd:defW w with
 |some d=>trivial
 |none=>
  rw[hd] at hk;simp only at hk ⊢
  cases hr:refW w with
  |none=>rw[hr] at hk;exact hk
  |some d=>
   rw[hr] at hk;simp only at hk ⊢;refine i2 d hk ?_;unfold qaO;rw[List.any_eq_true];exact⟨w,hm,decide_eq_true hr⟩
 have hk:=qjG n;unfold OkW;rw[hk.d,hk.r];exact hk.c
theorem qo9:∀ (f:Nat) (l:List Wd),qgN l->qgN (optF f l)/\lenW false (optF f l)<=lenW false l
 |0,l,h=>⟨h,zNr _⟩
 |f+1,l,h=>by
  rw[optF];split;exact⟨h,zNr _⟩;obtain⟨i1,i2⟩:=qo9 f _ (qpG h);exact⟨i1,zNt i2 (qia _ _ l false (zNr _))⟩
theorem qwC{l:List Wd}(h:qgN l):qgN (optP l)/\lenW false (optP l)<=lenW false l:=qo9 _ _ h
def qeb(n:Nat):Wd:=([48,48,48,48,48]++decDigits n).drop (([48,48,48,48,48]++decDigits n).length-6)
def qaI(known:Wd->Nat)(w:Wd):Wd:=match refW w with
 |some x=>qeb (known x)
 |none=>w
def addT(known:Wd->Nat)(t w:Wd):Wd:=match defW w with
 |some _=>t
 |none=>t++(if qbc t && qbP (qaI known w) then [32] else [])++qaI known w
def qcX(known:Wd->Nat)(l:List Wd):Wd:=l.foldl (addT known) []
def qbu(known:Wd->Nat)(og:Nat)(s:Wd×List (Wd×Nat))(w:Wd):Wd×List (Wd×Nat):=match defW w with
 |some x=>(s.1,s.2++[(x,og+s.1.length)])
 |none=>(addT known s.1 w,s.2)
def qef(known:Wd->Nat)(og:Nat)(l:List Wd):List (Wd×Nat):=(l.foldl (qbu known og) ([],[])).2
def qdJ(labs:List (Wd×Nat))(x:Wd):Nat:=match labs.find? λp=>decide (p.1=x) with
 |some p=>p.2
 |none=>0
def errT(all:List Wd):List Wd->List (Wd×Nat)->Nat×Nat
 |_,[]=>(0,0)
 |met,(w,ln)::r=>match defW w with
  |some x=>if x∈met then (ln,8) else errT all (met++[x]) r
  |none=>match refW w with
   |some x=>if x∈all then errT all met r else (ln,7)
   |none=>if qka w=true then errT all met r else (ln,3)
def asmP(src:Wd)(og:Int):Except (Nat×Nat) (Wd×List (Wd×Nat)):=
 if og<0∨262144<=og then .error (0,2)
 else if (errT (defs (qbl src)) [] (qgr src)).2≠0 then .error (errT (defs (qbl src)) [] (qgr src))
 else if 40000<(qcX (qdJ (qef (λ_=>0) og.toNat (qbl src))) (qbl src)).length then .error (0,6)
 else .ok (qcX (qdJ (qef (λ_=>0) og.toNat (qbl src))) (qbl src),qef (λ_=>0) og.toNat (qbl src))
theorem qfX(n:Nat):(qeb n).length=6/\∀ c∈qeb n,qap c=true:=by
 have h1:1<=(decDigits n).length:=List.length_pos_iff.2 (qcq n);constructor;unfold qeb;rw[length_drop,zLa];simp only[zLc,zLn];omega;intro c hc;have h2:=List.mem_of_mem_drop hc;rcases List.mem_append.1 h2 with h|h;simp only[zMi,not_mem_nil,or_false,or_self] at h;rw[h];decide;exact qgf n c h
theorem qoJ{known:Wd->Nat}{w:Wd}(known':Wd->Nat):qbP (qaI known w)=qbP (qaI known' w)/\qbc (qaI known w)=qbc (qaI known' w)/\(qaI known w).length=(qaI known' w).length:=by
 unfold qaI
 cases refW w with
 |none=>exact⟨rfl,rfl,rfl⟩
 |some x=>
  have key:∀ n,qbP (qeb n)=true/\qbc (qeb n)=true/\(qeb n).length=6:=λn=>by
   obtain⟨h1,h2⟩:=qfX n;have hne:qeb n≠[]:=λh=>by rw[h] at h1;cases h1
   refine⟨?_,?_,h1⟩
   cases h:qeb n with
   |nil=>exact absurd h hne
   |cons c r=>exact h2 c (by rw[h];simp)
   unfold qbc;rw[List.getLast?_eq_some_getLast hne];exact h2 _ (getLast_mem hne)
  obtain⟨a1,a2,a3⟩:=key (known x);obtain⟨b1,b2,b3⟩:=key (known' x);exact⟨a1.trans b1.symm,a2.trans b2.symm,a3.trans b3.symm⟩
theorem qj2{a b:Wd}(h:b≠[]):qbc (a++b)=qbc b:=by
 unfold qbc;rw[List.getLast?_append,List.getLast?_eq_some_getLast h];try rfl
theorem qhF(known:Wd->Nat)(t w:Wd)(hd:defW w=none)(hw:w≠[]):qaI known w≠[]/\qbc (addT known t w)=qbc (qaI known w)/\(addT known t w).length=t.length+one (qbc t && qbP (qaI known w))+(qaI known w).length:=by
 have hp:qaI known w≠[]:=by
  unfold qaI
  cases refW w with
  |none=>exact hw
  |some x=>intro h;have:=(qfX (known x)).1;rw[show qeb (known x)=[] from h] at this;cases this
 refine⟨hp,?_,?_⟩;unfold addT;rw[hd];exact qj2 hp;unfold addT;rw[hd];simp only[zLa,one];split <;> rfl
theorem qj9(known:Wd->Nat):∀ (l:List Wd) (t:Wd),(∀ w∈l,w≠[])->(l.foldl (addT known) t).length=t.length+lenW (qbc t) l
 |[],t,_=>rfl
 |w::r,t,h=>by
  have hr:=λx hx=>h x (zMo w hx);rw[foldl_cons,qj9 known r _ hr,lenW]
  cases hd:defW w with
  |some x=>
   have:addT known t w=t:=by unfold addT;rw[hd]
   rw[this]
  |none=>
   obtain⟨h1,h2,h3⟩:=qhF known t w hd (h w (by simp));rw[h2,h3]
   cases hr:refW w with
   |some x=>
    have hp:qaI known w=qeb (known x):=by unfold qaI;rw[hr]
    obtain⟨a1,a2⟩:=qfX (known x)
    have hf:qbP (qeb (known x))=true:=by
     cases h:qeb (known x) with
     |nil=>rw[h] at a1;cases a1
     |cons c q=>exact a2 c (by rw[h];simp)
    have hl:qbc (qeb (known x))=true:=by
     have hne:qeb (known x)≠[]:=λh=>by rw[h] at a1;cases a1
     unfold qbc;rw[List.getLast?_eq_some_getLast hne];exact a2 _ (getLast_mem hne)
    rw[hp,hf,hl,a1,Bool.and_true];simp only
    omega
   |none=>
    have hp:qaI known w=w:=by unfold qaI;rw[hr]
    rw[hp];simp only;omega
theorem qjZ(known:Wd->Nat)(l:List Wd)(h:∀ w∈l,w≠[]):(qcX known l).length=lenW false l:=by
 have:=qj9 known l [] h;rw[qcX,this];simp[qbc]
theorem qhv(known:Wd->Nat)(og:Nat):∀ (l:List Wd) (s:Wd×List (Wd×Nat)),(l.foldl (qbu known og) s).1=l.foldl (addT known) s.1
 |[],s=>rfl
 |w::r,s=>by
  rw[foldl_cons,foldl_cons,qhv known og r];congr 1;unfold qbu
  cases hd:defW w with
  |some x=>simp only;unfold addT;rw[hd]
  |none=>rfl
theorem ql5(known known':Wd->Nat)(og:Nat):∀ (l:List Wd) (s s':Wd×List (Wd×Nat)),(∀ w∈l,w≠[])->s.1.length=s'.1.length->qbc s.1=qbc s'.1->s.2=s'.2->(l.foldl (qbu known og) s).2=(l.foldl (qbu known' og) s').2
 |[],s,s',_,_,_,h=>h
 |w::r,s,s',hw,h1,h2,h3=>by
  rw[foldl_cons,foldl_cons];have hr:=λx hx=>hw x (zMo w hx)
  cases hd:defW w with
  |some x=>
   have e1:qbu known og s w=(s.1,s.2++[(x,og+s.1.length)]):=by unfold qbu;rw[hd]
   have e2:qbu known' og s' w=(s'.1,s'.2++[(x,og+s'.1.length)]):=by unfold qbu;rw[hd]
   rw[e1,e2]
   exact ql5 known known' og r _ _ hr h1 h2 (by simp only[h3,h1])
  |none=>
   have e1:qbu known og s w=(addT known s.1 w,s.2):=by unfold qbu;rw[hd]
   have e2:qbu known' og s' w=(addT known' s'.1 w,s'.2):=by unfold qbu;rw[hd]
   rw[e1,e2];obtain⟨a1,a2,a3⟩:=qhF known s.1 w hd (hw w (by simp));obtain⟨b1,b2,b3⟩:=qhF known' s'.1 w hd (hw w (by simp));obtain⟨c1,c2,c3⟩:=qoJ (known:=known) (w:=w) known';exact ql5 known known' og r _ _ hr (by rw[a3,b3,c1,c3,h1,h2]) (by rw[a2,b2,c2]) h3
theorem qnB(known known':Wd->Nat)(og:Nat)(l:List Wd)(h:∀ w∈l,w≠[]):qef known og l=qef known' og l:=ql5 known known' og l _ _ h rfl rfl rfl
theorem qgB(known:Wd->Nat)(og:Nat):∀ (l:List Wd) (s:Wd×List (Wd×Nat)),((l.foldl (qbu known og) s).2).map (·.1)=s.2.map (·.1)++defs l
 |[],s=>by simp[defs]
 |w::r,s=>by
  rw[foldl_cons,qgB known og r];unfold qbu defs
  cases hd:defW w with
  |some x=>simp[hd]
  |none=>simp[hd]
def qfJ:List UInt8:=[97,98,99,100,101,102,103,104,105,106,107,108,109,110,111,112,113,114,115,116,117,118,119,120,121,122,48,49,50,51,52,53,54,55,56,57,95]
theorem qma:∀ n:Nat,n<256->qfJ.contains (UInt8.ofNat n)=qaW (UInt8.ofNat n):=by decide +kernel
theorem qsq(c:UInt8):qfJ.contains c=qaW c:=by
 have h:=qma c.toNat c.toNat_lt
 rwa [UInt8.ofNat_toNat] at h
theorem qb5{p:UInt8->Bool}:∀ {l:List UInt8},l.dropWhile p=[] ↔ l.all p=true
 |[]=>by simp
 |c::l=>by
  rw[List.dropWhile_cons,all_cons]
  cases h:p c with
  |true=>simpa using qb5
  |false=>simp
theorem quX(s:List UInt8):(trimS s qfJ=[]) ↔ s.all qaW=true:=by
 have he:(λc=>qfJ.contains c)=qaW:=funext qsq;unfold trimS trimLeftS trimRightS;rw[he,qb5];constructor;intro h
 by_cases h2:s.reverse.dropWhile qaW=[]
 rw[qb5] at h2;rw[all_reverse] at h2;exact h2;exfalso;obtain⟨c,r,hcr⟩:=List.exists_cons_of_ne_nil h2
 have h3:qaW c=false:=by
  have:=List.head?_dropWhile_not qaW s.reverse;rw[hcr] at this;simpa using this
 rw[hcr,all_reverse,all_cons,h3] at h;cases h;intro h;have h2:s.reverse.dropWhile qaW=[]:=by rw[qb5,all_reverse];exact h
 rw[h2]
 try rfl
theorem qst(r:List UInt8):hasPrefix (38::r) [38]=true/\trimPrefix (38::r) [38]=r:=by
 simp[trimPrefix,hasPrefix,List.isPrefixOf]
theorem quS{c:UInt8}(h:c≠38)(r:List UInt8):hasPrefix (c::r) [38]=false:=by
 have:¬ (38:UInt8)=c:=λe=>h e.symm;simp[hasPrefix,List.isPrefixOf,this]
theorem qv7(w:Wd):refW w=if hasPrefix w [38]=true/\qkr (trimPrefix w [38])=true then some (trimPrefix w [38]) else none:=by
 cases w with
 |nil=>rfl
 |cons c r=>
  by_cases h:c=38
  subst h;rw[(qst r).1,(qst r).2];simp[refW];rw[quS h];simp[refW,h]
theorem qls(w:Wd):hasSuffix w [58]=decide (w.getLast? = some 58):=by
 unfold hasSuffix;rw[Bool.eq_iff_iff,List.isSuffixOf_iff_suffix,decide_eq_true_iff];constructor;rintro⟨t,rfl⟩
 simp
 intro h;rw[List.getLast?_eq_some_iff] at h;obtain⟨t,rfl⟩:=h;exact⟨t,rfl⟩
theorem qvQ(w:Wd):defW w=if hasSuffix w [58]=true/\qkr (trimSuffix w [58])=true then some (trimSuffix w [58]) else none:=by
 rw[qls];unfold defW
 by_cases h:w.getLast? = some 58
 ·have h2:trimSuffix w [58]=w.dropLast:=by
   unfold trimSuffix;rw[qls,decide_eq_true h,if_pos rfl,List.dropLast_eq_take]
   try rfl
  rw[h2];simp[h]
 simp[h]
structure MS where
 mem:Nat->Nat
 pc:Nat
 data:List Nat
 calls:List Nat
 inp:List Nat
 out:Wd
 digit:Bool
inductive MR where
 |run (s:MS)
 |stop (e:Nat) (out:Wd)
def MR.trap(s:MS):MR:=.stop 12 s.out
def qdG(v:Nat)(s:MS):MR:=if s.data.length<256 then .run { s with data:=v::s.data } else .trap s
def binM(c a b:Nat):Option Nat:=
 if c=43 then some ((a+b) % 4294967296)
 else if c=45 then some ((a+4294967296-b) % 4294967296)
 else if c=42 then some (a * b % 4294967296)
 else if c=47 then (if b=0 then none else some (a / b))
 else if c=37 then (if b=0 then none else some (a % b))
 else if c=94 then some (a ^^^ b)
 else some (if a<b then 1 else 0)
def qca(c:Nat):Bool:=decide (48<=c) && decide (c<=57)
def ql6(c:Nat)(s:MS):MR:=if s.digit=true then (match s.data with
 |d::r=>.run { s with data:=(d * 10+c-48) % 4294967296::r }
 |[]=>.trap s) else qdG (c-48) s
def ldM(s:MS):MR:=match s.data with
 |a::r=>if a<262144 then qdG (s.mem a) { s with data:=r } else .trap s
 |[]=>.trap s
def stoM(s:MS):MR:=match s.data with
 |a::v::r=>if a<262144 then .run { s with data:=r,mem:=λi=>if i=a then v else s.mem i } else .trap s
 |_=>.trap s
def jmpM(s:MS):MR:=match s.data with
 |t::v::r=>.run { s with data:=r,pc:=if v=0 then t else s.pc }
 |_=>.trap s
def qne(s:MS):MR:=match s.data with
 |t::r=>if s.calls.length<64 then .run { s with data:=r,calls:=s.pc::s.calls,pc:=t } else .trap s
 |[]=>.trap s
def bakM(s:MS):MR:=match s.calls with
 |t::r=>.run { s with calls:=r,pc:=t }
 |[]=>.trap s
def rdM(s:MS):MR:=match s.inp with
 |v::r=>qdG v { s with inp:=r }
 |[]=>qdG 4294967295 s
def wrM(s:MS):MR:=match s.data with
 |v::r=>.run { s with data:=r,out:=s.out++[UInt8.ofNat v] }
 |[]=>.trap s
def opM(c:Nat)(s:MS):MR:=match s.data with
 |b::a::r=>(match binM c a b with
  |some v=>qdG v { s with data:=r }
  |none=>.trap s)
 |_=>.trap s
def exeM(c:Nat)(s:MS):MR:=
 if qca c=true then ql6 c s
 else if c=32∨c=10 then .run s
 else if c=64 then ldM s
 else if c=33 then stoM s
 else if c=63 then jmpM s
 else if c=58 then qne s
 else if c=59 then bakM s
 else if c=44 then rdM s
 else if c=46 then wrM s
 else if c=36 then .stop 0 s.out
 else if c=43∨c=45∨c=42∨c=47∨c=37∨c=94∨c=60 then opM c s
 else .trap s
def stepM(s:MS):MR:=
 if s.pc<262144 then (match exeM (s.mem s.pc) { s with pc:=s.pc+1 } with
  |.run s'=>.run { s' with digit:=qca (s.mem s.pc) }
  |.stop e o=>.stop e o)
 else .trap s
def runM:Nat->MS->Nat×Wd×Nat
 |0,s=>(13,s.out,0)
 |n+1,s=>match stepM s with
  |.run s'=>((runM n s').1,(runM n s').2.1,(runM n s').2.2+1)
  |.stop e o=>(e,o,1)
def qfp(code:Wd)(og:Nat):Nat->Nat:=λi=>if og<=i then (match code[i-og]? with
 |some c=>c.toNat
 |none=>0) else 0
def qfn(code:Wd)(og:Nat)(inp:List Nat):MS:=⟨qfp code og,og,[],[],inp,[],false⟩
inductive Stp:Nat->MS->MS->Prop
 |zero (s:MS):Stp 0 s s
 |step {k:Nat} {s s' s2:MS}:stepM s=.run s'->Stp k s' s2->Stp (k+1) s s2
theorem Stp.one{s s':MS}(h:stepM s=.run s'):Stp 1 s s':=.step h (.zero _)
theorem Stp.trans{a b:Nat}{s s' s2:MS}(h:Stp a s s')(k:Stp b s' s2):Stp (a+b) s s2:=by
 induction h with
 |zero s=>rw[zero_add];exact k
 |step h1 _ ih=>rw[Nat.add_right_comm];exact .step h1 (ih k)
theorem qwZ{k:Nat}{s s':MS}(h:Stp k s s'):∀ n,runM (k+n) s=((runM n s').1,(runM n s').2.1,(runM n s').2.2+k):=by
 induction h with
 |zero s=>intro n;rw[zero_add];try rfl
 |step h1 _ ih=>
  intro n;rw[Nat.add_right_comm,runM,h1];simp only;rw[ih n];simp only[add_assoc]
def Stx(m:Nat)(s s':MS):Prop:=∃ k,k<=m/\Stp k s s'
theorem Stx.one{s s':MS}(h:stepM s=.run s'):Stx 1 s s':=⟨1,zNr _,.one h⟩
def qhz(mem:Nat->Nat)(p:Nat)(t:Wd):Prop:=∀ i (h:i<t.length),mem (p+i)=(t[i]).toNat
theorem qhz.app{mem:Nat->Nat}{p:Nat}{a b:Wd}(h:qhz mem p (a++b)):qhz mem p a/\qhz mem (p+a.length) b:=by
 constructor;intro i hi;have:=h i (by rw[zLa];omega);rw[List.getElem_append_left hi] at this;exact this;intro i hi;have:=h (a.length+i) (by rw[zLa];omega);rw[List.getElem_append_right (by omega)] at this;rw[add_assoc];simpa using this
theorem qhz.pre{mem:Nat->Nat}{p:Nat}{a t:Wd}(h:qhz mem p t)(hp:a <+: t):qhz mem p a:=by
 obtain⟨b,rfl⟩:=hp;exact h.app.1
theorem qwE(code:Wd)(og:Nat):qhz (qfp code og) og code:=λi hi=>by
 unfold qfp;rw[if_pos (Nat.le_add_right _ _),Nat.add_sub_cancel_left,List.getElem?_eq_getElem hi]
def valD(a:Nat)(l:Wd):Nat:=l.foldl (λa c=>10 * a+(c.toNat-48)) a
theorem qqg(a:Nat)(l m:Wd):valD a (l++m)=valD (valD a l) m:=List.foldl_append ..
theorem ql0{c:UInt8}:qap c=true ↔ 48<=c.toNat/\c.toNat<=57:=by
 have h:∀ n:Nat,n<256->(qap (UInt8.ofNat n)=true ↔ 48<=n/\n<=57):=by decide +kernel
 have:=h c.toNat c.toNat_lt
 rwa [UInt8.ofNat_toNat] at this
theorem qmn(u:Nat):valD 0 (decDigits u)=u:=by
 rw[decDigits];split
 rename_i h
 unfold valD;simp only[foldl_cons,List.foldl_nil]
 have:(UInt8.ofNat (48+u)).toNat=48+u:=by
  rw[UInt8.toNat_ofNat'];omega
 rw[this];omega
 rename_i h
 have ih:=qmn (u / 10);rw[qqg,ih];unfold valD;simp only[foldl_cons,List.foldl_nil]
 have:(UInt8.ofNat (48+u % 10)).toNat=48+u % 10:=by
  rw[UInt8.toNat_ofNat'];omega
 rw[this];omega
termination_by u
theorem qlk:∀ k:Nat,valD 0 (List.replicate k 48)=0
 |0=>rfl
 |k+1=>by
  have:=qlk k;rw[List.replicate_succ];exact this
theorem qdi:∀ (k n:Nat),n<10 ^ (k+1)->(decDigits n).length<=k+1
 |0,n,h=>by rw[decDigits,dif_pos (by simpa using h)];simp
 |k+1,n,h=>by
  rw[decDigits];split
  simp
  have:=qdi k (n / 10) (by rw[Nat.pow_succ] at h;omega);rw[zLa,List.length_singleton];omega
theorem qnQ{n:Nat}(h:n<1000000):valD 0 (qeb n)=n:=by
 have h1:=qdi 5 n h;have h2:1<=(decDigits n).length:=List.length_pos_iff.2 (qcq n)
 have h3:qeb n=List.replicate (6-(decDigits n).length) 48++decDigits n:=by
  unfold qeb;rw[zLa,List.drop_append_of_le_length (by simp only[zLc,zLn];omega)];congr 1
  have:∀ k:Nat,k<=6->1<=k->([48,48,48,48,48]:Wd).drop (([48,48,48,48,48]:Wd).length+k-6)=List.replicate (6-k) 48:=by
   intro k hk h1;have:k=1∨k=2∨k=3∨k=4∨k=5∨k=6:=by omega
   rcases this with rfl|rfl|rfl|rfl|rfl|rfl <;> rfl
  exact this _ h1 h2
 rw[h3,qqg,qlk,qmn]
theorem quw(l:Wd):∀ a:Nat,(∀ c∈l,qap c=true)->l.foldl (λa c=>(a * 10+c.toNat-48) % 4294967296) (a % 4294967296)=valD a l % 4294967296:=by
 induction l with
 |nil=>intro a _;rfl
 |cons c l ih=>
  intro a h;have hc:=ql0.1 (h c (by simp));have h1:=ih (a * 10+c.toNat-48) λx hx=>h x (zMo _ hx)
  have h2:valD a (c::l)=valD (a * 10+c.toNat-48) l:=by
   unfold valD;rw[foldl_cons];congr 1;omega
  rw[h2,<-h1,foldl_cons];congr 1;omega
theorem qmQ:∀ (l:Wd) (s:MS) (d:Nat) (r:List Nat),(∀ c∈l,qap c=true)->s.digit=true->s.data=d::r->qhz s.mem s.pc l->s.pc+l.length<=262144 ->
  Stp l.length s { s with pc:=s.pc+l.length,data:=l.foldl (λa c=>(a * 10+c.toNat-48) % 4294967296) d::r }
 |[],s,d,r,_,_,hd,_,_=>by
  have:({ s with pc:=s.pc+([]:Wd).length,data:=([]:Wd).foldl (λa c=>(a * 10+c.toNat-48) % 4294967296) d::r }:MS)=s:=by
   cases s;simp only at hd;subst hd;rfl
  rw[this];exact .zero s
 |c::l,s,d,r,h,hg,hd,hm,hp=>by
  have hc:=h c (by simp);have hcn:=ql0.1 hc;have hm0:=hm 0 (by simp);simp only[add_zero,List.getElem_cons_zero] at hm0;have hdn:qca c.toNat=true:=by unfold qca;simp[hcn.1,hcn.2]
  rw[zLc] at hp
  have hst:stepM s=.run { s with pc:=s.pc+1,data:=(d * 10+c.toNat-48) % 4294967296::r }:=by
   unfold stepM;rw[if_pos (by omega),hm0];unfold exeM ql6;rw[if_pos hdn];simp only[hg,if_true,hd,hdn]
  have hm1:qhz s.mem (s.pc+1) l:=λi hi=>by
   have:=hm (i+1) (by rw[zLc];omega);rw[show s.pc+1+i=s.pc+(i+1) by omega];simpa using this
  have ih:=qmQ l { s with pc:=s.pc+1,data:=(d * 10+c.toNat-48) % 4294967296::r } _ r (λx hx=>h x (zMo _ hx)) hg rfl hm1 (by simp only;omega)
  have e:({ s with pc:=s.pc+(c::l).length,data:=(c::l).foldl (λa c=>(a * 10+c.toNat-48) % 4294967296) d::r }:MS)={ s with pc:=s.pc+1+l.length,data:=l.foldl (λa c=>(a * 10+c.toNat-48) % 4294967296) ((d * 10+c.toNat-48) % 4294967296)::r }:=by
   rw[zLc,foldl_cons,add_assoc,Nat.add_comm 1]
  rw[e];exact .step hst ih
theorem qqc{l:Wd}{s:MS}(hne:l≠[])(h:∀ c∈l,qap c=true)(hg:s.digit=false)(hroom:s.data.length<256)(hm:qhz s.mem s.pc l)(hp:s.pc+l.length<=262144)(hv:valD 0 l<4294967296) :
  Stp l.length s { s with pc:=s.pc+l.length,data:=valD 0 l::s.data,digit:=true }:=by
 cases l with
 |nil=>exact absurd rfl hne
 |cons c l=>
  have hc:=h c (by simp);have hcn:=ql0.1 hc;have hm0:=hm 0 (by simp);simp only[add_zero,List.getElem_cons_zero] at hm0;have hdn:qca c.toNat=true:=by unfold qca;simp[hcn.1,hcn.2]
  rw[zLc] at hp
  have hst:stepM s=.run { s with pc:=s.pc+1,data:=(c.toNat-48)::s.data,digit:=true }:=by
   unfold stepM;rw[if_pos (by omega),hm0];unfold exeM ql6 qdG;rw[if_pos hdn];simp[hg,hroom,hdn]
  have hm1:qhz s.mem (s.pc+1) l:=λi hi=>by
   have:=hm (i+1) (by rw[zLc];omega);rw[show s.pc+1+i=s.pc+(i+1) by omega];simpa using this
  have hl:=λx hx=>h x (zMo c hx);have ih:=qmQ l { s with pc:=s.pc+1,data:=(c.toNat-48)::s.data,digit:=true } _ s.data hl rfl rfl hm1 (by simp only;omega);have h3:=quw l (c.toNat-48) hl;have h4:valD 0 (c::l)=valD (c.toNat-48) l:=by unfold valD;rw[foldl_cons];congr 1;omega
  rw[Nat.mod_eq_of_lt (show c.toNat-48<4294967296 by omega),<-h4,Nat.mod_eq_of_lt hv] at h3;rw[h3] at ih
  have e:({ s with pc:=s.pc+(c::l).length,data:=valD 0 (c::l)::s.data,digit:=true }:MS)={ s with pc:=s.pc+1+l.length,data:=valD 0 (c::l)::s.data,digit:=true }:=by
   rw[zLc,add_assoc,Nat.add_comm 1]
  rw[e];exact .step hst ih
structure PW where
 W:List Wd
 og:Nat
 known:Wd->Nat
def PW.pre(C:PW)(i:Nat):Wd:=qcX C.known (C.W.take i)
def PW.plc(C:PW)(i:Nat):Nat:=C.og+(C.pre i).length
def PW.At(C:PW)(s:MS)(i:Nat):Prop:=s.pc=C.plc i/\(s.digit=true->qbc (C.pre i)=true)
structure PW.Ok(C:PW)(mem:Nat->Nat):Prop where
 here:qhz mem C.og (qcX C.known C.W)
 fits:C.og+(qcX C.known C.W).length<=262144
theorem qvF(known:Wd->Nat)(t w:Wd):t <+: addT known t w:=by
 unfold addT;split;exact zPf _;rw[zAs];exact List.prefix_append _ _
theorem qnS(known:Wd->Nat):∀ (l:List Wd) (t:Wd),t <+: l.foldl (addT known) t
 |[],t=>zPf _
 |w::l,t=>List.IsPrefix.trans (qvF known t w) (qnS known l _)
theorem PW.pre_all(C:PW)(i:Nat):C.pre i <+: qcX C.known C.W:=by
 have h:qcX C.known C.W=(C.W.drop i).foldl (addT C.known) (C.pre i):=by
  unfold PW.pre qcX;rw[<-List.foldl_append,take_append_drop]
 rw[h];exact qnS _ _ _
theorem PW.pre_succ(C:PW){i:Nat}{w:Wd}(h:C.W[i]? = some w):C.pre (i+1)=addT C.known (C.pre i) w:=by
 obtain⟨hi,rfl⟩:=List.getElem?_eq_some_iff.1 h;unfold PW.pre qcX;rw[List.take_succ_eq_append_getElem hi,List.foldl_append]
 try rfl
theorem PW.pre_le(C:PW)(i:Nat):C.plc i<=C.og+(qcX C.known C.W).length:=by
 have:=(C.pre_all i).length_le;unfold PW.plc;omega
theorem PW.piece{C:PW}{mem:Nat->Nat}{i:Nat}{w:Wd}(hk:C.Ok mem)(hw:C.W[i]? = some w)(hd:defW w=none) :
  C.pre (i+1)=C.pre i++(if qbc (C.pre i) && qbP (qaI C.known w) then [32] else [])++qaI C.known w /\
  qhz mem (C.plc i) ((if qbc (C.pre i) && qbP (qaI C.known w) then [32] else [])++qaI C.known w)/\C.plc (i+1)<=262144:=by
 have h1:=C.pre_succ hw;have h2:addT C.known (C.pre i) w=C.pre i++(if qbc (C.pre i) && qbP (qaI C.known w) then [32] else [])++qaI C.known w:=by unfold addT;rw[hd]
 rw[h2] at h1;refine⟨h1,?_,zNt (C.pre_le _) hk.fits⟩;have h3:=hk.here.pre (C.pre_all (i+1));rw[h1,zAs] at h3;exact h3.app.2
theorem PW.sign{C:PW}{s:MS}{i:Nat}{c:UInt8}(hk:C.Ok s.mem)(h:C.At s i)(hw:C.W[i]? = some [c])(hd:defW [c]=none)(hr:refW [c]=none)(hc:qap c=false) :
  stepM s=(match exeM c.toNat { s with pc:=C.plc (i+1) } with
   |.run s'=>.run { s' with digit:=false }
   |.stop e o=>.stop e o)/\qbc (C.pre (i+1))=false:=by
 obtain⟨h1,h2,h3⟩:=C.piece hk hw hd;have hp:qaI C.known [c]=[c]:=by unfold qaI;rw[hr]
 have hf:qbP [c]=false:=hc;rw[hp,hf,Bool.and_false,if_neg zDd] at h1 h2;rw[zLz] at h1;rw[nil_append] at h2;have m0:=h2 0 (by simp);simp only[add_zero,List.getElem_cons_zero] at m0
 have hplc:C.plc (i+1)=C.plc i+1:=by
  unfold PW.plc;rw[h1,zLa]
  try rfl
 have hn:qca c.toNat=false:=by
  cases hx:qca c.toNat with
  |false=>rfl
  |true=>
   unfold qca at hx;simp only[zBa,zDe] at hx;rw[ql0.2 hx] at hc;cases hc
 constructor
 ·unfold stepM;rw[if_pos (by rw[h.1];omega),h.1,m0,<-hplc,hn]
  try cases exeM c.toNat { s with pc:=C.plc (i+1) } <;> rfl
 rw[h1];unfold qbc;simp[hc]
def PW.Code(C:PW)(i:Nat)(ws:List Wd):Prop:=∀ k (h:k<ws.length),C.W[i+k]? = some ws[k]
theorem PW.Code.app{C:PW}{i:Nat}{a b:List Wd}(h:C.Code i (a++b)):C.Code i a/\C.Code (i+a.length) b:=by
 constructor;intro k hk;have:=h k (by rw[zLa];omega)
 rwa [List.getElem_append_left hk] at this
 intro k hk;have:=h (a.length+k) (by rw[zLa];omega);rw[List.getElem_append_right (by omega)] at this;rw[add_assoc];simpa using this
theorem PW.Code.cons{C:PW}{i:Nat}{w:Wd}{b:List Wd}(h:C.Code i (w::b)):C.W[i]? = some w/\C.Code (i+1) b:=by
 have h1:=PW.Code.app (a:=[w]) (b:=b) h;have h2:=h1.1 0 (by simp);exact⟨by simpa using h2,h1.2⟩
def PW.put(C:PW)(s:MS)(i:Nat)(d:List Nat):MS:={ s with pc:=C.plc i,data:=d,digit:=false }
theorem qbn{c:UInt8}(h:c∈([43,45,42,47,37,94,60,64,33,63,58,59,44,46,36]:Wd)):defW [c]=none/\refW [c]=none/\qap c=false:=by
 have:∀ c∈([43,45,42,47,37,94,60,64,33,63,58,59,44,46,36]:Wd),defW [c]=none/\refW [c]=none/\qap c=false:=by decide +kernel
 exact this c h
section
variable{C:PW}{s:MS}{i:Nat}
theorem PW.load(hk:C.Ok s.mem)(h:C.At s i)(hw:C.W[i]? = some [64]){a:Nat}{r:List Nat}(hd:s.data=a::r)(ha:a<262144)(hroom:r.length<256):Stx 1 s (C.put s (i+1) (s.mem a::r)):=by
 obtain⟨e1,e2,e3⟩:=qbn (c:=64) zDd;obtain⟨h1,_⟩:=C.sign hk h hw e1 e2 e3;refine Stx.one (h1.trans ?_)
 have:exeM (64:UInt8).toNat { s with pc:=C.plc (i+1) }=.run { s with pc:=C.plc (i+1),data:=s.mem a::r }:=by
  unfold exeM;rw[if_neg zDd,if_neg zDd,if_pos zDd];unfold ldM qdG;simp[hd,ha,hroom]
 rw[this]
 try rfl
theorem PW.store(hk:C.Ok s.mem)(h:C.At s i)(hw:C.W[i]? = some [33]){a v:Nat}{r:List Nat}(hd:s.data=a::v::r)(ha:a<262144):Stx 1 s { C.put s (i+1) r with mem:=λi=>if i=a then v else s.mem i }:=by
 obtain⟨e1,e2,e3⟩:=qbn (c:=33) zDd;obtain⟨h1,_⟩:=C.sign hk h hw e1 e2 e3;refine Stx.one (h1.trans ?_)
 have:exeM (33:UInt8).toNat { s with pc:=C.plc (i+1) }=.run { s with pc:=C.plc (i+1),data:=r,mem:=λi=>if i=a then v else s.mem i }:=by
  unfold exeM;rw[if_neg zDd,if_neg zDd,if_neg zDd,if_pos zDd];unfold stoM;simp[hd,ha]
 rw[this]
 try rfl
theorem PW.jump(hk:C.Ok s.mem)(h:C.At s i)(hw:C.W[i]? = some [63]){t v:Nat}{r:List Nat}(hd:s.data=t::v::r):Stx 1 s { C.put s (i+1) r with pc:=if v=0 then t else C.plc (i+1) }:=by
 obtain⟨e1,e2,e3⟩:=qbn (c:=63) zDd;obtain⟨h1,_⟩:=C.sign hk h hw e1 e2 e3;refine Stx.one (h1.trans ?_)
 have:exeM (63:UInt8).toNat { s with pc:=C.plc (i+1) }=.run { s with pc:=if v=0 then t else C.plc (i+1),data:=r }:=by
  unfold exeM;rw[if_neg zDd,if_neg zDd,if_neg zDd,if_neg zDd,if_pos zDd];unfold jmpM;simp[hd]
 rw[this]
 try rfl
theorem PW.call(hk:C.Ok s.mem)(h:C.At s i)(hw:C.W[i]? = some [58]){t:Nat}{r:List Nat}(hd:s.data=t::r)(hc:s.calls.length<64):Stx 1 s { C.put s (i+1) r with pc:=t,calls:=C.plc (i+1)::s.calls }:=by
 obtain⟨e1,e2,e3⟩:=qbn (c:=58) zDd;obtain⟨h1,_⟩:=C.sign hk h hw e1 e2 e3;refine Stx.one (h1.trans ?_)
 have:exeM (58:UInt8).toNat { s with pc:=C.plc (i+1) }=.run { s with pc:=t,data:=r,calls:=C.plc (i+1)::s.calls }:=by
  unfold exeM;rw[if_neg zDd,if_neg zDd,if_neg zDd,if_neg zDd,if_neg zDd,if_pos zDd];unfold qne;simp[hd,hc]
 rw[this]
 try rfl
theorem PW.back(hk:C.Ok s.mem)(h:C.At s i)(hw:C.W[i]? = some [59]){t:Nat}{r:List Nat}(hd:s.calls=t::r):Stx 1 s { s with pc:=t,calls:=r,digit:=false }:=by
 obtain⟨e1,e2,e3⟩:=qbn (c:=59) zDd;obtain⟨h1,_⟩:=C.sign hk h hw e1 e2 e3;refine Stx.one (h1.trans ?_)
 have:exeM (59:UInt8).toNat { s with pc:=C.plc (i+1) }=.run { s with pc:=t,calls:=r }:=by
  unfold exeM;rw[if_neg zDd,if_neg zDd,if_neg zDd,if_neg zDd,if_neg zDd,if_neg zDd,if_pos zDd];unfold bakM;simp[hd]
 rw[this]
theorem PW.read(hk:C.Ok s.mem)(h:C.At s i)(hw:C.W[i]? = some [44])(hroom:s.data.length<256):Stx 1 s { C.put s (i+1) ((s.inp.headD 4294967295)::s.data) with inp:=s.inp.tail }:=by
 obtain⟨e1,e2,e3⟩:=qbn (c:=44) zDd;obtain⟨h1,_⟩:=C.sign hk h hw e1 e2 e3;refine Stx.one (h1.trans ?_)
 have:exeM (44:UInt8).toNat { s with pc:=C.plc (i+1) }=.run { s with pc:=C.plc (i+1),data:=(s.inp.headD 4294967295)::s.data,inp:=s.inp.tail }:=by
  unfold exeM;rw[if_neg zDd,if_neg zDd,if_neg zDd,if_neg zDd,if_neg zDd,if_neg zDd,if_neg zDd,if_pos zDd];unfold rdM qdG
  cases hi:s.inp with
  |nil=>simp[hi,hroom]
  |cons v r=>simp[hi,hroom]
 rw[this]
 try rfl
theorem PW.write(hk:C.Ok s.mem)(h:C.At s i)(hw:C.W[i]? = some [46]){v:Nat}{r:List Nat}(hd:s.data=v::r):Stx 1 s { C.put s (i+1) r with out:=s.out++[UInt8.ofNat v] }:=by
 obtain⟨e1,e2,e3⟩:=qbn (c:=46) zDd;obtain⟨h1,_⟩:=C.sign hk h hw e1 e2 e3;refine Stx.one (h1.trans ?_)
 have:exeM (46:UInt8).toNat { s with pc:=C.plc (i+1) }=.run { s with pc:=C.plc (i+1),data:=r,out:=s.out++[UInt8.ofNat v] }:=by
  unfold exeM;rw[if_neg zDd,if_neg zDd,if_neg zDd,if_neg zDd,if_neg zDd,if_neg zDd,if_neg zDd,if_neg zDd,if_pos zDd];unfold wrM;simp[hd]
 rw[this]
 try rfl
theorem PW.halt(hk:C.Ok s.mem)(h:C.At s i)(hw:C.W[i]? = some [36]):stepM s=.stop 0 s.out:=by
 obtain⟨e1,e2,e3⟩:=qbn (c:=36) zDd;obtain⟨h1,_⟩:=C.sign hk h hw e1 e2 e3;rw[h1]
 have:exeM (36:UInt8).toNat { s with pc:=C.plc (i+1) }=.stop 0 s.out:=by
  unfold exeM;rw[if_neg zDd,if_neg zDd,if_neg zDd,if_neg zDd,if_neg zDd,if_neg zDd,if_neg zDd,if_neg zDd,if_neg zDd,if_pos zDd]
 rw[this]
def isOp(c:UInt8):Prop:=c=43∨c=45∨c=42∨c=47∨c=37∨c=94∨c=60
theorem qvM{c:UInt8}(hc:isOp c)(s:MS):exeM c.toNat s=opM c.toNat s:=by
 have h:qca c.toNat=false/\¬ (c.toNat=32∨c.toNat=10)/\c.toNat≠64/\c.toNat≠33/\c.toNat≠63/\c.toNat≠58/\c.toNat≠59/\c.toNat≠44/\c.toNat≠46/\c.toNat≠36/\(c.toNat=43∨c.toNat=45∨c.toNat=42∨c.toNat=47∨c.toNat=37∨c.toNat=94∨c.toNat=60):=by
  rcases hc with rfl|rfl|rfl|rfl|rfl|rfl|rfl <;> decide
 obtain⟨a1,a2,a3,a4,a5,a6,a7,a8,a9,a10,a11⟩:=h;unfold exeM;rw[if_neg (by rw[a1];decide),if_neg a2,if_neg a3,if_neg a4,if_neg a5,if_neg a6,if_neg a7,if_neg a8,if_neg a9,if_neg a10,if_pos a11]
theorem qqe{c:UInt8}(hc:isOp c):defW [c]=none/\refW [c]=none/\qap c=false:=
 qbn (by unfold isOp at hc;rcases hc with rfl|rfl|rfl|rfl|rfl|rfl|rfl <;> decide)
theorem PW.op(hk:C.Ok s.mem)(h:C.At s i){c:UInt8}(hc:isOp c)(hw:C.W[i]? = some [c]){a b v:Nat}{r:List Nat}(hd:s.data=b::a::r)(hv:binM c.toNat a b=some v)(hroom:r.length<256):Stx 1 s (C.put s (i+1) (v::r)):=by
 obtain⟨e1,e2,e3⟩:=qqe hc;obtain⟨h1,_⟩:=C.sign hk h hw e1 e2 e3;refine Stx.one (h1.trans ?_)
 have:exeM c.toNat { s with pc:=C.plc (i+1) }=.run { s with pc:=C.plc (i+1),data:=v::r }:=by
  rw[qvM hc];unfold opM qdG;simp[hd,hv,hroom]
 rw[this]
 try rfl
theorem PW.opTrap(hk:C.Ok s.mem)(h:C.At s i){c:UInt8}(hc:isOp c)(hw:C.W[i]? = some [c]){a b:Nat}{r:List Nat}(hd:s.data=b::a::r)(hv:binM c.toNat a b=none):stepM s=.stop 12 s.out:=by
 obtain⟨e1,e2,e3⟩:=qqe hc;obtain⟨h1,_⟩:=C.sign hk h hw e1 e2 e3;rw[h1]
 have:exeM c.toNat { s with pc:=C.plc (i+1) }=.stop 12 s.out:=by
  rw[qvM hc];unfold opM MR.trap;simp[hd,hv]
 rw[this]
end
structure IS where
 sc:List UInt8->Nat
 ar:List UInt8->List Nat
 inp:List Nat
 out:List UInt8
 left:Nat
inductive IR (A:Type) where
 |ok (v:A) (s:IS)
 |stop (e:Int) (s:IS)
def IR.bind{A B:Type}(r:IR A)(f:A->IS->IR B):IR B:=match r with
 |.ok v s=>f v s
 |.stop e s=>.stop e s
def b2n(b:Bool):Nat:=if b=true then 1 else 0
def binI(op:List UInt8)(a b:Nat):Option Nat:=
 if op=[43] then some ((a+b) % 4294967296)
 else if op=[45] then some ((a+4294967296-b) % 4294967296)
 else if op=[42] then some (a * b % 4294967296)
 else if op=[94] then some (a ^^^ b)
 else if op=[61,61] then some (b2n (decide (a=b)))
 else if op=[33,61] then some (b2n (decide (a≠b)))
 else if op=[60] then some (b2n (decide (a<b)))
 else if op=[62] then some (b2n (decide (b<a)))
 else if op=[60,61] then some (b2n (decide (a<=b)))
 else if op=[62,61] then some (b2n (decide (b<=a)))
 else if op=[38,38] then some (b2n (decide (a≠0/\b≠0)))
 else if op=[124,124] then some (b2n (decide (a≠0∨b≠0)))
 else if b=0 then none
 else if op=[47] then some (a / b) else some (a % b)
def keyI(f:FnD)(name:List UInt8):List UInt8:=if name∈f.params∨name∈f.locals then f.name++[46]++name else name
def fnI(P:Pr)(name:List UInt8):FnD:=(P.funcs.find? λf=>decide (f.name=name)).getD ⟨[],[],[],[]⟩
def qbj(s:IS)(k:List UInt8)(v:Nat):IS:={ s with sc:=λx=>if x=k then v else s.sc x }
def qe9(f:FnD):List (List UInt8)->List Nat->IS->IS
 |p::ps,v::vs,s=>qe9 f ps vs (qbj s (keyI f p) v)
 |_,_,s=>s
def mapR{A:Type}(g:A->IS->IR Nat):List A->IS->IR (List Nat)
 |[],s=>.ok [] s
 |a::l,s=>(g a s).bind λv s=>(mapR g l s).bind λvs s=>.ok (v::vs) s
def blkR(g:Sm->IS->IR (Option Nat)):List Sm->IS->IR (Option Nat)
 |[],s=>.ok none s
 |a::l,s=>(g a s).bind λr s=>match r with
  |some v=>.ok (some v) s
  |none=>blkR g l s
def qim(P:Pr)(g:FnD->Sm->IS->IR (Option Nat))(name:List UInt8)(vs:List Nat)(s:IS):IR Nat:=
 if name=[105,110] then (match s.inp with
  |[]=>.ok 4294967295 s
  |v::r=>.ok v { s with inp:=r })
 else if name=[111,117,116] then .ok 0 { s with out:=s.out++[UInt8.ofNat (vs.headD 0)] }
 else (blkR (g (fnI P name)) (fnI P name).body (qe9 (fnI P name) (fnI P name).params vs s)).bind λr s=>.ok (r.getD 0) s
def opI(P:Pr)(g:FnD->Sm->IS->IR (Option Nat))(f:FnD)(op:List UInt8)(num:Nat)(name:List UInt8)(vs:List Nat)(s:IS):IR Nat:=
 if op=[110,117,109] then .ok num s
 else if op=[118,97,114] then .ok (s.sc (keyI f name)) s
 else if op=[101,108,101,109] then (match (s.ar name)[vs.headD 0]? with
  |some v=>.ok v s
  |none=>.stop 2 s)
 else if op=[110,101,103] then .ok ((4294967296-vs.headD 0) % 4294967296) s
 else if op=[110,111,116] then .ok (b2n (decide (vs.headD 0=0))) s
 else if op=[99,97,108,108] then qim P g name vs s
 else match binI op (vs.headD 0) (vs.tail.headD 0) with
  |some v=>.ok v s
  |none=>.stop 12 s
def qer(P:Pr)(inp:List Nat)(limit:Nat):IS:=⟨λ_=>0,λx=>match P.arrays.find? λa=>decide (a.name=x) with
 |some a=>List.replicate a.size 0
 |none=>[],inp,[],limit⟩
def qb7(P:Pr):FnD:=P.funcs.getLast?.getD ⟨[],[],[],[]⟩
abbrev Nm:=List UInt8
def qnl:List Nm:=qdl++[[105,110],[111,117,116]]
def isNm(s:Nm):Bool:=decide (s.length<=24) && !qnl.contains s && (match s with
 |[]=>false
 |c::r=>qaV c && r.all qaW)
structure FSum where
 name:Nm
 params:Nat
 need:Nat
 depth:Nat
structure CEnv where
 vars:List Nm
 arrays:List Nm
 later:List Nm
 own:List Nm
 funcs:List FSum
def CEnv.globals(c:CEnv):List Nm:=c.vars++c.arrays++c.later
def CEnv.fn(c:CEnv)(name:Nm):Option FSum:=c.funcs.find? λf=>decide (f.name=name)
def orE(a b:Int):Int:=if a≠0 then a else b
def qeO:List Nm:=[[124,124],[38,38],[61,61],[33,61],[60],[62],[60,61],[62,61],[94],[43],[45],[42],[47],[37]]
def qbv(op:Nm):Int:=if op=nNum∨op=nVar then 0 else if op=qec∨op=nNeg∨op=nNot then 1 else if op=qbN then -1 else if op∈qeO then 2 else -2
def qcd(c:CEnv)(name:Nm):Int:=if name∈c.vars∨name∈c.own then 0 else if name∈c.globals then 10 else 7
def qeS(c:CEnv)(name:Nm):Int:=if name∈c.arrays then 0 else if name∈c.globals∨name∈c.own then 10 else 7
def callE(c:CEnv)(name:Nm)(n:Nat):Int:=
 if name=[105,110] then (if n=0 then 0 else 1)
 else if name=[111,117,116] then (if n=1 then 0 else 1)
 else match c.fn name with
  |some f=>if n=f.params then 0 else 1
  |none=>if name∈c.vars∨name∈c.arrays∨name∈c.own then 10 else 7
def useE(c:CEnv)(op name:Nm)(n:Nat):Int:=if op=nVar then qcd c name else if op=qec then qeS c name else if op=qbN then callE c name n else 0
mutual
def errE(c:CEnv):Ex->Int
 |.mk op num name args=>if qbv op = -1∨qbv op=args.length then orE (qbr c args) (useE c op name args.length) else 3
def qbr(c:CEnv):List Ex->Int
 |[]=>0
 |x::l=>orE (errE c x) (qbr c l)
end
def qhQ:Nat->List Nat->Nat->Nat
 |i,[],m=>m
 |i,n::l,m=>qhQ (i+1) l (max m (i+n))
def qiW(c:CEnv)(name:Nm)(ns:List Nat):Nat:=
 if name=[105,110] then 1
 else if name=[111,117,116] then ns.headD 0
 else match c.fn name with
  |some f=>qhQ 0 ns (max (f.params+1) f.need)
  |none=>0
def opN(c:CEnv)(op name:Nm)(ns:List Nat):Nat:=
 if op=nNum∨op=nVar then 1
 else if op=qec∨op=nNeg then 1+ns.headD 0
 else if op=qbN then qiW c name ns
 else if op=nNot then max 2 (ns.headD 0)
 else if op=[62]∨op=[60,61] then max (max 3 (ns.headD 0)) (1+ns.tail.headD 0)
 else if op=[33,61] then max (max 3 (1+ns.headD 0)) (2+ns.tail.headD 0)
 else if op=[38,38] then max (1+ns.headD 0) (2+ns.tail.headD 0)
 else if op=[124,124] then max (2+ns.headD 0) (3+ns.tail.headD 0)
 else max (max 2 (ns.headD 0)) (1+ns.tail.headD 0)
mutual
def qbb(c:CEnv):Ex->Nat
 |.mk op num name args=>opN c op name (qaY c args)
def qaY(c:CEnv):List Ex->List Nat
 |[]=>[]
 |x::l=>qbb c x::qaY c l
end
def qgp(c:CEnv)(op name:Nm):Nat:=if op=qbN/\name≠[105,110]/\name≠[111,117,116] then (match c.fn name with
 |some f=>f.depth+1
 |none=>0) else 0
mutual
def depE(c:CEnv):Ex->Nat
 |.mk op num name args=>max (qbZ c args) (qgp c op name)
def qbZ(c:CEnv):List Ex->Nat
 |[]=>0
 |x::l=>max (depE c x) (qbZ c l)
end
def exOp1:Ex->Nm
 |.mk op _ _ _=>op
def qbR:Sm->Bool
 |.mk kind name index value thn els=>
  if kind=1 then decide (name≠[]/\index.length=0/\value.length=1/\thn.length=0/\els.length=0)
  else if kind=2 then decide (name≠[]/\index.length=1/\value.length=1/\thn.length=0/\els.length=0)
  else if kind=3 then decide (name=[]/\index.length=0/\value.length=1)
  else if kind=4 then decide (name=[]/\index.length=0/\value.length=1/\els.length=0)
  else if kind=5 then decide (name=[]/\index.length=0/\value.length=1/\thn.length=0/\els.length=0)
  else if kind=6 then decide (name=[]/\index.length=0/\value.length=1/\thn.length=0/\els.length=0/\exOp1 (value.headD default)=qbN)
  else if kind=7 then decide (name=[]/\index.length=0/\value.length=0/\thn.length=0/\els.length=0)
  else false
mutual
def errS(c:CEnv):Sm->Int
 |.mk kind name index value thn els=>if qbR (.mk kind name index value thn els)=false then 3
  else orE (qbr c value) (orE (qbr c index) (orE (if kind=1 then qcd c name else if kind=2 then qeS c name else 0) (orE (qb0 c thn) (qb0 c els))))
def qb0(c:CEnv):List Sm->Int
 |[]=>0
 |s::l=>orE (errS c s) (qb0 c l)
end
mutual
def qkH(c:CEnv):Sm->Nat
 |.mk kind name index value thn els=>
  if kind=7 then 0
  else if kind=2 then max (qbb c (value.headD default)) (2+qbb c (index.headD default))
  else if kind=5 then qbb c (value.headD default)
  else max 2 (max (max (qbb c (value.headD default)) (qbM c thn)) (qbM c els))
def qbM(c:CEnv):List Sm->Nat
 |[]=>0
 |s::l=>max (qkH c s) (qbM c l)
end
mutual
def depS(c:CEnv):Sm->Nat
 |.mk kind name index value thn els=>max (max (qbZ c value) (qbZ c index)) (max (qck c thn) (qck c els))
def qck(c:CEnv):List Sm->Nat
 |[]=>0
 |s::l=>max (depS c s) (qck c l)
end
def qch:List Nm->List Nm->Int
 |known,[]=>0
 |known,s::l=>if isNm s=false then 7 else if s∈known then 8 else qch (s::known) l
def qha:Int->List Int->Int
 |total,[]=>0
 |total,n::l=>if n<=0 then 2 else if 150000-total<n then 6 else qha (total+n) l
def envF(vars arrays later:List Nm)(known:List FSum)(f:FnD):CEnv:=⟨vars,arrays,later,f.params++f.locals,known⟩
def errF(vars arrays later:List Nm)(known:List FSum)(f:FnD):Int:=orE (qch (vars++arrays++later) (f.params++f.locals)) (qb0 (envF vars arrays later known f) f.body)
def sumF(vars arrays later:List Nm)(known:List FSum)(f:FnD):FSum:=⟨f.name,f.params.length,max (max 2 (f.params.length+1)) (qbM (envF vars arrays later known f) f.body),max 1 (qck (envF vars arrays later known f) f.body)⟩
def qfM(vars arrays later:List Nm):List FSum->List FnD->Int
 |known,[]=>0
 |known,f::l=>orE (errF vars arrays later known f) (qfM vars arrays later (known++[sumF vars arrays later known f]) l)
def qjY(vars arrays later:List Nm):List FSum->List FnD->List FSum
 |known,[]=>known
 |known,f::l=>qjY vars arrays later (known++[sumF vars arrays later known f]) l
def qaj(vars:List Nm)(fs:List FnD):List Nm:=vars++(fs.map λf=>(f.params++f.locals).map λx=>f.name++[46]++x).flatten
def qt2(vars:List Nm)(fs:List FnD)(sums:List FSum):Int:=match fs.getLast?,sums.getLast? with
 |some f,some m=>if f.name=[109,97,105,110]/\f.params=[] then (if (qaj vars fs).length<=8000/\m.need<=200/\m.depth<=60 then 0 else 6) else 9
 |_,_=>9
def qdn(vars:List Nm)(arrays:List (Nm×Int))(fs:List FnD):Int:=
 orE (qch [] (vars++arrays.map (·.1)++fs.map (·.name))) (orE (qha 0 (arrays.map (·.2)))
  (orE (qfM vars (arrays.map (·.1)) (fs.map (·.name)) [] fs) (qt2 vars fs (qjY vars (arrays.map (·.1)) (fs.map (·.name)) [] fs))))
def qcf(p:Pr):Int:=qdn p.vars (p.arrays.map λa=>(a.name,(a.size:Int))) p.funcs
theorem qah{a b:Int}:orE a b=0 ↔ a=0/\b=0:=by
 unfold orE;split;constructor;intro h;contradiction;rintro⟨h,_⟩;contradiction;constructor;intro h;exact⟨by omega,h⟩;rintro⟨_,h⟩;exact h
def LeO{A:Type}(r r':OR A):Prop:=∀ q,r=some q->r'=some q
theorem LeO.rfl'{A:Type}{r:OR A}:LeO r r:=λ_ h=>h
theorem LeO.none{A:Type}{r:OR A}:LeO none r:=λ_ h=>by cases h
theorem LeO.bind{A B:Type}{r r':OR A}{f f':A->Nat->Nat->OR B}(h:LeO r r')(hf:∀ v i op,LeO (f v i op) (f' v i op)):LeO (qaE r f) (qaE r' f'):=λq hq=>by
 rcases qaz hq with⟨v,i,op,h1,h2⟩|⟨l,e,h1,rfl⟩;rw[h _ h1];exact hf _ _ _ _ h2;rw[h _ h1]
 try rfl
theorem LeO.ite{A:Type}{c:Prop} [Decidable c]{a b a' b':OR A}(h1:LeO a a')(h2:LeO b b'):LeO (if c then a else b) (if c then a' else b'):=by
 split;exact h1;exact h2
theorem qiy(T:List Tok):∀ (f g:Nat) (acc:List (List UInt8)) (i op:Nat),f<=g->LeO (qaR T f acc i op) (qaR T g acc i op)
 |0,_,_,_,_,_=>LeO.none
 |f+1,0,_,_,_,h=>by omega
 |f+1,g+1,acc,i,op,h=>by
  rw[qaR,qaR];exact LeO.ite (LeO.bind LeO.rfl' λv i op=>qiy T f g _ i op (by omega)) LeO.rfl'
theorem qpa(T:List Tok)(f g i op:Nat)(h:f<=g):LeO (qej T f i op) (qej T g i op):=LeO.bind LeO.rfl' λv i op=>qiy T f g _ i op h
theorem qyp(T:List Tok):∀ f g:Nat,f<=g->(∀ k i op,LeO (eLev T f k i op) (eLev T g k i op))/\(∀ k e i op,LeO (qdE T f k e i op) (qdE T g k e i op))/\(∀ i op,LeO (qb4 T f i op) (qb4 T g i op)) /\
  (∀ i op,LeO (qeg T f i op) (qeg T g i op))/\(∀ i op,LeO (qcg T f i op) (qcg T g i op))/\(∀ i op,LeO (qd9 T f i op) (qd9 T g i op))/\(∀ acc i op,LeO (qaP T f acc i op) (qaP T g acc i op))
 |0,g,_=>⟨λ_ _ _=>by rw[eLev];exact LeO.none,λ_ _ _ _=>by rw[qdE];exact LeO.none,λ_ _=>by rw[qb4];exact LeO.none,λ_ _=>by rw[qeg];exact LeO.none,λ_ _=>by rw[qcg];exact LeO.none,λ_ _=>by rw[qd9];exact LeO.none,λ_ _ _=>by rw[qaP];exact LeO.none⟩
 |f+1,0,h=>by omega
 |f+1,g+1,h=>by
  obtain⟨hL,hO,hU,hP,hI,hA,hB⟩:=qyp T f g (by omega);refine⟨λk i op=>?_,λk e i op=>?_,λi op=>?_,λi op=>?_,λi op=>?_,λi op=>?_,λacc i op=>?_⟩;rw[eLev,eLev];exact LeO.ite (hU _ _) (LeO.bind (hL _ _ _) λ_ _ _=>hO _ _ _ _);rw[qdE,qdE];exact LeO.ite (LeO.bind (hL _ _ _) λ_ _ _=>LeO.ite LeO.rfl' (hO _ _ _ _)) LeO.rfl';rw[qb4,qb4];exact LeO.ite (LeO.bind LeO.rfl' λ_ _ _=>LeO.bind (hU _ _) λ_ _ _=>LeO.rfl') (LeO.ite (LeO.bind LeO.rfl' λ_ _ _=>LeO.bind (hU _ _) λ_ _ _=>LeO.rfl') (hP _ _));rw[qeg,qeg];exact LeO.ite (LeO.bind LeO.rfl' λ_ _ _=>LeO.bind (hL _ _ _) λ_ _ _=>LeO.rfl') (LeO.ite LeO.rfl' (LeO.bind LeO.rfl' λ_ _ _=>LeO.ite (LeO.bind (hI _ _) λ_ _ _=>LeO.rfl') (LeO.ite (LeO.bind (hA _ _) λ_ _ _=>LeO.rfl') LeO.rfl')));rw[qcg,qcg];exact LeO.bind LeO.rfl' λ_ _ _=>LeO.bind (hL _ _ _) λ_ _ _=>LeO.rfl';rw[qd9,qd9];exact LeO.bind LeO.rfl' λ_ _ _=>LeO.bind (hB _ _ _) λ_ _ _=>LeO.rfl';rw[qaP,qaP];exact LeO.ite LeO.rfl' (LeO.bind LeO.rfl' λ_ _ _=>LeO.bind (hL _ _ _) λ_ _ _=>hB _ _ _)
theorem qxF(T:List Tok):∀ f g:Nat,f<=g->(∀ i op,LeO (qci T f i op) (qci T g i op))/\(∀ acc i op,LeO (qbQ T f acc i op) (qbQ T g acc i op))/\(∀ i op,LeO (qee T f i op) (qee T g i op))/\(∀ i op,LeO (qbH T f i op) (qbH T g i op))
 |0,g,_=>⟨λ_ _=>by rw[qci];exact LeO.none,λ_ _ _=>by rw[qbQ];exact LeO.none,λ_ _=>by rw[qee];exact LeO.none,λ_ _=>by rw[qbH];exact LeO.none⟩
 |f+1,0,h=>by omega
 |f+1,g+1,h=>by
  obtain⟨hB,hS,hT,hM⟩:=qxF T f g (by omega);obtain⟨hL,_,_,_,hI,hA,_⟩:=qyp T f g (by omega);refine⟨λi op=>?_,λacc i op=>?_,λi op=>?_,λi op=>?_⟩;rw[qci,qci];exact LeO.bind LeO.rfl' λ_ _ _=>LeO.bind (hS _ _ _) λ_ _ _=>LeO.rfl';rw[qbQ,qbQ];exact LeO.ite LeO.rfl' (LeO.bind (hT _ _) λ_ _ _=>hS _ _ _);rw[qee,qee];exact LeO.ite (LeO.bind (hL _ _ _) λ_ _ _=>LeO.bind (hB _ _) λ_ _ _=>LeO.ite (LeO.bind (hB _ _) λ_ _ _=>LeO.rfl') LeO.rfl') (LeO.ite (LeO.bind (hL _ _ _) λ_ _ _=>LeO.bind (hB _ _) λ_ _ _=>LeO.rfl') (LeO.bind (hM _ _) λ_ _ _=>LeO.rfl'));rw[qbH,qbH];exact LeO.ite (LeO.bind (hL _ _ _) λ_ _ _=>LeO.rfl') (LeO.ite LeO.rfl' (LeO.bind LeO.rfl' λ_ _ _=>LeO.ite (LeO.bind (hA _ _) λ_ _ _=>LeO.rfl') (LeO.ite (LeO.bind (hI _ _) λ_ _ _=>LeO.bind LeO.rfl' λ_ _ _=>LeO.bind (hL _ _ _) λ_ _ _=>LeO.rfl') (LeO.bind LeO.rfl' λ_ _ _=>LeO.bind (hL _ _ _) λ_ _ _=>LeO.rfl'))))
theorem qoa(T:List Tok):∀ (f g:Nat) (acc:List (List UInt8)) (i op:Nat),f<=g->LeO (qcz T f acc i op) (qcz T g acc i op)
 |0,_,_,_,_,_=>LeO.none
 |f+1,0,_,_,_,h=>by omega
 |f+1,g+1,acc,i,op,h=>by
  rw[qcz,qcz];exact LeO.ite (LeO.bind (qpa T f g _ _ (by omega)) λ_ _ _=>LeO.bind LeO.rfl' λ_ _ _=>qoa T f g _ _ _ (by omega)) LeO.rfl'
theorem qxf(T:List Tok)(f g i op:Nat)(h:f<=g):LeO (qgq T f i op) (qgq T g i op):=by
 unfold qgq
 exact LeO.bind LeO.rfl' λ_ _ _=>LeO.bind LeO.rfl' λ_ _ _=>LeO.bind (LeO.ite LeO.rfl' (qpa T f g _ _ h)) λ_ _ _=>LeO.bind LeO.rfl' λ_ _ _=>LeO.bind LeO.rfl' λ_ _ _=>
  LeO.bind (qoa T f g _ _ _ h) λ_ _ _=>LeO.bind ((qxF T f g h).2.1 _ _ _) λ_ _ _=>LeO.rfl'
theorem qms(T:List Tok):∀ (f g:Nat) (p:Pr) (i op:Nat),f<=g->LeO (qcN T f p i op) (qcN T g p i op)
 |0,_,_,_,_,_=>LeO.none
 |f+1,0,_,_,_,h=>by omega
 |f+1,g+1,p,i,op,h=>by
  rw[qcN,qcN]
  exact LeO.ite LeO.rfl' (LeO.ite (LeO.bind (qoa T f g _ _ _ (by omega)) λ_ _ _=>qms T f g _ _ _ (by omega)) (LeO.ite (LeO.bind LeO.rfl' λ_ _ _=>qms T f g _ _ _ (by omega))
   (LeO.ite (LeO.bind (qxf T f g _ _ (by omega)) λ_ _ _=>qms T f g _ _ _ (by omega)) LeO.rfl')))
def Ag(T T':List Tok)(d m:Nat):Prop:=∀ j,j<m->∃ t t',T[j]? = some t/\T'[j+d]? = some t'/\t'.kind=t.kind/\t'.text=t.text
section
variable{T T':List Tok}{d m:Nat}
theorem Ag.isTok(h:Ag T T' d m){i:Nat}(hi:i<m)(xs:List (List UInt8)):isTok T' (i+d) xs=isTok T i xs:=by
 obtain⟨t,t',h1,h2,h3,h4⟩:=h i hi;unfold Go.Stele.isTok;rw[h1,h2];simp only[h3,h4]
theorem Ag.text(h:Ag T T' d m){i:Nat}(hi:i<m):qeI T' (i+d)=qeI T i:=by
 obtain⟨t,t',h1,h2,h3,h4⟩:=h i hi;unfold qeI;rw[h1,h2];exact h4
theorem Ag.kind(h:Ag T T' d m){i:Nat}(hi:i<m):qkf T' (i+d)=qkf T i:=by
 obtain⟨t,t',h1,h2,h3,h4⟩:=h i hi;unfold qkf;rw[h1,h2];exact h3
def Ext{A:Type}(d m:Nat)(b:Bool)(i:Nat)(r r':OR A):Prop:=∀ v i' op',r=some (.ok v i' op')->i<=i'/\(b=true->i<i')/\(i'<m∨(b=true/\i'<=m)->r'=some (.ok v (i'+d) op'))
theorem Ext.none{A:Type}{b:Bool}{i:Nat}{r':OR A}:Ext d m b i none r':=λ_ _ _ h=>by cases h
theorem Ext.ok{A:Type}{i op:Nat}{v:A}:Ext d m false i (some (.ok v i op)) (some (.ok v (i+d) op)):=λ_ _ _ h=>by
 cases h;exact⟨zNr _,by simp,λ_=>rfl⟩
theorem Ext.bind{A B:Type}{b1 b:Bool}{i:Nat}{r r':OR A}{f f':A->Nat->Nat->OR B}(hr:Ext d m b1 i r r')(hf:∀ v i1 op1,i<=i1->(b1=true->i<i1)->Ext d m b i1 (f v i1 op1) (f' v (i1+d) op1)) :
  Ext d m b i (qaE r f) (qaE r' f'):=λv i' op' h=>by
 rcases qaz h with⟨w,i1,op1,h1,h2⟩|⟨l,e,_,h1⟩;obtain⟨g1,g2,g3⟩:=hr _ _ _ h1;obtain⟨k1,k2,k3⟩:=hf _ _ op1 g1 g2 _ _ _ h2;refine⟨by omega,λhb=>by have:=k2 hb;omega,λhm=>?_⟩
 rw[g3 (.inl (by
  rcases hm with hm|⟨hb,hm⟩;omega
  have:=k2 hb;omega))]
 exact k3 hm;cases h1
theorem Ext.weak{A:Type}{b:Bool}{i j:Nat}{r r':OR A}(h:Ext d m b j r r')(hij:i<=j):Ext d m b i r r':=λv i' op' hv=>by
 obtain⟨g1,g2,g3⟩:=h _ _ _ hv;exact⟨by omega,λhb=>by have:=g2 hb;omega,g3⟩
theorem Ext.soft{A:Type}{b:Bool}{i:Nat}{r r':OR A}(h:Ext d m true i r r'):Ext d m b i r r':=λv i' op' hv=>by
 obtain⟨g1,g2,g3⟩:=h _ _ _ hv;exact⟨g1,λ_=>g2 rfl,λhm=>g3 (.inr ⟨rfl,by rcases hm with hm|hm <;> omega⟩)⟩
theorem Ext.eq{A:Type}{b:Bool}{i:Nat}{r r' r2:OR A}(h:Ext d m b i r r')(he:i<m->r2=r'):Ext d m b i r r2:=λv i' op' hv=>by
 obtain⟨g1,g2,g3⟩:=h _ _ _ hv;refine⟨g1,g2,λhm=>?_⟩
 rw[he (by
  rcases hm with hm|⟨hb,hm⟩;omega
  have:=g2 hb;omega)]
 exact g3 hm
theorem Ext.ite{A:Type}{b:Bool}{i:Nat}{c c':Prop} [Decidable c] [Decidable c']{x y x' y':OR A}(hc:i<m->(c' ↔ c))(hx:c->Ext d m b i x x')(hy:¬c->Ext d m b i y y') :
  Ext d m b i (if c then x else y) (if c' then x' else y'):=by
 by_cases h:c
 refine Ext.eq (r':=x') ?_ λhi=>by rw[if_pos ((hc hi).2 h)]
 rw[if_pos h];exact hx h;refine Ext.eq (r':=y') ?_ λhi=>by rw[if_neg (λhh=>h ((hc hi).1 hh))]
 rw[if_neg h];exact hy h
theorem Ext.tok{A:Type}{b:Bool}(hA:Ag T T' d m){i:Nat}{xs:List (List UInt8)}{x y x' y':OR A}(hx:Ext d m b i x x')(hy:Ext d m b i y y') :
  Ext d m b i (if isTok T i xs then x else y) (if isTok T' (i+d) xs then x' else y'):=Ext.ite (λhi=>by rw[hA.isTok hi]) (λ_=>hx) (λ_=>hy)
theorem qfm(hA:Ag T T' d m)(k:Int)(i op:Nat):Ext d m true i (some (qc7 T k i op)) (some (qc7 T' k (i+d) op)):=λv i' op' h=>by
 unfold qc7 at h;split at h
 rename_i t ht
 split at h
 rename_i hk
 cases h;refine⟨by omega,λ_=>by omega,λhm=>?_⟩;obtain⟨t1,t',h1,h2,h3,h4⟩:=hA i (by omega);rw[ht] at h1;cases h1;unfold qc7;rw[h2];simp only[h3,h4,if_pos hk];rw[show i+d+1=i+1+d by omega];cases h;cases h
theorem qeV(hA:Ag T T' d m)(x:List UInt8)(i op:Nat):Ext d m true i (some (qds T x i op)) (some (qds T' x (i+d) op)):=λv i' op' h=>by
 unfold qds at h;split at h
 rename_i ht
 cases h;refine⟨by omega,λ_=>by omega,λhm=>?_⟩;unfold qds;rw[hA.isTok (by omega),if_pos ht,show i+d+1=i+1+d by omega];cases h
theorem qeQ(hA:Ag T T' d m)(x:List UInt8)(i op:Nat):Ext d m true i (some (qbV T x i op)) (some (qbV T' x (i+d) op)):=λv i' op' h=>by
 unfold qbV at h;split at h
 rename_i ht
 split at h;cases h
 rename_i ho
 cases h;refine⟨by omega,λ_=>by omega,λhm=>?_⟩;unfold qbV;rw[hA.isTok (by omega),if_pos ht,if_neg ho,show i+d+1=i+1+d by omega];cases h
theorem qmj(hA:Ag T T' d m)(x:List UInt8)(i op:Nat):Ext d m true i (some (sEnd T x i op)) (some (sEnd T' x (i+d) op)):=λv i' op' h=>by
 unfold sEnd qds at h;split at h
 ·rename_i ht
  cases h;refine⟨by omega,λ_=>by omega,λhm=>?_⟩;unfold sEnd qds;rw[hA.isTok (by omega),if_pos ht,show i+d+1=i+1+d by omega]
  try rfl
 cases h
theorem qla(hA:Ag T T' d m)(i op:Nat):Ext d m true i (some (qcQ T i op)) (some (qcQ T' (i+d) op)):=λv i' op' h=>by
 have h0:=qfm hA 1 i op;unfold qcQ at h
 cases hw:qc7 T 1 i op with
 |err l e=>rw[hw] at h;cases h
 |ok s i1 op1=>
  rw[hw] at h;cases h;obtain⟨g1,g2,g3⟩:=h0 _ _ _ (congrArg some hw);refine⟨g1,g2,λhm=>?_⟩;have:=g3 hm;injection this with this;unfold qcQ;rw[this]
  try rfl
theorem qhx(hA:Ag T T' d m):∀ (f g:Nat) (acc:List (List UInt8)) (i op:Nat),f<=g->Ext d m false i (qaR T f acc i op) (qaR T' g acc (i+d) op)
 |0,_,_,_,_,_=>Ext.none
 |f+1,0,_,_,_,h=>by omega
 |f+1,g+1,acc,i,op,h=>by
  rw[qaR,qaR];refine Ext.tok hA (Ext.bind (b1:=true) ?_ λv i1 op1 _ _=>qhx hA f g _ _ _ (by omega)) Ext.ok;rw[show i+d+1=i+1+d by omega];exact(qfm hA 2 (i+1) op).weak (by omega)
theorem qjE(hA:Ag T T' d m)(f g i op:Nat)(h:f<=g):Ext d m false i (qej T f i op) (qej T' g (i+d) op):=
 Ext.bind (qfm hA 2 i op) λv i1 op1 _ _=>qhx hA f g _ _ _ h
theorem qi7(hA:Ag T T' d m){A B:Type}{x y:List UInt8}{i op:Nat}{g g':Nat->Nat->OR A}{k:A->B}{b:Bool}(hg:∀ i1 op1,i<=i1->Ext d m b i1 (g i1 op1) (g' (i1+d) op1)) :
  Ext d m true i (qaE (some (qbV T x i op)) λ_ i' op'=>qaE (g i' op') λv i' op'=>qaE (some (sEnd T y i' op')) λ_ i' op'=>some (.ok (k v) i' op'))
   (qaE (some (qbV T' x (i+d) op)) λ_ i' op'=>qaE (g' i' op') λv i' op'=>qaE (some (sEnd T' y i' op')) λ_ i' op'=>some (.ok (k v) i' op')):=by
 refine Ext.bind (qeQ hA x i op) λ_ i1 op1 h1 _=>Ext.bind (hg i1 op1 h1) λv i2 op2 h2 _=>?_;intro w i' op' h;rcases qaz h with⟨u,i3,op3,h3,h4⟩|⟨l,e,_,h4⟩
 ·cases h4;obtain⟨g1,g2,g3⟩:=qmj hA y i2 op2 _ _ _ h3;refine⟨g1,g2,λhm=>?_⟩;rw[g3 hm]
  try rfl
 cases h4
theorem qv0(hA:Ag T T' d m):∀ f g:Nat,f<=g->(∀ k i op,Ext d m false i (eLev T f k i op) (eLev T' g k (i+d) op))/\(∀ k e i op,Ext d m false i (qdE T f k e i op) (qdE T' g k e (i+d) op)) /\
  (∀ i op,Ext d m false i (qb4 T f i op) (qb4 T' g (i+d) op))/\(∀ i op,Ext d m false i (qeg T f i op) (qeg T' g (i+d) op))/\(∀ i op,Ext d m true i (qcg T f i op) (qcg T' g (i+d) op)) /\
  (∀ i op,Ext d m true i (qd9 T f i op) (qd9 T' g (i+d) op))/\(∀ acc i op,Ext d m false i (qaP T f acc i op) (qaP T' g acc (i+d) op))
 |0,g,_=>⟨λ_ _ _=>by rw[eLev];exact Ext.none,λ_ _ _ _=>by rw[qdE];exact Ext.none,λ_ _=>by rw[qb4];exact Ext.none,λ_ _=>by rw[qeg];exact Ext.none,λ_ _=>by rw[qcg];exact Ext.none,λ_ _=>by rw[qd9];exact Ext.none,λ_ _ _=>by rw[qaP];exact Ext.none⟩
 |f+1,0,h=>by omega
 |f+1,g+1,h=>by
  obtain⟨hL,hO,hU,hP,hI,hR,hB⟩:=qv0 hA f g (by omega);refine⟨λk i op=>?_,λk e i op=>?_,λi op=>?_,λi op=>?_,λi op=>?_,λi op=>?_,λacc i op=>?_⟩;rw[eLev,eLev];exact Ext.ite (λ_=>Iff.rfl) (λ_=>hU _ _) (λ_=>Ext.bind (hL _ _ _) λ_ _ _ _ _=>hO _ _ _ _);rw[qdE,qdE];refine Ext.tok hA ?_ Ext.ok;refine Ext.eq (r':=qaE (eLev T' g (k+1) (i+d+1) op) λe2 i' op'=>if k=2 then some (.ok (.mk (qeI T i) 0 [] [e,e2]) i' op') else qdE T' g k (.mk (qeI T i) 0 [] [e,e2]) i' op') ?_ λhi=>by rw[hA.text hi]
  rw[show i+d+1=i+1+d by omega];exact Ext.bind ((hL _ _ _).weak (by omega)) λ_ _ _ _ _=>Ext.ite (λ_=>Iff.rfl) (λ_=>Ext.ok) (λ_=>hO _ _ _ _);rw[qb4,qb4];exact Ext.tok hA (Ext.bind (qeQ hA _ _ _) λ_ _ _ _ _=>Ext.bind (hU _ _) λ_ _ _ _ _=>Ext.ok) (Ext.tok hA (Ext.bind (qeQ hA _ _ _) λ_ _ _ _ _=>Ext.bind (hU _ _) λ_ _ _ _ _=>Ext.ok) (hP _ _));rw[qeg,qeg];refine Ext.tok hA (qi7 (k:=λe=>e) (g:=eLev T f 0) (g':=eLev T' g 0) hA λ_ _ _=>hL 0 _ _).soft ?_;refine Ext.ite (λhi=>by rw[hA.kind hi]) (λ_=>Ext.bind (qla hA _ _) λ_ _ _ _ _=>Ext.ok) (λ_=>?_);exact Ext.bind (qfm hA 2 _ _) λ_ _ _ _ _=>Ext.tok hA (Ext.bind (hI _ _) λ_ _ _ _ _=>Ext.ok) (Ext.tok hA (Ext.bind (hR _ _) λ_ _ _ _ _=>Ext.ok) Ext.ok);rw[qcg,qcg];exact qi7 (k:=λe=>e) (g:=eLev T f 0) (g':=eLev T' g 0) hA λ_ _ _=>hL 0 _ _;rw[qd9,qd9];exact qi7 (k:=λe=>e) (g:=qaP T f []) (g':=qaP T' g []) hA λ_ _ _=>hB [] _ _;rw[qaP,qaP];refine Ext.tok hA Ext.ok (Ext.bind (b1:=false) ?_ λ_ _ _ _ _=>Ext.bind (hL _ _ _) λ_ _ _ _ _=>hB _ _ _);split;exact Ext.ok;exact(qeV hA _ _ _).soft
theorem qvW(hA:Ag T T' d m):∀ f g:Nat,f<=g->(∀ i op,Ext d m true i (qci T f i op) (qci T' g (i+d) op))/\(∀ acc i op,Ext d m false i (qbQ T f acc i op) (qbQ T' g acc (i+d) op)) /\
  (∀ i op,Ext d m false i (qee T f i op) (qee T' g (i+d) op))/\(∀ i op,Ext d m false i (qbH T f i op) (qbH T' g (i+d) op))
 |0,g,_=>⟨λ_ _=>by rw[qci];exact Ext.none,λ_ _ _=>by rw[qbQ];exact Ext.none,λ_ _=>by rw[qee];exact Ext.none,λ_ _=>by rw[qbH];exact Ext.none⟩
 |f+1,0,h=>by omega
 |f+1,g+1,h=>by
  obtain⟨hB,hS,hT,hM⟩:=qvW hA f g (by omega);obtain⟨hL,_,_,_,hI,hR,_⟩:=qv0 hA f g (by omega);refine⟨λi op=>?_,λacc i op=>?_,λi op=>?_,λi op=>?_⟩;rw[qci,qci];exact qi7 (k:=λe=>e) (g:=qbQ T f []) (g':=qbQ T' g []) hA λ_ _ _=>hS [] _ _;rw[qbQ,qbQ];exact Ext.tok hA Ext.ok (Ext.bind (hT _ _) λ_ _ _ _ _=>hS _ _ _);rw[qee,qee];rw[show i+d+1=i+1+d by omega];refine Ext.tok hA (Ext.bind ((hL _ _ _).weak (by omega)) λ_ i1 _ _ _=>Ext.bind (hB _ _) λ_ i2 _ _ _=>?_) (Ext.tok hA (Ext.bind ((hL _ _ _).weak (by omega)) λ_ _ _ _ _=>Ext.bind (hB _ _) λ_ _ _ _ _=>Ext.ok) (Ext.bind (hM _ _) λ_ _ _ _ _=>Ext.bind (qeV hA _ _ _) λ_ _ _ _ _=>Ext.ok));rw[show i2+d+1=i2+1+d by omega];exact Ext.tok hA (Ext.bind ((hB _ _).weak (by omega)) λ_ _ _ _ _=>Ext.ok) Ext.ok;rw[qbH,qbH];rw[show i+d+1=i+1+d by omega]
  exact Ext.tok hA (Ext.bind ((hL _ _ _).weak (by omega)) λ_ _ _ _ _=>Ext.ok) (Ext.tok hA (Ext.weak (Ext.ok (i:=i+1)) (by omega)) (Ext.bind (qfm hA 2 _ _) λ_ _ _ _ _=>Ext.tok hA (Ext.bind (hR _ _) λ_ _ _ _ _=>Ext.ok)
   (Ext.tok hA (Ext.bind (hI _ _) λ_ _ _ _ _=>Ext.bind (qeV hA _ _ _) λ_ _ _ _ _=>Ext.bind (hL _ _ _) λ_ _ _ _ _=>Ext.ok) (Ext.bind (qeV hA _ _ _) λ_ _ _ _ _=>Ext.bind (hL _ _ _) λ_ _ _ _ _=>Ext.ok))))
theorem qqm(hA:Ag T T' d m):∀ (f g:Nat) (acc:List (List UInt8)) (i op:Nat),f<=g->Ext d m false i (qcz T f acc i op) (qcz T' g acc (i+d) op)
 |0,_,_,_,_,_=>Ext.none
 |f+1,0,_,_,_,h=>by omega
 |f+1,g+1,acc,i,op,h=>by
  rw[qcz,qcz,show i+d+1=i+1+d by omega];exact Ext.tok hA (Ext.bind ((qjE hA f g _ _ (by omega)).weak (by omega)) λ_ _ _ _ _=>Ext.bind (qeV hA _ _ _) λ_ _ _ _ _=>qqm hA f g _ _ _ (by omega)) Ext.ok
theorem qqf{A B:Type}{i:Nat}{r r':OR A}{k:A->B}{o:Nat->Nat}(h:Ext d m true i r r'):Ext d m true i (qaE r λv i op=>some (.ok (k v) i (o op))) (qaE r' λv i op=>some (.ok (k v) i (o op))):=λw i' op' hw=>by
 rcases qaz hw with⟨u,i3,op3,h3,h4⟩|⟨l,e,_,h4⟩
 ·cases h4;obtain⟨g1,g2,g3⟩:=h _ _ _ h3;refine⟨g1,g2,λhm=>?_⟩;rw[g3 hm]
  try rfl
 cases h4
theorem qu0(hA:Ag T T' d m)(f g i op:Nat)(h:f<=g):Ext d m true i (qgq T f i op) (qgq T' g (i+d) op):=by
 unfold qgq
 refine Ext.bind (qfm hA 2 _ _) λ_ _ _ _ _=>Ext.bind (qeQ hA _ _ _) λ_ _ _ _ _=>Ext.bind (b1:=false) (Ext.tok hA Ext.ok (qjE hA f g _ _ h)) λ_ _ _ _ _=>Ext.bind (qmj hA _ _ _) λ_ _ _ _ _=>
  Ext.bind (qeQ hA _ _ _) λ_ _ _ _ _=>Ext.bind (qqm hA f g _ _ _ h) λ_ _ _ _ _=>Ext.bind ((qvW hA f g h).2.1 _ _ _) λ_ _ _ _ _=>qqf (o:=λx=>x) (qmj hA _ _ _)
theorem qrx(hA:Ag T T' d m)(i op:Nat):Ext d m true i (qey T i op) (qey T' (i+d) op):=by
 unfold qey;refine Ext.bind (qfm hA 2 _ _) λ_ _ _ _ _=>Ext.bind (qeQ hA _ _ _) λ_ _ _ _ _=>Ext.bind (qla hA _ _) λ_ _ _ _ _=>Ext.bind (qmj hA _ _ _) λ_ _ _ _ _=>qqf (o:=λx=>x) (qeV hA _ _ _)
end
def EN{A:Type}(r:OR A):Prop:=∀ l e,r=some (.err l e)->¬ e=0
theorem EN.none{A:Type}:EN (none:OR A):=λ_ _ h=>by cases h
theorem EN.ok{A:Type}{v:A}{i op:Nat}:EN (some (.ok v i op)):=λ_ _ h=>by cases h
theorem EN.bind{A B:Type}{r:OR A}{f:A->Nat->Nat->OR B}(h:EN r)(hf:∀ v i op,EN (f v i op)):EN (qaE r f):=λl e hq=>by
 rcases qaz hq with⟨v,i,op,_,h2⟩|⟨l',e',h1,h2⟩;exact hf _ _ _ _ _ h2;cases h2;exact h _ _ h1
theorem EN.ite{A:Type}{c:Prop} [Decidable c]{a b:OR A}(h1:EN a)(h2:EN b):EN (if c then a else b):=by
 split;exact h1;exact h2
theorem EN.syn{A:Type}{T:List Tok}{i:Nat}:EN (A:=A) (some (qiH T i)):=λl e h=>by
 cases h;decide
theorem EN.word{T:List Tok}{k:Int}{i op:Nat}:EN (some (qc7 T k i op)):=by
 unfold qc7;split;split;exact EN.ok;exact EN.syn;exact EN.syn
theorem EN.need{T:List Tok}{x:List UInt8}{i op:Nat}:EN (some (qds T x i op)):=by
 unfold qds;split;exact EN.ok;exact EN.syn
theorem EN.begin{T:List Tok}{x:List UInt8}{i op:Nat}:EN (some (qbV T x i op)):=by
 unfold qbV;split;split;intro l e h;cases h;decide;exact EN.ok;exact EN.syn
theorem EN.end'{T:List Tok}{x:List UInt8}{i op:Nat}:EN (some (sEnd T x i op)):=by
 unfold sEnd qds;split;exact EN.ok;exact EN.syn
theorem EN.number{T:List Tok}{i op:Nat}:EN (some (qcQ T i op)):=by
 unfold qcQ qc7;split;split;exact EN.ok;exact EN.syn;exact EN.syn
theorem qiu(T:List Tok):∀ (f:Nat) (acc:List (List UInt8)) (i op:Nat),EN (qaR T f acc i op)
 |0,_,_,_=>EN.none
 |f+1,acc,i,op=>by
  rw[qaR];exact EN.ite (EN.bind EN.word λ_ _ _=>qiu T f _ _ _) EN.ok
theorem qpo(T:List Tok)(f i op:Nat):EN (qej T f i op):=EN.bind EN.word λ_ _ _=>qiu T f _ _ _
theorem qyx(T:List Tok):∀ f:Nat,(∀ k i op,EN (eLev T f k i op))/\(∀ k e i op,EN (qdE T f k e i op))/\(∀ i op,EN (qb4 T f i op))/\(∀ i op,EN (qeg T f i op))/\(∀ i op,EN (qcg T f i op))/\(∀ i op,EN (qd9 T f i op))/\(∀ acc i op,EN (qaP T f acc i op))
 |0=>⟨λ_ _ _=>by rw[eLev];exact EN.none,λ_ _ _ _=>by rw[qdE];exact EN.none,λ_ _=>by rw[qb4];exact EN.none,λ_ _=>by rw[qeg];exact EN.none,λ_ _=>by rw[qcg];exact EN.none,λ_ _=>by rw[qd9];exact EN.none,λ_ _ _=>by rw[qaP];exact EN.none⟩
 |f+1=>by
  obtain⟨hL,hO,hU,hP,hI,hA,hB⟩:=qyx T f;refine⟨λk i op=>?_,λk e i op=>?_,λi op=>?_,λi op=>?_,λi op=>?_,λi op=>?_,λacc i op=>?_⟩;rw[eLev];exact EN.ite (hU _ _) (EN.bind (hL _ _ _) λ_ _ _=>hO _ _ _ _);rw[qdE];exact EN.ite (EN.bind (hL _ _ _) λ_ _ _=>EN.ite EN.ok (hO _ _ _ _)) EN.ok;rw[qb4];exact EN.ite (EN.bind EN.begin λ_ _ _=>EN.bind (hU _ _) λ_ _ _=>EN.ok) (EN.ite (EN.bind EN.begin λ_ _ _=>EN.bind (hU _ _) λ_ _ _=>EN.ok) (hP _ _));rw[qeg];exact EN.ite (EN.bind EN.begin λ_ _ _=>EN.bind (hL _ _ _) λ_ _ _=>EN.bind EN.end' λ_ _ _=>EN.ok) (EN.ite (EN.bind EN.number λ_ _ _=>EN.ok) (EN.bind EN.word λ_ _ _=>EN.ite (EN.bind (hI _ _) λ_ _ _=>EN.ok) (EN.ite (EN.bind (hA _ _) λ_ _ _=>EN.ok) EN.ok)));rw[qcg];exact EN.bind EN.begin λ_ _ _=>EN.bind (hL _ _ _) λ_ _ _=>EN.bind EN.end' λ_ _ _=>EN.ok;rw[qd9];exact EN.bind EN.begin λ_ _ _=>EN.bind (hB _ _ _) λ_ _ _=>EN.bind EN.end' λ_ _ _=>EN.ok;rw[qaP];refine EN.ite EN.ok (EN.bind ?_ λ_ _ _=>EN.bind (hL _ _ _) λ_ _ _=>hB _ _ _);split;exact EN.ok;exact EN.need
theorem qx7(T:List Tok):∀ f:Nat,(∀ i op,EN (qci T f i op))/\(∀ acc i op,EN (qbQ T f acc i op))/\(∀ i op,EN (qee T f i op))/\(∀ i op,EN (qbH T f i op))
 |0=>⟨λ_ _=>by rw[qci];exact EN.none,λ_ _ _=>by rw[qbQ];exact EN.none,λ_ _=>by rw[qee];exact EN.none,λ_ _=>by rw[qbH];exact EN.none⟩
 |f+1=>by
  obtain⟨hB,hS,hT,hM⟩:=qx7 T f;obtain⟨hL,_,_,_,hI,hA,_⟩:=qyx T f;refine⟨λi op=>?_,λacc i op=>?_,λi op=>?_,λi op=>?_⟩;rw[qci];exact EN.bind EN.begin λ_ _ _=>EN.bind (hS _ _ _) λ_ _ _=>EN.bind EN.end' λ_ _ _=>EN.ok;rw[qbQ];exact EN.ite EN.ok (EN.bind (hT _ _) λ_ _ _=>hS _ _ _);rw[qee];exact EN.ite (EN.bind (hL _ _ _) λ_ _ _=>EN.bind (hB _ _) λ_ _ _=>EN.ite (EN.bind (hB _ _) λ_ _ _=>EN.ok) EN.ok) (EN.ite (EN.bind (hL _ _ _) λ_ _ _=>EN.bind (hB _ _) λ_ _ _=>EN.ok) (EN.bind (hM _ _) λ_ _ _=>EN.bind EN.need λ_ _ _=>EN.ok));rw[qbH];exact EN.ite (EN.bind (hL _ _ _) λ_ _ _=>EN.ok) (EN.ite EN.ok (EN.bind EN.word λ_ _ _=>EN.ite (EN.bind (hA _ _) λ_ _ _=>EN.ok) (EN.ite (EN.bind (hI _ _) λ_ _ _=>EN.bind EN.need λ_ _ _=>EN.bind (hL _ _ _) λ_ _ _=>EN.ok) (EN.bind EN.need λ_ _ _=>EN.bind (hL _ _ _) λ_ _ _=>EN.ok))))
theorem qot(T:List Tok):∀ (f:Nat) (acc:List (List UInt8)) (i op:Nat),EN (qcz T f acc i op)
 |0,_,_,_=>EN.none
 |f+1,acc,i,op=>by
  rw[qcz];exact EN.ite (EN.bind (qpo T f _ _) λ_ _ _=>EN.bind EN.need λ_ _ _=>qot T f _ _ _) EN.ok
theorem qxh(T:List Tok)(f i op:Nat):EN (qgq T f i op):=by
 unfold qgq;exact EN.bind EN.word λ_ _ _=>EN.bind EN.begin λ_ _ _=>EN.bind (EN.ite EN.ok (qpo T f _ _)) λ_ _ _=>EN.bind EN.end' λ_ _ _=>EN.bind EN.begin λ_ _ _=>EN.bind (qot T f _ _ _) λ_ _ _=>EN.bind ((qx7 T f).2.1 _ _ _) λ_ _ _=>EN.bind EN.end' λ_ _ _=>EN.ok
theorem qvd(T:List Tok)(i op:Nat):EN (qey T i op):=by
 unfold qey;exact EN.bind EN.word λ_ _ _=>EN.bind EN.begin λ_ _ _=>EN.bind EN.number λ_ _ _=>EN.bind EN.end' λ_ _ _=>EN.bind EN.need λ_ _ _=>EN.ok
theorem ql4(T:List Tok):∀ (f:Nat) (p:Pr) (i op:Nat),EN (qcN T f p i op)
 |0,_,_,_=>EN.none
 |f+1,p,i,op=>by
  rw[qcN];exact EN.ite EN.ok (EN.ite (EN.bind (qot T f _ _ _) λ_ _ _=>ql4 T f _ _ _) (EN.ite (EN.bind (qvd T _ _) λ_ _ _=>ql4 T f _ _ _) (EN.ite (EN.bind (qxh T f _ _) λ_ _ _=>ql4 T f _ _ _) EN.syn)))
def Pr.app(p q:Pr):Pr:=⟨p.vars++q.vars,p.arrays++q.arrays,p.funcs++q.funcs⟩
def qc1:Pr:=⟨[],[],[]⟩
theorem Pr.app_assoc(p q r:Pr):(p.app q).app r=p.app (q.app r):=by simp[Pr.app]
theorem Pr.app_no(p:Pr):p.app qc1=p:=by simp[Pr.app,qc1]
theorem Pr.no_app(p:Pr):qc1.app p=p:=by simp[Pr.app,qc1]
inductive Decl (T:List Tok):Nat->Pr->Nat->Prop where
 |var {i j:Nat} {l:List (List UInt8)} (h:isTok T i [qkI]=true) (f0 i1:Nat) (h1:∀ f,f0<=f->qej T f (i+1) 0=some (.ok l i1 0)) (h2:qds T [59] i1 0=.ok () j 0):Decl T i ⟨l,[],[]⟩ j
 |array {i j:Nat} {a:Ar} (h0:isTok T i [qkI]=false) (h:isTok T i [qjd]=true) (h1:qey T (i+1) 0=some (.ok a j 0)):Decl T i ⟨[],[a],[]⟩ j
 |func {i j:Nat} {a:FnD} (h0:isTok T i [qkI]=false) (h0':isTok T i [qjd]=false) (h:isTok T i [qrw]=true) (f0:Nat) (h1:∀ f,f0<=f->qgq T f (i+1) 0=some (.ok a j 0)):Decl T i ⟨[],[],[a]⟩ j
inductive Decls (T:List Tok):Nat->Nat->Pr->Nat->Prop where
 |nil {i:Nat}:Decls T 0 i qc1 i
 |cons {n i j k:Nat} {p q:Pr} (h:Decl T i p j) (ht:Decls T n j q k):Decls T (n+1) i (p.app q) k
theorem Decls.trans{T:List Tok}{n m:Nat}:∀ {i j k:Nat} {p q:Pr},Decls T n i p j->Decls T m j q k->∃ o,Decls T o i (p.app q) k:=by
 intro i j k p q h1 h2
 induction h1 with
 |nil=>rw[Pr.no_app];exact⟨m,h2⟩
 |cons h ht ih=>
  obtain⟨o,ho⟩:=ih h2;rw[Pr.app_assoc];exact⟨o+1,.cons h ho⟩
section
variable{T T':List Tok}{d:Nat}
theorem qk9(hA:Ag T T' d T.length):∀ (f:Nat) (acc l:List (List UInt8)) (i i' op':Nat),qcz T f acc i 0=some (.ok l i' op')->op'=0/\∃ l2 n,l=acc++l2/\Decls T' n (i+d) ⟨l2,[],[]⟩ (i'+d)
 |0,_,_,_,_,_,h=>by cases h
 |f+1,acc,l,i,i',op',h=>by
  rw[qcz] at h;split at h
  rename_i ht
  have hi:=qaK ht;rcases qaz h with⟨l1,i1,op1,h1,h2⟩|⟨_,_,_,h2⟩;obtain⟨_,_,g3,rfl⟩:=qcm T f (i+1) 0 _ h1;rcases qaz h2 with⟨u,i2,op2,h3,h4⟩|⟨_,_,_,h4⟩;have hg:=qbg T [59] i1 0;injection h3 with h3;rw[h3] at hg;obtain⟨k1,k2,k3,rfl⟩:=hg;have hl:=k3 (g3 (by omega));obtain⟨rfl,l2,n,rfl,hD⟩:=qk9 hA f _ _ _ _ _ h4;refine⟨rfl,l1++l2,n+1,by simp,?_⟩;have e:(⟨l1++l2,[],[]⟩:Pr)=(⟨l1,[],[]⟩:Pr).app ⟨l2,[],[]⟩:=by simp[Pr.app]
  rw[e];refine .cons (j:=i2+d) (.var (by rw[hA.isTok hi];exact ht) f (i1+d) (λg hg=>?_) ?_) hD;have:=(qjE hA f g (i+1) 0 hg _ _ _ h1).2.2 (.inl (by have:=k2 rfl;omega));rw[show i+d+1=i+1+d by omega];exact this;have:=(qeV hA [59] i1 0 _ _ _ (congrArg some h3)).2.2 (.inr ⟨rfl,hl⟩);injection this;cases h4;cases h2;cases h;exact⟨rfl,[],0,by simp,.nil⟩
theorem qeD(hA:Ag T T' d T.length):∀ (f:Nat) (p q:Pr) (i j op':Nat),i<=T.length->qcN T f p i 0=some (.ok q j op')->∃ dl n,q=p.app dl/\Decls T' n (i+d) dl (T.length+d)
 |0,_,_,_,_,_,_,h=>by cases h
 |f+1,p,q,i,j,op',hi,h=>by
  rw[qcN] at h;split at h;cases h;have:i=T.length:=by omega
  subst this;exact⟨qc1,0,(Pr.app_no p).symm,.nil⟩
  rename_i hlt
  have hlt':i<T.length:=by omega
  split at h;rcases qaz h with⟨l1,i1,op1,h1,h2⟩|⟨_,_,_,h2⟩;obtain⟨rfl,l2,n,rfl,hD⟩:=qk9 hA f _ _ _ _ _ h1;have hg:=qcs T f [] i 0 _ h1;obtain⟨dl,m,rfl,hD2⟩:=qeD hA f _ _ _ _ _ (hg.2.2.1 hi) h2;obtain⟨o,ho⟩:=hD.trans hD2;refine⟨_,o,?_,ho⟩;simp[Pr.app];cases h2
  rename_i hv
  have hv':isTok T i [qkI]=false:=by simpa using hv
  split at h
  rename_i ha
  rcases qaz h with⟨a,i1,op1,h1,h2⟩|⟨_,_,_,h2⟩;obtain⟨g1,g2,g3,rfl⟩:=qdY T (i+1) 0 _ h1;obtain⟨dl,m,rfl,hD2⟩:=qeD hA f _ _ _ _ _ (g3 (by omega)) h2;refine⟨_,m+1,?_,.cons (j:=i1+d) (.array (a:=a) (by rw[hA.isTok hlt'];exact hv') (by rw[hA.isTok hlt'];exact ha) ?_) hD2⟩;simp[Pr.app];have:=(qrx hA (i+1) 0 _ _ _ h1).2.2 (.inr ⟨rfl,g3 (by omega)⟩);rw[show i+d+1=i+1+d by omega];exact this;cases h2
  rename_i ha
  have ha':isTok T i [qjd]=false:=by simpa using ha
  split at h
  rename_i hf
  rcases qaz h with⟨a,i1,op1,h1,h2⟩|⟨_,_,_,h2⟩;obtain⟨g1,g2,g3,rfl⟩:=qeA T f (i+1) 0 _ h1;obtain⟨dl,m,rfl,hD2⟩:=qeD hA f _ _ _ _ _ (g3 (by omega)) h2;refine⟨_,m+1,?_,.cons (j:=i1+d) (.func (a:=a) (by rw[hA.isTok hlt'];exact hv') (by rw[hA.isTok hlt'];exact ha') (by rw[hA.isTok hlt'];exact hf) f λg hg=>?_) hD2⟩;simp[Pr.app];have:=(qu0 hA f g (i+1) 0 hg _ _ _ h1).2.2 (.inr ⟨rfl,g3 (by omega)⟩);rw[show i+d+1=i+1+d by omega];exact this;cases h2;unfold qiH at h;cases h
end
theorem qtU{T:List Tok}(xs:List (List UInt8)):isTok T T.length xs=false:=by
 unfold isTok;rw[List.getElem?_eq_none (zNr _)]
theorem qqs{T:List Tok}{n i j:Nat}{dl:Pr}(h:Decls T n i dl j):j=T.length->∃ f0 l i' m dl',(∀ f,f0<=f->∀ acc,qcz T f acc i 0=some (.ok (acc++l) i' 0))/\Decls T m i' dl' j/\dl=(⟨l,[],[]⟩:Pr).app dl'/\m<=n/\(isTok T i [qkI]=true->m<n):=by
 induction h with
 |nil=>
  intro hj;subst hj;refine⟨1,[],T.length,0,qc1,λf hf acc=>?_,.nil,by simp[Pr.app,qc1],zNr _,λh=>by rw[qtU] at h;cases h⟩;obtain⟨g,rfl⟩:∃ g,f=g+1:=⟨f-1,by omega⟩;rw[qcz,if_neg (by rw[qtU];decide)]
  simp
 |@cons n i j k p q hd ht ih=>
  intro hk;obtain⟨f0,l,i',m,dl',h1,h2,h3,h4,h5⟩:=ih hk
  cases hd with
  |@var _ l1 hv f1 i1 hn hs=>
   refine⟨max f0 f1+1,l1++l,i',m,dl',λf hf acc=>?_,h2,by rw[h3];simp[Pr.app],by omega,λ_=>by omega⟩;obtain⟨g,rfl⟩:∃ g,f=g+1:=⟨f-1,by omega⟩;rw[qcz,if_pos hv,hn g (by omega)];show qaE (some (qds T [59] i1 0)) _=_;rw[hs];show qcz T g (acc++l1) j 0=_;rw[h1 g (by omega)]
   simp
  |@array _ a hv ha h=>
   refine⟨1,[],i,n+1,_,λf hf acc=>?_,.cons (.array hv ha h) ht,by rw[show(⟨[],[],[]⟩:Pr)=qc1 from rfl,Pr.no_app],by omega,λh'=>by rw[hv] at h';cases h'⟩;obtain⟨g,rfl⟩:∃ g,f=g+1:=⟨f-1,by omega⟩;rw[qcz,if_neg (by rw[hv];decide)]
   simp
  |@func _ a hv ha' ha f1 h=>
   refine⟨1,[],i,n+1,_,λf hf acc=>?_,.cons (.func hv ha' ha f1 h) ht,by rw[show(⟨[],[],[]⟩:Pr)=qc1 from rfl,Pr.no_app],by omega,λh'=>by rw[hv] at h';cases h'⟩;obtain⟨g,rfl⟩:∃ g,f=g+1:=⟨f-1,by omega⟩;rw[qcz,if_neg (by rw[hv];decide)]
   simp
theorem qgg{T:List Tok}:∀ (N n i:Nat) (dl:Pr),n<=N->Decls T n i dl T.length->∃ f0,∀ f,f0<=f->∀ p,qcN T f p i 0=some (.ok (p.app dl) T.length 0)
 |N,n,i,dl,hn,h=>by
  have hv:=qqs h rfl
  cases h with
  |nil=>
   refine⟨1,λf hf p=>?_⟩;obtain⟨g,rfl⟩:∃ g,f=g+1:=⟨f-1,by omega⟩
   rw[qcN,if_pos (zNr _),Pr.app_no]
  |@cons n _ j _ p q hd ht=>
   cases N with
   |zero=>omega
   |succ N=>
   cases hd with
   |@var _ l1 hv1 f1 i1 hn1 hs=>
    obtain⟨f0,l,i',m,dl',h1,h2,h3,h4,h5⟩:=hv;obtain⟨f2,h6⟩:=qgg N m i' dl' (by have:=h5 hv1;omega) h2;have hlt:=qaK hv1;refine⟨max f0 f2+1,λf hf p=>?_⟩;obtain⟨g,rfl⟩:∃ g,f=g+1:=⟨f-1,by omega⟩;rw[qcN,if_neg (by omega),if_pos hv1,h1 g (by omega)];show qcN T g _ i' 0=_;rw[h6 g (by omega),h3]
    simp[Pr.app]
   |@array _ a hv0 ha h=>
    obtain⟨f2,h6⟩:=qgg N n j q (by omega) ht;have hlt:=qaK ha;refine⟨f2+1,λf hf p=>?_⟩;obtain⟨g,rfl⟩:∃ g,f=g+1:=⟨f-1,by omega⟩;rw[qcN,if_neg (by omega),if_neg (by rw[hv0];decide),if_pos ha,h];show qcN T g _ j 0=_;rw[h6 g (by omega)]
    simp[Pr.app]
   |@func _ a hv0 ha hf1 f1 h=>
    obtain⟨f2,h6⟩:=qgg N n j q (by omega) ht;have hlt:=qaK hf1;refine⟨max f1 f2+1,λf hf p=>?_⟩;obtain⟨g,rfl⟩:∃ g,f=g+1:=⟨f-1,by omega⟩;rw[qcN,if_neg (by omega),if_neg (by rw[hv0];decide),if_neg (by rw[ha];decide),if_pos hf1,h g (by omega)];show qcN T g _ j 0=_;rw[h6 g (by omega)];simp[Pr.app]
theorem qu6{A B:List Tok}{p q:Pr}{fa fb i1 i2 o1 o2:Nat}(ha:qcN A fa qc1 0 0=some (.ok p i1 o1))(hb:qcN B fb qc1 0 0=some (.ok q i2 o2)){B':List Tok}(hB:B'.map (λt=>(t.kind,t.text))=B.map (λt=>(t.kind,t.text))) :
  ∃ i op,qcN (A++B') (10 * (A++B').length+20) qc1 0 0=some (.ok (p.app q) i op):=by
 have hlen:B'.length=B.length:=by simpa using congrArg List.length hB
 have hA1:Ag A (A++B') 0 A.length:=λj hj=>⟨A[j],A[j],by simp[hj],by simp[List.getElem?_append_left hj,hj],rfl,rfl⟩
 have hA2:Ag B (A++B') A.length B.length:=λj hj=>by
  have h1:(B'.map (λt=>(t.kind,t.text)))[j]? = (B.map (λt=>(t.kind,t.text)))[j]? := by rw[hB]
  have hj':j<B'.length:=by omega
  refine⟨B[j],B'[j],by simp[hj],?_,?_⟩;rw[List.getElem?_append_right (by omega),Nat.add_sub_cancel];simp[hj'];simp only[List.getElem?_map,List.getElem?_eq_getElem hj,List.getElem?_eq_getElem hj',map_some,Option.some.injEq,Prod.mk.injEq] at h1;exact h1
 obtain⟨d1,n1,rfl,hD1⟩:=qeD hA1 fa _ _ 0 _ _ (zero_le _) ha;obtain⟨d2,n2,rfl,hD2⟩:=qeD hA2 fb _ _ 0 _ _ (zero_le _) hb;rw[zero_add,add_zero] at hD1;rw[zero_add] at hD2;obtain⟨o,ho⟩:=hD1.trans hD2;rw[show B.length+A.length=(A++B').length by rw[zLa];omega] at ho;obtain⟨f0,h⟩:=qgg o o 0 _ (zNr _) ho;obtain⟨r,hr⟩:=qdR (A++B') (10 * (A++B').length+20) qc1 0 0 (zero_le _) (by omega);have h1:=qms (A++B') (10 * (A++B').length+20) (max f0 (10 * (A++B').length+20)) qc1 0 0 (by omega) _ hr;rw[h _ (by omega)] at h1;cases h1;rw[Pr.no_app,Pr.no_app];rw[Pr.no_app] at hr;exact⟨_,_,hr⟩
theorem qbA:∀ (l k:List Nm),qch k l=0->l.Nodup/\∀ s∈l,s ∉ k/\isNm s=true
 |[],k,_=>⟨nodup_nil,λs hs=>(not_mem_nil hs).elim⟩
 |s::l,k,h=>by
  rw[qch] at h;split at h;cases h
  rename_i h1
  split at h;cases h
  rename_i h2
  obtain⟨g1,g2⟩:=qbA l (s::k) h;refine⟨List.nodup_cons.2 ⟨λhm=>(g2 s hm).1 zMs,g1⟩,λx hx=>?_⟩;rcases zMi.1 hx with rfl|hx;exact⟨h2,by simpa using h1⟩;exact⟨λhm=>(g2 x hx).1 (zMo _ hm),(g2 x hx).2⟩
theorem qvi{s:Nm}(h:isNm s=true):(46:UInt8) ∉ s:=by
 unfold isNm at h;rw[zBa] at h;have h2:=h.2
 cases s with
 |nil=>exact not_mem_nil
 |cons c r=>
  simp only[zBa] at h2;intro hm;rcases zMi.1 hm with rfl|hm;exact absurd h2.1 zDd;exact absurd (List.all_eq_true.1 h2.2 46 hm) zDd
theorem qjo:∀ (a b x y:Nm),(46:UInt8) ∉ a->(46:UInt8) ∉ b->a++46::x=b++46::y->a=b/\x=y
 |[],[],x,y,_,_,h=>by
  injection h with _ h
  exact⟨rfl,h⟩
 |[],d::b,x,y,_,hb,h=>by
  injection h with h1 _
  exact absurd (h1▸mem_cons_self ..) hb
 |c::a,[],x,y,ha,_,h=>by
  injection h with h1 _
  exact absurd (h1▸mem_cons_self ..) ha
 |c::a,d::b,x,y,ha,hb,h=>by
  injection h with h1 h2;obtain⟨e1,e2⟩:=qjo a b x y (λg=>ha (zMo _ g)) (λg=>hb (zMo _ g)) h2;exact⟨by rw[h1,e1],e2⟩
theorem qmL{fs:List FnD}(h:(fs.map (·.name)).Nodup){f g:FnD}(hf:f∈fs)(hg:g∈fs)(he:f.name=g.name):f=g:=by
 induction fs with
 |nil=>cases hf
 |cons a l ih=>
  rw[zMc,nodup_cons] at h;rcases zMi.1 hf with rfl|hf';rcases zMi.1 hg with rfl|hg';rfl;exact absurd (List.mem_map.2 ⟨g,hg',he.symm⟩) h.1;rcases zMi.1 hg with rfl|hg';exact absurd (List.mem_map.2 ⟨f,hf',he⟩) h.1;exact ih h.2 hf' hg'
theorem qrT{vars arrays:List Nm}{fs:List FnD}(h:qch [] (vars++arrays++fs.map (·.name))=0){f:FnD}(hf:f∈fs)(name:Nm):f.name++[46]++name∈qaj vars fs ↔ name∈f.params++f.locals:=by
 obtain⟨h1,h2⟩:=qbA _ _ h;have hd:∀ g∈fs,(46:UInt8) ∉ g.name:=λg hg=>qvi (h2 _ (List.mem_append.2 (.inr (List.mem_map.2 ⟨g,hg,rfl⟩)))).2;unfold qaj;rw[mem_append];constructor;rintro(g|g);have:=qvi (h2 _ (List.mem_append.2 (.inl (List.mem_append.2 (.inl g))))).2;exact absurd (by simp) this;obtain⟨l,g1,g2⟩:=List.mem_flatten.1 g;obtain⟨k,g3,rfl⟩:=List.mem_map.1 g1;obtain⟨x,g4,g5⟩:=List.mem_map.1 g2;have g6:k.name++46::x=f.name++46::name:=by simpa using g5
 obtain⟨e1,rfl⟩:=qjo _ _ _ _ (hd k g3) (hd f hf) g6;rw[<-qmL (List.nodup_append.1 h1).2.1 g3 hf e1];exact g4;intro g;exact .inr (List.mem_flatten.2 ⟨_,List.mem_map.2 ⟨f,hf,rfl⟩,List.mem_map.2 ⟨name,g,rfl⟩⟩)
theorem qyD{vars arrays:List Nm}{fs:List FnD}(h:qch [] (vars++arrays++fs.map (·.name))=0){f:FnD}(hf:f∈fs)(name:Nm):(if f.name++[46]++name∈qaj vars fs then f.name++[46]++name else name)=keyI f name:=by
 unfold keyI;simp only[qrT h hf,mem_append]
theorem qrg{vars arrays:List Nm}{fs:List FnD}{known:List FSum}{f:FnD}(hf:f∈fs){name:Nm}(h:qcd (envF vars arrays (fs.map (·.name)) known f) name=0):keyI f name∈qaj vars fs:=by
 unfold qcd at h;unfold keyI qaj;rw[mem_append];split at h
 rename_i h1
 split
 rename_i h2
 exact .inr (List.mem_flatten.2 ⟨_,List.mem_map.2 ⟨f,hf,rfl⟩,List.mem_map.2 ⟨name,List.mem_append.2 h2,rfl⟩⟩)
 rename_i h2
 rcases h1 with h1|h1;exact .inl h1;exact absurd (List.mem_append.1 h1) h2;split at h <;> cases h
theorem qoi{P:Pr}{f:FnD}(h:(P.funcs.map (·.name)).Nodup)(hf:f∈P.funcs):fnI P f.name=f:=by
 unfold fnI
 cases hg:P.funcs.find? λg=>decide (g.name=f.name) with
 |none=>exact absurd (List.find?_eq_none.1 hg f hf) (by simp)
 |some g=>exact qmL h (List.mem_of_find?_eq_some hg) hf (of_decide_eq_true (List.find?_some (p:=λg:FnD=>decide (g.name=f.name)) hg))
structure CC where
 sc:Nm->Wd
 ar:Nm->Wd
 t0:Wd
 t1:Wd
 t2:Wd
def qaZ(c:CC):List Wd:=[c.t2,[33],c.t1,[33],c.t2,[64],c.t1,[64],[60]]
def opW(c:CC)(op:Nm)(num:Nat)(name:Nm)(l:List (List Wd)):List Wd:=
 if op=nNum then [decDigits num]
 else if op=nVar then [c.sc name,[64]]
 else if op=qec then c.ar name::(l.headD []++[[43],[64]])
 else if op=qbN then l.flatten++(if name=[105,110] then [[44]] else if name=[111,117,116] then [[46],[48]] else [[38,102,95]++name,[58]])
 else if op=nNeg then [48]::(l.headD []++[[45]])
 else if op=nNot then l.headD []++[[49],[60]]
 else if op=[33,61] then [48]::(l.headD []++(l.drop 1).headD []++[[94],[60]])
 else if op=[38,38] then [48]::(l.headD []++[[60],[48]]++(l.drop 1).headD []++[[60],[42]])
 else if op=[124,124] then [48]::[48]::(l.headD []++[[60],[48]]++(l.drop 1).headD []++[[60],[43],[60]])
 else l.headD []++(l.drop 1).headD []++(if op=[62] then qaZ c else if op=[60,61] then qaZ c++[[49],[94]] else if op=[62,61] then [[60],[49],[94]] else if op=[61,61] then [[94],[49],[60]] else [op])
mutual
def exW(c:CC):Ex->List Wd
 |.mk op num name args=>opW c op num name (exWl c args)
def exWl(c:CC):List Ex->List (List Wd)
 |[]=>[]
 |x::l=>exW c x::exWl c l
end
def labW(n:Nat):Wd:=106::decDigits n
mutual
def stW(c:CC):Nat->Sm->List Wd×Nat
 |n,.mk kind name index value thn els=>
  if kind=1 then (exW c (value.headD default)++[c.sc name,[33]],n)
  else if kind=2 then (exW c (value.headD default)++c.ar name::(exW c (index.headD default)++[[43],[33]]),n)
  else if kind=3 then
   (match els with
   |[]=>(exW c (value.headD default)++[38::labW n,[63]]++(stWs c (n+1) thn).1++[labW n++[58]],(stWs c (n+1) thn).2)
   |_::_=>(exW c (value.headD default)++[38::labW n,[63]]++(stWs c (n+2) thn).1++[[48],38::labW (n+1),[63],labW n++[58]]++(stWs c (stWs c (n+2) thn).2 els).1++[labW (n+1)++[58]],(stWs c (stWs c (n+2) thn).2 els).2))
  else if kind=4 then ([labW n++[58]]++exW c (value.headD default)++[38::labW (n+1),[63]]++(stWs c (n+2) thn).1++[[48],38::labW n,[63],labW (n+1)++[58]],(stWs c (n+2) thn).2)
  else if kind=5 then (exW c (value.headD default)++[[59]],n)
  else if kind=6 then (exW c (value.headD default)++[c.t0,[33]],n)
  else if kind=7 then ([[36]],n)
  else ([],n)
def stWs(c:CC):Nat->List Sm->List Wd×Nat
 |n,[]=>([],n)
 |n,s::l=>((stW c n s).1++(stWs c (stW c n s).2 l).1,(stWs c (stW c n s).2 l).2)
end
def qeo(l:List Nm)(S:Int)(k:Nm):Int:=if k∈l then S+3+(l.idxOf k:Nat) else 0
def keyC(l:List Nm)(own name:Nm):Nm:=if own++[46]++name∈l then own++[46]++name else name
def arrA:Int->List (Nm×Int)->Nm->Int
 |_,[],_=>0
 |at',(x,n)::r,name=>if x=name then at' else arrA (at'+n) r name
structure Org where
 code:Int
 scalars:Int
 arrays:Int
def ccF(vars:List Nm)(arrays:List (Nm×Int))(fs:List FnD)(o:Org)(own:Nm):CC:=
 ⟨λs=>itoa (qeo (qaj vars fs) o.scalars (keyC (qaj vars fs) own s)),λs=>itoa (arrA o.arrays arrays s),itoa o.scalars,itoa (o.scalars+1),itoa (o.scalars+2)⟩
def fnW(c:CC)(n:Nat)(f:FnD):List Wd×Nat:=
 ([[102,95]++f.name++[58]]++f.params.reverse.flatMap (λp=>[c.sc p,[33]])++(stWs c n f.body).1++[[48],[59]],(stWs c n f.body).2)
def fnWs(cc:Nm->CC):Nat->List FnD->List Wd×Nat
 |n,[]=>([],n)
 |n,f::l=>((fnW (cc f.name) n f).1++(fnWs cc (fnW (cc f.name) n f).2 l).1,(fnWs cc (fnW (cc f.name) n f).2 l).2)
def prW(vars:List Nm)(arrays:List (Nm×Int))(fs:List FnD)(o:Org):List Wd:=
 [[38,102,95,109,97,105,110],[58],itoa o.scalars,[33],[36]]++(fnWs (ccF vars arrays fs o) 0 fs).1
def qfP(a n:Int):Bool:=decide (0<=a/\a<=262144-n)
def qiG(a n b m:Int):Bool:=decide (0<n/\0<m/\a<b+m/\b<a+n)
def qfZ(vars:List Nm)(arrays:List (Nm×Int))(fs:List FnD)(o:Org):Bool:=
 let total:=(arrays.map (·.2)).sum
 let n:Int:=3+(qaj vars fs).length
 qfP o.scalars n && qfP o.code 40000 && qfP o.arrays total && !qiG o.code 40000 o.scalars n && !qiG o.arrays total o.scalars n && !qiG o.arrays total o.code 40000
def cmpP(vars:List Nm)(arrays:List (Nm×Int))(fs:List FnD)(o:Org):Except Int Wd:=
 if qdn vars arrays fs≠0 then .error (qdn vars arrays fs)
 else if qfZ vars arrays fs o=false then .error 2
 else match asmP (join (prW vars arrays fs o) [32]) o.code with
  |.error e=>.error e.2
  |.ok _=>.ok (join (prW vars arrays fs o) [32])
def Lt(v:Nat):Prop:=v<4294967296
mutual
def numE:Ex->Prop
 |.mk op num name args=>Lt num/\qdt args
def qdt:List Ex->Prop
 |[]=>True
 |x::l=>numE x/\qdt l
end
mutual
def numS:Sm->Prop
 |.mk kind name index value thn els=>qdt index/\qdt value/\qcI thn/\qcI els
def qcI:List Sm->Prop
 |[]=>True
 |x::l=>numS x/\qcI l
end
theorem qjT{vars arrays later:List Nm}:∀ (fs:List FnD) (known:List FSum),qfM vars arrays later known fs=0->∀ f∈fs,(f.params++f.locals).Nodup/\∀ x∈f.params++f.locals,x ∉ vars++arrays++later
 |[],known,_,f,hf=>(not_mem_nil hf).elim
 |g::l,known,h,f,hf=>by
  rw[qfM] at h;obtain⟨h1,h2⟩:=qah.1 h;rcases zMi.1 hf with rfl|hf;obtain⟨g1,g2⟩:=qbA _ _ (qah.1 h1).1;exact⟨g1,λx hx=>(g2 x hx).1⟩;exact qjT l _ h2 f hf
theorem qm1{A B:Type}{g:A->B}(hg:∀ x y,g x=g y->x=y):∀ {l:List A},l.Nodup->(l.map g).Nodup
 |[],_=>nodup_nil
 |a::l,h=>by
  rw[nodup_cons] at h;rw[zMc,nodup_cons];refine⟨λhm=>?_,qm1 hg h.2⟩;obtain⟨b,hb,he⟩:=List.mem_map.1 hm;exact h.1 (hg _ _ he▸hb)
theorem qte{fs:List FnD}:(fs.map (·.name)).Nodup->(∀ f∈fs,(46:UInt8) ∉ f.name)->(∀ f∈fs,(f.params++f.locals).Nodup)->((fs.map λf=>(f.params++f.locals).map λx=>f.name++[46]++x).flatten).Nodup:=by
 induction fs with
 |nil=>intro _ _ _;exact nodup_nil
 |cons f l ih=>
  intro h1 h2 h3;rw[zMc,nodup_cons] at h1;rw[zMc,List.flatten_cons,List.nodup_append];refine⟨?_,ih h1.2 (λg hg=>h2 g (zMo _ hg)) (λg hg=>h3 g (zMo _ hg)),?_⟩;exact qm1 (λx y hxy=>List.append_cancel_left hxy) (h3 f zMs);intro a ha b hb he;subst he;obtain⟨x,_,rfl⟩:=List.mem_map.1 ha;obtain⟨L,g1,g2⟩:=List.mem_flatten.1 hb;obtain⟨g,g3,rfl⟩:=List.mem_map.1 g1;obtain⟨y,_,g5⟩:=List.mem_map.1 g2;have g6:g.name++46::y=f.name++46::x:=by simpa using g5
  obtain⟨e1,_⟩:=qjo _ _ _ _ (h2 g (zMo _ g3)) (h2 f zMs) g6;exact h1.1 (List.mem_map.2 ⟨g,g3,e1⟩)
theorem qru{vars arrays:List Nm}{fs:List FnD}(h:qch [] (vars++arrays++fs.map (·.name))=0)(hf:qfM vars arrays (fs.map (·.name)) [] fs=0):(qaj vars fs).Nodup:=by
 obtain⟨h1,h2⟩:=qbA _ _ h;have ho:=qjT fs [] hf;unfold qaj;rw[List.nodup_append];refine⟨(List.nodup_append.1 (List.nodup_append.1 h1).1).1,qte (List.nodup_append.1 h1).2.1 (λf hf=>qvi (h2 _ (List.mem_append.2 (.inr (List.mem_map.2 ⟨f,hf,rfl⟩)))).2) λf hf=>(ho f hf).1,?_⟩;intro a ha b hb he;subst he;obtain⟨L,g1,g2⟩:=List.mem_flatten.1 hb;obtain⟨g,g3,rfl⟩:=List.mem_map.1 g1;obtain⟨y,_,g5⟩:=List.mem_map.1 g2;have:=qvi (h2 _ (List.mem_append.2 (.inl (List.mem_append.2 (.inl ha))))).2;rw[<-g5] at this;exact absurd (by simp) this
def qoC(fs:List FnD)(known:List FSum):Prop:=∀ k∈known,∃ g∈fs,g.name=k.name/\g.params.length=k.params
theorem qk4{vars arrays later:List Nm}{all:List FnD}:∀ (fs:List FnD) (known:List FSum),qfM vars arrays later known fs=0->qoC all known->(∀ f∈fs,f∈all)->∀ f∈fs,∃ kn,qb0 (envF vars arrays later kn f) f.body=0/\qoC all kn
 |[],known,_,_,_,f,hf=>(not_mem_nil hf).elim
 |g::l,known,h,hk,ha,f,hf=>by
  rw[qfM] at h;obtain⟨h1,h2⟩:=qah.1 h;rcases zMi.1 hf with rfl|hf;exact⟨known,(qah.1 h1).2,hk⟩;refine qk4 l _ h2 (λk hk'=>?_) (λx hx=>ha x (zMo _ hx)) f hf;rcases List.mem_append.1 hk' with g1|g1;exact hk k g1;rw[List.mem_singleton.1 g1];exact⟨g,ha g zMs,rfl,rfl⟩
theorem qkh:∀ (l:List Int) (t:Int),0<=t->qha t l=0->∀ n∈l,0<n/\t+n<=150000
 |[],t,_,_,n,hn=>(not_mem_nil hn).elim
 |a::l,t,ht,h,n,hn=>by
  rw[qha] at h;split at h;cases h;split at h;cases h;rcases zMi.1 hn with rfl|hn;constructor <;> omega;have:=qkh l (t+a) (by omega) h n hn;constructor <;> omega
structure Valid(p:Pr):Prop where
 names:qch [] (p.vars++p.arrays.map (·.name)++p.funcs.map (·.name))=0
 sizes:∀ a∈p.arrays,0<a.size/\a.size<=150000
 own:∀ f∈p.funcs,(f.params++f.locals).Nodup/\∀ x∈f.params++f.locals,x ∉ p.vars++p.arrays.map (·.name)++p.funcs.map (·.name)
 bodies:∀ f∈p.funcs,∃ kn,qb0 (envF p.vars (p.arrays.map (·.name)) (p.funcs.map (·.name)) kn f) f.body=0/\qoC p.funcs kn
 keys:(qaj p.vars p.funcs).Nodup
 main:qb7 p∈p.funcs/\(qb7 p).name=[109,97,105,110]/\(qb7 p).params=[]
 few:(qaj p.vars p.funcs).length<=8000
theorem qfi{p:Pr}(h:qcf p=0):Valid p:=by
 unfold qcf qdn at h;have e1:(p.arrays.map λa=>(a.name,(a.size:Int))).map (·.1)=p.arrays.map (·.name):=by rw[map_map];try rfl
 rw[e1] at h;obtain⟨h1,h⟩:=qah.1 h;obtain⟨h2,h⟩:=qah.1 h;obtain⟨h3,h4⟩:=qah.1 h
 have hm:qb7 p∈p.funcs/\(qb7 p).name=[109,97,105,110]/\(qb7 p).params=[]/\(qaj p.vars p.funcs).length<=8000:=by
  unfold qt2 at h4;split at h4
  ·rename_i f m hf hms
   split at h4
   ·rename_i h5
    split at h4
    ·rename_i h6
     have e:qb7 p=f:=by unfold qb7;rw[hf];try rfl
     rw[e];exact⟨List.mem_of_getLast? hf,h5.1,h5.2,h6.1⟩
    cases h4
   cases h4
  cases h4
 refine⟨h1,λa ha=>?_,qjT _ _ h3,qk4 _ _ h3 (λk hk=>(not_mem_nil hk).elim) (λf hf=>hf),qru h1 h3,⟨hm.1,hm.2.1,hm.2.2.1⟩,hm.2.2.2⟩
 have:=qkh _ 0 zDd h2 (a.size:Int) (by
  rw[map_map]
  exact List.mem_map.2 ⟨a,ha,rfl⟩)
 constructor <;> omega
section
variable{A B:Type}{Q:A->IS->MS->Prop}{R:B->IS->MS->Prop}{c d c1 d1 c2 d2:Int}{m m1:MS}{s:IS}
end
structure Trn where
 C:PW
 P:Pr
 cc:FnD->CC
 cenv:FnD->CEnv
 sa:Nm->Nat
 aa:Nm->Nat
 S:Nat
 fst:FnD->Nat
def Trn.keys(X:Trn):List Nm:=qaj X.P.vars X.P.funcs
def Trn.Data(X:Trn)(x:Nat):Prop:=(∃ k∈X.keys,x=X.sa k)∨(X.S<=x/\x<=X.S+2)∨∃ a∈X.P.arrays,∃ i,i<a.size/\x=X.aa a.name+i
structure TrnOk(X:Trn):Prop where
 sc:∀ f∈X.P.funcs,∀ name,qcd (X.cenv f) name=0->(X.cc f).sc name=decDigits (X.sa (keyI f name))/\keyI f name∈X.keys
 ar:∀ f∈X.P.funcs,∀ name,qeS (X.cenv f) name=0->(X.cc f).ar name=decDigits (X.aa name)/\∃ a∈X.P.arrays,a.name=name
 temps:∀ f∈X.P.funcs,(X.cc f).t0=decDigits X.S/\(X.cc f).t1=decDigits (X.S+1)/\(X.cc f).t2=decDigits (X.S+2)
 low:∀ x,X.Data x->x<262144
 free:∀ x,X.Data x->x<X.C.og∨X.C.og+(qcX X.C.known X.C.W).length<=x
 keyLow:∀ k∈X.keys,X.S+3<=X.sa k
 inj:∀ k∈X.keys,∀ k'∈X.keys,X.sa k=X.sa k'->k=k'
 apart:∀ a∈X.P.arrays,∀ i,i<a.size->(∀ k∈X.keys,X.sa k≠X.aa a.name+i)/\¬ (X.S<=X.aa a.name+i/\X.aa a.name+i<=X.S+2)
 arInj:∀ a∈X.P.arrays,∀ b∈X.P.arrays,∀ i j,i<a.size->j<b.size->X.aa a.name+i=X.aa b.name+j->a.name=b.name/\i=j
 arLow:∀ a∈X.P.arrays,X.aa a.name<1000000
 arName:∀ a∈X.P.arrays,∀ b∈X.P.arrays,a.name=b.name->a.size=b.size
 body:∀ f∈X.P.funcs,qb0 (X.cenv f) f.body=0/\qcI f.body
 fn:∀ f∈X.P.funcs,∀ name g,(X.cenv f).fn name=some g->fnI X.P name∈X.P.funcs/\(fnI X.P name).name=name/\g.params=(fnI X.P name).params.length/\qbM (X.cenv (fnI X.P name)) (fnI X.P name).body<=g.need/\qck (X.cenv (fnI X.P name)) (fnI X.P name).body<=g.depth
 par:∀ f∈X.P.funcs,(∀ p∈f.params,keyI f p∈X.keys/\(X.cc f).sc p=decDigits (X.sa (keyI f p)))/\(f.params.map (keyI f)).Nodup
 code:∀ f∈X.P.funcs,∃ nl,X.C.Code (X.fst f) (fnW (X.cc f) nl f).1
 ldef:∀ (j n:Nat),X.C.W[j]? = some (labW n++[58])->defW (labW n++[58])=some (labW n)
 lref:∀ (j n:Nat),X.C.W[j]? = some (38::labW n)->refW (38::labW n)=some (labW n)
 fdef:∀ f∈X.P.funcs,defW ([102,95]++f.name++[58])=some ([102,95]++f.name)
 fref:∀ f∈X.P.funcs,refW ([38,102,95]++f.name)=some ([102,95]++f.name)
 label:∀ (j:Nat) (w x:Wd),X.C.W[j]? = some w->defW w=some x->X.C.known x=X.C.plc j
section
variable{X:Trn}{n:Nat}
theorem qtY(c:CC)(n:Nat)(kind:Int)(name:Nm)(index value:List Ex)(thn els:List Sm):stW c n (.mk kind name index value thn els) =
  if kind=1 then (exW c (value.headD default)++[c.sc name,[33]],n)
  else if kind=2 then (exW c (value.headD default)++c.ar name::(exW c (index.headD default)++[[43],[33]]),n)
  else if kind=3 then
   (match els with
   |[]=>(exW c (value.headD default)++[38::labW n,[63]]++(stWs c (n+1) thn).1++[labW n++[58]],(stWs c (n+1) thn).2)
   |_::_=>(exW c (value.headD default)++[38::labW n,[63]]++(stWs c (n+2) thn).1++[[48],38::labW (n+1),[63],labW n++[58]]++(stWs c (stWs c (n+2) thn).2 els).1++[labW (n+1)++[58]],(stWs c (stWs c (n+2) thn).2 els).2))
  else if kind=4 then ([labW n++[58]]++exW c (value.headD default)++[38::labW (n+1),[63]]++(stWs c (n+2) thn).1++[[48],38::labW n,[63],labW (n+1)++[58]],(stWs c (n+2) thn).2)
  else if kind=5 then (exW c (value.headD default)++[[59]],n)
  else if kind=6 then (exW c (value.headD default)++[c.t0,[33]],n)
  else if kind=7 then ([[36]],n)
  else ([],n):=by
 rw[stW.eq_def];try rfl
end
theorem qjg(all:List Wd):∀ (l:List (Wd×Nat)) (met:List Wd),(errT all met l).2=0->met.Nodup->(met++defs (l.map (·.1))).Nodup/\∀ w∈l.map (·.1),OkW all w
 |[],met,_,hm=>by
  simp only[map_nil,defs,List.filterMap_nil,zLz]
  exact⟨hm,λw hw=>(not_mem_nil hw).elim⟩
 |(w,ln)::r,met,h,hm=>by
  rw[errT] at h;rw[zMc,qcT]
  cases hd:defW w with
  |some x=>
   rw[hd] at h;simp only at h ⊢;split at h;simp at h
   rename_i hx
   have hn:(met++[x]).Nodup:=List.nodup_append.2 ⟨hm,by simp,λa ha b hb=>by
    rw[List.mem_singleton.1 hb]
    exact λe=>hx (e▸ha)⟩
   obtain⟨h1,h2⟩:=qjg all r (met++[x]) h hn;refine⟨by rw[zAs] at h1;exact h1,λy hy=>?_⟩;rcases zMi.1 hy with rfl|hy;unfold OkW;rw[hd];trivial
   exact h2 y hy
  |none=>
   rw[hd] at h;simp only at h ⊢
   have key:OkW all w/\(errT all met r).2=0:=by
    unfold OkW;rw[hd]
    cases hr:refW w with
    |some x=>
     rw[hr] at h;simp only at h ⊢;split at h
     rename_i hx;exact⟨hx,h⟩
     simp at h
    |none=>
     rw[hr] at h;simp only at h ⊢;split at h
     rename_i hx;exact⟨hx,h⟩
     simp at h
   obtain⟨h1,h2⟩:=qjg all r met key.2 hm;refine⟨by simpa using h1,λy hy=>?_⟩;rcases zMi.1 hy with rfl|hy;exact key.1;exact h2 y hy
theorem qpK{src:Wd}(h:(errT (defs (qbl src)) [] (qgr src)).2=0):qgN (qbl src):=by
 have:=qjg _ _ _ h nodup_nil;rw[qd0,nil_append] at this;exact this
theorem qlt(known:Wd->Nat)(og:Nat){p:Wd×Nat}:∀ (l:List Wd) (s:Wd×List (Wd×Nat)),p∈s.2->p∈(l.foldl (qbu known og) s).2
 |[],s,h=>h
 |w::l,s,h=>by
  rw[foldl_cons];refine qlt known og l _ ?_;unfold qbu;split;exact List.mem_append.2 (.inl h);exact h
theorem qqd(known:Wd->Nat)(og:Nat){w x:Wd}(hd:defW w=some x):∀ (l:List Wd) (s:Wd×List (Wd×Nat)) (j:Nat),l[j]? = some w->(x,og+((l.take j).foldl (addT known) s.1).length)∈(l.foldl (qbu known og) s).2
 |[],s,j,h=>by simp at h
 |v::l,s,0,h=>by
  simp only[List.getElem?_cons_zero,Option.some.injEq] at h;subst h;rw[foldl_cons];refine qlt known og l _ ?_;unfold qbu;rw[hd]
  simp
 |v::l,s,j+1,h=>by
  rw[List.getElem?_cons_succ] at h;have ih:=qqd known og hd l (qbu known og s v) j h
  have e:(qbu known og s v).1=addT known s.1 v:=by
   unfold qbu
   cases hv:defW v with
   |some y=>simp only;unfold addT;rw[hv]
   |none=>rfl
  rw[e] at ih;rw[foldl_cons,take_succ_cons,foldl_cons];exact ih
theorem qm3:∀ (labs:List (Wd×Nat)) (x:Wd) (n:Nat),(labs.map (·.1)).Nodup->(x,n)∈labs->qdJ labs x=n
 |[],x,n,_,h=>(not_mem_nil h).elim
 |(y,k)::l,x,n,hn,h=>by
  rw[zMc,nodup_cons] at hn;unfold qdJ;rw[List.find?_cons];rcases zMi.1 h with h|h;injection h with h1 h2;subst h1 h2
  simp
  have hne:y≠x:=λe=>hn.1 (List.mem_map.2 ⟨(x,n),h,by simp[e]⟩);simp only[hne,decide_false];exact qm3 l x n hn.2 h
theorem qnO{W:List Wd}(og:Nat)(hn:(defs W).Nodup)(he:∀ w∈W,w≠[]){j:Nat}{w x:Wd}(hw:W[j]? = some w)(hd:defW w=some x) :
  qdJ (qef (λ_=>0) og W) x=PW.plc ⟨W,og,qdJ (qef (λ_=>0) og W)⟩ j:=by
 generalize hk:qdJ (qef (λ_=>0) og W)=known;have h1:=qqd known og hd W ([],[]) j hw;have h2:qef (λ_=>0) og W=qef known og W:=qnB _ _ og W he;rw[<-hk,h2];refine qm3 _ _ _ ?_ ?_;have:=qgB known og W ([],[]);unfold qef;rw[this];simpa using hn;rw[<-h2,hk];rw[h2];exact h1
theorem qsd{x:Wd}(h:qkr x=true):x≠[]/\∀ c r,x=c::r->qaV c=true:=by
 unfold qkr at h
 cases x with
 |nil=>cases h
 |cons c r=>
  simp only[zBa] at h;exact⟨by simp,λc' r' e=>by injection e with e1 _;rw[<-e1];exact h.1.2⟩
theorem qrR{ds:List Wd}{c:UInt8}{x:Wd}(h:OkW ds (c::x++[58]))(h1:c≠38)(h2:qdA.contains c=false):defW (c::x++[58])=some (c::x):=by
 cases hd:defW (c::x++[58]) with
 |some y=>
  unfold defW at hd;split at hd;injection hd with hd;rw[<-hd,List.dropLast_concat]
  cases hd
 |none=>
  exfalso;unfold OkW at h;rw[hd] at h
  have hr:refW (c::x++[58])=none:=by
   unfold refW;simp only[cons_append,h1,false_and,if_false]
  rw[hr] at h;simp only at h;unfold qka at h;rw[cons_append,all_cons,h2] at h;cases h
theorem qv5{ds:List Wd}{x:Wd}(h:OkW ds (38::x)):refW (38::x)=some x:=by
 have hd:defW (38::x)=none:=by
  unfold defW;split
  rename_i h1
  exfalso
  cases x with
  |nil=>exact absurd h1.1 zDd
  |cons c r=>
   have:=(qsd h1.2).2 38 _ (List.dropLast_cons_cons ..);exact absurd this zDd
  rfl
 cases hr:refW (38::x) with
 |some y=>
  unfold refW at hr;simp only[true_and] at hr;split at hr;injection hr with hr;rw[<-hr]
  cases hr
 |none=>
  exfalso;unfold OkW at h;rw[hd,hr] at h;simp only at h;unfold qka at h;rw[all_cons,show qdA.contains 38=false by decide,Bool.false_and] at h;cases h
theorem qww{x:Wd}(h:defW (x++[58])=some x):refW (38::x)=some x:=by
 unfold defW at h;split at h
 rename_i h1
 rw[List.dropLast_concat] at h1;unfold refW;simp only[true_and,h1.2,if_true];cases h
def Few6(n:Nat):Prop:=n<=2000000
mutual
def smE:Ex->Prop
 |.mk op num name args=>Few6 args.length/\smEs args
def smEs:List Ex->Prop
 |[]=>True
 |x::l=>smE x/\smEs l
end
mutual
def smS:Sm->Prop
 |.mk kind name index value thn els=>Few6 index.length/\Few6 value.length/\Few6 thn.length/\Few6 els.length/\smEs index/\smEs value/\smSs thn/\smSs els
def smSs:List Sm->Prop
 |[]=>True
 |x::l=>smS x/\smSs l
end
structure SmF(f:FnD):Prop where
 params:Few6 f.params.length
 locals:Few6 f.locals.length
 body:Few6 f.body.length
 stmts:smSs f.body
end Go.Stele
