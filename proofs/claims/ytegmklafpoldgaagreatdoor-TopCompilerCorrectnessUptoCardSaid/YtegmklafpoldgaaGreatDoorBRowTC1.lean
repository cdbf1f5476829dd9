import Derived.StillTail
import Derived.Recover
import Derived.Laws.StructEq
import Derived.ChangeKeysEq
import Derived.Lib.ParseIntB
import Derived.Lib.ItoaNum
import Derived.Lib.Join
import Derived.Lib.Split
import Derived.Lib.Strings
import Derived.Lib.SlTrimSet
import Derived.Lib.Replace
import Derived.Test.YtegmklafpoldgaaGreatDoorBRowTC0
set_option linter.unusedVariables false
set_option linter.unusedSimpArgs false
set_option maxRecDepth 100000
set_option maxHeartbeats 4000000
open List (mem_singleton nodup_nil map_nil map_map map_set nodup_cons mem_cons_self map_toArray nil_append length_take length_drop takeWhile_prefix mem_of_find?_eq_some cons_append not_mem_nil take_append_drop take_succ_cons take_zero getLast_mem foldl_cons all_cons all_reverse mem_append)
open Nat (add_zero zero_add zero_le add_mul mod_lt lt_of_le_of_lt add_assoc le_add_right)
open Option (map_some getD_some)
namespace Go.GL
open Go.RowKit
variable{C:Ctx}{F H:Heap}{L:Live}{P:Program}{Q:Post}{a i j:Int}{aft:Array Edge}{args cs es:List LV}{b bytes cap clock el n s:Nat}{c:Code}{dst:Option Nat}{f:FuncId}{k:List UInt8}{kd:IntKind}{kt t ty u xT yT:TypeId}{lv zl:LV}{mo x z:Operand}{pos:String}{rest:List Oper}{v zv:Value}{vs:List Value}{w w':World}{ρ:Operand->Value}
abbrev KV:=List (List UInt8×LV)
variable{m:KV}
@[reducible] def strV(k:List UInt8):Value:=.string ⟨k.toArray⟩
def kvs(m:KV):List (Value×LV):=m.map λp=>(strV p.1,p.2)
def kvGet:KV->List UInt8->Option LV
 |[],_=>none
 |p::r,k=>if p.1=k then some p.2 else kvGet r k
def kvPut:KV->List UInt8->LV->KV
 |[],k,v=>[(k,v)]
 |p::r,k,v=>if p.1=k then (k,v)::r else p::kvPut r k v
theorem kvGet_put(k k':List UInt8)(v:LV):∀ m:KV,kvGet (kvPut m k v) k'=if k=k' then some v else kvGet m k'
 |[]=>by simp only[kvPut,kvGet]
 |p::r=>by
  unfold kvPut
  by_cases h:p.1=k
  rw[zp h]
  by_cases h':k=k'
  simp only[kvGet,zp h'];simp only[kvGet,zn h'];rw[zn (by rw[h];exact h')];rw[zn h];simp only[kvGet];rw[kvGet_put k k' v r]
  by_cases h2:p.1=k'
  rw[zp h2,zn (by rw[<-h2];exact λh3=>h h3.symm)];simp only[zp h2];simp only[zn h2]
theorem qnY(k:List UInt8):∀ (m:KV) (es:List MapEntry) (i:Nat),es.map (·.key)=(kvs m).map (·.1) ->
  (kvGet m k=none/\(∀ v,kvPut m k v=m++[(k,v)])/\Instr.findNow .string (strV k) es i=some none) ∨
  ∃ (j:Nat) (e:MapEntry) (v:LV),Instr.findNow .string (strV k) es i=some (some (i+j,e.val))/\es[j]? = some e/\m[j]? = some (k,v)/\kvGet m k=some v/\∀ v',kvPut m k v'=m.set j (k,v')
 |[],[],i,_=>.inl ⟨rfl,λ_=>rfl,rfl⟩
 |[],_::_,_,h=>by cases h
 |_::_,[],_,h=>by cases h
 |p::m,e::es,i,h=>by
  have h1:e.key=strV p.1:=by
   have:=(List.cons.inj h).1;exact this
  have h2:es.map (·.key)=(kvs m).map (·.1):=(List.cons.inj h).2
  by_cases hs:p.1=k
  ·right;have hb:((⟨k.toArray⟩:ByteArray) == ⟨p.1.toArray⟩)=true:=by rw[qdn,zRp hs.symm]
   refine⟨0,e,p.2,?_,rfl,by rw[<-hs];try rfl,by simp only[kvGet,zp hs],λv'=>by simp only[kvPut,zp hs];rfl⟩;simp only[Instr.findNow,h1,Instr.sameNow,hb,add_zero]
  have hb:((⟨k.toArray⟩:ByteArray) == ⟨p.1.toArray⟩)=false:=by rw[qdn,decide_eq_false (λh3=>hs h3.symm)]
  rcases qnY k m es (i+1) h2 with⟨g1,g2,g3⟩|⟨j,e2,v,g1,g2,g3,g4,g5⟩;left;refine⟨by simp only[kvGet,zn hs];exact g1,λv=>by simp only[kvPut,zn hs,g2];rfl,?_⟩;simp only[Instr.findNow,h1,Instr.sameNow,hb];exact g3;right;refine⟨j+1,e2,v,?_,g2,g3,by simp only[kvGet,zn hs];exact g4,λv'=>by simp only[kvPut,zn hs,g5];rfl⟩;simp only[Instr.findNow,h1,Instr.sameNow,hb];rw[g1];congr 3;omega
theorem RepL.setAt{w:World}{L:Live}:∀ {cs:List LV} {xs:List Value},RepL w L cs xs->∀ (j:Nat) {c:LV} {x:Value},Rep w L c x->RepL w L (cs.set j c) (xs.set j x)
 |[],xs,h,j,c,x,hr=>by
  simp only[RepL] at h;subst h
  simp only[List.set_nil,RepL]
 |d::cs,xs,h,j,c,x,hr=>by
  simp only[RepL] at h;obtain⟨y,ys,rfl,h1,h2⟩:=h
  cases j with
  |zero=>
   simp only[List.set_cons_zero,RepL]
   exact⟨x,ys,rfl,hr,h2⟩
  |succ j=>
   simp only[List.set_cons_succ,RepL];exact⟨y,_,rfl,h1,h2.setAt j hr⟩
section
variable{C:Ctx}{e:Env}{H:Heap}{dst:Option Nat}{ty:TypeId}{pos:String}{aft:Array Edge}{g:Option (Nat×Bool)}{K:LV->Heap->Prop}{X:List PanicEntry->Heap->Prop}{x y:Operand}
theorem qo3{L:Live}{clock':Nat}{es es':List (Value×LV)}(hH:RelH C w L [(b,.map es clock)])(h1:w'.os=w.os)(h2:w'.tape=w.tape)(h3:w'.output=w.output)
  (h4:w'.heap.size=w.heap.size) (h5:∀ c,c≠b->w'.heap[c]? = w.heap[c]?) (avs:List MapEntry) (h6:w'.heap[b]? = some (.map avs.toArray clock')) (h7:avs.map (·.key)=es'.map (·.1)) (h8:RepL w L (es'.map (·.2)) (avs.map (·.val)))
  (h9:∀ e∈avs,e.born<clock') (h10:(avs.map (·.born)).Nodup) {v:Value} {lv:LV} (hv:∀ L,Rep w' L lv v) (hk:K lv [(b,.map es' clock')]):Left C w L [(b,.map es clock)] w' v K:=by
 obtain⟨hb0,hbs,hl,xs,hx1,_⟩:=hH.objs _ (zRb rfl);simp only at hb0 hbs hl hx1
 have hx:Ext w L w' L:=by
  refine⟨by rw[h4];exact zNr _,λc hc=>?_,λc i hi=>?_,λ_=>zNr _⟩
  by_cases he:c=b
  subst he;rw[qdV hx1 rfl];exact qdV h6 rfl;exact qbM (h5 c he)
  by_cases he:c=b
  subst he;rw[hl] at hi;omega;exact cell_of_heap (h5 c he) i
 refine⟨lv,[(b,.map es' clock')],L,⟨h1,h2,h3,hx,λc hc hn=>h5 c (by simpa using hn),λ_ _ _=>rfl,λp hp=>.inl (by simp only[mem_singleton] at hp;subst hp;simp)⟩,
  ⟨?_,hH.lbase,by rw[h4];exact hH.b0,by rw[h4];exact hH.wf,by simp,λp hp=>?_⟩,hv L,hk⟩
 exact hH.base.trans ⟨h1,h2,h3,by rw[h4];exact zNr _,λc hc=>h5 c zo⟩;simp only[mem_singleton] at hp;subst hp;exact⟨hb0,by rw[h4];exact hbs,hl,avs,h6,h7,RepL.mono hx _ _ h8,h9,h10⟩
theorem S.kvNew(hk:∀ b,K (.atom (.map (some b))) ((b,.map (kvs []) 0)::H)):qae C ⟨dst,.makeMap t none,ty,pos,aft,g⟩ e H K X:=by
 refine qae.at0 λρ w L _ hH=>?_;have h3:execOp ρ ⟨dst,.makeMap t none,ty,pos,aft,g⟩=(do Pure.pure (.value (<-Instr.makeMap t none))):=rfl;have h4:(Instr.makeMap t none).run C.P w=.ok (.map (some w.heap.size)) (World.push w (.map #[] 0)):=rfl;rw[h3,zRt,h4]
 have:=qew hH (.map #[] 0) 0 [(w.heap.size,.map (kvs []) 0)] (λp hp=>by
  simp only[mem_singleton] at hp;subst hp;refine⟨rfl,by simp[Live.upd],[],qaD,rfl,?_,(λe he=>by cases he),nodup_nil⟩;show RepL _ _ [] []
  simp only[RepL]) (by simp)
 exact⟨_,_,_,this.1,this.2,qai,hk _⟩
theorem S.kvPut{t kt el:TypeId}(ht:C.P.underlying t=some (.map kt el))(hkt:C.P.underlying kt=some .string){b clock:Nat}{m:KV}{F:Heap}{mo z:Operand}{k:List UInt8}{lv:LV}(hm:e.ev mo=.atom (.map (some b)))(hx:e.ev x=str k)(hz:e.ev z=lv)
  (hp:Pick (b,.map (kvs m) clock) H F) (hk:∀ clock',K (.atom undef) ((b,.map (kvs (GL.kvPut m k lv)) clock')::F)):qae C ⟨dst,.mapUpdate t mo x z,ty,pos,aft,g⟩ e H K X:=by
 refine qae.at1 hp λρ w L h hH=>?_;obtain⟨hb0,hbs,hl,avs,hx1,hx2,hx3,hx4,hx5⟩:=hH.objs _ (zRb rfl);simp only at hb0 hbs hl hx1 hx2 hx3;have hrz:Rep w L lv (ρ z):=hz▸h z;have h3:execOp ρ ⟨dst,.mapUpdate t mo x z,ty,pos,aft,g⟩=(do Instr.mapUpdate t (ρ mo) (ρ x) (ρ z);Pure.pure .skip):=rfl;have hg:(getObj b).run C.P w=.ok (.map avs.toArray clock) w:=by simp only[getObj,Sem.run,hx1]
 have hset:∀ o',(setObj b o').run C.P w=.ok () (setW w b o'):=λo'=>qeJ hx1 rfl;rw[h3,qag h hm,qag h hx];rcases qnY k m avs 0 hx2 with⟨g1,g2,g3⟩|⟨j,e2,v,g1,g2,g3,g4,g5⟩
 ·have hf:(Instr.findKey kt (strV k) avs.toArray.toList).run C.P w=.ok none w:=by
   simp only[Instr.findKey,zRt,qaa hkt,zRv,g3,zRu]
  simp only[Instr.mapUpdate,zRt,qaa ht,zRv,hg,qb6 hkt,hf];rw[hset];refine qo3 (w':=setW w b _) hH rfl rfl rfl (by simp[setW]) (λc hc=>qdU hc) (avs++[⟨strV k,ρ z,clock⟩]) (clock':=clock+1) ((qeF hbs).trans (by simp)) (es':=kvs (GL.kvPut m k lv)) ?_ ?_ ?_ ?_ (λ_=>qai) (hk _)
  ·rw[g2,kvs,zMa,zMa,zMa,<-kvs,hx2]
   try rfl
  rw[g2,kvs,zMa,zMa,zMa,<-kvs];refine RepL.append hx3 ?_;simp only[zMc,map_nil,RepL];exact⟨_,_,rfl,hrz,rfl⟩;intro e' he';rcases zRd he' with h1|h1;exact Nat.lt_succ_of_lt (hx4 e' h1);obtain rfl:=zRa h1;exact Nat.lt_succ_self _;rw[zMa,List.nodup_append];refine⟨hx5,by simp,λa ha b' hb' he=>?_⟩;obtain⟨e',h1,rfl⟩:=zRf ha;simp only[zMc,map_nil,mem_singleton] at hb';have:=hx4 e' h1;omega
 have hf:(Instr.findKey kt (strV k) avs.toArray.toList).run C.P w=.ok (some (0+j,e2.val)) w:=by
  simp only[Instr.findKey,zRt,qaa hkt,zRv,g1,zRu]
 have hkey:e2.key=strV k:=by
  have h1:(avs.map (·.key))[j]? = some e2.key:=by rw[List.getElem?_map,g2];try rfl
  rw[hx2,kvs,map_map,List.getElem?_map,g3] at h1;exact(Option.some.inj h1).symm
 have hst:(Instr.keyThatStays (((avs.toArray[0+j]?).map (·.key)).getD (strV k)) (strV k)).run C.P w=.ok (strV k) w:=by
  rw[zero_add,List.getElem?_toArray,g2];simp only[map_some,getD_some,hkey];unfold Instr.keyThatStays;rw[zp (by simp only[Instr.sameBits];rw[qdn];simp)]
  try rfl
 simp only[Instr.mapUpdate,zRt,qaa ht,zRv,hg,qb6 hkt,hf,hst];rw[hset]
 have hmod:avs.toArray.modify (0+j) (λe=>{ e with key:=strV k,val:=ρ z })=(avs.set j { e2 with key:=strV k,val:=ρ z }).toArray:=by
  rw[zero_add];apply Array.ext';simp only[Array.toList_modify];refine List.ext_getElem? λi=>?_;rw[List.getElem?_modify,List.getElem?_set]
  by_cases hi:j=i
  subst hi;have hlt:j<avs.length:=(List.getElem?_eq_some_iff.1 g2).1;rw[zp rfl,g2,zp hlt];show some _=_
  simp
  rw[zn hi]
  cases avs[i]? with
  |none=>rfl
  |some a=>
   show some _=_;simp[hi]
 refine qo3 (w':=setW w b _) hH rfl rfl rfl (by simp[setW]) (λc hc=>qdU hc) (avs.set j { e2 with key:=strV k,val:=ρ z }) ((qeF hbs).trans (by rw[hmod])) (es':=kvs (GL.kvPut m k lv)) ?_ ?_ ?_ ?_ (λ_=>qai) (hk _)
 ·rw[g5,kvs,map_set,map_set,map_set,hx2]
  try rfl
 rw[g5,kvs,map_set,map_set,map_set];exact RepL.setAt hx3 j hrz;intro e' he';rcases List.mem_or_eq_of_mem_set he' with h1|h1;exact hx4 e' h1;rw[h1];exact hx4 e2 (List.mem_of_getElem? g2);rw[map_set]
 have:(avs.map (·.born)).set j e2.born=avs.map (·.born):=by
  refine List.ext_getElem? λi=>?_;rw[List.getElem?_set];split
  ·rename_i h1
   subst h1;split
   ·rw[List.getElem?_map,g2];try rfl
   rename_i h2
   rw[List.getElem?_eq_none zo]
  rfl
 rw[this];exact hx5
theorem qrL{el:TypeId}(ht:C.P.underlying t=some (.map kt el))(hkt:C.P.underlying kt=some .string)(hz:∀ w,(zeroValue el).run C.P w=.ok zv w)(hzl:∀ w L,Rep w L zl zv)
  (hH:RelH C w L H) (hb:(b,.map (kvs m) clock)∈H):∃ v,Rep w L ((kvGet m k).getD zl) v/\∀ w',qe7 w L H w'->∀ c,(Instr.lookup t (.map (some b)) (strV k) c).run C.P w'=.ok (if c=true then .tuple #[v,.bool (kvGet m k).isSome] else v) w':=by
 obtain⟨_,_,_,avs,hx1,hx2,hx3,_⟩:=hH.objs _ hb;simp only at hx1;rcases qnY k m avs 0 hx2 with⟨g1,g2,g3⟩|⟨j,e2,v,g1,g2,g3,g4,g5⟩;refine⟨zv,by rw[g1];exact hzl w L,λw' ha c=>?_⟩;have hw:w'.heap[b]? = some (.map avs.toArray clock):=(ha.1 _ hb).trans hx1;have hg:(getObj b).run C.P w'=.ok (.map avs.toArray clock) w':=by simp only[getObj,Sem.run,hw]
 have hf:(Instr.findKey kt (strV k) avs.toArray.toList).run C.P w'=.ok none w':=by
  simp only[Instr.findKey,zRt,qaa hkt,zRv,g3,zRu]
 simp only[Instr.lookup,zRt,qaa ht,zRv,hg,zRu,qb6 hkt,hf,hz,g1];rfl;refine⟨e2.val,?_,λw' ha c=>?_⟩
 ·rw[g4];obtain⟨x,h1,h2⟩:=hx3.get (i:=j) (c:=v) (by rw[kvs,map_map,List.getElem?_map,g3];try rfl);rw[List.getElem?_map,g2] at h1;obtain rfl:=Option.some.inj h1;exact h2
 have hw:w'.heap[b]? = some (.map avs.toArray clock):=(ha.1 _ hb).trans hx1;have hg:(getObj b).run C.P w'=.ok (.map avs.toArray clock) w':=by simp only[getObj,Sem.run,hw]
 have hf:(Instr.findKey kt (strV k) avs.toArray.toList).run C.P w'=.ok (some (0+j,e2.val)) w':=by
  simp only[Instr.findKey,zRt,qaa hkt,zRv,g1,zRu]
 simp only[Instr.lookup,zRt,qaa ht,zRv,hg,zRu,qb6 hkt,hf,g4];rfl
theorem Pure.kvGet{t kt el:TypeId}(ht:C.P.underlying t=some (.map kt el))(hkt:C.P.underlying kt=some .string){zv:Value}{zl:LV}(hz:∀ w,(zeroValue el).run C.P w=.ok zv w)(hzl:∀ w L,Rep w L zl zv){b clock:Nat}{m:KV}{k:List UInt8}(hm:e.ev x=.atom (.map (some b)))(hx:e.ev y=str k)
  (hb:(b,.map (kvs m) clock)∈H):Pure C ⟨dst,.lookup t x y false,ty,pos,aft,g⟩ e H ((GL.kvGet m k).getD zl):=λρ w L h hH=>by
 obtain⟨v,h1,h2⟩:=qrL ht hkt hz hzl (k:=k) hH hb;refine⟨v,h1,λw' ha=>?_⟩;have h3:execOp ρ ⟨dst,.lookup t x y false,ty,pos,aft,g⟩=(do Pure.pure (.value (<-Instr.lookup t (ρ x) (ρ y) false))):=rfl;rw[h3,qag h hm,qag h hx,zRt,h2 w' ha false]
 try rfl
theorem Pure.kvGet2{el:TypeId}(ht:C.P.underlying t=some (.map kt el))(hkt:C.P.underlying kt=some .string)(hz:∀ w,(zeroValue el).run C.P w=.ok zv w)(hzl:∀ w L,Rep w L zl zv)(hm:e.ev x=.atom (.map (some b)))(hx:e.ev y=str k)
  (hb:(b,.map (kvs m) clock)∈H):Pure C ⟨dst,.lookup t x y true,ty,pos,aft,g⟩ e H (.tuple [(GL.kvGet m k).getD zl,bool (GL.kvGet m k).isSome]):=λρ w L h hH=>by
 obtain⟨v,h1,h2⟩:=qrL ht hkt hz hzl (k:=k) hH hb;refine⟨.tuple #[v,.bool (GL.kvGet m k).isSome],?_,λw' ha=>?_⟩;simp only[Rep];refine⟨[v,.bool (GL.kvGet m k).isSome],rfl,?_⟩;simp only[RepL];exact⟨_,_,rfl,h1,_,_,rfl,rfl,rfl⟩;have h3:execOp ρ ⟨dst,.lookup t x y true,ty,pos,aft,g⟩=(do Pure.pure (.value (<-Instr.lookup t (ρ x) (ρ y) true))):=rfl;rw[h3,qag h hm,qag h hx,zRt,h2 w' ha true]
 try rfl
end
class TMap (P:Program) (t:TypeId) (el:outParam TypeId) (zv:outParam Value) (zl:outParam LV):Prop where
 und:∃ kt,P.underlying t=some (.map kt el)/\P.underlying kt=some .string
 zero:∀ w,(zeroValue el).run P w=.ok zv w
 rep:∀ w L,Rep w L zl zv
theorem qpN(w:World)(L:Live)(zs:List Value):Rep w L (.agg (zs.map .atom)) (.agg zs.toArray):=by
 simp only[Rep];exact⟨zs,rfl,qa1 zs⟩
section
variable{C:Ctx}{e:Env}{H:Heap}{dst:Option Nat}{ty:TypeId}{pos:String}{aft:Array Edge}{g:Option (Nat×Bool)}{K:LV->Heap->Prop}{X:List PanicEntry->Heap->Prop}{x y:Operand}
theorem Pure.kvHit{el:TypeId} [h:TMap C.P t el zv zl](hm:e.ev x=.atom (.map (some b)))(hx:e.ev y=str k)(hb:(b,.map (kvs m) clock)∈H)(hg:GL.kvGet m k=some lv) :
  Pure C ⟨dst,.lookup t x y false,ty,pos,aft,g⟩ e H lv:=by
 obtain⟨kt,h1,h2⟩:=h.und;have:=Pure.kvGet (dst:=dst) (ty:=ty) (pos:=pos) (aft:=aft) (g:=g) h1 h2 h.zero h.rep hm hx hb
 rwa [hg] at this
theorem Pure.kvMiss{el:TypeId} [h:TMap C.P t el zv zl](hm:e.ev x=.atom (.map (some b)))(hx:e.ev y=str k)(hb:(b,.map (kvs m) clock)∈H)(hg:GL.kvGet m k=none) :
  Pure C ⟨dst,.lookup t x y false,ty,pos,aft,g⟩ e H zl:=by
 obtain⟨kt,h1,h2⟩:=h.und;have:=Pure.kvGet (dst:=dst) (ty:=ty) (pos:=pos) (aft:=aft) (g:=g) h1 h2 h.zero h.rep hm hx hb
 rwa [hg] at this
theorem Pure.kvHit2{el:TypeId} [h:TMap C.P t el zv zl](hm:e.ev x=.atom (.map (some b)))(hx:e.ev y=str k)(hb:(b,.map (kvs m) clock)∈H)(hg:GL.kvGet m k=some lv) :
  Pure C ⟨dst,.lookup t x y true,ty,pos,aft,g⟩ e H (.tuple [lv,bool true]):=by
 obtain⟨kt,h1,h2⟩:=h.und;have:=Pure.kvGet2 (dst:=dst) (ty:=ty) (pos:=pos) (aft:=aft) (g:=g) h1 h2 h.zero h.rep hm hx hb
 rwa [hg] at this
theorem Pure.kvMiss2{el:TypeId} [h:TMap C.P t el zv zl](hm:e.ev x=.atom (.map (some b)))(hx:e.ev y=str k)(hb:(b,.map (kvs m) clock)∈H)(hg:GL.kvGet m k=none) :
  Pure C ⟨dst,.lookup t x y true,ty,pos,aft,g⟩ e H (.tuple [zl,bool false]):=by
 obtain⟨kt,h1,h2⟩:=h.und;have:=Pure.kvGet2 (dst:=dst) (ty:=ty) (pos:=pos) (aft:=aft) (g:=g) h1 h2 h.zero h.rep hm hx hb
 rwa [hg] at this
theorem S.kvSet{el:TypeId} [h:TMap C.P t el zv zl](hm:e.ev mo=.atom (.map (some b)))(hx:e.ev x=str k)(hz:e.ev z=lv)
  (hp:Pick (b,.map (kvs m) clock) H F) (hk:∀ clock',K (.atom undef) ((b,.map (kvs (GL.kvPut m k lv)) clock')::F)):qae C ⟨dst,.mapUpdate t mo x z,ty,pos,aft,g⟩ e H K X:=by
 obtain⟨kt,h1,h2⟩:=h.und;exact S.kvPut h1 h2 hm hx hz hp hk
theorem S.kvIns{el:TypeId} [h:TMap C.P t el zv zl](hm:e.ev mo=.atom (.map (some b)))(hx:e.ev x=str k)(hz:e.ev z=lv)
  (hp:Pick (b,.map (kvs m) clock) H F) (hk:∀ clock',K (.atom undef) ((b,.map (kvs (GL.kvPut m k lv)) clock')::F)):qae C ⟨dst,.insert t mo x z,ty,pos,aft,g⟩ e H K X:=
 λρ w L h1 h2=>(S.kvSet (dst:=dst) (ty:=ty) (pos:=pos) (aft:=aft) (g:=g) (X:=X) hm hx hz hp hk) ρ w L h1 h2
theorem S.kvInsE{el:TypeId} [h:TMap C.P t el zv zl](m':KV)(hm:e.ev mo=.atom (.map (some b)))(hx:e.ev x=str k)(hz:e.ev z=lv)
  (hp:Pick (b,.map (kvs m) clock) H F) (he:GL.kvPut m k lv=m') (hk:∀ clock',K (.atom undef) ((b,.map (kvs m') clock')::F)):qae C ⟨dst,.insert t mo x z,ty,pos,aft,g⟩ e H K X:=
 S.kvIns hm hx hz hp (he▸hk)
theorem qoZ{A:Type}(key:A->List UInt8)(f:A->LV):∀ {l:List A} {q:A},(l.map key).Nodup->q∈l->GL.kvGet (l.map λq=>(key q,f q)) (key q)=some (f q)
 |[],q,_,h=>by cases h
 |a::l,q,hn,h=>by
  rw[zMc,nodup_cons] at hn;rw[zMc,GL.kvGet];rcases zMi.1 h with rfl|h;rw[zp rfl];rw[zn (λhe=>hn.1 (by rw[show key a=key q from he];exact List.mem_map_of_mem h))];exact qoZ key f hn.2 h
theorem qsl{A:Type}(key:A->List UInt8)(f:A->LV){k:List UInt8}:∀ {l:List A},k ∉ l.map key->GL.kvGet (l.map λq=>(key q,f q)) k=none
 |[],_=>rfl
 |a::l,h=>by
  rw[zMc,GL.kvGet,zn (λhe=>h (by rw[zMc];exact zMi.2 (.inl he.symm)))];exact qsl key f (λhm=>h (by rw[zMc];exact zMo _ hm))
theorem qj1{k:List UInt8}{v:LV}:∀ {m:KV},k ∉ m.map (·.1)->GL.kvPut m k v=m++[(k,v)]
 |[],_=>rfl
 |p::r,h=>by
  rw[GL.kvPut,zn (λhe=>h (by rw[zMc];exact zMi.2 (.inl he.symm))),qj1 (λhm=>h (by rw[zMc];exact zMo _ hm))]
  try rfl
end
variable{C:Ctx}{dst:Option Nat}{ty:TypeId}{pos:String}{aft:Array Edge}{g:Option (Nat×Bool)}{e:Env}{H:Heap}{K:LV->Heap->Prop}{X:List PanicEntry->Heap->Prop}
theorem S.setPut{el:TypeId}(ht:C.P.underlying t=some (.map kt el))(hkt:C.P.underlying kt=some .string){es:Array MapEntry}{p:List UInt8->Bool}{m:Operand}(hm:e.ev m=.atom (.map (some b)))(hx:e.ev x=str k)(hz:e.ev z=bool true)
  (hp:Pick (b,.obj (.map es clock)) H F) (hs:SetMap es p) (hk:∀ es' clock',SetMap es' (λs=>p s || decide (s=k))->K (.atom undef) ((b,.obj (.map es' clock'))::F)):qae C ⟨dst,.mapUpdate t m x z,ty,pos,aft,g⟩ e H K X:=
 λρ w L h hH=>(S.setAdd (dst:=dst) (ty:=ty) (pos:=pos) (aft:=aft) (g:=g) (X:=X) ht hkt hm hx hz hp hs hk) ρ w L h hH
theorem qud{fn:Func}{r s t q:ResultVar}(h:fn.results=#[r,s,t,q]){tmps:Array Value}{u x y:Value}(h1:(qbm tmps r).run P w=.ok v w)(h2:(qbm tmps s).run P w=.ok u w)(h3:(qbm tmps t).run P w=.ok x w)(h4:(qbm tmps q).run P w=.ok y w) :
  (results fn tmps).run P w=.ok (.tuple #[v,u,x,y]) w:=by
 have:results fn tmps=(do let v <-qbm tmps r;let u <-qbm tmps s;let x <-qbm tmps t;let y <-qbm tmps q;Pure.pure (.tuple #[v,u,x,y])):=by
  cases r <;> cases s <;> cases t <;> cases q <;> simp[results,h,qbm]
 rw[this,qdJ h1,qdJ h2,qdJ h3,qdJ h4]
 try rfl
theorem qnI{fn:Func}{e:Env}{a:Act}(hE:RelE n a e w L)(hH:RelH C w L H){vs:List LV}
  (h:qbQ C n e H fn.results.toList vs) (h3:fn.results.size=4):∃ v,(results fn a.tmps).run C.P w=.ok v w/\Rep w L (qbE vs) v:=by
 obtain⟨rs,hrs⟩:∃ rs,fn.results=List.toArray rs:=⟨fn.results.toList,by simp⟩;rw[hrs] at h h3;simp only[List.size_toArray] at h h3
 match rs,vs,h,h3,hrs with
 |[r,s,t,q],[x,y,z,o],h,_,hrs=>
  obtain⟨v1,g1,r1⟩:=h.1 a w L hE hH;obtain⟨v2,g2,r2⟩:=h.2.1 a w L hE hH;obtain⟨v3,g3,r3⟩:=h.2.2.1 a w L hE hH;obtain⟨v4,g4,r4⟩:=h.2.2.2.1 a w L hE hH
  exact⟨_,qud hrs g1 g2 g3 g4,by simp only[qbE,Rep];exact⟨[v1,v2,v3,v4],rfl,by simp only[RepL];exact⟨v1,_,rfl,r1,v2,_,rfl,r2,v3,_,rfl,r3,v4,_,rfl,r4,rfl⟩⟩⟩
 |[_,_,_,_],[],h,_,_=>exact h.elim
 |[_,_,_,_],[_],h,_,_=>exact h.2.elim
 |[_,_,_,_],[_,_],h,_,_=>exact h.2.2.elim
 |[_,_,_,_],[_,_,_],h,_,_=>exact h.2.2.2.elim
 |[_,_,_,_],_::_::_::_::_::_,h,_,_=>exact h.2.2.2.2.elim
theorem LCalls.intro4{fn:Func}{R:LRes->Heap->Prop}(hf:C.P.funcs[f]? = some fn)(hb:fn.body=some c)(hn:fn.ntmps=n)(h3:Nat.beq fn.results.size 4=true)
  (hl:Nat.ble args.length n=true) (h:qah C n c (qad C n fn.results.toList R) (qfy args) H):LCalls C f args H R:=λvs w L hv hH=>by
 subst hn;have hl':args.length<=fn.ntmps:=by simpa using hl
 have h3':fn.results.size=4:=Nat.eq_of_beq_eq_true h3;have hlen:=hv.length;refine calls_of_wp hf hb (Go.wp_mono (h _ w L ⟨?_,rfl,λi=>?_⟩ hH) λex a' w' hq=>?_)
 simp;omega
 exact zT0;obtain⟨e',H',L',g1,g2,g3,g4⟩:=hq
 have ret:RelE fn.ntmps a' e' w' L'->(e'.ds=[]/\∃ vs H'',qbQ C fn.ntmps e' H' fn.results.toList vs/\HSub H'' H'/\R (.ret (qbE vs)) H'') ->
   a'.defers=[]/\∃ v,(results fn a'.tmps).run C.P w'=.ok v w'/\qcD C w L H (λv=>R (.ret v)) (λch=>R (.panic ch)) (.returned v) w':=λhE hr=>by
  obtain⟨h1,vs',H'',h2,h4,h5⟩:=hr;obtain⟨v,r1,r2⟩:=qnI hE g2 h2 h3';exact⟨hE.ds.trans h1,v,r1,qbE vs',H'',L',g1.weak h4,g2.weak h4,r2,h5⟩
 cases ex with
 |normal=>exact ret g3 g4
 |ret=>exact ret g3 g4
 |panic ch=>
  obtain⟨h1,H'',h4,h5⟩:=g4
  exact⟨g3.trans h1,H'',L',g1.weak h4,g2.weak h4,h5⟩
 |exit id=>exact g4.elim
 |goto id=>exact g4.elim
 |outgrown=>exact g4.elim
section
variable{C:Ctx}{e:Env}{H:Heap}{dst:Option Nat}{ty:TypeId}{pos:String}{aft:Array Edge}{g:Option (Nat×Bool)}{xT yT:TypeId}{x y:Operand}{k k2:IntKind}{a b:Int}
theorem qlv{op:BinOp}{y:Operand}{k k2:IntKind}{b:Int}(hx:ρ x=.int k a)(hy:ρ y=.int k2 b){s:Sem Value}
  (h:(binOp op xT (.int k a) (.int k2 b))=s) {v:Value} (hv:∀ w,s.run P w=.ok v w) (w:World):(execOp ρ ⟨dst,.binOp op xT x y yT,ty,pos,aft,g⟩).run P w=.ok (.value v) w:=by
 subst h
 have he:eqGuard op xT x y (.int k a) (.int k2 b)=Pure.pure ():=by
  unfold eqGuard;cases op <;> rfl
 simp only[execOp,hx,hy,he,zRt,zRu,zRv,hv]
theorem Pure.quoW(hx:e.ev x=int k a)(hy:e.ev y=int k b)(hb:b≠0):Pure C ⟨dst,.binOp .quo xT x y yT,ty,pos,aft,g⟩ e H (int k (k.wrap (a.tdiv b))):=
 .of_any λ_ _ _ h=>⟨_,qai,qlv (qag h hx) (qag h hy) (s:=Op.intDiv .quo k a b) (by simp only[binOp,ne_eq,not_true_eq_false,if_false]) (λ_=>by simp only[Op.intDiv,zn hb,zRu])⟩
theorem Pure.remW(hx:e.ev x=int k a)(hy:e.ev y=int k b)(hb:b≠0):Pure C ⟨dst,.binOp .rem xT x y yT,ty,pos,aft,g⟩ e H (int k (a.tmod b)):=
 .of_any λ_ _ _ h=>⟨_,qai,qlv (qag h hx) (qag h hy) (s:=Op.intDiv .rem k a b) (by simp only[binOp,ne_eq,not_true_eq_false,if_false]) (λ_=>by simp only[Op.intDiv,zn hb,zRu])⟩
theorem Pure.xorW(hx:e.ev x=int k a)(hy:e.ev y=int k b):Pure C ⟨dst,.binOp .xor xT x y yT,ty,pos,aft,g⟩ e H (int k (k.wrap ((BitVec.ofInt k.bits a ^^^ BitVec.ofInt k.bits b).toNat:Nat))):=
 .of_any λ_ _ _ h=>⟨_,qai,qlv (qag h hx) (qag h hy) (s:=Op.intBits .xor k a b) (by simp only[binOp,ne_eq,not_true_eq_false,if_false]) (λ_=>rfl)⟩
end
theorem qiq{P:Program}{md:Region.Mode}{ops:Array Oper}{Q:Exit->Act->World->Prop}{S S':World->Prop}(hS:∀ w,S' w->S w):∀ (fuel:Nat) (listed:Array Bool) (a:Act) (w:World),
  wpAnyH P md ops Q S' fuel listed a w->wpAnyH P md ops Q S fuel listed a w
 |0,_,_,_,k=>k
 |fuel+1,_,_,_,k=>⟨k.1,λi hi=>wpOp_mono (λa' w' h=>⟨hS _ h.1,qiq hS fuel _ a' w' h.2⟩) (k.2 i hi)⟩
theorem qay.any{ops:Array Oper}{HF:Heap}{fuel:Nat}{listed:Array Bool}{e:Env}(HF':Heap)(hs:∀ p∈HF,p∈HF')(h:LAny C n ops Q HF' fuel listed e H):qay C n ops Q HF fuel listed e H:=λw0 L0 a w L hL hA _ hE hH=>
 qiq (λw' hw'=>⟨λp hp=>(hw'.1 p (hs p hp)).trans (hA.1 p hp),λb i hi=>(hw'.2 b i (Nat.lt_of_lt_of_le hi (hL b))).trans (hA.2 b i hi)⟩) _ _ _ _ (h a w L hE hH)
def LS(C:Ctx)(n:Nat)(ops:Array Oper)(K:Env->Prop)(rest:List Oper)(e:Env)(H:Heap):Prop:=
 ∀ a w L,RelE n a e w L->RelH C w L H->wpStill C.P ops w (λa'=>∃ e',RelE n a' e' w L/\K e') rest a
section still
variable{C:Ctx}{n:Nat}{ops:Array Oper}{K:Env->Prop}{e:Env}{H:Heap}{dst:Option Nat}{op:Op}{ty:TypeId}{pos:String}{aft:Array Edge}{rest:List Oper}
theorem LS.nil(h:K e):LS C n ops K [] e H:=λ_ _ _ hE _=>⟨e,hE,h⟩
theorem qsv{Q:Act->Prop}{a:Act}{o:Oper}(hg:Region.wanted o (yielded ops a.tmps)=true)(h:(execOp a.eval o).run P w=.ok (.value v) w)(k:wpStill P ops w Q rest (a.put o.dst v)):wpStill P ops w Q (o::rest) a:=by
 unfold wpStill;rw[zp hg];unfold Oper.still;rw[h];exact⟨rfl,k⟩
theorem lP(h:Pure C ⟨dst,op,ty,pos,aft,none⟩ e H lv)(hd:qc8 n dst)(k:LS C n ops K rest (e.put dst lv) H):LS C n ops K (⟨dst,op,ty,pos,aft,none⟩::rest) e H:=λa w L hE hH=>by
 obtain⟨v,hv,hr⟩:=h a.eval w L hE.ev hH;exact qsv (by simp[Region.wanted]) (hr w (qe7.refl _ _ _)) (k _ w L (hE.put hd hv) hH)
theorem qfD{P:Program}{w:World}{Q Q':Act->Prop}(h:∀ a,Q a->Q' a):∀ (l:List Oper) (a:Act),wpStill P ops w Q l a->wpStill P ops w Q' l a
 |[],a,k=>h a k
 |o::l,a,k=>by
  unfold wpStill at k ⊢;split at k
  rename_i hw
  rw[zp hw];exact Oper.still_mono (λa=>qfD h l a) k
  rename_i hw
  rw[zn hw];exact qfD h l _ k
theorem qah.tail [hm:TMixed C.P] {id:Nat} {l:List Oper}  (m:Nat) (hB:Region.lexTailB .any l.toArray m=true) (h:LS C n l.toArray (λe'=>LOps C n l.toArray Q (l.drop m) e' H) (l.take m) e H):qah C n (.region id l.toArray true) Q e H:=λa w L hE hH=>by
 refine wp_region_still_tail m hm.out hB ?_;refine qfD (λa' h'=>?_) _ _ (h a w.drew L (hE.mono (qef w L)) hH.drew);obtain⟨e',hE',hk⟩:=h';refine qbD (λx a2 w' hq=>?_) _ _ _ (hk a' w.drew L hE' hH.drew);obtain⟨e2,H',L',h1,h2,h3,h4⟩:=hq;exact⟨e2,H',L',h1.of_drew,h2,h3,h4⟩
end still
@[reducible] def rowV(b n:Nat):LV:=.atom (.slice (some ⟨b,0,none⟩) n n)
section
variable{C:Ctx}{e:Env}{H:Heap}{dst:Option Nat}{ty:TypeId}{pos:String}{aft:Array Edge}{g:Option (Nat×Bool)}{K:LV->Heap->Prop}{X:List PanicEntry->Heap->Prop}{x y:Operand}
theorem qqG(n:Nat)(z:Value):(Array.range n).map (λi=>(if n * 1=0 then #[] else #[z])[i % (if n * 1=0 then (#[]:Array Value) else #[z]).size]!)=(List.replicate n z).toArray:=by
 rcases Nat.eq_zero_or_pos n with rfl|hn
 simp
 rw[zn zo];apply Array.ext
 simp
 intro i h1 h2;simp[Nat.mod_one]
theorem S.makeRow{t:Nat} [ht:TSlice C.P t el 1] [hr:TRow C.P el 1 bytes] [hz:TZero C.P el [zv]]{k k2:IntKind}(hx:e.ev x=int k n)(hy:e.ev y=int k2 n)(hb:bytes * n<=100000000000)(hn:n<=100000000000)
  (hk:∀ b,K (rowV b n) ((b,.cells el (List.replicate n (.atom zv)))::H)):qae C ⟨dst,.makeSlice t x y,ty,pos,aft,g⟩ e H K X:=by
 refine qae.at0 λρ w L h hH=>?_;have h3:execOp ρ ⟨dst,.makeSlice t x y,ty,pos,aft,g⟩=(do Pure.pure (.value (<-Instr.makeSlice t (ρ x) (ρ y)))):=rfl;obtain⟨i,z,hi,hs,hby,hb0,hzz,hzs⟩:=hr.out;obtain⟨i',z',hi',hz',hc',hs'⟩:=hz.out;rw[hi] at hi';obtain rfl:=Option.some.inj hi';rw[hzz] at hz';obtain rfl:=Option.some.inj hz';have wn:IntKind.i64.wrap (n:Int)=n:=qeo zo;have n1:¬ ((n:Int)<0):=by omega
 have n2:¬ ((281474976710656:Int)<(i.bytes:Int) * n):=by
  rw[hby];have:((bytes * n:Nat):Int)<=100000000000:=by omega
  rw[Int.natCast_mul] at this;omega
 have n3:¬ (n * i.bytes > roomBytes):=by
  rw[hby,Nat.mul_comm];unfold roomBytes;omega
 have hrun:(Instr.makeSlice t (.int k n) (.int k2 n)).run C.P w=.ok (.slice (some ⟨w.heap.size,0,none⟩) n n) (World.push w (.cells (List.replicate n zv).toArray el)):=by
  have hrz:=qqG n zv
  by_cases h0:n=0
  ·subst h0;have wz:IntKind.i64.wrap 0=0:=qeo zo;simp[Instr.makeSlice,qaa ht.und,asInt,asIntOf,qdH hi,qbG hi,hs,wz,newRow,askRoom,roomBytes,newObj,World.push,zRt,zRu];have e0:(Array.range 0).map (λ_=>(default:Value))=#[]:=by simp
   rw[e0]
   try rfl
  simp only[Nat.mul_one,h0,if_false] at hrz;simp[Instr.makeSlice,qaa ht.und,asInt,asIntOf,qdH hi,qbG hi,hs,wn,n1,n2,n3,h0,zeroValue,hzz,hc',newRow,askRoom,newObj,World.push,zRt,zRu,hrz];simp at hrz;rw[hrz]
  try rfl
 rw[h3,qag h hx,qag h hy,zRt,hrun]
 have hrep:RepL w L (List.replicate n (.atom zv)) (List.replicate n zv):=by
  have:=qa1 (w:=w) (L:=L) (List.replicate n zv)
  rwa [List.map_replicate] at this
 have hx':=qep hH.wf (.cells (List.replicate n zv).toArray el) 0
 have:=qew hH (.cells (List.replicate n zv).toArray el) 0 [(w.heap.size,.cells el (List.replicate n (.atom zv)))] (λp hp=>by
  simp only[mem_singleton] at hp;subst hp
  exact⟨rfl,by simp[Live.upd],List.replicate n zv,qaD,hrep.mono hx' _ _⟩) (by simp)
 exact⟨_,_,_,this.1,this.2,qai,hk _⟩
theorem Pure.indexRow{t:Nat} [ht:TSlice C.P t el s]{off m:Nat}{n:Int}{k:IntKind}(hx:e.ev x=.atom (.slice (some ⟨b,off,none⟩) m cap))(hy:e.ev y=int k n)(h0:0<=n)(hn:n<m) :
  Pure C ⟨dst,.indexAddr t x y,ty,pos,aft,g⟩ e H (ptr b (off+n.toNat * s)):=.of_any λρ w L h=>by
 obtain⟨i,hi,hsz⟩:=ht.size;refine⟨_,qai,λw'=>?_⟩;have h3:execOp ρ ⟨dst,.indexAddr t x y,ty,pos,aft,g⟩=(do Pure.pure (.value (<-Instr.indexAt t (ρ x) (ρ y)))):=rfl;rw[h3,qag h hx,qag h hy];have hc:0<=n/\n<(m:Int):=⟨h0,hn⟩;simp[Instr.indexAt,asIntOf,qaa ht.und,hc,qbG hi,add_mk,hsz]
theorem Pure.rowLen{t:Nat} [TSlice C.P t el s]{a:Option Addr}{m:Nat}(hx:e.ev x=.atom (.slice a m cap)):Pure C ⟨dst,.call { callee:=.builtin .len,args:=#[x],argTypes:=#[t] },ty,pos,aft,g⟩ e H (int .i64 m):=
 .of_any λρ _ _ h=>⟨_,qai,λw'=>by
  have hu:=qaa (P:=C.P) (TSlice.und (t:=t)) w';rw[qax,qer]
  simp[Builtin.len_,hu,goInt,qag h hx]⟩
theorem Pure.negW{k:IntKind}(hx:e.ev x=int k a):Pure C ⟨dst,.unOp .neg xT x,ty,pos,aft,g⟩ e H (int k (k.wrap (0-a))):=
 .of_any λρ _ _ h=>⟨_,qai,λw'=>by simp only[execOp,qag h hx,Op.unary];rfl⟩
end
section shut
variable{C:Ctx}{n:Nat}{Q:Post}{e:Env}{H F:Heap}
theorem qlP(hp:Pick (b,.cells el (vs.map .atom)) H F)(hH:RelH C w L H) :
  RelH C w (L.upd b vs.length) F/\Ext w L w (L.upd b vs.length)/\Rep w (L.upd b vs.length) (.list (vs.map .atom)) (.slice (some ⟨b,0,none⟩) vs.length vs.length):=by
 have hH1:=hH.perm hp;obtain⟨hb0,hbs,hl,xs,hx1,hx2⟩:=hH1.objs _ mem_cons_self;simp only at hb0 hbs hl hx1 hx2;have hxs:xs=vs:=RepL.atoms hx2;subst hxs
 have hx:Ext w L w (L.upd b xs.length):=⟨zNr _,λ_ _=>rfl,λ_ _ _=>rfl,λc=>by
  unfold Live.upd;split
  rename_i h;subst h;rw[hl];exact zero_le _
  exact zNr _⟩
 have hne:∀ p∈F,p.1≠b:=λp hp' he=>by
  have:=hH1.nodup;rw[zMc,nodup_cons] at this;exact this.1 (zRg ⟨p,hp',he⟩)
 refine⟨⟨hH1.base,trivial,hH1.b0,λc hc=>?_,?_,λp hp'=>?_⟩,hx,?_⟩;unfold Live.upd;rw[zn zo];exact hH1.wf c hc;have:=hH1.nodup;rw[zMc,nodup_cons] at this;exact this.2;obtain⟨g1,g2,g3⟩:=hH1.objs p (zMo _ hp');exact⟨g1,g2,g3.keep hx rfl (by unfold Live.upd;rw[zn (hne p hp')])⟩;have hL:(L.upd b xs.length) b=xs.length:=by unfold Live.upd;rw[zp rfl]
 have hlen:(xs.map LV.atom).length=xs.length:=zLm _;simp only[Rep];refine⟨some ⟨b,0,none⟩,xs.length,by rw[hlen],by rw[hlen];exact zNr _,λ_=>⟨b,0,1,rfl,?_⟩⟩
 have hflat:∀ l:List Value,(l.map LV.atom).flatMap LV.cells=l.map LV.atom:=λl=>by
  induction l with
  |nil=>rfl
  |cons a l ih=>simp only[zMc,List.flatMap_cons,ih];rfl
 refine qaj.ofC (λv hv=>?_) ?_;obtain⟨a,_,rfl⟩:=zRf hv;rfl;rw[hflat];refine RepC.of_cells (qa1 xs) (by rw[hL];omega) λj x hx=>?_;simp only[World.cell?,hx1,zero_add];simpa using hx
theorem qtp(hp:Pick (b,.cells el (vs.map .atom)) H F)(hH:RelH C w L H){x:Exit}{a:Act}(h:lift C n w (L.upd b vs.length) (keys F) Q x a w'):lift C n w L (keys H) Q x a w':=by
 obtain⟨e',H',L',h1,h2,h3,h4⟩:=h;have hx:=(qlP hp hH).2.1
 have hin:∀ c,c∈keys F->c∈keys H:=λc hc=>by
  obtain⟨p,hp',rfl⟩:=zRf hc;exact List.mem_map_of_mem (hp.mem_iff.2 (zMo _ hp'))
 have hb:b∈keys H:=zRg ⟨_,hp.mem_iff.2 mem_cons_self,rfl⟩;refine⟨e',H',L',⟨h1.os,h1.tape,h1.output,hx.trans h1.ext,λc hc hn=>h1.block c hc (λk=>hn (hin c k)),λc hc hn=>?_,λp hp'=>(h1.kin p hp').imp (hin _) id⟩,h2,h3,h4⟩;rw[h1.lsame c hc (λk=>hn (hin c k))];unfold Live.upd;rw[zn (λhe=>hn (by rw[he];exact hb))]
theorem qrl{a:Act}{d:Nat}(hp:Pick (b,.cells el (vs.map .atom)) H F)(hd:e.s d=rowV b vs.length)(hE:RelE n a e w L)(hH:RelH C w L H):RelE n a (e.upd d (.list (vs.map .atom))) w (L.upd b vs.length):=by
 obtain⟨_,hx,hr⟩:=qlP hp hH;refine⟨hE.size,hE.ds,λi=>?_⟩;have hv:=hE.vals i;simp only[Env.upd]
 cases hb:Nat.beq i d with
 |false=>exact hv.mono hx _ _
 |true=>
  have hi:=Nat.eq_of_beq_eq_true hb;subst hi;rw[hd] at hv;simp only[Rep] at hv;rw[hv];exact hr
theorem qah.rowShut(d:Nat)(hp:Pick (b,.cells el (vs.map .atom)) H F)(hd:e.s d=rowV b vs.length)(h:qah C n c Q (e.upd d (.list (vs.map .atom))) F):qah C n c Q e H:=λa w L hE hH=>
 Go.wp_mono (h a w _ (qrl hp hd hE hH) (qlP hp hH).1) λ_ _ _=>qtp hp hH
end shut
section
variable{C:Ctx}{n:Nat}{ops:Array Oper}{Q:Post}{HF:Heap}{fuel:Nat}{listed:Array Bool}{e:Env}{H F:Heap}{i:Nat}{dst:Option Nat}{op:Op}{ty:TypeId}{pos:String}{aft:Array Edge}
theorem qay.weakH{H':Heap}(s:HSub H' H)(h:qay C n ops Q HF fuel listed e H'):qay C n ops Q HF fuel listed e H:=λw0 L0 a w L hL hA hsz hE hH=>
 qcm (λ_ _ _=>qfY s.keys) _ _ _ _ (h w0 L0 a w L hL hA hsz hE (hH.weak s))
end
def qa9(C:Ctx)(f:FuncId)(args:List LV)(u:FrameMode)(H:Heap)(R:FrameMode->Heap->Prop):Prop:=
 ∀ (vs:List Value) w L,RepL w L args vs->RelH C w L H->CallsD C.P f vs.toArray u w λe u' w'=>(∃ v,e=.returned v)/\qfh C w L H w' (R u')
def qjU(C:Ctx)(n:Nat)(rs:List ResultVar)(R:LRes->Heap->Prop):List Deferred->FrameMode->Env->Heap->Prop
 |[],.returning,e,H=>∃ vs H',qbQ C n e H rs vs/\HSub H' H/\R (.ret (qbE vs)) H'
 |[],.panicking ch,_,H=>∃ H',HSub H' H/\R (.panic ch) H'
 |[],.run,_,_=>False
 |d::ds,u,e,H=>u≠.run/\∃ f cap H1 F,d={ target:=.fn (.func f) cap,args:=#[] }/\TEnter C.P f/\H.Perm (H1++F) /\
   qa9 C f (cap.toList.map .atom) u H1 λu' H'=>qjU C n rs R ds (settle u') e (H'++F)
def qp4(C:Ctx)(n:Nat)(w:World)(L:Live)(K:List Nat)(Q:Post):Exit->Act->World->Prop:=
 λx a' w'=>∃ e' H' L',Fr K w L w' L' H'/\RelH C w' L' H'/\RelE n a' e' w' L'/\Q x e' H'
theorem qjB{w1:World}{L1:Live}{K:List Nat}{H1:Heap}(f:Fr K w L w1 L1 H1){x:Exit}{a:Act}
  (k:qp4 C n w1 L1 (keys H1) Q x a w'):qp4 C n w L K Q x a w':=
 let ⟨e',H',L',h1,h2,h3,h4⟩:=k
 ⟨e',H',L',f.trans h1,h2,h3,h4⟩
def qbX(C:Ctx)(n:Nat)(ops:Array Oper)(Q:Post)(rest:List Oper)(e:Env)(H:Heap):Prop:=
 ∀ a w L,RelE n a e w L->RelH C w L H->wpList C.P ops (qp4 C n w L (keys H) Q) rest a w
def qaI(C:Ctx)(n:Nat)(c:Code)(Q:Post)(e:Env)(H:Heap):Prop:=
 ∀ a w L,RelE n a e w L->RelH C w L H->c.wp C.P (qp4 C n w L (keys H) Q) a w
section P
variable{C:Ctx}{n:Nat}{ops:Array Oper}{Q:Post}{e:Env}{H:Heap}
theorem qbX.nil(h:Q .normal e H):qbX C n ops Q [] e H:=λ_ _ L hE hH=>⟨e,H,L,Fr.refl _ _ _,hH,hE,h⟩
theorem qbX.step{op:Op}
  (h:qae C ⟨dst,op,ty,pos,aft,none⟩ e H (λlv H'=>qbX C n ops Q rest (e.put dst lv) H') (λch H'=>Q (.panic ch) e H'))
  (hd:qc8 n dst):qbX C n ops Q (⟨dst,op,ty,pos,aft,none⟩::rest) e H:=λa w L hE hH=>by
 unfold wpList;rw[zp (by simp[Region.wanted])];have hs:=h a.eval w L hE.ev hH;refine .inl ?_;unfold Oper.wp
 have left:∀ {w' v},Left C w L H w' v (λlv H'=>qbX C n ops Q rest (e.put dst lv) H')->wpList C.P ops (qp4 C n w L (keys H) Q) rest (a.put dst v) w':=λh=>by
  obtain⟨lv,H',L',h1,h2,h3,h4⟩:=h;exact qbD (λ_ _ _=>qjB h1) _ _ _ (h4 _ _ L' ((hE.mono h1.ext).put hd h3) h2)
 have leftX:∀ {w' ch},qfh C w L H w' (λH'=>Q (.panic ch) e H')->qp4 C n w L (keys H) Q (.panic ch) a w':=λh=>by
  obtain⟨H',L',h1,h2,h3⟩:=h;exact⟨e,H',L',h1,h2,hE.mono h1.ext,h3⟩
 generalize (execOp a.eval ⟨dst,op,ty,pos,aft,none⟩).run C.P w=r at hs ⊢;unfold qe2 at hs;split at hs;exact left hs;exact left hs;obtain⟨rfl,hs⟩:=hs;refine Calls.mono hs λe w' he=>?_
 cases e with
 |returned v=>exact left he
 |panicked ch=>exact leftX he
 |outgrown=>exact he.elim
 exact leftX hs;exact hs.elim
theorem qbX.pure{op:Op}
  (h:Pure C ⟨dst,op,ty,pos,aft,none⟩ e H lv) (hd:qc8 n dst) (k:qbX C n ops Q rest (e.put dst lv) H):qbX C n ops Q (⟨dst,op,ty,pos,aft,none⟩::rest) e H:=
 qbX.step (h.step k) hd
theorem qaI.region{id:Nat}{l:List Oper}(h:qbX C n l.toArray Q l e H):qaI C n (.region id l.toArray false) Q e H:=λa w L hE hH=>wp_region_lit (h a w L hE hH)
theorem qaI.ret(h:Q .ret e H):qaI C n .ret Q e H:=λ_ _ L hE hH=>wp_ret ⟨e,H,L,Fr.refl _ _ _,hH,hE,h⟩
theorem qaI.seq{x y:Code}(h:qaI C n x (qaw (λe H=>qaI C n y Q e H) Q) e H):qaI C n (.seq x y) Q e H:=λa w L hE hH=>by
 refine wp_seq (Go.wp_mono (h a w L hE hH) λex a' w' hq=>?_);obtain⟨e',H',L',h1,h2,h3,h4⟩:=hq
 cases ex with
 |normal=>exact Go.wp_mono (h4 a' w' L' h3 h2) λ_ _ _=>qjB h1
 |exit id=>exact⟨e',H',L',h1,h2,h3,h4⟩
 |goto id=>exact⟨e',H',L',h1,h2,h3,h4⟩
 |ret=>exact⟨e',H',L',h1,h2,h3,h4⟩
 |panic ch=>exact⟨e',H',L',h1,h2,h3,h4⟩
 |outgrown=>exact⟨e',H',L',h1,h2,h3,h4⟩
theorem qaI.block{id:Nat}{c:Code}(h:qaI C n c (qam id Q) e H):qaI C n (.block id c) Q e H:=λa w L hE hH=>by
 refine wp_block (Go.wp_mono (h a w L hE hH) λex a' w' hq=>?_);obtain⟨e',H',L',h1,h2,h3,h4⟩:=hq
 cases ex with
 |exit id'=>
  simp only[Exit.inBlock,qam] at h4 ⊢;split
  rename_i hid;rw[zp hid] at h4;exact⟨e',H',L',h1,h2,h3,h4⟩
  rename_i hid;rw[zn hid] at h4;exact⟨e',H',L',h1,h2,h3,h4⟩
 |normal=>exact⟨e',H',L',h1,h2,h3,h4⟩
 |goto id=>exact⟨e',H',L',h1,h2,h3,h4⟩
 |ret=>exact⟨e',H',L',h1,h2,h3,h4⟩
 |panic ch=>exact⟨e',H',L',h1,h2,h3,h4⟩
 |outgrown=>exact⟨e',H',L',h1,h2,h3,h4⟩
def QNo(Q:Post):Post
 |.panic _,_,_=>False
 |x,e,H=>Q x e H
theorem qaI.of(h:qah C n c (QNo Q) e H):qaI C n c Q e H:=λa w L hE hH=>by
 refine Go.wp_mono (h a w L hE hH) λex a' w' hq=>?_;obtain⟨e',H',L',h1,h2,h3,h4⟩:=hq
 cases ex with
 |panic ch=>exact h4.elim
 |normal=>exact⟨e',H',L',h1,h2,h3,h4⟩
 |exit id=>exact⟨e',H',L',h1,h2,h3,h4⟩
 |goto id=>exact⟨e',H',L',h1,h2,h3,h4⟩
 |ret=>exact⟨e',H',L',h1,h2,h3,h4⟩
 |outgrown=>exact⟨e',H',L',h1,h2,h3,h4⟩
theorem QNo.normal{k:Env->Heap->Prop}(h:k e H):QNo (qaw k Q) .normal e H:=h
theorem QNo.ret(h:Q .ret e H):QNo Q .ret e H:=h
end P
def qbN(C:Ctx)(n:Nat)(rs:List ResultVar)(R:LRes->Heap->Prop):Post
 |.normal,e,H|.ret,e,H=>qjU C n rs R e.ds .returning e H
 |.panic ch,e,H=>qjU C n rs R e.ds (.panicking ch) e H
 |_,_,_=>False
theorem qs4{C:Ctx}{n:Nat}{fn:Func}{R:LRes->Heap->Prop}{w0:World}{L0:Live}{H0:Heap}(h3:fn.results.size<=3)(tmps:Array Value):∀ (ds:List Deferred) (u:FrameMode) (e:Env) (H:Heap) (w:World) (L:Live),tmps.size=n->(∀ i,Rep w L (e.s i) (tmps.getD i undef))->RelH C w L H->Fr (keys H0) w0 L0 w L H ->
  qjU C n fn.results.toList R ds u e H->Leaves C.P fn tmps (qcD C w0 L0 H0 (λv=>R (.ret v)) (λch=>R (.panic ch))) ds u w
 |[],.returning,e,H,w,L,hn,hv,hH,hF,h=>by
  obtain⟨vs,H',h1,h2,h5⟩:=h;obtain⟨v,r1,r2⟩:=qhS (a:={ tmps,defers:=e.ds }) ⟨hn,rfl,hv⟩ hH h1 h3
  exact⟨v,r1,qbE vs,H',L,hF.weak h2,hH.weak h2,r2,h5⟩
 |[],.panicking ch,e,H,w,L,hn,hv,hH,hF,h=>by
  obtain⟨H',h2,h5⟩:=h
  exact⟨H',L,hF.weak h2,hH.weak h2,h5⟩
 |[],.run,e,H,w,L,hn,hv,hH,hF,h=>h.elim
 |d::ds,u,e,H,w,L,hn,hv,hH,hF,h=>by
  obtain⟨hu,f,cap,H1,F,rfl,hen,hp,hc⟩:=h;refine⟨hu,.func f,cap,f,cap,rfl,by simp[invoke,qfq],?_⟩;have hH':=hH.perm hp;have:=hc cap.toList w L (qa1 _) hH'.left;simp only[Array.toArray_toList] at this;refine CallsD.mono this ?_;rintro ex u' w' ⟨⟨v,rfl⟩,hx⟩;obtain⟨H',L',g1,g2,g3⟩:=qfh.frame hH' hx;exact qs4 h3 tmps ds (settle u') e H' w' L' hn (λi=>(hv i).mono g1.ext _ _) g2 (hF.trans (g1.perm hp.symm)) g3
theorem qa9.mono{C:Ctx}{f:FuncId}{args:List LV}{u:FrameMode}{H:Heap}{R R':FrameMode->Heap->Prop}(h:qa9 C f args u H R)(hr:∀ u H,R u H->R' u H):qa9 C f args u H R':=λvs w L h1 h2=>
 CallsD.mono (h vs w L h1 h2) λ_ _ _ ⟨h3,h4⟩=>⟨h3,h4.mono (hr _)⟩
theorem LCalls.introD{fn:Func}{R:LRes->Heap->Prop}(hf:C.P.funcs[f]? = some fn)(hb:fn.body=some c)(hn:fn.ntmps=n)(h3:Nat.ble fn.results.size 3=true)
  (hl:Nat.ble args.length n=true) (h:qaI C n c (qbN C n fn.results.toList R) (qfy args) H):LCalls C f args H R:=λvs w L hv hH=>by
 subst hn;have hl':args.length<=fn.ntmps:=by simpa using hl
 have h3':fn.results.size<=3:=by simpa using h3
 have hlen:=hv.length;refine calls_of_wp_defers hf hb (Go.wp_mono (h _ w L ⟨?_,rfl,λi=>?_⟩ hH) λex a' w' hq=>?_)
 simp;omega
 exact zT0;obtain⟨e',H',L',g1,g2,g3,g4⟩:=hq
 have ret:∀ u,qjU C fn.ntmps fn.results.toList R e'.ds u e' H'->Leaves C.P fn a'.tmps (qcD C w L H (λv=>R (.ret v)) (λch=>R (.panic ch))) a'.defers u w':=λu hu=>by
  rw[g3.ds];exact qs4 h3' a'.tmps _ u e' H' w' L' g3.size g3.vals g2 g1 hu
 cases ex with
 |normal=>exact ret _ g4
 |ret=>exact ret _ g4
 |panic ch=>exact ret _ g4
 |exit id=>exact g4.elim
 |goto id=>exact g4.elim
 |outgrown=>exact g4.elim
abbrev qmY:=Exit->FrameMode->Env->Heap->Prop
def qdz(C:Ctx)(n:Nat)(c:Code)(Q:qmY)(u:FrameMode)(e:Env)(H:Heap):Prop:=
 ∀ a w L (c0:Frame) cs,c0.mode=u->RelE n a e w L->RelH C w L H ->
  c.wpS C.P (λx a' cs' w'=>∃ u' e' H' L',cs'={ c0 with mode:=u' }::cs/\Fr (keys H) w L w' L' H'/\RelH C w' L' H'/\RelX n x a' e' w' L'/\Q x u' e' H') a (c0::cs) w
theorem qmd{Q Q':Exit->Act->List Frame->World->Prop}{a:Act}{cs:List Frame}{w:World}(h:c.wpS P Q a cs w)(hq:∀ x a cs w,Q x a cs w->Q' x a cs w):c.wpS P Q' a cs w:=λb k h1 h2=>
 let ⟨e,a',cs',w',q,r⟩:=h b k h1 h2
 ⟨e,a',cs',w',hq _ _ _ _ q,r⟩
section S
variable{C:Ctx}{n:Nat}{Q:qmY}{u:FrameMode}{e:Env}{H:Heap}
theorem qdz.of(h:qah C n c (λx e H=>Q x u e H) e H):qdz C n c Q u e H:=λa w L c0 cs hu hE hH=>by
 refine wpS_of_wp (Go.wp_mono (h a w L hE hH) λx a' w' hq=>?_);obtain⟨e',H',L',h1,h2,h3,h4⟩:=hq;exact⟨u,e',H',L',by subst hu;rfl,h1,h2,h3,h4⟩
theorem qdz.seq{x y:Code}(h:qdz C n x (λex u' e' H'=>match ex with|.normal=>qdz C n y Q u' e' H'|ex=>Q ex u' e' H') u e H):qdz C n (.seq x y) Q u e H:=λa w L c0 cs hu hE hH=>by
 refine wpS_seq (qmd (h a w L c0 cs hu hE hH) λex a' cs' w' hq=>?_);obtain⟨u',e',H',L',rfl,h1,h2,h3,h4⟩:=hq
 cases ex with
 |normal=>
  refine qmd (h4 a' w' L' { c0 with mode:=u' } cs rfl h3 h2) ?_;rintro ex a2 cs2 w2 ⟨u2,e2,H2,L2,rfl,g1,g2,g3,g4⟩
  exact⟨u2,e2,H2,L2,rfl,h1.trans g1,g2,g3,g4⟩
 |exit id=>exact⟨u',e',H',L',rfl,h1,h2,h3,h4⟩
 |goto id=>exact⟨u',e',H',L',rfl,h1,h2,h3,h4⟩
 |ret=>exact⟨u',e',H',L',rfl,h1,h2,h3,h4⟩
 |panic ch=>exact⟨u',e',H',L',rfl,h1,h2,h3,h4⟩
 |outgrown=>exact⟨u',e',H',L',rfl,h1,h2,h3,h4⟩
def qil:FrameMode->Value×FrameMode
 |.panicking ({ v,recovered:=false,goexit:=false }::older)=>(v,.panicking ({ v,recovered:=true }::older))
 |u=>(.nilIface,u)
theorem qn6{g:Option (Nat×Bool)}(w:World) :
  (execOp ρ ⟨dst,.call { callee:=.builtin .recover,args:=#[],argTypes:=#[] },ty,pos,aft,g⟩).run P w=.ok .recover w:=by
 rfl
theorem qnS(c0:Frame)(cs:List Frame):recoverD (c0::cs)=none/\qil c0.mode=(.nilIface,c0.mode)∨recoverD (c0::cs)=some ((qil c0.mode).1,{ c0 with mode:=(qil c0.mode).2 }::cs):=by
 obtain⟨fn,tmps,todo,defers,mode,kind,ro⟩:=c0
 cases mode with
 |run=>exact .inl ⟨rfl,rfl⟩
 |returning=>exact .inl ⟨rfl,rfl⟩
 |panicking ch=>
  cases ch with
  |nil=>exact .inl ⟨rfl,rfl⟩
  |cons p older=>
   obtain⟨v,r,g⟩:=p;cases r <;> cases g <;> first|exact .inl ⟨rfl,rfl⟩|exact .inr rfl
theorem qdz.recover{id t s:Nat}{ty ty':TypeId}{pos pos':String}{aft aft':Array Edge}(ht:Nat.blt t n=true)(hs:Nat.blt s n=true)(h:Q .normal (qil u).2 ((e.upd t (.atom (qil u).1)).upd s (.atom (qil u).1)) H) :
  qdz C n (.region id #[⟨some t,.call { callee:=.builtin .recover,args:=#[],argTypes:=#[] },ty,pos,aft,none⟩,⟨some s,.assign (.tmp t),ty',pos',aft',none⟩] false) Q u e H:=λa w L c0 cs hu hE hH=>by
 refine wpS_region ?_;have hE1:∀ v,RelE n (a.put (some t) v) (e.upd t (.atom v)) w L:=λv=>hE.put (dst:=some t) (by simp only[qc8,dstB];exact ht) qai
 have hev:∀ v,(a.put (some t) v).eval (.tmp t)=v:=λv=>by
  have:=(hE1 v).ev (.tmp t);simpa [Env.ev,Env.upd,Rep] using this
 have hE2:∀ v,RelE n ((a.put (some t) v).put (some s) v) ((e.upd t (.atom v)).upd s (.atom v)) w L:=λv=>(hE1 v).put (dst:=some s) (by simp only[qc8,dstB];exact hs) qai
 have h1:∀ v cs1,wpOpsS C.P #[⟨some t,.call { callee:=.builtin .recover,args:=#[],argTypes:=#[] },ty,pos,aft,none⟩,⟨some s,.assign (.tmp t),ty',pos',aft',none⟩] (λx a' cs' w'=>∃ u' e' H' L',cs'={ c0 with mode:=u' }::cs/\Fr (keys H) w L w' L' H'/\RelH C w' L' H'/\RelX n x a' e' w' L'/\Q x u' e' H') [1] (a.put (some t) v) cs1 w
   ↔ (λx a' cs' w'=>∃ u' e' H' L',cs'={ c0 with mode:=u' }::cs/\Fr (keys H) w L w' L' H'/\RelH C w' L' H'/\RelX n x a' e' w' L'/\Q x u' e' H') Exit.normal ((a.put (some t) v).put (some s) v) cs1 w:=by
  intro v cs1;have hr:(execOp (a.put (some t) v).eval ⟨some s,.assign (.tmp t),ty',pos',aft',none⟩).run C.P w=.ok (.value ((a.put (some t) v).eval (.tmp t))) w:=rfl;simp only[wpOpsS,List.getElem?_toArray,zRk,zRj,Region.wanted,if_true,hr,Oper.upon,hev]
 have h0:(execOp a.eval ⟨some t,.call { callee:=.builtin .recover,args:=#[],argTypes:=#[] },ty,pos,aft,none⟩).run C.P w=.ok .recover w:=qn6 w;have hl:List.range (#[(⟨some t,.call { callee:=.builtin .recover,args:=#[],argTypes:=#[] },ty,pos,aft,none⟩:Oper),⟨some s,.assign (.tmp t),ty',pos',aft',none⟩]:Array Oper).size=[0,1]:=rfl;rw[hl,wpOpsS];simp only[List.getElem?_toArray,zRj,Region.wanted,if_true,h0];rcases qnS c0 cs with⟨h2,h3⟩|h2;simp only[h2];rw[h1];subst hu;rw[h3] at h;exact⟨c0.mode,_,H,L,rfl,Fr.refl _ _ _,hH,hE2 _,h⟩;simp only[h2];rw[h1];subst hu;exact⟨_,_,H,L,rfl,Fr.refl _ _ _,hH,hE2 _,h⟩
def quf(R:FrameMode->Heap->Prop):qmY
 |.normal,u,e,H|.ret,u,e,H=>e.ds=[]/\∃ H',HSub H' H/\R u H'
 |_,_,_,_=>False
theorem qa9.intro{fn:Func}{R:FrameMode->Heap->Prop}(hf:C.P.funcs[f]? = some fn)(hb:fn.body=some c)(hn:fn.ntmps=n)(h3:fn.results=#[])
  (hl:Nat.ble args.length n=true) (h:qdz C n c (quf R) u (qfy args) H):qa9 C f args u H R:=λvs w L hv hH=>by
 subst hn;have hl':args.length<=fn.ntmps:=by simpa using hl
 have hlen:=hv.length
 have hE0:RelE fn.ntmps { tmps:=vs.toArray++Array.replicate (fn.ntmps-vs.toArray.size) undef,defers:=[] } (qfy args) w L:=by
  refine⟨?_,rfl,λi=>?_⟩
  simp;omega
  exact zT0
 refine callsD_of_wpS hf hb λc0 cs hu=>qmd (h _ w L c0 cs hu hE0 hH) λex a' cs' w' hq=>?_;obtain⟨u',e',H',L',rfl,g1,g2,g3,g4⟩:=hq
 have fin:RelE fn.ntmps a' e' w' L'->(e'.ds=[]/\∃ H'',HSub H'' H'/\R u' H'')->a'.defers=[]/\∃ u'',({ c0 with mode:=u' }::cs:List Frame)={ c0 with mode:=u'' }::cs/\∃ v,(results fn a'.tmps).run C.P w'=.ok v w'/\(∃ v',Ending.returned v=.returned v')/\qfh C w L H w' (R u''):=λhE ⟨h1,H'',h2,h4⟩=>
  ⟨hE.ds.trans h1,u',rfl,_,qph h3 _ _,⟨_,rfl⟩,H'',L',g1.weak h2,g2.weak h2,h4⟩
 cases ex with
 |normal=>exact fin g3 g4
 |ret=>exact fin g3 g4
 |panic ch=>exact g4.elim
 |exit id=>exact g4.elim
 |goto id=>exact g4.elim
 |outgrown=>exact g4.elim
end S
section defer
variable{C:Ctx}{n:Nat}{ops:Array Oper}{Q:Post}{e:Env}{H:Heap}
theorem qbX.defer{dst:Option Nat}{fo:Operand}{f:FuncId}{caps:Array Value}{ty:TypeId}{pos:String}{aft:Array Edge}{rest:List Oper}(hf:e.ev fo=.atom (.func (.func f) #[] caps))(hd:dst=none)
  (k:qbX C n ops Q rest ⟨e.s,{ target:=.fn (.func f) caps,args:=#[] }::e.ds⟩ H):qbX C n ops Q (⟨dst,.defer { callee:=.value fo,args:=#[],argTypes:=#[] },ty,pos,aft,none⟩::rest) e H:=λa w L hE hH=>by
 subst hd;have hv:=hE.ev fo;rw[hf] at hv;simp only[Rep] at hv
 have hr:(execOp a.eval ⟨none,.defer { callee:=.value fo,args:=#[],argTypes:=#[] },ty,pos,aft,none⟩).run C.P w=.ok (.defer { target:=.fn (.func f) caps,args:=#[] }) w:=by
  have h3:execOp a.eval ⟨none,.defer { callee:=.value fo,args:=#[],argTypes:=#[] },ty,pos,aft,none⟩=(do let d <-Deferred.ofValue (a.eval fo) ((#[]:Array Operand).map a.eval);Pure.pure (.defer d)):=rfl;rw[h3,hv];simp only[Deferred.ofValue,map_toArray,map_nil];rfl
 unfold wpList;rw[zp (by simp[Region.wanted])];refine .inl ?_;unfold Oper.wp;rw[hr];simp only[Oper.upon,Act.put];exact k _ w L ⟨hE.size,by show _::a.defers=_;rw[hE.ds],hE.vals⟩ hH
end defer
section
variable{C:Ctx}{e:Env}{H:Heap}{dst:Option Nat}{ty:TypeId}{pos:String}{aft:Array Edge}{g:Option (Nat×Bool)}{K:LV->Heap->Prop}{X:List PanicEntry->Heap->Prop}{x y:Operand}
theorem qjK{t:Nat} [h:TSlice P t el s](a:Option Addr)(n m:Nat)(w:World):(Op.equal t (.slice a n m) (.slice none 0 0)).run P w=.ok a.isNone w:=by
 rw[qij,Op.equalIn]
 try cases a <;> simp only[zRt,qaa h.und,zRv,zRu] <;> rfl
theorem S.sliceNil{t yT:Nat} [ht:TSlice C.P t el s](hx:elems (e.ev x)=some es)(hk:∀ b,(b=true->es=[])->K (bool b) H):qae C ⟨dst,.binOp .eql t x (.const (.slice none 0 0)) yT,ty,pos,aft,g⟩ e H K X:=λρ w L h hH=>by
 obtain⟨a,cap,hv,hc,hr⟩:=(h x).elems hx;have h2:=qag h (x:=.const (.slice none 0 0)) rfl;have he:eqGuard .eql t x (.const (.slice none 0 0)) (.slice a es.length cap) (.slice none 0 0)=Pure.pure ():=by simp[eqGuard]
 have hb:binOp .eql t (.slice a es.length cap) (.slice none 0 0)=(do Pure.pure (.bool (<-Op.equal t (.slice a es.length cap) (.slice none 0 0)))):=rfl
 have hrun:(execOp ρ ⟨dst,.binOp .eql t x (.const (.slice none 0 0)) yT,ty,pos,aft,g⟩).run C.P w=.ok (.value (.bool a.isNone)) w:=by
  simp only[execOp,hv,h2,he,hb,zRt,zRu,zRv,qjK]
 rw[hrun];refine⟨bool a.isNone,H,L,Fr.refl _ _ _,hH,qai,hk _ λhn=>?_⟩
 cases a with
 |some a=>cases hn
 |none=>
  cases es with
  |nil=>rfl
  |cons v es=>
   obtain⟨b,off,k,h3,_⟩:=hr (by simp);cases h3
theorem Pure.rowCap{t:Nat} [TSlice C.P t el s]{a:Option Addr}{m:Nat}(hx:e.ev x=.atom (.slice a m cap)):Pure C ⟨dst,.call { callee:=.builtin .cap,args:=#[x],argTypes:=#[t] },ty,pos,aft,g⟩ e H (int .i64 cap):=
 .of_any λρ _ _ h=>⟨_,qai,λw'=>by
  have hu:=qaa (P:=C.P) (TSlice.und (t:=t)) w';have h0:∀ (cs:Array Bool) (args:Array Value),builtin .cap #[t] ty cs args=(do Pure.pure (.value (<-Builtin.cap_ #[t] ty args))):=λ_ _=>rfl;rw[qax,h0]
  simp[Builtin.cap_,hu,goInt,qag h hx]⟩
theorem Pure.rowSlice{t:Nat} [ht:TSlice C.P t el s]{a:Option Addr}{m:Nat}{hi:Operand}{k:IntKind}(hx:e.ev x=.atom (.slice a m cap))(hh:e.ev hi=int k n)(hn:n<=cap) :
  Pure C ⟨dst,.slice t x none (some hi) none,ty,pos,aft,g⟩ e H (.atom (.slice a n cap)):=.of_any λρ w L h=>by
 obtain⟨ti,hti,hsz⟩:=ht.size;refine⟨_,qai,λw'=>?_⟩;have hb:=qd3 (P:=C.P) (w':=w') (len:=m) (cap:=cap) (lo:=none) (hi:=some hi) (i:=0) (j:=n) h true rfl ⟨k,hh⟩ zo zo zo;have h3:execOp ρ ⟨dst,.slice t x none (some hi) none,ty,pos,aft,g⟩=(do Pure.pure (.value (<-Instr.sliceAt t (ρ x) none (some (ρ hi)) none))):=rfl;rw[h3,qag h hx];simp only[Option.map_none,map_some] at hb;simp only[Instr.sliceAt,Instr.slice,zRt,qaa (P:=C.P) ht.und w',zRv,zRu,hb,qbG hti,hsz]
 have ha:∀ a:Addr,a.add 0=a:=λa=>by
  obtain⟨b,o,sp⟩:=a;unfold Addr.add;cases sp <;> simp
 simp[ha]
theorem S.appZeros{sT xT:Nat} [ht:TSlice C.P sT el 1] [hr:TRow C.P el 1 bytes] [hz:TZero C.P el [zv]] [hk0:TKind C.P xT .i64](hx:e.ev x=qab)(hy:e.ev y=int .i64 n)(hn:0<n)(hroom:n * bytes<=140737488355328)
  (hk:∀ b cap,n<=cap->K (.atom (.slice (some ⟨b,0,none⟩) n cap)) ((b,.cells el (List.replicate cap (.atom zv)))::H)) :
  qae C ⟨dst,.call { callee:=.builtin .append,args:=#[x,y],argTypes:=#[sT,xT] },ty,pos,aft,g⟩ e H K X:=by
 refine qae.at0 λρ w L h hH=>?_;have h0:∀ (cs:Array Bool) (args:Array Value),builtin .append #[sT,xT] ty cs args=(do Pure.pure (.value (<-Builtin.append_ #[sT,xT] ty args))):=λ_ _=>rfl;obtain⟨i,z,hi,hs,hb,hb0,hzz,hzs⟩:=hr.out;obtain⟨i',z',hi',hz',hc',hs'⟩:=hz.out;rw[hi] at hi';obtain rfl:=Option.some.inj hi';rw[hzz] at hz';obtain rfl:=Option.some.inj hz';have hmul:n<=n * bytes:=Nat.le_mul_of_pos_right _ hb0;have wn:IntKind.i64.wrap (n:Int)=n:=qeo zo;have n1:¬ ((n:Int)<0):=by omega
 have n2:¬ ((281474976710656:Int)<(n:Int) * (i.bytes:Int)):=by
  rw[hb];have:((n * bytes:Nat):Int)<=140737488355328:=by omega
  rw[Int.natCast_mul] at this;omega
 have h63':¬ (9223372036854775807<(n:Int)):=by omega
 have hfit:=growslice_fits (bytes:=bytes) (need:=n) (old:=0) hn hroom
 have h48':¬ (281474976710656<Builtin.nextslicecap n 0 * i.bytes):=by
  rw[hb];omega
 have hn0:¬ n=0:=by omega
 have hz1:∀ m,(Builtin.zeroCells #[zv] m)=(List.replicate m zv).toArray:=λm=>by
  unfold Builtin.zeroCells;apply Array.ext
  simp
  intro j h1 h2;simp[Nat.mod_one]
 have hcap:n<=grownCap w n 0 el:=by simp[grownCap,Question.cut]
 have hrun:(Builtin.append_ #[sT,xT] ty #[.slice none 0 0,.int .i64 n]).run C.P w=.ok (.slice (some ⟨w.heap.size,0,none⟩) n (grownCap w n 0 el)) (World.push w.drew (.cells (List.replicate (grownCap w n 0 el) zv).toArray el)):=by
  simp[Builtin.append_,qaa ht.und,qaa hk0.und,sizeOf,typeInfo,zeroValue,hi,hs,hzz,hc',asInt,asIntOf,wn,n1,n2,hn0,h63',h48',Question.forced,newRow,grownCap,Builtin.firstCells,hz1];show World.push w.drew _=World.push w.drew _;congr 2;apply Array.ext';have:=hcap;unfold grownCap at this;congr 2;omega
 rw[qax,h0];simp only[map_toArray,zMc,map_nil,zRt,qag h hx,qag h hy,hrun,zRv,zRu];have hHd:=hH.drew
 have hrep:RepL w.drew L (List.replicate (grownCap w n 0 el) (.atom zv)) (List.replicate (grownCap w n 0 el) zv):=by
  have:=qa1 (w:=w.drew) (L:=L) (List.replicate (grownCap w n 0 el) zv)
  rwa [List.map_replicate] at this
 have hx':=qep hHd.wf (.cells (List.replicate (grownCap w n 0 el) zv).toArray el) 0
 have:=qew hHd (.cells (List.replicate (grownCap w n 0 el) zv).toArray el) 0 [(w.heap.size,.cells el (List.replicate (grownCap w n 0 el) (.atom zv)))] (λp hp=>by
  simp only[mem_singleton] at hp;subst hp
  exact⟨rfl,by simp[Live.upd],List.replicate (grownCap w n 0 el) zv,qaD,hrep.mono hx' _ _⟩) (by simp)
 exact⟨_,_,_,this.1.of_drew,this.2,qai,hk _ _ hcap⟩
end
section opened
variable{C:Ctx}{n:Nat}{Q:Post}{e:Env}{H F:Heap}
theorem quk(hp:Pick (b,.cells el cs) H F)(hH:RelH C w L H)(hl:∀ k cap,cap * k<=cs.length->∃ e s,w.shape? b=some (e,s)/\cap * k<=s):RelH C w L ((b,.row 0)::F):=by
 have hH1:=hH.perm hp;obtain⟨hb0,hbs,hlb,xs,hx1,hx2⟩:=hH1.objs _ mem_cons_self;simp only at hb0 hbs hlb hx1 hx2;refine⟨hH1.base,hH1.lbase,hH1.b0,hH1.wf,hH1.nodup,λp hp'=>?_⟩;rcases zMi.1 hp' with rfl|hp';exact⟨hb0,hbs,hlb,_,_,_,hx1,zero_le _,zero_le _⟩;exact hH1.objs p (zMo _ hp')
theorem qoD(hp:Pick (b,.cells el cs) H F)(hH:RelH C w L H):w.shape? b=some (el,cs.length):=by
 have hH1:=hH.perm hp;obtain⟨hb0,hbs,hlb,xs,hx1,hx2⟩:=hH1.objs _ mem_cons_self;simp only at hx1;simp only[World.shape?,hx1];rw[List.size_toArray,hx2.length]
theorem LOps.rowOpen{ops:Array Oper}(d k:Nat)(hp:Pick (b,.cells el cs) H F)(hd:e.s d=.atom (.slice (some ⟨b,0,none⟩) 0 cap))(hc:cap * k<=cs.length)(h:LOps C n ops Q rest (e.upd d (.app b cap k [])) ((b,.row 0)::F)):LOps C n ops Q rest e H:=λa w L hE hH=>by
 have hs:=qoD hp hH
 have hk:∀ x,x∈keys ((b,LObj.row 0)::F)->x∈keys H:=λx hx=>by
  have:=((hp.map (·.1)).mem_iff (a:=x)).2 (by simpa using hx);exact this
 refine qbD (λ_ _ _=>qfY hk) _ _ _ (h a w L ⟨hE.size,hE.ds,λi=>?_⟩ (quk hp hH λk2 cap2 h2=>⟨_,_,hs,h2⟩));have hv:=hE.vals i;simp only[Env.upd]
 cases hb:Nat.beq i d with
 |false=>exact hv
 |true=>
  have hi:=Nat.eq_of_beq_eq_true hb;subst hi;rw[hd] at hv;simp only[Rep] at hv;rw[hv];show Rep w L (.app b cap k []) _;simp only[Rep];refine⟨rfl,zero_le _,?_,_,_,hs,hc⟩;simp only[qaj]
end opened
section
variable{C:Ctx}{e:Env}{H:Heap}{dst:Option Nat}{ty:TypeId}{pos:String}{aft:Array Edge}{g:Option (Nat×Bool)}{K:LV->Heap->Prop}{X:List PanicEntry->Heap->Prop}{x y z:Operand}{k:IntKind}
theorem quq(a b:Nat):(if (a:Int)<(b:Int) then (b:Int) else (a:Int))=((max a b:Nat):Int):=by
 split <;> omega
theorem Pure.max2{a b:Nat}(hx:e.ev x=int k (a:Int))(hy:e.ev y=int k (b:Int)){t u:TypeId}:Pure C ⟨dst,.call { callee:=.builtin .max,args:=#[x,y],argTypes:=#[t,u] },ty,pos,aft,g⟩ e H (int k ((max a b:Nat):Int)):=
 .of_any λρ _ _ h=>⟨_,qai,λw'=>by
  have h0:∀ (cs:Array Bool) (args:Array Value),builtin .max #[t,u] ty cs args=(do Pure.pure (.value (<-Builtin.max_ #[t,u] ty args))):=λ_ _=>rfl;rw[qax,h0];have:=quq a b;simp[Builtin.max_,Builtin.max2,qag h hx,qag h hy]
  split <;> omega⟩
theorem Pure.max3{a c:Nat}(hx:e.ev x=int k (a:Int))(hy:e.ev y=int k (b:Int))(hz:e.ev z=int k (c:Int)){v:TypeId}:Pure C ⟨dst,.call { callee:=.builtin .max,args:=#[x,y,z],argTypes:=#[t,u,v] },ty,pos,aft,g⟩ e H (int k ((max (max a b) c:Nat):Int)):=
 .of_any λρ _ _ h=>⟨_,qai,λw'=>by
  have h0:∀ (cs:Array Bool) (args:Array Value),builtin .max #[t,u,v] ty cs args=(do Pure.pure (.value (<-Builtin.max_ #[t,u,v] ty args))):=λ_ _=>rfl;rw[qax,h0];simp[Builtin.max_,Builtin.max2,qag h hx,qag h hy,qag h hz]
  repeat' split
  all_goals omega⟩
theorem Pure.max2e{A B:Int}(a b:Nat)(hx:e.ev x=int k A)(hy:e.ev y=int k B)(ha:A=(a:Int))(hb:B=(b:Int)):Pure C ⟨dst,.call { callee:=.builtin .max,args:=#[x,y],argTypes:=#[t,u] },ty,pos,aft,g⟩ e H (int k ((max a b:Nat):Int)):=by
 subst ha hb;exact Pure.max2 hx hy
theorem Pure.max3e{A B D:Int}(a b d:Nat)(hx:e.ev x=int k A)(hy:e.ev y=int k B)(hz:e.ev z=int k D)(ha:A=(a:Int))(hb:B=(b:Int))(hd:D=(d:Int)){v:TypeId}:Pure C ⟨dst,.call { callee:=.builtin .max,args:=#[x,y,z],argTypes:=#[t,u,v] },ty,pos,aft,g⟩ e H (int k ((max (max a b) d:Nat):Int)):=by
 subst ha hb hd;exact Pure.max3 hx hy hz
theorem Pure.eqlT{b:Int}(h:a=b)(hx:e.ev x=int k a)(hy:e.ev y=int k b):Pure C ⟨dst,.binOp .eql xT x y yT,ty,pos,aft,g⟩ e H (bool true):=by
 have:=Pure.eql (C:=C) (H:=H) (dst:=dst) (ty:=ty) (pos:=pos) (aft:=aft) (g:=g) (xT:=xT) (yT:=yT) hx hy
 rwa [zRp h] at this
theorem Pure.eqlF{b:Int}(h:¬ a=b)(hx:e.ev x=int k a)(hy:e.ev y=int k b):Pure C ⟨dst,.binOp .eql xT x y yT,ty,pos,aft,g⟩ e H (bool false):=by
 have:=Pure.eql (C:=C) (H:=H) (dst:=dst) (ty:=ty) (pos:=pos) (aft:=aft) (g:=g) (xT:=xT) (yT:=yT) hx hy
 rwa [decide_eq_false h] at this
def qdO(m:KV)(l:List (List UInt8)):Prop:=∀ k,kvGet m k=if k∈l then some (bool true) else none
theorem qdO.nil:qdO [] []:=λk=>by simp[kvGet]
theorem qdO.add{l:List (List UInt8)}(h:qdO m l)(s:List UInt8):qdO (kvPut m s (bool true)) (l++[s]):=λk=>by
 rw[kvGet_put,h k]
 by_cases h1:s=k
 rw[zp h1,zp (by rw[h1];simp)];rw[zn h1]
 by_cases h2:k∈l
 rw[zp h2,zp (List.mem_append_left _ h2)]
 rw[zn h2,zn (by
  intro h3;rcases zRd h3 with h3|h3;exact h2 h3
  exact h1 (zRa h3).symm)]
theorem Pure.setHas{el:TypeId} [h:TMap C.P t el zv (bool false)]{l:List (List UInt8)}{s:List UInt8}(hm:e.ev x=.atom (.map (some b)))(hx:e.ev y=str s)(hb:(b,.map (kvs m) clock)∈H)(hs:qdO m l) :
  Pure C ⟨dst,.lookup t x y false,ty,pos,aft,g⟩ e H (bool (decide (s∈l))):=by
 by_cases h1:s∈l
 rw[zRp h1];exact Pure.kvHit hm hx hb (by rw[hs s,zp h1]);rw[decide_eq_false h1];exact Pure.kvMiss hm hx hb (by rw[hs s,zn h1])
end
inductive MRow (el:TypeId) (s:Nat):Value->List LV->Heap->Prop
 |nil:MRow el s (.slice none 0 0) [] []
 |row {b cap:Nat} {es spare:List LV} (hs:∀ v∈es,v.cells.length=s) (hc:es.length<=cap) (hl:es.length * s+spare.length=cap * s) :
   MRow el s (.slice (some ⟨b,0,none⟩) es.length cap) es [(b,.cells el (es.flatMap LV.cells++spare))]
section
variable{C:Ctx}{e:Env}{H:Heap}{x y:Operand}{dst:Option Nat}{ty:TypeId}{pos:String}{aft:Array Edge}{g:Option (Nat×Bool)}{K:LV->Heap->Prop}{X:List PanicEntry->Heap->Prop}
theorem qnA(hH:RelH C w L []){es:List LV}{xs rest:List Value}(hr:RepL w L (es.flatMap LV.cells) xs)(hs:∀ v∈es,v.cells.length=s)(hc:es.length<=cap)(hl:es.length * s+rest.length=cap * s)
  (hk:∀ v' H',MRow el s v' es H'->K (.atom v') H') :
  Left C w L [] (World.push w (.cells (xs++rest).toArray el)) (.slice (some ⟨w.heap.size,0,none⟩) es.length cap) K:=by
 have hx:=qep hH.wf (.cells (xs++rest).toArray el) 0
 have:=qew hH (.cells (xs++rest).toArray el) 0 [(w.heap.size,.cells el (es.flatMap LV.cells++rest.map .atom))] (λp hp=>by
  simp only[mem_singleton] at hp;subst hp
  exact⟨rfl,by simp[Live.upd],xs++rest,qaD,RepL.append (hr.mono hx _ _) (qa1 rest)⟩) (by simp)
 exact⟨.atom _,_,_,this.1,this.2,qai,hk _ _ (MRow.row hs hc (by simpa using hl))⟩
theorem qae.appM{sT xT:Nat} [ht:TSlice C.P sT el s] [hr:TRow C.P el s bytes]{e2 s2:Nat} [hx2:TSlice C.P xT e2 s2]{v:Value}{ms:List LV}
  (hx:e.ev x=.atom v) (ha:MRow el s v es H) (hy:GL.elems (e.ev y)=some ms) (hms:∀ v∈ms,v.cells.length=s) (hok:(ms.flatMap LV.cells).all qcP=true) (hroom:(es.length+ms.length) * bytes<=140737488355328)
  (hk:∀ v' H',MRow el s v' (es++ms) H'->K (.atom v') H'):qae C ⟨dst,.call { callee:=.builtin .append,args:=#[x,y],argTypes:=#[sT,xT] },ty,pos,aft,g⟩ e H K X:=by
 have h0:∀ (cs:Array Bool) (args:Array Value),builtin .append #[sT,xT] ty cs args=(do Pure.pure (.value (<-Builtin.append_ #[sT,xT] ty args))):=λ_ _=>rfl
 cases ha with
 |nil=>
  by_cases hne:ms=[]
  subst hne;exact qae.appendNilNil rfl ⟨e2,hx2.und⟩ hx hy (hk _ _ MRow.nil);intro ρ w L h hH;have hpos:0<ms.length:=List.length_pos_iff.2 hne;obtain⟨ay,cy,new,hyv,hyc,hyr,hyl,hyf⟩:=qcJ (s:=s) (h y) hy hms;rw[hyv] at hyf;have hlen:∀ w':World,(Builtin.lenOf (.slice ay ms.length cy)).run C.P w'=.ok ms.length w':=λw'=>by simp[Builtin.lenOf]
  obtain⟨cap',rest,r1,r2,r3⟩:=qby (ty:=ty) (P:=C.P) (w:=w) (sT:=sT) (xT:=xT) (a:=none) (len:=0) (cap:=0) (n:=ms.length) (xv:=.slice ay ms.length cy) (old:=[]) (new:=new) (.inr ⟨_,hx2.und⟩) hlen (λw' hw=>hyf C.P w' hw)
   (λw' _=>by simp[Builtin.firstCells]) (by simpa using hroom) zo
  rw[qax,h0];simp only[map_toArray,zMc,map_nil,zRt,qag h hx,hyv,r3,zRv,zRu,nil_append,zero_add]
  obtain⟨lv,H',L',g1,g2,g3,g4⟩:=qnA (K:=K) (el:=el) (es:=ms) (cap:=cap') (xs:=new) (rest:=rest) hH.drew (hyr.mono (qef w L) _ _) hms zo (by
   rw[r2,<-add_mul];congr 1;omega) (λv' H' h'=>hk v' H' h')
  exact⟨lv,H',L',g1.of_drew,g2,g3,g4⟩
 |row hs hc hl=>
  rename_i b cap spare
  intro ρ w L h hH;obtain⟨hb0,hbs,hlb,zs,hz1,hz2⟩:=hH.objs _ (zRb rfl);simp only at hb0 hbs hlb hz1;obtain⟨ay,cy,new,hyv,hyc,hyr,hyl,hyf⟩:=qcJ (s:=s) (h y) hy hms;rw[hyv] at hyf;have hlen:∀ w':World,(Builtin.lenOf (.slice ay ms.length cy)).run C.P w'=.ok ms.length w':=λw'=>by simp[Builtin.lenOf]
  have hfl:(es.flatMap LV.cells).length=es.length * s:=qdc hs;have hzl:zs.length=es.length * s+spare.length:=by rw[hz2.length,zLa,hfl]
  have hzt:RepL w L (es.flatMap LV.cells) (zs.take (es.length * s)):=by
   have:=hz2.take (es.length * s)
   rwa [List.take_left' hfl] at this
  rw[qax,h0];simp only[map_toArray,zMc,map_nil,zRt,qag h hx,hyv]
  by_cases hcc:es.length+ms.length<=cap
  have hrun:=qdD (ty:=ty) (P:=C.P) (w:=w) (sT:=sT) (xT:=xT) (s:=s) (a:=some ⟨b,0,none⟩) (len:=es.length) (cap:=cap) (n:=ms.length) (xv:=.slice ay ms.length cy) (new:=new) (.inr ⟨_,hx2.und⟩) hlen (λw' hw=>hyf C.P w' hw) hcc;have hmul:(es.length+ms.length) * s<=cap * s:=Nat.mul_le_mul_right _ hcc;rw[add_mul] at hmul;obtain⟨w',r1,r2,r3,r4,r5,r6,r7⟩:=qcd (P:=C.P) (b:=b) (off:=0+es.length * s) (t:=el) (fr:=(0,0)) new 0 w zs hz1 zo (λj _ _=>by simp) (qiY hyr hok);rw[hrun];simp only[add_mk,r1,zRv,zRu];have he:0+es.length * s+0=es.length * s:=by omega
  rw[he] at r7;have hnl:new.length=ms.length * s:=hyl
  have hdr:RepL w L (spare.drop (ms.length * s)) (zs.drop (es.length * s+new.length)):=by
   have:=hz2.drop (es.length * s+new.length)
   rwa [List.drop_append,List.drop_eq_nil_of_le zo,nil_append,hfl,show es.length * s+new.length-es.length * s=ms.length * s by omega] at this
  refine qeQ (v:=.slice (some ⟨b,0,none⟩) (es.length+ms.length) cap) (lv:=.atom (.slice (some ⟨b,0,none⟩) (es.length+ms.length) cap)) (K:=K) (cs':=es.flatMap LV.cells++ms.flatMap LV.cells++spare.drop (ms.length * s)) hH r2 r3 r4 r5 r6 r7 ?_ (RepL.append (RepL.append hzt hyr) hdr) qai ?_;simp only[zLa,length_take,length_drop,hfl];omega
  have hb:MRow el s (.slice (some ⟨b,0,none⟩) (es++ms).length cap) (es++ms) [(b,.cells el ((es++ms).flatMap LV.cells++spare.drop (ms.length * s)))]:=MRow.row (λv hv=>by
    rcases zRd hv with hv|hv;exact hs v hv;exact hms v hv) (by rw[zLa];exact hcc) (by
    rw[zLa,length_drop,add_mul]
    omega)
  rw[zLa,List.flatMap_append] at hb;exact hk _ _ hb
  have hold:∀ w':World,w'.heap=w.heap->(Builtin.firstCells s es.length (.slice (some ⟨b,0,none⟩) es.length cap)).run C.P w'=.ok (zs.take (es.length * s)).toArray w':=λw' hw=>by
   have:=qbA (P:=C.P) (w:=w') (b:=b) (off:=0) (es.length * s) 0 #[] (zs.take (es.length * s)) (by rw[length_take];omega) (λj x' hj=>by
    have hj':zs[j]? = some x':=by
     rw[List.getElem?_take] at hj;split at hj;exact hj;cases hj
    simp[World.cell?,hw,hz1,hj'])
   simp only[Builtin.firstCells,loadCells,this]
   simp
  obtain⟨cap',rest,r1,r2,r3⟩:=qby (ty:=ty) (P:=C.P) (w:=w) (sT:=sT) (xT:=xT) (a:=some ⟨b,0,none⟩) (len:=es.length) (cap:=cap) (n:=ms.length) (xv:=.slice ay ms.length cy) (old:=zs.take (es.length * s)) (new:=new) (.inr ⟨_,hx2.und⟩) hlen (λw' hw=>hyf C.P w' hw) hold hroom zo;rw[r3];simp only[zRv,zRu];have hH0:RelH C w L []:=hH.sub (List.nil_sublist _)
  obtain⟨lv,H',L',g1,g2,g3,g4⟩:=qnA (K:=K) (el:=el) (s:=s) (es:=es++ms) (cap:=cap') (xs:=zs.take (es.length * s)++new) (rest:=rest) hH0.drew (by
    rw[List.flatMap_append];exact(RepL.append hzt hyr).mono (qef w L) _ _) (λv hv=>by
    rcases zRd hv with hv|hv;exact hs v hv;exact hms v hv) (by rw[zLa];omega) (by
    rw[r2,zLa,<-add_mul];congr 1;omega) (λv' H' h'=>hk v' H' h')
  rw[zLa] at g3;exact⟨lv,H',L',g1.of_drew.wide (by simp),g2,g3,g4⟩
theorem S.appM{sT xT el s bytes:Nat} [ht:TSlice C.P sT el s] [hr:TRow C.P el s bytes]{e2 s2:Nat} [hx2:TSlice C.P xT e2 s2]{v:Value}{es ms:List LV}{HM F:Heap}
  (hx:e.ev x=.atom v) (hp:H.Perm (HM++F)) (ha:MRow el s v es HM) (hy:GL.elems (e.ev y)=some ms) (hms:∀ v∈ms,v.cells.length=s) (hok:(ms.flatMap LV.cells).all qcP=true) (hroom:(es.length+ms.length) * bytes<=140737488355328)
  (hk:∀ v' H',MRow el s v' (es++ms) H'->K (.atom v') (F++H')):qae C ⟨dst,.call { callee:=.builtin .append,args:=#[x,y],argTypes:=#[sT,xT] },ty,pos,aft,g⟩ e H K X:=by
 refine qae.conseq (K:=λlv H'=>∃ v' H2,lv=.atom v'/\H'=H2++F/\MRow el s v' (es++ms) H2) (qae.frame hp (qae.appM hx ha hy hms hok hroom λv' H' h=>⟨v',H',rfl,rfl,h⟩)) ?_;rintro lv H' ⟨v',H2,rfl,rfl,h⟩;exact⟨_,F++H2,vR _,⟨[],by simpa using zPc⟩,hk _ _ h⟩
theorem Pure.mlen{t el2 s2:Nat} [TSlice C.P t el2 s2]{Hv:Heap}(hx:e.ev x=.atom v)(ha:MRow el s v es Hv):Pure C ⟨dst,.call { callee:=.builtin .len,args:=#[x],argTypes:=#[t] },ty,pos,aft,g⟩ e H (int .i64 es.length):=by
 cases ha with
 |nil=>exact Pure.rowLen (m:=0) hx
 |row=>exact Pure.rowLen hx
end
theorem qtO(P:List LV):∀ (Q:List LV) (f:Nat) (vs:List LV),setL (P++Q) (P.length+f) vs=P++setL Q f vs:=by
 induction P with
 |nil=>intro Q f vs;simp
 |cons p P ih=>
  intro Q f vs;have:(p::P).length+f=(P.length+f)+1:=by simp only[zLc];omega
  rw[this];show setL (p::(P++Q)) (P.length+f+1) vs=_;rw[setL,ih]
  try rfl
section
variable{C:Ctx}{e:Env}{H:Heap}{x y:Operand}{dst:Option Nat}{ty:TypeId}{pos:String}{aft:Array Edge}{g:Option (Nat×Bool)}{K:LV->Heap->Prop}{X:List PanicEntry->Heap->Prop}
theorem MRow.addr{HM:Heap}(h:MRow el s v es HM)(hne:es≠[]):∃ b cap spare,v=.slice (some ⟨b,0,none⟩) es.length cap/\HM=[(b,.cells el (es.flatMap LV.cells++spare))]/\es.length<=cap/\es.length * s+spare.length=cap * s:=by
 cases h with
 |nil=>exact absurd rfl hne
 |row hs hc hl=>exact⟨_,_,_,rfl,rfl,hc,hl⟩
end
section settle
variable{C:Ctx}{n:Nat}{Q:Post}{e:Env}{H F:Heap}
end settle
section
variable{C:Ctx}{e:Env}{H:Heap}{x y:Operand}{dst:Option Nat}{ty:TypeId}{pos:String}{aft:Array Edge}{g:Option (Nat×Bool)}{K:LV->Heap->Prop}{X:List PanicEntry->Heap->Prop}
theorem Pure.indexRowE{t:Nat} [ht:TSlice C.P t el s]{off m o:Nat}{n:Int}{k:IntKind}(hx:e.ev x=.atom (.slice (some ⟨b,off,none⟩) m cap))(hy:e.ev y=int k n)(h0:0<=n)(hn:n<m)(ho:off+n.toNat * s=o) :
  Pure C ⟨dst,.indexAddr t x y,ty,pos,aft,g⟩ e H (ptr b o):=ho▸Pure.indexRow hx hy h0 hn
theorem Pure.lsliceE{t:Nat}{lo hi:Option Operand}{es ms:List LV} [ht:TSlice C.P t el s](hx:elems (e.ev x)=some es)
  (hlo:qeV e lo 0 i) (hhi:qeV e hi es.length j) (h0:0<=i) (h1:i<=j) (h2:j<=es.length) (hs:∀ v∈es,v.cells.length=s) (he:(es.take j.toNat).drop i.toNat=ms) :
  Pure C ⟨dst,.slice t x lo hi none,ty,pos,aft,g⟩ e H (.list ms):=he▸Pure.lslice hx hlo hhi h0 h1 h2 hs
end
theorem MRow.of_cells{m:Nat}{es spare:List LV}(hs:∀ v∈es,v.cells.length=1)(hf:es.flatMap LV.cells=es)(hm:es.length=m)(hc:m<=cap)(hl:m+spare.length=cap) :
  MRow el 1 (.slice (some ⟨b,0,none⟩) m cap) es [(b,.cells el (es++spare))]:=by
 subst hm;have:=MRow.row (el:=el) (s:=1) (b:=b) (cap:=cap) (es:=es) (spare:=spare) hs hc zo
 rwa [hf] at this
section
variable{C:Ctx}{n:Nat}{Q:Post}{e:Env}{H F:Heap}
end
section
variable{C:Ctx}{e:Env}{H:Heap}{dst:Option Nat}{ty:TypeId}{pos:String}{aft:Array Edge}{g:Option (Nat×Bool)}{K:LV->Heap->Prop}{X:List PanicEntry->Heap->Prop}{x y:Operand}
theorem qfu{k:IntKind}{n:Int}(hkt:P.underlying kt=some (.int kd))(b:Bool)(w:World):(Instr.checkKey b 10000 kt (.int k n)).run P w=.ok () w:=by
 have hck:Instr.checkKey b 10000 kt (.int k n)=Instr.checkKey b (9999+1) kt (.int k n):=rfl;rw[hck,Instr.checkKey];simp only[zRt,qaa hkt,zRv,zRu]
theorem S.insertK{el:TypeId}{k:IntKind}(ht:C.P.underlying t=some (.map kt el))(hkt:C.P.underlying kt=some (.int kd)){es es':Array MapEntry}{m:Operand}{n:Int}(hm:e.ev m=.atom (.map (some b)))(hx:e.ev x=int k n)(hz:e.ev z=.atom v)
  (hp:Pick (b,.obj (.map es clock)) H F) (hnew:Instr.findNow (.int kd) (.int k n) es.toList 0=some none) (he:es.push { key:=.int k n,val:=v,born:=clock }=es') (hk:K (.atom undef) ((b,.obj (.map es' (clock+1)))::F)):qae C ⟨dst,.insert t m x z,ty,pos,aft,g⟩ e H K X:=by
 subst he;refine qae.at1 hp λρ w L h hH=>?_;obtain⟨hb0,hbs,hl,hx1,hx2⟩:=hH.objs _ (zRb rfl);simp only at hb0 hbs hl hx1 hx2;have h3:execOp ρ ⟨dst,.insert t m x z,ty,pos,aft,g⟩=(do Instr.mapUpdate t (ρ m) (ρ x) (ρ z);Pure.pure .skip):=rfl
 have hf:(Instr.findKey kt (.int k n) es.toList).run C.P w=.ok none w:=by
  simp only[Instr.findKey,zRt,qaa hkt,zRv,hnew,zRu]
 have hc:=qfu (P:=C.P) (n:=n) (k:=k) hkt false w;have hg:(getObj b).run C.P w=.ok (.map es clock) w:=by simp only[getObj,Sem.run,hx1]
 rw[h3,qag h hm,qag h hx,qag h hz];simp only[Instr.mapUpdate,zRt,qaa ht,zRv,hg,hc,hf];have hs:(setObj b (.map (es.push { key:=.int k n,val:=v,born:=clock }) (clock+1))).run C.P w=.ok () (setW w b (.map (es.push { key:=.int k n,val:=v,born:=clock }) (clock+1))):=qeJ hx1 rfl;rw[hs];exact qhx (w':=setW w b (.map (es.push { key:=.int k n,val:=v,born:=clock }) (clock+1))) hH rfl rfl rfl rfl (by simp[setW]) (λc hc=>qdU hc) (qeF hbs) (λ_=>qai) hk
end
section
variable{C:Ctx}{e:Env}{H:Heap}{dst:Option Nat}{ty:TypeId}{pos:String}{aft:Array Edge}{g:Option (Nat×Bool)}{x y:Operand}
theorem Pure.lookupHit2{el:TypeId}{k:IntKind}(ht:C.P.underlying t=some (.map kt el))(hkt:C.P.underlying kt=some (.int kd)){j:Nat}{es:Array MapEntry}{n:Int}(hm:e.ev x=.atom (.map (some b)))(hx:e.ev y=int k n)
  (hb:(b,LObj.obj (.map es clock))∈H) (hf:Instr.findNow (.int kd) (.int k n) es.toList 0=some (some (j,v))):Pure C ⟨dst,.lookup t x y true,ty,pos,aft,g⟩ e H (.tuple [.atom v,bool true]):=λρ w L h hH=>by
 obtain⟨_,_,_,hx1,_⟩:=hH.objs _ hb;simp only at hx1;refine⟨.tuple #[v,.bool true],?_,λw' ha=>?_⟩;simp only[Rep];refine⟨[v,.bool true],rfl,?_⟩;simp only[RepL];exact⟨_,_,rfl,qai,_,_,rfl,rfl,rfl⟩;have hw:w'.heap[b]? = some (.map es clock):=(ha.1 _ hb).trans hx1;have h3:execOp ρ ⟨dst,.lookup t x y true,ty,pos,aft,g⟩=(do Pure.pure (.value (<-Instr.lookup t (ρ x) (ρ y) true))):=rfl;have hg:(getObj b).run C.P w'=.ok (.map es clock) w':=by simp only[getObj,Sem.run,hw]
 rw[h3,qag h hm,qag h hx]
 have hf2:(Instr.findKey kt (.int k n) es.toList).run C.P w'=.ok (some (j,v)) w':=by
  simp only[Instr.findKey,zRt,qaa hkt,zRv,hf,zRu]
 have hc:=qfu (P:=C.P) (n:=n) (k:=k) hkt;simp only[Instr.lookup,zRt,qaa ht,zRv,hg,zRu,hc,hf2];rfl
theorem Pure.lookupMiss2{el:TypeId}{k:IntKind}(ht:C.P.underlying t=some (.map kt el))(hkt:C.P.underlying kt=some (.int kd)){es:Array MapEntry}{n:Int}(hz:∀ w,(zeroValue el).run C.P w=.ok zv w)(hm:e.ev x=.atom (.map (some b)))(hx:e.ev y=int k n)
  (hb:(b,LObj.obj (.map es clock))∈H) (hf:Instr.findNow (.int kd) (.int k n) es.toList 0=some none):Pure C ⟨dst,.lookup t x y true,ty,pos,aft,g⟩ e H (.tuple [.atom zv,bool false]):=λρ w L h hH=>by
 obtain⟨_,_,_,hx1,_⟩:=hH.objs _ hb;simp only at hx1;refine⟨.tuple #[zv,.bool false],?_,λw' ha=>?_⟩;simp only[Rep];refine⟨[zv,.bool false],rfl,?_⟩;simp only[RepL];exact⟨_,_,rfl,qai,_,_,rfl,rfl,rfl⟩;have hw:w'.heap[b]? = some (.map es clock):=(ha.1 _ hb).trans hx1;have h3:execOp ρ ⟨dst,.lookup t x y true,ty,pos,aft,g⟩=(do Pure.pure (.value (<-Instr.lookup t (ρ x) (ρ y) true))):=rfl;have hg:(getObj b).run C.P w'=.ok (.map es clock) w':=by simp only[getObj,Sem.run,hw]
 rw[h3,qag h hm,qag h hx]
 have hf2:(Instr.findKey kt (.int k n) es.toList).run C.P w'=.ok none w':=by
  simp only[Instr.findKey,zRt,qaa hkt,zRv,hf,zRu]
 have hc:=qfu (P:=C.P) (n:=n) (k:=k) hkt;simp only[Instr.lookup,zRt,qaa ht,zRv,hg,zRu,hc,hf2,hz];rfl
end
section
variable{C:Ctx}{n:Nat}{Q:Post}{e:Env}{H:Heap}
theorem qaI.weak{c:Code}{H':Heap}(s:HSub H' H)(h:qaI C n c Q e H'):qaI C n c Q e H:=λa w L hE hH=>
 Go.wp_mono (h a w L hE (hH.weak s)) λ_ _ _ ⟨e',H2,L',h1,h2,h3,h4⟩=>⟨e',H2,L',h1.wide s.keys,h2,h3,h4⟩
theorem qaI.conseq{Q':Post}(h:qaI C n c Q e H)(hq:∀ x e H,Q x e H->Q' x e H):qaI C n c Q' e H:=λa w L hE hH=>
 Go.wp_mono (h a w L hE hH) λ_ _ _ ⟨e',H2,L',h1,h2,h3,h4⟩=>⟨e',H2,L',h1,h2,h3,hq _ _ _ h4⟩
theorem qaI.loop{c:Code}(I:Nat->Env->Heap->Prop)(k:Nat)(h0:I k e H)
  (round:∀ k e H,I k e H->qaI C n c (qaw (λe' H'=>∃ m,m<k/\I m e' H') Q) e H):qaI C n (.loop c) Q e H:=λa w L hE hH=>by
 refine qi4 (I:=λk a' w'=>∃ e' H' L',Fr (keys H) w L w' L' H'/\RelH C w' L' H'/\RelE n a' e' w' L'/\I k e' H') (n:=k) ?_ ⟨e,H,L,Fr.refl _ _ _,hH,hE,h0⟩;rintro k a1 w1 ⟨e1,H1,L1,h1,h2,h3,h4⟩;refine Go.wp_mono (round k e1 H1 h4 a1 w1 L1 h3 h2) λex a' w' hq=>?_;obtain⟨e',H',L',g1,g2,g3,g4⟩:=hq
 cases ex with
 |normal=>
  obtain⟨m,hm,g4⟩:=g4
  exact⟨m,hm,e',H',L',h1.trans g1,g2,g3,g4⟩
 |exit id=>exact⟨e',H',L',h1.trans g1,g2,g3,g4⟩
 |goto id=>exact⟨e',H',L',h1.trans g1,g2,g3,g4⟩
 |ret=>exact⟨e',H',L',h1.trans g1,g2,g3,g4⟩
 |panic ch=>exact⟨e',H',L',h1.trans g1,g2,g3,g4⟩
 |outgrown=>exact⟨e',H',L',h1.trans g1,g2,g3,g4⟩
theorem qaI.loopI(I:Nat->List (Nat×LV)->Heap->Prop)(h0:∃ k l H0,I k l H0/\qcF e l/\HSub H0 H)
  (round:∀ k l H,I k l H->∀ j:Env,j.ds=e.ds->qaI C n c (qaw (qvV I k e.ds) Q) (Env.slots j l) H):qaI C n (.loop c) Q e H:=by
 obtain⟨k,l,H0,h0,h1,h2⟩:=h0;refine qaI.weak h2 (qaI.loop (λk e' H'=>∃ l H0,I k l H0/\qcF e' l/\HSub H0 H'/\e'.ds=e.ds) k ⟨l,H0,h0,h1,zhR _,rfl⟩ ?_);rintro k e' H' ⟨l,H0,g0,g1,g2,g3⟩;have:=round k l H0 g0 e' g3;rw[Env.slots_self g1.mem] at this;refine qaI.weak g2 (qaI.conseq this ?_);rintro ex e2 H2 hq
 cases ex with
 |normal=>
  obtain⟨m,l',H3,r1,r2,r3,r4,r5⟩:=hq
  exact⟨m,r1,l',H3,r2,r3,r4,r5⟩
 |exit id=>exact hq
 |goto id=>exact hq
 |ret=>exact hq
 |panic ch=>exact hq
 |outgrown=>exact hq
end
section
variable{C:Ctx}{e:Env}{H:Heap}{x y:Operand}{dst:Option Nat}{ty:TypeId}{pos:String}{aft:Array Edge}{g:Option (Nat×Bool)}
theorem Pure.bytesStrE{s d el:TypeId} [hs:TSlice C.P s el 1] [he:TKind C.P el .u8] [hd:TStr C.P d]{l:List UInt8}(hx:elems (e.ev x)=some (byts l)):Pure C ⟨dst,.convert s d x,ty,pos,aft,g⟩ e H (str l):=by
 by_cases hne:l=[]
 subst hne;intro ρ w L h _;obtain⟨a,cap,hv,hcap,hr⟩:=(h x).elems hx;refine⟨_,qai,λw' ha=>?_⟩;have h0:execOp ρ ⟨dst,.convert s d x,ty,pos,aft,g⟩=(do Pure.pure (.value (<-convert s d (ρ x)))):=rfl;have hlen:(byts []).length=0:=rfl
 have hc:(convert s d (.slice a 0 cap)).run C.P w'=.ok (.string ⟨#[]⟩) w':=by
  rw[run_convert_bytes_string w' s d el a 0 cap hs.und he.und hd.und]
  cases a with
  |none=>rfl
  |some a=>exact run_bytesToString w' a 0 cap [] (run_loadCells_list (P:=C.P) w' a [] λj v hj=>by cases hj)
 rw[h0,hv,hlen];simp only[zRt,hc,zRv,zRu];exact Pure.bytesStr hx hne
end
def chkStrF (P : Program) (f : Field) (o : Nat) : Bool := f.name != "_" && f.offset == o && (match P.underlying f.type with | some .string => true | _ => false)
def qng (P : Program) (f : Field) (o : Nat) : Bool := f.name != "_" && f.offset == o && (match P.underlying f.type with | some (.int .i64) => true | _ => false)
theorem qjv  {f : Field} {o : Nat} (h : qng P f o = true) : f.name ≠ "_" ∧ f.offset = o ∧ P.underlying f.type = some (.int .i64) := by
 unfold qng at h;simp only[zBa,bne_iff_ne,beq_iff_eq] at h;obtain⟨⟨h1,h2⟩,h3⟩:=h;refine⟨h1,h2,?_⟩;split at h3
 assumption
 cases h3
section
variable{C:Ctx}{e:Env}{H:Heap}{dst:Option Nat}{ty:TypeId}{pos:String}{aft:Array Edge}{g:Option (Nat×Bool)}{x y:Operand}
end
class TInt3 (P:Program) (t:TypeId):Prop where
 und:P.underlying t=some (.struct (P.fieldsOf t))
 apart:P.stoodInHeld t=false
 guard:P.eqGuardType P.depth t=false
 fields : ∃ f0 f1 f2 : Field, (P.fieldsOf t).toList = [f0, f1, f2] ∧ (f0.name ≠ "_" ∧ f0.offset = 0 ∧ P.underlying f0.type = some (.int .i64)) ∧ (f1.name ≠ "_" ∧ f1.offset = 1 ∧ P.underlying f1.type = some (.int .i64)) ∧ (f2.name ≠ "_" ∧ f2.offset = 2 ∧ P.underlying f2.type = some (.int .i64))
def qsw(P:Program)(t:TypeId):Bool:=(match P.underlying t with|some (.struct _)=>true|_=>false) && !P.stoodInHeld t && !P.eqGuardType P.depth t && (match (P.fieldsOf t).toList with|[f0,f1,f2]=>qng P f0 0 && qng P f1 1 && qng P f2 2|_=>false)
theorem TInt3.of(h:qsw P t=true):TInt3 P t:=by
 unfold qsw at h;simp only[zBa,Bool.not_eq_true'] at h;obtain⟨⟨⟨h1,h2⟩,h3⟩,h4⟩:=h;refine⟨?_,h2,h3,?_⟩;split at h1
 rename_i fs hu
 rw[hu];simp[Program.fieldsOf,hu];cases h1;split at h4
 rename_i f0 f1 f2 hf
 simp only[zBa] at h4;exact⟨f0,f1,f2,hf,qjv h4.1.1,qjv h4.1.2,qjv h4.2⟩;cases h4
section
variable{C:Ctx}{e:Env}{H:Heap}{dst:Option Nat}{ty:TypeId}{pos:String}{aft:Array Edge}{g:Option (Nat×Bool)}{x y:Operand}
theorem qul(h:∀ x,Rep w L (e.ev x) (ρ x))(hx:e.ev x=.agg [int .i64 a,int .i64 i,int .i64 j]):ρ x=.agg #[.int .i64 a,.int .i64 i,.int .i64 j]:=by
 have hv:=h x;rw[hx] at hv;simp only[Rep,RepL,int] at hv;obtain⟨vs,h1,v0,r0,e0,rfl,v1,r1,e1,rfl,v2,r2,e2,rfl,e3⟩:=hv;rw[h1,e0,e1,e2,e3]
end
section
variable{C:Ctx}{e:Env}{H:Heap}{dst:Option Nat}{ty:TypeId}{pos:String}{aft:Array Edge}{g:Option (Nat×Bool)}{x:Operand}
theorem Pure.field0 [h:TInt3 C.P t](hx:e.ev x=.agg [int .i64 a,int .i64 i,int .i64 j]) :
  Pure C ⟨dst,.field t x 0,ty,pos,aft,g⟩ e H (int .i64 a):=
 .of_any λρ _ _ hr=>⟨_,qai,λw'=>by
  have h1:=qul hr hx;obtain⟨f0,f1,f2,hf,⟨n0,o0,u0⟩,_,_⟩:=h.fields;have h3:execOp ρ ⟨dst,.field t x 0,ty,pos,aft,g⟩=(do Pure.pure (.value (<-Instr.field t (ρ x) 0))):=rfl
  have hg:(C.P.fieldsOf t)[0]? = some f0:=by
   rw[<-Array.getElem?_toList,hf]
   try rfl
  have hp:(part f0.type #[.int .i64 a,.int .i64 i,.int .i64 j] f0.offset).run C.P w'=.ok (.int .i64 a) w':=by
   rw[o0];simp[part,isAgg,qaa u0]
  rw[h3,h1]
  simp only[Instr.field,zRt,qaa h.und,zRv,hg,asAgg,zRu,hp]⟩
end
end Go.GL
namespace Go.Stele
@[reducible] def cv(c:UInt8):Int:=(c.toNat:Int)
def qar(c:UInt8):Bool:=decide (48<=cv c) && decide (cv c<=57)
def qaV(c:UInt8):Bool:=decide (97<=cv c) && decide (cv c<=122)
def qaU(c:UInt8):Bool:=qaV c || qar c || decide (cv c=95)
def qwc(c:UInt8):Bool:=!decide (cv c=10)
def qh2(c:UInt8):Bool:=decide (cv c=32) || decide (cv c=9) || decide (cv c=10)
structure Tok where
 kind:Int
 text:List UInt8
 line:Int
 deriving DecidableEq,Inhabited
theorem qgt{p:UInt8->Bool}{s:List UInt8}{m:Nat}(hm:m<s.length)(h:s.takeWhile p=s.take m++(s.drop m).takeWhile p) :
  (p s[m]=true->s.takeWhile p=s.take (m+1)++(s.drop (m+1)).takeWhile p)/\(p s[m]=false->s.takeWhile p=s.take m):=by
 have h1:s.drop m=s[m]::s.drop (m+1):=List.drop_eq_getElem_cons hm;constructor;intro hp;rw[h,h1,List.takeWhile_cons_of_pos hp,List.take_succ_eq_append_getElem hm];simp only[zAs,List.singleton_append];intro hp;rw[h,h1,List.takeWhile_cons_of_neg (by simp[hp])]
 simp
theorem qlR{p:UInt8->Bool}{s:List UInt8}{m:Nat}(hm:s.length<=m)(h:s.takeWhile p=s.take m++(s.drop m).takeWhile p):s.takeWhile p=s.take m:=by
 rw[h,List.drop_eq_nil_of_le hm]
 simp
def qcu(s:List UInt8):Nat:=if [47,47].isPrefixOf s then (s.takeWhile qwc).length else (s.takeWhile qh2).length
end Go.Stele
namespace Go.Stele
def qwH:Tok:=⟨0,[],0⟩
abbrev TokR:=Tok×Nat×Int
def qcs(e:Int):TokR:=(qwH,0,e)
def qfe(s:List UInt8)(n:Nat):Bool:=match s[n]? with
 |some c=>qaV c || decide (cv c=95)
 |none=>false
def qdZ(s:List UInt8):TokR:=
 if qfe s (s.takeWhile qar).length then qcs 3 else
  match Go.Lib.parseUintB 32 (s.takeWhile qar) with
  |.ok u=>(⟨1,Go.Lib.decDigits u,0⟩,(s.takeWhile qar).length,0)
  |_=>qcs 2
def qc7:List UInt8->TokR
 |_::b::c::_=>if (!decide (cv c=39)) || decide (cv b<32) || decide (126<cv b) || decide (cv b=39) || decide (cv b=92) then qcs 3 else (⟨1,Go.Lib.decDigits b.toNat,0⟩,3,0)
 |_=>qcs 3
def qdm:List (List UInt8):=[[97,114,114,97,121],[101,108,115,101],[102,117,110,99],[104,97,108,116],[105,102],[114,101,116,117,114,110],[118,97,114],[119,104,105,108,101]]
def qc0:List (List UInt8):=[[38,38],[124,124],[61,61],[33,61],[60,61],[62,61],[60],[62],[94],[43],[45],[42],[47],[37],[33],[61],[40],[41],[123],[125],[91],[93],[44],[59]]
def qgz(s:List UInt8):TokR:=
 if 24<(s.takeWhile qaU).length then qcs 7 else (⟨if qdm.contains (s.takeWhile qaU) then 3 else 2,s.takeWhile qaU,0⟩,(s.takeWhile qaU).length,0)
def qhG(s:List UInt8):TokR:=match qc0.find? (λx=>x.isPrefixOf s) with
 |some x=>(⟨4,x,0⟩,x.length,0)
 |none=>qcs 3
def qaN(s:List UInt8):TokR:=match s with
 |[]=>qcs 3
 |c::_=>if qar c then qdZ s else if qaV c then qgz s else if decide (cv c=39) then qc7 s else qhG s
def lexP:Nat->List UInt8->Int->Except (Int×Int) (List Tok)
 |0,_,_=>.ok []
 |fuel+1,s,line=>
  if s=[] then .ok [] else
  if qcu s=0 then
   if (qaN s).2.2≠0 then .error (line,(qaN s).2.2)
   else (lexP fuel (s.drop (qaN s).2.1) (line+((s.take (qaN s).2.1).count 10:Nat))).map ({ (qaN s).1 with line:=line }::·)
  else lexP fuel (s.drop (qcu s)) (line+((s.take (qcu s)).count 10:Nat))
theorem qfV(p:UInt8->Bool)(s:List UInt8):(s.takeWhile p).length<=s.length:=(takeWhile_prefix p).length_le
theorem ql4(s:List UInt8)(h:(qaN s).2.2=0):0<(qaN s).2.1/\(qaN s).2.1<=s.length:=by
 match s with
 |[]=>simp[qaN,qcs] at h
 |c::r=>
  simp only[qaN] at h ⊢;split at h <;> rename_i hc;rw[zp hc];unfold qdZ at h ⊢;split at h;simp[qcs] at h
  rename_i hw
  rw[zn hw];split at h
  rename_i u hu
  refine⟨?_,qfV _ _⟩;rw[List.takeWhile_cons_of_pos hc]
  simp
  simp[qcs] at h;rw[zn hc];split at h <;> rename_i hl;rw[zp hl];unfold qgz at h ⊢;split at h;simp[qcs] at h
  rename_i hw
  rw[zn hw];refine⟨?_,qfV _ _⟩;rw[List.takeWhile_cons_of_pos (by simp[qaU,hl])]
  simp
  rw[zn hl];split at h <;> rename_i hq;rw[zp hq];unfold qc7 at h ⊢;split at h;split at h;simp[qcs] at h
  rename_i hx
  rename_i heq
  rw[zn hx,heq]
  simp
  simp[qcs] at h;rw[zn hq];unfold qhG at h ⊢;split at h
  rename_i x hx
  have h1:=List.find?_some hx;have h2:=mem_of_find?_eq_some hx;refine⟨?_,(List.isPrefixOf_iff_prefix.1 h1).length_le⟩;have:∀ x∈qc0,0<x.length:=by decide
  exact this x h2;simp[qcs] at h
theorem qqf(s:List UInt8):qcu s<=s.length:=by
 unfold qcu;split <;> exact qfV _ _
inductive Res (A:Type) where
 |ok (v:A) (at' op:Nat)
 |err (line e:Int)
def qf4(T:List Tok)(i:Nat):Int:=match T[min i (T.length-1)]? with
 |some t=>t.line
 |none=>1
def qlb{A:Type}(T:List Tok)(i:Nat):Res A:=.err (qf4 T i) 3
def qbb(T:List Tok)(i:Nat)(xs:List (List UInt8)):Bool:=match T[i]? with
 |some t=>(decide (t.kind=3) || decide (t.kind=4)) && xs.contains t.text
 |none=>false
def qe4(T:List Tok)(k:Int)(i op:Nat):Res (List UInt8):=match T[i]? with
 |some t=>if t.kind=k then .ok t.text (i+1) op else qlb T i
 |none=>qlb T i
def qgH(T:List Tok)(x:List UInt8)(i op:Nat):Res Unit:=if qbb T i [x] then .ok () (i+1) op else qlb T i
def qcY(T:List Tok)(x:List UInt8)(i op:Nat):Res Unit:=
 if qbb T i [x] then (if 100<=op then .err (qf4 T i) 6 else .ok () (i+1) (op+1)) else qlb T i
def Res.bind{A B:Type}(r:Res A)(f:A->Nat->Nat->Res B):Res B:=match r with
 |.ok v i op=>f v i op
 |.err l e=>.err l e
def qss(s:List UInt8):Nat:=match Go.Lib.parseUintB 32 s with
 |.ok u=>u
 |_=>0
end Go.Stele
namespace Go.Stele
variable{T:List Tok}{i:Nat}{x:List UInt8}
inductive Ex where
 |mk (op:List UInt8) (num:Nat) (name:List UInt8) (args:List Ex)
 deriving Inhabited
inductive Sm where
 |mk (kind:Int) (name:List UInt8) (index value:List Ex) (thn els:List Sm)
 deriving Inhabited
structure FnD where
 name:List UInt8
 params:List (List UInt8)
 locals:List (List UInt8)
 body:List Sm
 deriving Inhabited
structure Ar where
 name:List UInt8
 size:Nat
 deriving Inhabited
structure Pr where
 vars:List (List UInt8)
 arrays:List Ar
 funcs:List FnD
 deriving Inhabited
def qb3:Nat->List (List UInt8)
 |0=>[[124,124]]
 |1=>[[38,38]]
 |2=>[[61,61],[33,61],[60],[62],[60,61],[62,61]]
 |3=>[[94]]
 |4=>[[43],[45]]
 |5=>[[42],[47],[37]]
 |_=>[]
abbrev OR(A:Type):=Option (Res A)
def qaQ{A B:Type}(r:OR A)(f:A->Nat->Nat->OR B):OR B:=match r with
 |none=>none
 |some (.ok v i op)=>f v i op
 |some (.err l e)=>some (.err l e)
def qiv(T:List Tok)(i:Nat):List UInt8:=match T[i]? with
 |some t=>t.text
 |none=>[]
def qpC(T:List Tok)(i:Nat):Int:=match T[i]? with
 |some t=>t.kind
 |none=>0
def sEnd(T:List Tok)(x:List UInt8)(i op:Nat):Res Unit:=(qgH T x i op).bind λ_ i' op'=>.ok () i' (op'-1)
def qfC(T:List Tok)(i op:Nat):Res Nat:=(qe4 T 1 i op).bind λs i' op'=>.ok (qss s) i' op'
def qbK(T:List Tok):Nat->List (List UInt8)->Nat->Nat->OR (List (List UInt8))
 |0,_,_,_=>none
 |f+1,acc,i,op=>if qbb T i [[44]] then qaQ (some (qe4 T 2 (i+1) op)) λs i' op'=>qbK T f (acc++[s]) i' op' else some (.ok acc i op)
def qis(T:List Tok)(f:Nat)(i op:Nat):OR (List (List UInt8)):=qaQ (some (qe4 T 2 i op)) λs i' op'=>qbK T f [s] i' op'
def nNeg:List UInt8:=[110,101,103]
def nNot:List UInt8:=[110,111,116]
def nNum:List UInt8:=[110,117,109]
def qeD:List UInt8:=[101,108,101,109]
def qch:List UInt8:=[99,97,108,108]
def nVar:List UInt8:=[118,97,114]
mutual
def eLev(T:List Tok):Nat->Nat->Nat->Nat->OR Ex
 |0,_,_,_=>none
 |f+1,k,i,op=>if k=6 then qeP T f i op else qaQ (eLev T f (k+1) i op) λe i' op'=>qks T f k e i' op'
def qks(T:List Tok):Nat->Nat->Ex->Nat->Nat->OR Ex
 |0,_,_,_,_=>none
 |f+1,k,e,i,op=>
  if qbb T i (qb3 k) then qaQ (eLev T f (k+1) (i+1) op) λe2 i' op'=>
   if k=2 then some (.ok (.mk (qiv T i) 0 [] [e,e2]) i' op') else qks T f k (.mk (qiv T i) 0 [] [e,e2]) i' op'
  else some (.ok e i op)
def qeP(T:List Tok):Nat->Nat->Nat->OR Ex
 |0,_,_=>none
 |f+1,i,op=>
  if qbb T i [[45]] then qaQ (some (qcY T [45] i op)) λ_ i' op'=>qaQ (qeP T f i' op') λe i' op'=>some (.ok (.mk nNeg 0 [] [e]) i' (op'-1))
  else if qbb T i [[33]] then qaQ (some (qcY T [33] i op)) λ_ i' op'=>qaQ (qeP T f i' op') λe i' op'=>some (.ok (.mk nNot 0 [] [e]) i' (op'-1))
  else qme T f i op
def qme(T:List Tok):Nat->Nat->Nat->OR Ex
 |0,_,_=>none
 |f+1,i,op=>
  if qbb T i [[40]] then qaQ (some (qcY T [40] i op)) λ_ i' op'=>qaQ (eLev T f 0 i' op') λe i' op'=>qaQ (some (sEnd T [41] i' op')) λ_ i' op'=>some (.ok e i' op')
  else if qpC T i=1 then qaQ (some (qfC T i op)) λn i' op'=>some (.ok (.mk nNum n [] []) i' op')
  else qaQ (some (qe4 T 2 i op)) λs i' op'=>
   if qbb T i' [[91]] then qaQ (qfA T f i' op') λe i' op'=>some (.ok (.mk qeD 0 s [e]) i' op')
   else if qbb T i' [[40]] then qaQ (qkE T f i' op') λl i' op'=>some (.ok (.mk qch 0 s l) i' op')
   else some (.ok (.mk nVar 0 s []) i' op')
def qfA(T:List Tok):Nat->Nat->Nat->OR Ex
 |0,_,_=>none
 |f+1,i,op=>qaQ (some (qcY T [91] i op)) λ_ i' op'=>qaQ (eLev T f 0 i' op') λe i' op'=>qaQ (some (sEnd T [93] i' op')) λ_ i' op'=>some (.ok e i' op')
def qkE(T:List Tok):Nat->Nat->Nat->OR (List Ex)
 |0,_,_=>none
 |f+1,i,op=>qaQ (some (qcY T [40] i op)) λ_ i' op'=>qaQ (qci T f [] i' op') λl i' op'=>qaQ (some (sEnd T [41] i' op')) λ_ i' op'=>some (.ok l i' op')
def qci(T:List Tok):Nat->List Ex->Nat->Nat->OR (List Ex)
 |0,_,_,_=>none
 |f+1,acc,i,op=>
  if qbb T i [[41]] then some (.ok acc i op)
  else qaQ (some (if acc=[] then .ok () i op else qgH T [44] i op)) λ_ i' op'=>qaQ (eLev T f 0 i' op') λe i' op'=>qci T f (acc++[e]) i' op'
end
def kwIf:List UInt8:=[105,102]
def qvm:List UInt8:=[101,108,115,101]
def qsg:List UInt8:=[119,104,105,108,101]
def qpn:List UInt8:=[114,101,116,117,114,110]
def qvt:List UInt8:=[104,97,108,116]
def qrX:List UInt8:=[118,97,114]
def qqR:List UInt8:=[97,114,114,97,121]
def qva:List UInt8:=[102,117,110,99]
mutual
def qfT(T:List Tok):Nat->Nat->Nat->OR (List Sm)
 |0,_,_=>none
 |f+1,i,op=>qaQ (some (qcY T [123] i op)) λ_ i' op'=>qaQ (qeO T f [] i' op') λl i' op'=>qaQ (some (sEnd T [125] i' op')) λ_ i' op'=>some (.ok l i' op')
def qeO(T:List Tok):Nat->List Sm->Nat->Nat->OR (List Sm)
 |0,_,_,_=>none
 |f+1,acc,i,op=>if qbb T i [[125]] then some (.ok acc i op) else qaQ (qlV T f i op) λs i' op'=>qeO T f (acc++[s]) i' op'
def qlV(T:List Tok):Nat->Nat->Nat->OR Sm
 |0,_,_=>none
 |f+1,i,op=>
  if qbb T i [kwIf] then qaQ (eLev T f 0 (i+1) op) λe i' op'=>qaQ (qfT T f i' op') λth i' op'=>
   if qbb T i' [qvm] then qaQ (qfT T f (i'+1) op') λel i' op'=>some (.ok (.mk 3 [] [] [e] th el) i' op') else some (.ok (.mk 3 [] [] [e] th []) i' op')
  else if qbb T i [qsg] then qaQ (eLev T f 0 (i+1) op) λe i' op'=>qaQ (qfT T f i' op') λth i' op'=>some (.ok (.mk 4 [] [] [e] th []) i' op')
  else qaQ (qeY T f i op) λs i' op'=>qaQ (some (qgH T [59] i' op')) λ_ i' op'=>some (.ok s i' op')
def qeY(T:List Tok):Nat->Nat->Nat->OR Sm
 |0,_,_=>none
 |f+1,i,op=>
  if qbb T i [qpn] then qaQ (eLev T f 0 (i+1) op) λe i' op'=>some (.ok (.mk 5 [] [] [e] [] []) i' op')
  else if qbb T i [qvt] then some (.ok (.mk 7 [] [] [] [] []) (i+1) op)
  else qaQ (some (qe4 T 2 i op)) λs i' op'=>
   if qbb T i' [[40]] then qaQ (qkE T f i' op') λl i' op'=>some (.ok (.mk 6 [] [] [.mk qch 0 s l] [] []) i' op')
   else if qbb T i' [[91]] then qaQ (qfA T f i' op') λx i' op'=>qaQ (some (qgH T [61] i' op')) λ_ i' op'=>qaQ (eLev T f 0 i' op') λe i' op'=>some (.ok (.mk 2 s [x] [e] [] []) i' op')
   else qaQ (some (qgH T [61] i' op')) λ_ i' op'=>qaQ (eLev T f 0 i' op') λe i' op'=>some (.ok (.mk 1 s [] [e] [] []) i' op')
end
def qgJ(T:List Tok):Nat->List (List UInt8)->Nat->Nat->OR (List (List UInt8))
 |0,_,_,_=>none
 |f+1,acc,i,op=>if qbb T i [qrX] then qaQ (qis T f (i+1) op) λl i' op'=>qaQ (some (qgH T [59] i' op')) λ_ i' op'=>qgJ T f (acc++l) i' op' else some (.ok acc i op)
def qn5(T:List Tok)(f:Nat)(i op:Nat):OR FnD:=
 qaQ (some (qe4 T 2 i op)) λnm i' op'=>qaQ (some (qcY T [40] i' op')) λ_ i' op'=>
 qaQ (if qbb T i' [[41]] then some (.ok [] i' op') else qis T f i' op') λps i' op'=>qaQ (some (sEnd T [41] i' op')) λ_ i' op'=>
 qaQ (some (qcY T [123] i' op')) λ_ i' op'=>qaQ (qgJ T f [] i' op') λls i' op'=>qaQ (qeO T f [] i' op') λb i' op'=>
 qaQ (some (sEnd T [125] i' op')) λ_ i' op'=>some (.ok ⟨nm,ps,ls,b⟩ i' op')
def qi8(T:List Tok)(i op:Nat):OR Ar:=
 qaQ (some (qe4 T 2 i op)) λnm i' op'=>qaQ (some (qcY T [91] i' op')) λ_ i' op'=>qaQ (some (qfC T i' op')) λn i' op'=>
 qaQ (some (sEnd T [93] i' op')) λ_ i' op'=>qaQ (some (qgH T [59] i' op')) λ_ i' op'=>some (.ok ⟨nm,n⟩ i' op')
def qkv(T:List Tok):Nat->Pr->Nat->Nat->OR Pr
 |0,_,_,_=>none
 |f+1,p,i,op=>
  if T.length<=i then some (.ok p i op)
  else if qbb T i [qrX] then qaQ (qgJ T f [] i op) λl i' op'=>qkv T f { p with vars:=p.vars++l } i' op'
  else if qbb T i [qqR] then qaQ (qi8 T (i+1) op) λa i' op'=>qkv T f { p with arrays:=p.arrays++[a] } i' op'
  else if qbb T i [qva] then qaQ (qn5 T f (i+1) op) λa i' op'=>qkv T f { p with funcs:=p.funcs++[a] } i' op'
  else some (qlb T i)
def exOp:Ex->List UInt8|.mk o _ _ _=>o
def qeE:Ex->Nat|.mk _ n _ _=>n
def qcM:Ex->List UInt8|.mk _ _ n _=>n
def qxK:Ex->List Ex|.mk _ _ _ a=>a
def qrk:Sm->Int|.mk k _ _ _ _ _=>k
def qsa:Sm->List UInt8|.mk _ n _ _ _ _=>n
def qnP:Sm->List Ex|.mk _ _ i _ _ _=>i
def qoj:Sm->List Ex|.mk _ _ _ v _ _=>v
def qxZ:Sm->List Sm|.mk _ _ _ _ t _=>t
def qxk:Sm->List Sm|.mk _ _ _ _ _ e=>e
def Good{A:Type}(T:List Tok)(s:Bool)(i op:Nat)(r:Res A):Prop:=match r with
 |.ok _ i' op'=>i<=i'/\(s=true->i<i')/\(i<=T.length->i'<=T.length)/\op'=op
 |.err _ _=>True
def qc2{A:Type}(T:List Tok)(s:Bool)(i op:Nat)(r:OR A):Prop:=∀ r',r=some r'->Good T s i op r'
theorem qaS{xs:List (List UInt8)}(h:qbb T i xs=true):i<T.length:=by
 rcases Nat.lt_or_ge i T.length with h1|h1;exact h1;rw[qbb,List.getElem?_eq_none h1] at h;cases h
theorem qjN{t:Tok}(h:T[i]? = some t):i<T.length:=(List.getElem?_eq_some_iff.1 h).1
theorem qbL(T:List Tok)(k:Int)(i op:Nat):Good T true i op (qe4 T k i op):=by
 unfold qe4;split
 rename_i t ht
 have:=qjN ht;split;exact⟨by omega,λ_=>by omega,λ_=>by omega,rfl⟩;trivial;trivial
theorem qbq(T:List Tok)(x:List UInt8)(i op:Nat):Good T true i op (qgH T x i op):=by
 unfold qgH;split
 rename_i h
 have:=qaS h;exact⟨by omega,λ_=>by omega,λ_=>by omega,rfl⟩;trivial
theorem qbC{op i' op':Nat}{u:Unit}(h:qcY T x i op=.ok u i' op'):i'=i+1/\op'=op+1/\op<100/\i<T.length:=by
 unfold qcY at h;split at h
 rename_i h1
 have:=qaS h1;split at h;cases h;cases h;exact⟨rfl,rfl,by omega,this⟩;cases h
theorem qgD{op i' op':Nat}{u:Unit}(h:sEnd T x i op=.ok u i' op'):i'=i+1/\op'=op-1/\i<T.length:=by
 unfold sEnd qgH at h;split at h
 rename_i h1
 have:=qaS h1;cases h;exact⟨rfl,rfl,this⟩;cases h
theorem qfO(T:List Tok)(i op:Nat):Good T true i op (qfC T i op):=by
 have:=qbL T 1 i op;unfold qfC
 cases h:qe4 T 1 i op with
 |ok v i' op'=>rw[h] at this;exact this
 |err l e=>trivial
theorem qaL{A B:Type}{r:OR A}{f:A->Nat->Nat->OR B}{q:Res B}(h:qaQ r f=some q) :
  (∃ v i op,r=some (.ok v i op)/\f v i op=some q)∨(∃ l e,r=some (.err l e)/\q=.err l e):=by
 match r,h with
 |some (.ok v i op),h=>exact .inl ⟨v,i,op,rfl,h⟩
 |some (.err l e),h=>exact .inr ⟨l,e,rfl,by simpa [qaQ] using h.symm⟩
theorem qaH{A B:Type}{s t:Bool}{op j op1:Nat}{r:OR A}{f:A->Nat->Nat->OR B}(hr:qc2 T s j op1 r)
  (hf:∀ v i' ,r=some (.ok v i' op1)->j<=i'->(s=true->j<i')->(j<=T.length->i'<=T.length)->qc2 T t i op (f v i' op1)):qc2 T t i op (qaQ r f):=λq hq=>by
 rcases qaL hq with⟨v,i',op',h1,h2⟩|⟨l,e,_,rfl⟩;obtain⟨g1,g2,g3,g4⟩:=hr _ h1;subst g4;exact hf v i' h1 g1 g2 g3 q h2;trivial
theorem qaE{A:Type}{s:Bool}{op:Nat}{r:Res A}(h:Good T s i op r):qc2 T s i op (some r):=λr' hr=>by cases hr;exact h
theorem qb0{A:Type}{s:Bool}{op:Nat}:qc2 (A:=A) T s i op none:=λr' hr=>by cases hr
theorem qc2.from{A:Type}{s t:Bool}{j op:Nat}{r:OR A}(h:qc2 T s j op r)(hij:i<=j)(hs:t=true->i<j∨s=true)(hT:i<=T.length->j<=T.length):qc2 T t i op r:=λr' hr=>by
 have:=h r' hr
 cases r' with
 |ok v i' op'=>
  obtain⟨g1,g2,g3,g4⟩:=this;refine⟨by omega,λht=>?_,λhi=>g3 (hT hi),g4⟩;rcases hs ht with h1|h1;omega
  have:=g2 h1;omega
 |err l e=>trivial
theorem qfQ(T:List Tok):∀ (f:Nat) (acc:List (List UInt8)) (i op:Nat),qc2 T false i op (qbK T f acc i op)
 |0,_,_,_=>qb0
 |f+1,acc,i,op=>by
  rw[qbK];split
  rename_i h
  have:=qaS h;refine qaH (qaE (qbL T 2 (i+1) op)) λv i' _ h1 h2 h3=>?_;exact(qfQ T f _ i' op).from (by omega) (by simp) (λ_=>h3 (by omega));exact qaE ⟨by omega,by simp,λh=>h,rfl⟩
theorem qcG(T:List Tok)(f i op:Nat):qc2 T true i op (qis T f i op):=
 qaH (qaE (qbL T 2 i op)) λv i' _ h1 h2 h3=>(qfQ T f _ i' op).from h1 (λ_=>.inl (h2 rfl)) h3
theorem qg0{A:Type}{s:Bool}{y:List UInt8}{op:Nat}{g:Nat->Nat->OR A}(hg:i<T.length->op<100->qc2 T s (i+1) (op+1) (g (i+1) (op+1))) :
  qc2 T true i op (qaQ (some (qcY T x i op)) λ_ i' op'=>qaQ (g i' op') λv i' op'=>qaQ (some (sEnd T y i' op')) λ_ i' op'=>some (.ok v i' op')):=λq hq=>by
 rcases qaL hq with⟨v,i1,op1,h1,h2⟩|⟨l,e,_,rfl⟩;injection h1 with h1;obtain⟨rfl,rfl,ho,hi⟩:=qbC h1;rcases qaL h2 with⟨w,i2,op2,h3,h4⟩|⟨l,e,_,rfl⟩;obtain⟨g1,_,g3,rfl⟩:=hg hi ho _ h3;rcases qaL h4 with⟨u,i3,op3,h5,h6⟩|⟨l,e,_,rfl⟩;injection h5 with h5;obtain⟨rfl,rfl,hi2⟩:=qgD h5;cases h6;exact⟨by omega,λ_=>by omega,λ_=>by omega,by omega⟩;trivial;trivial;trivial
theorem qcW(T:List Tok):∀ f:Nat,(∀ k i op,qc2 T true i op (eLev T f k i op))/\(∀ k e i op,qc2 T false i op (qks T f k e i op))/\(∀ i op,qc2 T true i op (qeP T f i op)) /\
  (∀ i op,qc2 T true i op (qme T f i op))/\(∀ i op,qc2 T true i op (qfA T f i op))/\(∀ i op,qc2 T true i op (qkE T f i op))/\(∀ acc i op,qc2 T false i op (qci T f acc i op))
 |0=>⟨λ_ _ _=>by rw[eLev];exact qb0,λ_ _ _ _=>by rw[qks];exact qb0,λ_ _=>by rw[qeP];exact qb0,λ_ _=>by rw[qme];exact qb0,λ_ _=>by rw[qfA];exact qb0,λ_ _=>by rw[qkE];exact qb0,λ_ _ _=>by rw[qci];exact qb0⟩
 |f+1=>by
  obtain⟨hL,hO,hU,hP,hI,hA,hB⟩:=qcW T f
  have neg:∀ (x:List UInt8) (nm:List UInt8) (i op:Nat),qc2 T true i op (qaQ (some (qcY T x i op)) λ_ i' op'=>qaQ (qeP T f i' op') λe i' op'=>some (.ok (Ex.mk nm 0 [] [e]) i' (op'-1))):=λx nm i op q hq=>by
   rcases qaL hq with⟨v,i1,op1,h1,h2⟩|⟨l,e,_,rfl⟩;injection h1 with h1;obtain⟨rfl,rfl,ho,hi⟩:=qbC h1;rcases qaL h2 with⟨w,i2,op2,h3,h4⟩|⟨l,e,_,rfl⟩;obtain⟨g1,_,g3,rfl⟩:=hU _ _ _ h3;cases h4;exact⟨by omega,λ_=>by omega,λ_=>g3 (by omega),by omega⟩;trivial;trivial
  refine⟨λk i op=>?_,λk e i op=>?_,λi op=>?_,λi op=>?_,λi op=>?_,λi op=>?_,λacc i op=>?_⟩;rw[eLev];split;exact hU i op;exact qaH (hL (k+1) i op) λv i' _ h1 h2 h3=>(hO k v i' op).from h1 (λ_=>.inl (h2 rfl)) h3;rw[qks];split
  rename_i h
  have:=qaS h;refine qaH (hL (k+1) (i+1) op) λv i' _ h1 h2 h3=>?_;split;exact qaE ⟨by omega,by simp,λ_=>h3 (by omega),rfl⟩;exact(hO k _ i' op).from (by omega) (by simp) (λ_=>h3 (by omega));exact qaE ⟨by omega,by simp,λh=>h,rfl⟩;rw[qeP];split;exact neg _ _ _ _;split;exact neg _ _ _ _;exact hP i op;rw[qme];split;exact qg0 (g:=λi op=>eLev T f 0 i op) λ_ _=>hL 0 _ _;split;exact qaH (qaE (qfO T i op)) λv i' _ h1 h2 h3=>qaE ⟨h1,λ_=>h2 rfl,h3,rfl⟩;refine qaH (qaE (qbL T 2 i op)) λv i' _ h1 h2 h3=>?_;split;exact qaH (hI i' op) λv i2 _ g1 g2 g3=>qaE ⟨by omega,λ_=>by have:=h2 rfl;omega,λh=>g3 (h3 h),rfl⟩;split;exact qaH (hA i' op) λv i2 _ g1 g2 g3=>qaE ⟨by omega,λ_=>by have:=h2 rfl;omega,λh=>g3 (h3 h),rfl⟩;exact qaE ⟨h1,λ_=>h2 rfl,h3,rfl⟩;rw[qfA];exact qg0 (g:=λi op=>eLev T f 0 i op) λ_ _=>hL 0 _ _;rw[qkE];exact qg0 (g:=λi op=>qci T f [] i op) λ_ _=>hB [] _ _;rw[qci];split;exact qaE ⟨by omega,by simp,λh=>h,rfl⟩;refine qaH (s:=false) (j:=i) (op1:=op) ?_ λv i' _ h1 h2 h3=>?_;split;exact qaE ⟨by omega,by simp,λh=>h,rfl⟩;exact qc2.from (qaE (qbq T [44] i op)) (by omega) (by simp) (λh=>h);exact qaH (hL 0 i' op) λv i2 _ g1 g2 g3=>(hB _ i2 op).from (by omega) (by simp) (λh=>g3 (h3 h))
end Go.Stele
namespace Go.Stele
variable{B D a b i k n t v:Nat}{P p:Pr}{T:List Tok}{c:UInt8}{cur:List UInt8}{f:FnD}{fs:List FnD}{r:List Nat}
theorem qe6(T:List Tok):∀ f:Nat,(∀ i op,qc2 T true i op (qfT T f i op))/\(∀ acc i op,qc2 T false i op (qeO T f acc i op))/\(∀ i op,qc2 T true i op (qlV T f i op))/\(∀ i op,qc2 T true i op (qeY T f i op))
 |0=>⟨λ_ _=>by rw[qfT];exact qb0,λ_ _ _=>by rw[qeO];exact qb0,λ_ _=>by rw[qlV];exact qb0,λ_ _=>by rw[qeY];exact qb0⟩
 |f+1=>by
  obtain⟨hB,hL,hS,hM⟩:=qe6 T f;obtain⟨gL,_,_,_,gI,gA,_⟩:=qcW T f;refine⟨λi op=>?_,λacc i op=>?_,λi op=>?_,λi op=>?_⟩;rw[qfT];exact qg0 (g:=λi op=>qeO T f [] i op) λ_ _=>hL [] _ _;rw[qeO];split;exact qaE ⟨by omega,by simp,λh=>h,rfl⟩;exact qaH (hS i op) λv i' _ h1 h2 h3=>(hL _ i' op).from h1 (by simp) h3;rw[qlV];split
  rename_i h
  have:=qaS h;refine qaH (gL 0 (i+1) op) λv i' _ h1 h2 h3=>qaH (hB i' op) λw i2 _ g1 g2 g3=>?_;split
  rename_i h4
  have:=qaS h4;refine qaH (hB (i2+1) op) λx i3 _ k1 k2 k3=>qaE ⟨by omega,λ_=>by omega,λ_=>k3 (by omega),rfl⟩;exact qaE ⟨by omega,λ_=>by omega,λ_=>g3 (h3 (by omega)),rfl⟩;split
  rename_i h
  have:=qaS h;exact qaH (gL 0 (i+1) op) λv i' _ h1 h2 h3=>qaH (hB i' op) λw i2 _ g1 g2 g3=>qaE ⟨by omega,λ_=>by omega,λ_=>g3 (h3 (by omega)),rfl⟩;exact qaH (hM i op) λv i' _ h1 h2 h3=>qaH (qaE (qbq T [59] i' op)) λw i2 _ g1 g2 g3=>qaE ⟨by omega,λ_=>by have:=h2 rfl;omega,λhh=>g3 (h3 hh),rfl⟩;rw[qeY];split
  rename_i h
  have:=qaS h;exact qaH (gL 0 (i+1) op) λv i' _ h1 h2 h3=>qaE ⟨by omega,λ_=>by omega,λ_=>h3 (by omega),rfl⟩;split
  rename_i h
  have:=qaS h;exact qaE ⟨by omega,λ_=>by omega,λ_=>by omega,rfl⟩;refine qaH (qaE (qbL T 2 i op)) λv i' _ h1 h2 h3=>?_;split;exact qaH (gA i' op) λw i2 _ g1 g2 g3=>qaE ⟨by omega,λ_=>by have:=h2 rfl;omega,λhh=>g3 (h3 hh),rfl⟩;split
  exact qaH (gI i' op) λw i2 _ g1 g2 g3=>qaH (qaE (qbq T [61] i2 op)) λu i3 _ k1 k2 k3=>qaH (gL 0 i3 op) λx i4 _ m1 m2 m3=>
   qaE ⟨by omega,λ_=>by have:=h2 rfl;omega,λhh=>m3 (k3 (g3 (h3 hh))),rfl⟩
  exact qaH (qaE (qbq T [61] i' op)) λu i3 _ k1 k2 k3=>qaH (gL 0 i3 op) λx i4 _ m1 m2 m3=>
   qaE ⟨by omega,λ_=>by have:=h2 rfl;omega,λhh=>m3 (k3 (h3 hh)),rfl⟩
theorem qcL(T:List Tok):∀ (f:Nat) (acc:List (List UInt8)) (i op:Nat),qc2 T (qbb T i [qrX]) i op (qgJ T f acc i op)
 |0,_,_,_=>by rw[qgJ];exact qb0
 |f+1,acc,i,op=>by
  rw[qgJ];split
  rename_i h
  have:=qaS h
  exact qaH (qcG T f (i+1) op) λv i' _ h1 h2 h3=>qaH (qaE (qbq T [59] i' op)) λu i2 _ g1 g2 g3=>
   (qcL T f _ i2 op).from (by omega) (λ_=>.inl (by omega)) (λ_=>g3 (h3 (by omega)))
  rename_i h
  exact qaE ⟨by omega,λhh=>absurd hh h,λh=>h,rfl⟩
def Ends{A:Type}(r:OR A):Prop:=∃ q,r=some q
theorem qaq{A B:Type}{r:OR A}{f:A->Nat->Nat->OR B}(h:Ends r)(k:∀ v i op,r=some (.ok v i op)->Ends (f v i op)):Ends (qaQ r f):=by
 obtain⟨q,rfl⟩:=h
 cases q with
 |ok v i op=>exact k v i op rfl
 |err l e=>exact⟨_,rfl⟩
theorem qap{A:Type}{r:Res A}:Ends (some r):=⟨_,rfl⟩
theorem qcK{B:Type}{x:List UInt8}{op:Nat}{g:Unit->Nat->Nat->OR B}(k:i<T.length->op<100->Ends (g () (i+1) (op+1))):Ends (qaQ (some (qcY T x i op)) g):=
 qaq qap λv i1 op1 h1=>by
  injection h1 with h1;obtain⟨rfl,rfl,ho,hi⟩:=qbC h1;exact k hi ho
theorem qsc(T:List Tok):∀ f:Nat,(∀ k i op,k<=6->i<=T.length->10 * (T.length-i)+20-k<=f->Ends (eLev T f k i op))/\(∀ k e i op,k<=5->i<=T.length->10 * (T.length-i)+11<=f->Ends (qks T f k e i op)) /\
  (∀ i op,i<=T.length->10 * (T.length-i)+13<=f->Ends (qeP T f i op))/\(∀ i op,i<=T.length->10 * (T.length-i)+12<=f->Ends (qme T f i op))/\(∀ i op,i<=T.length->10 * (T.length-i)+11<=f->Ends (qfA T f i op)) /\
  (∀ i op,i<=T.length->10 * (T.length-i)+12<=f->Ends (qkE T f i op))/\(∀ acc i op,i<=T.length->10 * (T.length-i)+21<=f->Ends (qci T f acc i op))
 |0=>⟨λ_ _ _ _ _ _=>by omega,λ_ _ _ _ _ _ _=>by omega,λ_ _ _ _=>by omega,λ_ _ _ _=>by omega,λ_ _ _ _=>by omega,λ_ _ _ _=>by omega,λ_ _ _ _ _=>by omega⟩
 |f+1=>by
  obtain⟨hL,hO,hU,hP,hI,hA,hB⟩:=qsc T f;obtain⟨gL,gO,gU,gP,gI,gA,gB⟩:=qcW T f
  have neg:∀ (x nm:List UInt8) (i op:Nat),10 * (T.length-i)+13<=f+1->Ends (qaQ (some (qcY T x i op)) λ_ i' op'=>qaQ (qeP T f i' op') λe i' op'=>some (.ok (Ex.mk nm 0 [] [e]) i' (op'-1))):=λx nm i op hf=>
   qcK λhi ho=>qaq (hU _ _ (by omega) (by omega)) λv i2 op2 _=>qap
  refine⟨λk i op hk hi hf=>?_,λk e i op hk hi hf=>?_,λi op hi hf=>?_,λi op hi hf=>?_,λi op hi hf=>?_,λi op hi hf=>?_,λacc i op hi hf=>?_⟩;rw[eLev];split;exact hU i op hi (by omega);refine qaq (hL (k+1) i op (by omega) hi (by omega)) λv i' op' h=>?_;obtain⟨g1,g2,g3,rfl⟩:=gL (k+1) i op _ h;have:=g2 rfl;exact hO k v i' op' (by omega) (g3 hi) (by have:=g3 hi;omega);rw[qks];split
  rename_i h
  have:=qaS h;refine qaq (hL (k+1) (i+1) op (by omega) (by omega) (by omega)) λv i' op' h=>?_;obtain⟨g1,g2,g3,rfl⟩:=gL (k+1) (i+1) op _ h;have:=g3 (by omega);split;exact qap;exact hO k _ i' op' hk this (by omega);exact qap;rw[qeP];split;exact neg _ _ _ _ hf;split;exact neg _ _ _ _ hf;exact hP i op hi (by omega);rw[qme];split;exact qcK λhlt ho=>qaq (hL 0 _ _ (by omega) (by omega) (by omega)) λv i2 op2 _=>qaq qap λ_ _ _ _=>qap;split;exact qaq qap λ_ _ _ _=>qap;refine qaq qap λv i' op' h=>?_;injection h with h;have hg:=qbL T 2 i op;rw[h] at hg;obtain⟨h1,h2,h3,rfl⟩:=hg;have:=h2 rfl;have:=h3 hi;split;exact qaq (hI i' _ (by omega) (by omega)) λ_ _ _ _=>qap;split;exact qaq (hA i' _ (by omega) (by omega)) λ_ _ _ _=>qap;exact qap;rw[qfA];exact qcK λhlt ho=>qaq (hL 0 _ _ (by omega) (by omega) (by omega)) λv i2 op2 _=>qaq qap λ_ _ _ _=>qap;rw[qkE];exact qcK λhlt ho=>qaq (hB [] _ _ (by omega) (by omega)) λv i2 op2 _=>qaq qap λ_ _ _ _=>qap;rw[qci];split;exact qap;refine qaq qap λv i' op' h=>?_
  have hg:i<=i'/\i'<=T.length:=by
   injection h with h;split at h;cases h;exact⟨zNr _,hi⟩;have hg:=qbq T [44] i op;rw[h] at hg;exact⟨hg.1,hg.2.2.1 hi⟩
  refine qaq (hL 0 i' op' (by omega) hg.2 (by omega)) λv2 i2 op2 h2=>?_;obtain⟨g1,g2,g3,rfl⟩:=gL 0 i' op' _ h2;have:=g2 rfl;have:=g3 hg.2;exact hB _ i2 _ this (by omega)
theorem qre(T:List Tok):∀ f:Nat,(∀ i op,i<=T.length->10 * (T.length-i)+5<=f->Ends (qfT T f i op))/\(∀ acc i op,i<=T.length->10 * (T.length-i)+14<=f->Ends (qeO T f acc i op)) /\
  (∀ i op,i<=T.length->10 * (T.length-i)+13<=f->Ends (qlV T f i op))/\(∀ i op,i<=T.length->10 * (T.length-i)+12<=f->Ends (qeY T f i op))
 |0=>⟨λ_ _ _ _=>by omega,λ_ _ _ _ _=>by omega,λ_ _ _ _=>by omega,λ_ _ _ _=>by omega⟩
 |f+1=>by
  obtain⟨hB,hL,hS,hM⟩:=qre T f;obtain⟨eL,_,_,_,eI,eA,_⟩:=qsc T f;obtain⟨gL,_,_,_,gI,gA,_⟩:=qcW T f;obtain⟨kB,kL,kS,kM⟩:=qe6 T f;refine⟨λi op hi hf=>?_,λacc i op hi hf=>?_,λi op hi hf=>?_,λi op hi hf=>?_⟩;rw[qfT];exact qcK λhlt ho=>qaq (hL [] _ _ (by omega) (by omega)) λv i2 op2 _=>qaq qap λ_ _ _ _=>qap;rw[qeO];split;exact qap;refine qaq (hS i op hi (by omega)) λv i' op' h=>?_;obtain⟨g1,g2,g3,rfl⟩:=kS i op _ h;have:=g2 rfl;have:=g3 hi;exact hL _ i' _ (by omega) (by omega);rw[qlV];split
  rename_i h
  have:=qaS h;refine qaq (eL 0 (i+1) op (by omega) (by omega) (by omega)) λv i' op' h=>?_;obtain⟨g1,g2,g3,rfl⟩:=gL 0 (i+1) op _ h;have:=g2 rfl;have:=g3 (by omega);refine qaq (hB i' _ (by omega) (by omega)) λv2 i2 op2 h2=>?_;obtain⟨q1,q2,q3,rfl⟩:=kB i' _ _ h2;have:=q3 (by omega);split
  rename_i h4
  have:=qaS h4;exact qaq (hB (i2+1) _ (by omega) (by omega)) λ_ _ _ _=>qap;exact qap;split
  rename_i h
  have:=qaS h;refine qaq (eL 0 (i+1) op (by omega) (by omega) (by omega)) λv i' op' h=>?_;obtain⟨g1,g2,g3,rfl⟩:=gL 0 (i+1) op _ h;have:=g2 rfl;have:=g3 (by omega);exact qaq (hB i' _ (by omega) (by omega)) λv2 i2 op2 h2=>qap;exact qaq (hM i op hi (by omega)) λ_ _ _ _=>qaq qap λ_ _ _ _=>qap;rw[qeY];split
  rename_i h
  have:=qaS h;exact qaq (eL 0 (i+1) op (by omega) (by omega) (by omega)) λ_ _ _ _=>qap;split;exact qap;refine qaq qap λv i' op' h=>?_;injection h with h;have hg:=qbL T 2 i op;rw[h] at hg;obtain⟨h1,h2,h3,rfl⟩:=hg;have:=h2 rfl;have:=h3 hi;split;exact qaq (eA i' _ (by omega) (by omega)) λ_ _ _ _=>qap
  have tail:∀ (i2 op2:Nat) (g:Ex->Sm),i'<=i2->i2<=T.length->Ends (qaQ (some (qgH T [61] i2 op2)) λ_ i' op'=>qaQ (eLev T f 0 i' op') λe i' op'=>some (.ok (g e) i' op')):=λi2 op2 g hi1 hi2=>by
   refine qaq qap λv i3 op3 h3=>?_;injection h3 with h3;have hg:=qbq T [61] i2 op2;rw[h3] at hg;have:=hg.2.2.1 hi2;have:=hg.1;exact qaq (eL 0 i3 _ (by omega) (by omega) (by omega)) λ_ _ _ _=>qap
  split;refine qaq (eI i' _ (by omega) (by omega)) λv2 i2 op2 h2=>?_;obtain⟨q1,q2,q3,rfl⟩:=gI i' _ _ h2;exact tail i2 _ _ q1 (q3 (by omega));exact tail i' _ _ (zNr _) (by omega)
theorem qfG(T:List Tok):∀ (f:Nat) (acc:List (List UInt8)) (i op:Nat),i<=T.length->T.length-i+1<=f->Ends (qbK T f acc i op)
 |0,_,_,_,_,h=>by omega
 |f+1,acc,i,op,hi,hf=>by
  rw[qbK];split
  rename_i h
  have:=qaS h;refine qaq qap λv i' op' h=>?_;injection h with h;have hg:=qbL T 2 (i+1) op;rw[h] at hg;obtain⟨h1,h2,h3,rfl⟩:=hg;exact qfG T f _ i' _ (h3 (by omega)) (by have:=h3 (by omega);omega);exact qap
theorem qj6(T:List Tok)(f i op:Nat)(hi:i<=T.length)(hf:T.length-i+1<=f):Ends (qis T f i op):=
 qaq qap λv i' op' h=>by
  injection h with h;have hg:=qbL T 2 i op;rw[h] at hg;obtain⟨h1,h2,h3,rfl⟩:=hg;exact qfG T f _ i' _ (h3 hi) (by have:=h3 hi;omega)
theorem qii(T:List Tok):∀ (f:Nat) (acc:List (List UInt8)) (i op:Nat),i<=T.length->T.length-i+2<=f->Ends (qgJ T f acc i op)
 |0,_,_,_,_,h=>by omega
 |f+1,acc,i,op,hi,hf=>by
  rw[qgJ];split
  rename_i h
  have:=qaS h;refine qaq (qj6 T f (i+1) op (by omega) (by omega)) λv i' op' h=>?_;obtain⟨g1,g2,g3,rfl⟩:=qcG T f (i+1) op _ h;have:=g3 (by omega);refine qaq qap λv i2 op2 h2=>?_;injection h2 with h2;have hg:=qbq T [59] i' op';rw[h2] at hg;obtain⟨h1,h2,h3,rfl⟩:=hg;have:=h3 (by omega);exact qii T f _ i2 _ (by omega) (by omega);exact qap
theorem qli{B:Type}{k:Int}{op:Nat}{g:List UInt8->Nat->Nat->OR B}(h:∀ s,i<T.length->Ends (g s (i+1) op)):Ends (qaQ (some (qe4 T k i op)) g):=
 qaq qap λv i' op' hw=>by
  injection hw with hw;unfold qe4 at hw;split at hw
  rename_i t ht
  have:=qjN ht;split at hw;cases hw;exact h _ this;cases hw;cases hw
theorem qts{B:Type}{x:List UInt8}{op:Nat}{g:Unit->Nat->Nat->OR B}(h:i<T.length->Ends (g () (i+1) (op-1))):Ends (qaQ (some (sEnd T x i op)) g):=
 qaq qap λv i' op' hw=>by
  injection hw with hw;obtain⟨rfl,rfl,hlt⟩:=qgD hw;exact h hlt
theorem qqs(T:List Tok)(f i op:Nat)(hi:i<=T.length)(hf:10 * (T.length-i)+14<=f):Ends (qn5 T f i op):=by
 unfold qn5;refine qli λs h1=>qcK λh2 h3=>qaq ?_ λv i2 op2 h4=>qts λh5=>qcK λh6 h7=>qaq (qii T f [] _ _ (by omega) ?_) λv2 i3 op3 h8=>qaq ((qre T f).2.1 [] _ _ ?_ ?_) λv3 i4 op4 h9=>qaq qap λ_ _ _ _=>qap;split;exact qap;exact qj6 T f _ _ (by omega) (by omega)
 have:i+1+1<=i2:=by
  split at h4;cases h4;omega;exact(qcG T f _ _ _ h4).1
 omega;exact(qcL T f _ _ _ _ h8).2.2.1 (by omega)
 have:i+1+1<=i2:=by
  split at h4;cases h4;omega;exact(qcG T f _ _ _ h4).1
 have:=(qcL T f _ _ _ _ h8).1;omega
theorem qf2(T:List Tok)(f i op:Nat):qc2 T true i op (qn5 T f i op):=by
 intro q hq0;unfold qn5 at hq0
 cases q with
 |err l e=>trivial
 |ok v i9 op9=>
  rcases qaL hq0 with⟨s,i1,op1,h1,hq1⟩|⟨l,e,_,h⟩;injection h1 with h1;have g1:=qbL T 2 i op;rw[h1] at g1;obtain⟨a1,a2,a3,rfl⟩:=g1;have:=a2 rfl;rcases qaL hq1 with⟨_,i2,op2,h2,hq2⟩|⟨l,e,_,h⟩;injection h2 with h2;obtain⟨rfl,rfl,b1,b2⟩:=qbC h2;rcases qaL hq2 with⟨ps,i3,op3,h3,hq3⟩|⟨l,e,_,h⟩
  have c:i1+1<=i3/\(i1+1<=T.length->i3<=T.length)/\op3=op1+1:=by
   split at h3;cases h3;exact⟨zNr _,λh=>h,rfl⟩;obtain⟨c1,_,c3,c4⟩:=qcG T f _ _ _ h3;exact⟨c1,c3,c4⟩
  obtain⟨c1,c2,rfl⟩:=c;rcases qaL hq3 with⟨_,i4,op4,h4,hq4⟩|⟨l,e,_,h⟩;injection h4 with h4;obtain⟨rfl,rfl,d1⟩:=qgD h4;rcases qaL hq4 with⟨_,i5,op5,h5,hq5⟩|⟨l,e,_,h⟩;injection h5 with h5;obtain⟨rfl,rfl,e1,e2⟩:=qbC h5;rcases qaL hq5 with⟨ls,i6,op6,h6,hq6⟩|⟨l,e,_,h⟩;obtain⟨f1,_,f3,rfl⟩:=qcL T f _ _ _ _ h6;have:=f3 (by omega);rcases qaL hq6 with⟨bs,i7,op7,h7,hq7⟩|⟨l,e,_,h⟩;obtain⟨k1,_,k3,rfl⟩:=(qe6 T f).2.1 _ _ _ _ h7;have:=k3 (by omega);rcases qaL hq7 with⟨_,i8,op8,h8,hq8⟩|⟨l,e,_,h⟩;injection h8 with h8;obtain⟨rfl,rfl,m1⟩:=qgD h8;cases hq8;exact⟨by omega,λ_=>by omega,λ_=>by omega,by omega⟩;cases h;cases h;cases h;cases h;cases h;cases h;cases h;cases h
theorem qe0(T:List Tok)(i op:Nat):qc2 T true i op (qi8 T i op):=by
 intro q hq0;unfold qi8 at hq0
 cases q with
 |err l e=>trivial
 |ok v i9 op9=>
  rcases qaL hq0 with⟨s,i1,op1,h1,hq1⟩|⟨l,e,_,h⟩;injection h1 with h1;have g1:=qbL T 2 i op;rw[h1] at g1;obtain⟨a1,a2,a3,rfl⟩:=g1;have:=a2 rfl;rcases qaL hq1 with⟨_,i2,op2,h2,hq2⟩|⟨l,e,_,h⟩;injection h2 with h2;obtain⟨rfl,rfl,b1,b2⟩:=qbC h2;rcases qaL hq2 with⟨ps,i3,op3,h3,hq3⟩|⟨l,e,_,h⟩;injection h3 with h3;have g3:=qfO T (i1+1) (op1+1);rw[h3] at g3;obtain⟨c1,c2,c3,rfl⟩:=g3;have:=c2 rfl;rcases qaL hq3 with⟨_,i4,op4,h4,hq4⟩|⟨l,e,_,h⟩;injection h4 with h4;obtain⟨rfl,rfl,d1⟩:=qgD h4;rcases qaL hq4 with⟨_,i5,op5,h5,hq5⟩|⟨l,e,_,h⟩;injection h5 with h5;have g5:=qbq T [59] (i3+1) op4;rw[h5] at g5;obtain⟨e1,e2,e3,rfl⟩:=g5;have:=e2 rfl;have:=e3 (by omega);cases hq5;exact⟨by omega,λ_=>by omega,λ_=>by omega,by omega⟩;cases h;cases h;cases h;cases h;cases h
theorem qok(T:List Tok)(i op:Nat):Ends (qi8 T i op):=by
 unfold qi8;exact qli λs _=>qcK λ_ _=>qaq qap λ_ _ _ _=>qaq qap λ_ _ _ _=>qaq qap λ_ _ _ _=>qap
theorem qgd(T:List Tok):∀ (f:Nat) (p:Pr) (i op:Nat),i<=T.length->10 * (T.length-i)+20<=f->Ends (qkv T f p i op)
 |0,_,_,_,_,h=>by omega
 |f+1,p,i,op,hi,hf=>by
  rw[qkv];split;exact qap;split
  rename_i h
  have:=qaS h;refine qaq (qii T f _ i op hi (by omega)) λv i' op' h2=>?_;obtain⟨g1,g2,g3,rfl⟩:=qcL T f _ i op _ h2;have:=g2 h;have:=g3 hi;exact qgd T f _ i' _ (by omega) (by omega);split
  rename_i h
  have:=qaS h;refine qaq (qok T _ _) λv i' op' h2=>?_;obtain⟨g1,g2,g3,rfl⟩:=qe0 T _ _ _ h2;have:=g3 (by omega);exact qgd T f _ i' _ (by omega) (by omega);split
  rename_i h
  have:=qaS h;refine qaq (qqs T f _ _ (by omega) (by omega)) λv i' op' h2=>?_;obtain⟨g1,g2,g3,rfl⟩:=qf2 T f _ _ _ h2;have:=g3 (by omega);exact qgd T f _ i' _ (by omega) (by omega);exact qap
open Go.Lib
theorem qmp(M:Nat):∀ (l r:List UInt8) (acc u:Nat),parseUintM M acc l=.ok u->parseUintM M acc (l++r)=parseUintM M u r
 |[],r,acc,u,h=>by
  rw[parseUintM] at h;cases h
  rfl
 |c::l,r,acc,u,h=>by
  rw[parseUintM] at h;rw[cons_append,parseUintM];split at h
  rename_i hc
  rw[zp hc];split at h;cases h
  rename_i h1
  rw[zn h1];split at h;cases h
  rename_i h2
  rw[zn h2];exact qmp M l r _ u h;cases h
theorem qkm{d:Nat}(h:d<10):(UInt8.ofNat (48+d)).toNat=48+d:=by
 rw[UInt8.toNat_ofNat'];omega
theorem qx2(M:Nat)(hM:M<=4294967295)(u:Nat)(hu:u<=M):parseUintM M 0 (decDigits u)=.ok u:=by
 induction u using Nat.strongRecOn with
 |_ u ih=>
  have one:∀ a d,d<10->a * 10+d<=M->parseUintM M a [UInt8.ofNat (48+d)]=.ok (a * 10+d):=λa d hd ha=>by
   rw[parseUintM,qkm hd,zp (by omega),zn (by omega),zn (by omega),parseUintM];congr 1;omega
  rw[decDigits];split;have:=one 0 u (by assumption) (by omega);simpa using this;rw[qmp M _ _ 0 (u / 10) (ih (u / 10) (by omega) (by omega)),one _ _ (by omega) (by omega)];congr 1;omega
theorem qcl(u:Nat):decDigits u≠[]:=by
 rw[decDigits];split <;> simp
theorem qmg(u:Nat)(hu:u<4294967296):parseUintB 32 (decDigits u)=.ok u:=by
 rw[parseUintB,zn (qcl u)];exact qx2 _ zDd u (by omega)
theorem qf1:∀ (k u:Nat),u<10 ^ (k+1)->nDigits u<=k+1
 |0,u,h=>by rw[nDigits_small (by simpa using h)];omega
 |k+1,u,h=>by
  by_cases hu:u<10
  rw[nDigits_small hu];omega;rw[nDigits_big hu];have:=qf1 k (u / 10) (by rw[Nat.pow_succ] at h;omega);omega
theorem qh4{u:Nat}(hu:u<4294967296):(decDigits u).length<=10:=by
 rw[decDigits_length];exact qf1 9 u (by omega)
theorem qnJ{l:List UInt8}{u:Nat}(h:parseUintB 32 l=.ok u):u<4294967296:=by
 have key:∀ (l:List UInt8) (acc u:Nat),acc<=4294967295->parseUintM 4294967295 acc l=.ok u->u<=4294967295:=by
  intro l
  induction l with
  |nil=>intro acc u ha h;rw[parseUintM] at h;cases h;exact ha
  |cons c l ih=>
   intro acc u ha h;rw[parseUintM] at h;split at h;split at h;cases h;split at h;cases h;exact ih _ _ (by omega) h;cases h
 rw[parseUintB] at h;split at h;cases h;have:=key _ _ _ (by omega) h;omega
def qw9(t:Tok):Prop:=t.text.length<=100/\(t.kind=1->∃ u,u<4294967296/\parseUintB 32 t.text=.ok u/\t.text=decDigits u)
theorem qoE(s:List UInt8)(h:(qaN s).2.2=0):qw9 (qaN s).1:=by
 match s with
 |[]=>simp[qaN,qcs] at h
 |c::r=>
  simp only[qaN] at h ⊢;split at h <;> rename_i hc;rw[zp hc];unfold qdZ at h ⊢;split at h;simp[qcs] at h
  rename_i hw
  rw[zn hw];split at h
  rename_i u hu
  have hlt:=qnJ hu;exact⟨by have:=qh4 hlt;simp only;omega,λ_=>⟨u,hlt,qmg u hlt,rfl⟩⟩;simp[qcs] at h;rw[zn hc];split at h <;> rename_i hl;rw[zp hl];unfold qgz at h ⊢;split at h;simp[qcs] at h
  rename_i hw
  rw[zn hw];refine⟨by simp only;omega,λhk=>?_⟩;simp only at hk;split at hk <;> cases hk;rw[zn hl];split at h <;> rename_i hq;rw[zp hq];unfold qc7 at h ⊢;split at h;split at h;simp[qcs] at h
  rename_i hx
  rename_i heq
  rename_i b _ _
  rw[zn hx];have hb:b.toNat<4294967296:=Nat.lt_trans (UInt8.toNat_lt b) zDd;exact⟨by have:=qh4 hb;simp only;omega,λ_=>⟨b.toNat,hb,qmg _ hb,rfl⟩⟩;simp[qcs] at h;rw[zn hq];unfold qhG at h ⊢;split at h
  rename_i x hx
  have h2:=mem_of_find?_eq_some hx;have:∀ x∈qc0,x.length<=100:=by decide
  exact⟨this x h2,λhk=>by cases hk⟩;simp[qcs] at h
theorem qx3{A B:Type}{f:A->B}{r:Except (Int×Int) A}{b:B}(h:r.map f=.ok b):∃ a,r=.ok a/\f a=b:=by
 cases r with
 |ok a=>exact⟨a,rfl,by injection h⟩
 |error e=>cases h
theorem qoc:∀ (f:Nat) (s:List UInt8) (line:Int) (T:List Tok),lexP f s line=.ok T->T.length<=f/\∀ t∈T,qw9 t
 |0,s,line,T,h=>by
  rw[lexP] at h;cases h
  exact⟨zNr _,by simp⟩
 |f+1,s,line,T,h=>by
  rw[lexP] at h;split at h;cases h;exact⟨zero_le _,by simp⟩;split at h;split at h;cases h
  rename_i he
  obtain⟨T',h1,rfl⟩:=qx3 h;obtain⟨k1,k2⟩:=qoc f _ _ _ h1;refine⟨by rw[zLc];omega,λt ht=>?_⟩;rcases zMi.1 ht with rfl|ht;exact qoE s (by omega);exact k2 t ht;obtain⟨k1,k2⟩:=qoc f _ _ _ h;exact⟨by omega,k2⟩
abbrev Wd:=List UInt8
variable{l:List Wd}{s w x y:Wd}
def numW(w:Wd):Option Nat:=match Go.Lib.parseUintB 32 w with
 |.ok u=>if Go.Lib.decDigits u=w then some u else none
 |_=>none
def qgn(s:Wd):Bool:=match s with
 |[]=>false
 |c::r=>decide (s.length<=40) && qaV c && s.all qaU
def defW(w:Wd):Option Wd:=if w.getLast? = some 58/\qgn w.dropLast=true then some w.dropLast else none
def refW(w:Wd):Option Wd:=match w with
 |[]=>none
 |c::r=>if c=38/\qgn r=true then some r else none
def wdAt(l:List Wd)(i:Nat):Wd:=(l[i]?).getD []
def qd2(a:Nat)(op:Wd)(b:Nat):Option Nat:=
 if op=[43] then some ((a+b) % 4294967296)
 else if op=[45] then some ((a+4294967296-b) % 4294967296)
 else if op=[42] then some (a * b % 4294967296)
 else if op=[94] then some (a ^^^ b)
 else if op=[60] then some (if a<b then 1 else 0)
 else if op=[47] then (if b=0 then none else some (a / b))
 else if op=[37] then (if b=0 then none else some (a % b))
 else none
def qa2(x op y:Wd):Option Wd:=match numW x,numW y with
 |some a,some b=>match qd2 a op b with
  |some c=>if (Go.Lib.decDigits c).length<=x.length+y.length+1 then some (Go.Lib.decDigits c) else none
  |none=>none
 |_,_=>none
def qdd(v:List Wd)(i:Nat):Option Wd:=match refW (wdAt v i) with
 |some l=>if wdAt v (i+1)=[63] then some l else none
 |none=>none
abbrev qeW:=Nat×List Wd
def qhE(v:List Wd):qeW:=match qa2 (wdAt v 0) (wdAt v 2) (wdAt v 1) with
 |some s=>(3,[s])
 |none=>(0,[])
def qcX(v:List Wd):qeW:=
 if wdAt v 0=[48]/\(wdAt v 1=[43]∨wdAt v 1=[45]∨wdAt v 1=[94])∨wdAt v 0=[49]/\(wdAt v 1=[42]∨wdAt v 1=[47]) then (2,[]) else (0,[])
def qcr(v:List Wd):qeW:=
 if (wdAt v 1=[43]∨wdAt v 1=[42]∨wdAt v 1=[94])/\wdAt v 3=wdAt v 1 then
  (match qa2 (wdAt v 0) (wdAt v 1) (wdAt v 2) with
  |some s=>(4,[s,wdAt v 1])
  |none=>(0,[]))
 else (0,[])
def qiK(v:List Wd):qeW:=if (numW (wdAt v 0)).isSome=true/\wdAt v 1=[64]/\wdAt v 2=wdAt v 0/\wdAt v 3=[33] then (4,[]) else (0,[])
def qdu(v:List Wd):qeW:=if (qdd v 4).isSome=true/\wdAt v 0=[49]/\wdAt v 1=[60]/\wdAt v 2=[49]/\wdAt v 3=[60] then (6,[wdAt v 4,wdAt v 5]) else (0,[])
def qeR(v:List Wd):qeW:=match numW (wdAt v 0) with
 |some n=>if n≠0/\(qdd v 1).isSome=true then (3,[]) else (0,[])
 |none=>(0,[])
def qf0(l:Wd):List Wd->Bool
 |[]=>false
 |w::r=>match defW w with
  |some d=>decide (d=l) || qf0 l r
  |none=>false
def qhR(v:List Wd):qeW:=match qdd v 1 with
 |some l=>if wdAt v 0=[48]/\qf0 l (v.drop 3)=true then (3,[]) else (0,[])
 |none=>(0,[])
def qco(v:List Wd):Nat:=if (qdd v 1).isSome=true/\wdAt v 0=[48] then 3 else if wdAt v 0=[59]∨wdAt v 0=[36] then 1 else 0
def qbY(v:List Wd):Nat:=(v.takeWhile λw=>(defW w).isNone).length
def qiH(v:List Wd):qeW:=if 0<qco v/\0<qbY (v.drop (qco v)) then (qco v+qbY (v.drop (qco v)),v.take (qco v)) else (0,[])
def qcv(used:Wd->Bool)(v:List Wd):qeW:=match defW (wdAt v 0) with
 |some l=>if used l=true then (0,[]) else (1,[])
 |none=>(0,[])
def qa4(used:Wd->Bool)(v:List Wd):qeW:=
 if (qhE v).1≠0 then qhE v else if (qcX v).1≠0 then qcX v else if (qcr v).1≠0 then qcr v else if (qiK v).1≠0 then qiK v else if (qdu v).1≠0 then qdu v else
 if (qeR v).1≠0 then qeR v else if (qhR v).1≠0 then qhR v else if (qiH v).1≠0 then qiH v else qcv used v
def qcw(used:Wd->Bool):Nat->List Wd->List Wd
 |0,_=>[]
 |_+1,[]=>[]
 |f+1,w::r=>if (qa4 used (w::r)).1=0 then w::qcw used f r else (qa4 used (w::r)).2++qcw used f ((w::r).drop (qa4 used (w::r)).1)
def qaK(l:List Wd)(s:Wd):Bool:=l.any λw=>decide (refW w=some s)
def qec(l:List Wd):List Wd:=qcw (qaK l) l.length l
theorem qbW{v:List Wd}(h:wdAt v i≠[]):i<v.length:=by
 rcases Nat.lt_or_ge i v.length with h1|h1;exact h1;exact absurd (by simp[wdAt,List.getElem?_eq_none h1]) h
theorem qr7(h:numW w=some n):w≠[]:=by
 rintro rfl;have:numW []=none:=by decide +kernel
 rw[this] at h;cases h
theorem qcC{v:List Wd}{l:Wd}(h:qdd v i=some l):i+1<v.length:=by
 unfold qdd at h;split at h;split at h
 rename_i h2
 exact qbW (by rw[h2];decide);cases h;cases h
theorem qwU{op:Wd}{c:Nat}(h:qd2 a op b=some c):op≠[]:=by
 rintro rfl;have:qd2 a [] b=none:=rfl;rw[this] at h;cases h
theorem qcS{op:Wd}(h:qa2 x op y=some s):x≠[]/\op≠[]/\y≠[]:=by
 unfold qa2 at h;split at h
 rename_i a b ha hb
 split at h
 rename_i c hc
 exact⟨qr7 ha,qwU hc,qr7 hb⟩;cases h;cases h
def qfz(v:List Wd)(r:qeW):Prop:=r.1≠0->r.1<=v.length/\r.2.length<r.1
theorem qbl(v:List Wd):qfz v (0,[]):=λh=>absurd rfl h
theorem qw2(v:List Wd):qfz v (qhE v):=by
 unfold qhE;split
 rename_i s h
 obtain⟨_,h2,_⟩:=qcS h;have:=qbW h2;exact λ_=>⟨by simp only;omega,by simp⟩;exact qbl v
theorem qqN(v:List Wd):qfz v (qcX v):=by
 unfold qcX;split
 rename_i h
 have:wdAt v 1≠[]:=by
  intro h0;rw[h0] at h;rcases h with⟨_,h|h|h⟩|⟨_,h|h⟩ <;> cases h
 have:=qbW this;exact λ_=>⟨by simp only;omega,by simp⟩;exact qbl v
theorem qqd(v:List Wd):qfz v (qcr v):=by
 unfold qcr;split
 rename_i h
 split
 rename_i s hs
 have h3:wdAt v 3≠[]:=by rw[h.2];exact(qcS hs).2.1
 have:=qbW h3;exact λ_=>⟨by simp only;omega,by simp⟩;exact qbl v;exact qbl v
theorem qvY(v:List Wd):qfz v (qiK v):=by
 unfold qiK;split
 rename_i h
 have:=qbW (v:=v) (i:=3) (by rw[h.2.2.2];decide);exact λ_=>⟨by simp only;omega,by simp⟩;exact qbl v
theorem qst(v:List Wd):qfz v (qdu v):=by
 unfold qdu;split
 rename_i h
 obtain⟨l,hl⟩:=zR h.1;have:=qcC hl;exact λ_=>⟨by simp only;omega,by simp⟩;exact qbl v
theorem qtT(v:List Wd):qfz v (qeR v):=by
 unfold qeR;split;split
 rename_i h
 obtain⟨l,hl⟩:=zR h.2;have:=qcC hl;exact λ_=>⟨by simp only;omega,by simp⟩;exact qbl v;exact qbl v
theorem qw3(v:List Wd):qfz v (qhR v):=by
 unfold qhR;split
 rename_i l hl
 split;have:=qcC hl;exact λ_=>⟨by simp only;omega,by simp⟩;exact qbl v;exact qbl v
theorem qvK(v:List Wd):qco v<=v.length:=by
 unfold qco;split
 rename_i h
 obtain⟨l,hl⟩:=zR h.1;have:=qcC hl;omega;split
 rename_i h
 have:=qbW (v:=v) (i:=0) (by rcases h with h|h <;> rw[h] <;> decide);omega;omega
theorem qwg(v:List Wd):qfz v (qiH v):=by
 unfold qiH;split
 rename_i h
 intro _;have h1:=qvK v;have h2:qbY (v.drop (qco v))<=(v.drop (qco v)).length:=(takeWhile_prefix _).length_le;rw[length_drop] at h2;simp only[length_take];omega;exact qbl v
theorem qsf(used:Wd->Bool)(v:List Wd):qfz v (qcv used v):=by
 unfold qcv;split
 rename_i l hl
 split;exact qbl v
 have:wdAt v 0≠[]:=by
  intro h0;rw[h0] at hl;cases hl
 have:=qbW this;exact λ_=>⟨by simp only;omega,by simp⟩;exact qbl v
theorem qfn(used:Wd->Bool)(v:List Wd):qfz v (qa4 used v):=by
 unfold qa4;split;exact qw2 v;split;exact qqN v;split;exact qqd v;split;exact qvY v;split;exact qst v;split;exact qtT v;split;exact qw3 v;split;exact qwg v;exact qsf used v
theorem qjI(used:Wd->Bool):∀ (f:Nat) (l:List Wd),(qcw used f l).length<=l.length
 |0,l=>zero_le _
 |f+1,[]=>zNr _
 |f+1,w::r=>by
  rw[qcw];split;have:=qjI used f r;simp only[zLc];omega
  rename_i h
  obtain⟨h1,h2⟩:=qfn used (w::r) h;have:=qjI used f ((w::r).drop (qa4 used (w::r)).1);rw[length_drop] at this;rw[zLa];omega
theorem qo6{d:Nat}(h:d<10):qar (UInt8.ofNat (48+d))=true:=by
 have h1:(UInt8.ofNat (48+d)).toNat=48+d:=qkm h;unfold qar cv;rw[h1]
 simp
 omega
theorem qdW(u:Nat):∀ c∈decDigits u,qar c=true:=by
 induction u using Nat.strongRecOn with
 |ind u ih=>
  intro c hc
  by_cases h:u<10
  rw[decDigits_one h] at hc;rw[zRa hc];exact qo6 h;rw[decDigits,dif_neg h] at hc;rcases zRd hc with hc|hc;exact ih (u / 10) (by omega) c hc;rw[zRa hc];exact qo6 (by omega)
theorem qcO(w:Wd)(n:Nat):numW w=some n ↔ n<4294967296/\decDigits n=w:=by
 unfold numW;constructor;intro h;split at h
 rename_i u hu
 split at h
 rename_i he
 cases h;exact⟨qnJ hu,he⟩;cases h;cases h;rintro⟨h1,h2⟩;subst h2;rw[qmg n h1]
 simp
theorem qji(h:numW w=some n):n<4294967296:=((qcO w n).1 h).1
theorem qdM(h:n<4294967296):numW (decDigits n)=some n:=(qcO _ n).2 ⟨h,rfl⟩
theorem qkn{c:Nat}{op:Wd}(ha:a<4294967296)(hb:b<4294967296)(h:qd2 a op b=some c):c<4294967296:=by
 unfold qd2 at h;split at h;cases h;omega;split at h;cases h;omega;split at h;cases h;exact mod_lt _ zDd;split at h;cases h;exact Nat.xor_lt_two_pow (n:=32) ha hb;split at h;cases h;split <;> decide;split at h;split at h;cases h;cases h;exact lt_of_le_of_lt (Nat.div_le_self _ _) ha;split at h;split at h;cases h;cases h
 rename_i hb0
 have:=mod_lt a (Nat.pos_of_ne_zero hb0);omega;cases h
def qbV(v:List Wd):Prop:=wdAt v 0=[48]/\(wdAt v 1=[43]∨wdAt v 1=[45]∨wdAt v 1=[94])∨wdAt v 0=[49]/\(wdAt v 1=[42]∨wdAt v 1=[47])
instance(v:List Wd):Decidable (qbV v):=by unfold qbV;infer_instance
def qa0(v:List Wd):Prop:=(wdAt v 1=[43]∨wdAt v 1=[42]∨wdAt v 1=[94])/\wdAt v 3=wdAt v 1
instance(v:List Wd):Decidable (qa0 v):=by unfold qa0;infer_instance
def qhe(v:List Wd):Prop:=(numW (wdAt v 0)).isSome=true/\wdAt v 1=[64]/\wdAt v 2=wdAt v 0/\wdAt v 3=[33]
instance(v:List Wd):Decidable (qhe v):=by unfold qhe;infer_instance
def qc5(v:List Wd):Prop:=(qdd v 4).isSome=true/\wdAt v 0=[49]/\wdAt v 1=[60]/\wdAt v 2=[49]/\wdAt v 3=[60]
instance(v:List Wd):Decidable (qc5 v):=by unfold qc5;infer_instance
def qeg(v:List Wd):Bool:=match numW (wdAt v 0) with
 |some n=>decide (n≠0/\(qdd v 1).isSome=true)
 |none=>false
def qik(v:List Wd):Bool:=match qdd v 1 with
 |some l=>decide (wdAt v 0=[48]/\qf0 l (v.drop 3)=true)
 |none=>false
def qkB(v:List Wd):Prop:=0<qco v/\0<qbY (v.drop (qco v))
instance(v:List Wd):Decidable (qkB v):=by unfold qkB;infer_instance
def qdy(v:List Wd):Option Wd:=qa2 (wdAt v 0) (wdAt v 2) (wdAt v 1)
def qbr(v:List Wd):Option Wd:=qa2 (wdAt v 0) (wdAt v 1) (wdAt v 2)
section
variable{v:List Wd}{used:Wd->Bool}
theorem qvW(h:qdy v=some s):qhE v=(3,[s]):=by unfold qhE;unfold qdy at h;rw[h]
theorem qfW(h:qdy v=none):qhE v=(0,[]):=by unfold qhE;unfold qdy at h;rw[h]
theorem qqF(h:qbV v):qcX v=(2,[]):=zp h
theorem qda(h:¬ qbV v):qcX v=(0,[]):=zn h
theorem qqm(h:qa0 v)(h2:qbr v=some s):qcr v=(4,[s,wdAt v 1]):=by
 unfold qcr;unfold qbr at h2;unfold qa0 at h;rw[zp h,h2]
theorem qdS(h:¬ qa0 v∨qbr v=none):qcr v=(0,[]):=by
 unfold qcr;unfold qbr at h
 by_cases hc:qa0 v
 rcases h with h|h;exact absurd hc h;unfold qa0 at hc;rw[zp hc,h];unfold qa0 at hc;rw[zn hc]
theorem qvE(h:qhe v):qiK v=(4,[]):=zp h
theorem qkc(h:¬ qhe v):qiK v=(0,[]):=zn h
theorem qti(h:qc5 v):qdu v=(6,[wdAt v 4,wdAt v 5]):=zp h
theorem qgT(h:¬ qc5 v):qdu v=(0,[]):=zn h
theorem quP(h:qeg v=true):qeR v=(3,[]):=by
 unfold qeg at h;unfold qeR;split at h
 ·rename_i n hn
  try rw[hn]
  exact zp (zRi h)
 cases h
theorem qlS(h:qeg v=false):qeR v=(0,[]):=by
 unfold qeg at h;unfold qeR;split at h
 ·rename_i n hn
  try rw[hn]
  exact zn (of_decide_eq_false h)
 rename_i hn
 first|rw[hn]|rfl
theorem qwS(h:qik v=true):qhR v=(3,[]):=by
 unfold qik at h;unfold qhR;split at h
 ·rename_i n hn
  try rw[hn]
  exact zp (zRi h)
 cases h
theorem qsS(h:qik v=false):qhR v=(0,[]):=by
 unfold qik at h;unfold qhR;split at h
 ·rename_i n hn
  try rw[hn]
  exact zn (of_decide_eq_false h)
 rename_i hn
 first|rw[hn]|rfl
theorem qwj(h:qkB v):qiH v=(qco v+qbY (v.drop (qco v)),v.take (qco v)):=zp h
theorem qwx(h:¬ qkB v):qiH v=(0,[]):=zn h
theorem qux(h:qdy v=some s):qa4 used v=(3,[s]):=by
 unfold qa4;rw[qvW h]
 try rfl
theorem qtQ(h1:qdy v=none)(h:qbV v):qa4 used v=(2,[]):=by
 unfold qa4;rw[qfW h1,qqF h]
 try rfl
theorem qum(h1:qdy v=none)(h2:¬ qbV v)(h:qa0 v)(h':qbr v=some s):qa4 used v=(4,[s,wdAt v 1]):=by
 unfold qa4;rw[qfW h1,qda h2,qqm h h']
 try rfl
theorem quG(h1:qdy v=none)(h2:¬ qbV v)(h3:¬ qa0 v∨qbr v=none)(h:qhe v):qa4 used v=(4,[]):=by
 unfold qa4;rw[qfW h1,qda h2,qdS h3,qvE h]
 try rfl
theorem qu2(h1:qdy v=none)(h2:¬ qbV v)(h3:¬ qa0 v∨qbr v=none)(h4:¬ qhe v)(h:qc5 v):qa4 used v=(6,[wdAt v 4,wdAt v 5]):=by
 unfold qa4;rw[qfW h1,qda h2,qdS h3,qkc h4,qti h]
 try rfl
theorem qt8(h1:qdy v=none)(h2:¬ qbV v)(h3:¬ qa0 v∨qbr v=none)(h4:¬ qhe v)(h5:¬ qc5 v)(h:qeg v=true):qa4 used v=(3,[]):=by
 unfold qa4;rw[qfW h1,qda h2,qdS h3,qkc h4,qgT h5,quP h]
 try rfl
theorem qur(h1:qdy v=none)(h2:¬ qbV v)(h3:¬ qa0 v∨qbr v=none)(h4:¬ qhe v)(h5:¬ qc5 v)(h6:qeg v=false)(h:qik v=true):qa4 used v=(3,[]):=by
 unfold qa4;rw[qfW h1,qda h2,qdS h3,qkc h4,qgT h5,qlS h6,qwS h]
 try rfl
theorem quc(h1:qdy v=none)(h2:¬ qbV v)(h3:¬ qa0 v∨qbr v=none)(h4:¬ qhe v)(h5:¬ qc5 v)(h6:qeg v=false)(h7:qik v=false)(h:qkB v):qa4 used v=(qco v+qbY (v.drop (qco v)),v.take (qco v)):=by
 unfold qa4;have h0:qco v+qbY (v.drop (qco v))≠0:=by have:=h.1;omega
 rw[qfW h1,qda h2,qdS h3,qkc h4,qgT h5,qlS h6,qsS h7,qwj h];simp only[ne_eq,not_true_eq_false,if_false,h0,not_false_eq_true,if_true]
theorem qtH(h1:qdy v=none)(h2:¬ qbV v)(h3:¬ qa0 v∨qbr v=none)(h4:¬ qhe v)(h5:¬ qc5 v)(h6:qeg v=false)(h7:qik v=false)(h8:¬ qkB v):qa4 used v=qcv used v:=by
 unfold qa4;rw[qfW h1,qda h2,qdS h3,qkc h4,qgT h5,qlS h6,qsS h7,qwx h8]
 try rfl
end
def qaT(c:UInt8):List UInt8->List (List UInt8)
 |[]=>[[]]
 |d::r=>if d=c then []::qaT c r else match qaT c r with
  |p::ps=>(d::p)::ps
  |[]=>[[d]]
theorem qhh(c:UInt8):∀ s,∃ p ps,qaT c s=p::ps
 |[]=>⟨_,_,rfl⟩
 |d::r=>by
  obtain⟨p,ps,h⟩:=qhh c r;rw[qaT,h];split;exact⟨_,_,rfl⟩;exact⟨_,_,rfl⟩
theorem qeG(c:UInt8)(r:List UInt8):qaT c (c::r)=[]::qaT c r:=by rw[qaT,zp rfl]
theorem qeZ{d:UInt8}(h:d≠c)(r:List UInt8):∃ p ps,qaT c r=p::ps/\qaT c (d::r)=(d::p)::ps:=by
 obtain⟨p,ps,hp⟩:=qhh c r;exact⟨p,ps,hp,by rw[qaT,zn h,hp]⟩
theorem qdX{c:UInt8}:∀ {s:List UInt8},c ∉ s->qaT c s=[s]
 |[],_=>rfl
 |d::r,h=>by
  have hd:d≠c:=λe=>h (by rw[e];exact mem_cons_self ..);have hr:c ∉ r:=λe=>h (zMo _ e);rw[qaT,zn hd,qdX hr]
theorem qif{c:UInt8}:∀ {a b:List UInt8},c ∉ a->qaT c (a++c::b)=a::qaT c b
 |[],b,_=>qeG c b
 |d::a,b,h=>by
  have hd:d≠c:=λe=>h (by rw[e];exact mem_cons_self ..);have ha:c ∉ a:=λe=>h (zMo _ e);rw[cons_append,qaT,zn hd,qif ha]
theorem qgj{c:UInt8}:∀ {s:List UInt8},c ∉ s->index s [c] = -1
 |[],_=>rfl
 |d::r,h=>by
  have hd:¬ c=d:=λe=>h (by rw[e];exact mem_cons_self ..);have hr:c ∉ r:=λe=>h (zMo _ e);have hp:([c]:List UInt8).isPrefixOf (d::r)=false:=by simp[List.isPrefixOf,hd]
  rw[index,hp,qgj hr]
  try rfl
theorem qgM{c:UInt8}:∀ {a b:List UInt8},c ∉ a->index (a++c::b) [c]=(a.length:Int)
 |[],b,_=>by
  have hp:([c]:List UInt8).isPrefixOf (c::b)=true:=by simp[List.isPrefixOf]
  rw[nil_append,index,hp]
  try rfl
 |d::a,b,h=>by
  have hd:¬ c=d:=λe=>h (by rw[e];exact mem_cons_self ..);have ha:c ∉ a:=λe=>h (zMo _ e);have hp:([c]:List UInt8).isPrefixOf (d::(a++c::b))=false:=by simp[List.isPrefixOf,hd]
  rw[cons_append,index,hp,qgM ha,zn zDd,zn (by
   intro h;have:=eq_of_beq h
   omega)]
  simp
theorem qjp{s:List UInt8}(h:c∈s):∃ a b,s=a++c::b/\c ∉ a:=List.eq_append_cons_of_mem h
theorem qvJ(c:UInt8)(s:List UInt8):(cut s [c]).1=s.takeWhile (λd=>decide (d≠c)):=by
 by_cases h:c∈s
 obtain⟨a,b,rfl,ha⟩:=qjp h
 have h1:∀ x∈a,decide (x≠c)=true:=λx hx=>by
  simp only[zDe];rintro rfl;exact ha hx
 rw[cut,qgM ha,zp (by omega),List.takeWhile_append_of_pos h1,List.takeWhile_cons_of_neg (by simp)]
 simp
 have h1:∀ x∈s,decide (x≠c)=true:=λx hx=>by
  simp only[zDe];rintro rfl;exact h hx
 rw[cut,qgj h,zn zDd];have:=List.takeWhile_append_of_pos (l₂:=[]) h1;simpa using this.symm
theorem qg2(c:UInt8):∀ (f:Nat) (s:List UInt8),s.length<f->countFrom [c] f s=s.count c
 |0,s,h=>by omega
 |f+1,s,h=>by
  rw[countFrom]
  by_cases hc:c∈s
  ·obtain⟨a,b,rfl,ha⟩:=qjp hc
   rw[qgM ha,zn (by
    intro h;have:=eq_of_beq h
    omega)]
   have hd:(a++c::b).drop ((a.length:Int).toNat+[c].length)=b:=by
    rw[show(a.length:Int).toNat+[c].length=a.length+1 by simp];rw[<-List.drop_drop,List.drop_left]
    try rfl
   rw[hd,qg2 c f b (by simp only[zLa,zLc] at h;omega)];rw[List.count_append,List.count_cons_self,List.count_eq_zero.2 ha];omega
  rw[qgj hc,zp zDd,List.count_eq_zero.2 hc]
theorem qkT(c:UInt8):∀ (k:Nat) (s:List UInt8),s.count c<=k->splitK [c] 0 k s=qaT c s
 |0,s,h=>by
  have hc:c ∉ s:=List.count_eq_zero.1 (by omega)
  rw[splitK,qdX hc]
 |k+1,s,h=>by
  rw[splitK]
  by_cases hc:c∈s
  ·obtain⟨a,b,rfl,ha⟩:=qjp hc
   rw[qgM ha,zn (by
    intro h;have:=eq_of_beq h
    omega),qif ha]
   have hd:(a++c::b).drop ((a.length:Int).toNat+[c].length)=b:=by
    rw[show(a.length:Int).toNat+[c].length=a.length+1 by simp];rw[<-List.drop_drop,List.drop_left]
    try rfl
   rw[hd,show(a.length:Int).toNat+0=a.length by simp,List.take_left,qkT c k b (by
    rw[List.count_append,List.count_cons_self] at h
    omega)]
  rw[qgj hc,zp zDd,qdX hc]
theorem qqS(c:UInt8)(s:List UInt8):split s [c]=qaT c s:=by
 rw[split,count,qkT c _ s (by rw[qg2 c _ s (by omega)];exact zNr _)]
def full(l:List (List UInt8)):List Wd:=l.filter λw=>decide (w≠[])
def qfF(s:List UInt8):List Wd:=full (qaT 32 (s.takeWhile λd=>decide (d≠35)))
def qbc(s:List UInt8):List Wd:=(qaT 10 s).flatMap qfF
def qfi(cur:List UInt8):List Wd:=if cur=[] then [] else [cur]
def qiM:List UInt8->Bool->List UInt8->List Wd
 |cur,_,[]=>qfi cur
 |cur,com,c::r=>
  if c=10 then qfi cur++qiM [] false r
  else if com=true then qiM cur true r
  else if c=35 then qfi cur++qiM [] true r
  else if c=32 then qfi cur++qiM [] false r
  else qiM (cur++[c]) false r
def qhB(cur:List UInt8)(com:Bool)(l:List UInt8):List Wd:=if com=true then qfi cur else qfF (cur++l)
theorem quB(a b:List (List UInt8)):full (a++b)=full a++full b:=List.filter_append ..
theorem qlW(a:List UInt8):full [a]=qfi a:=by
 unfold full qfi
 by_cases h:a=[] <;> simp[h]
def qeI(cur:List UInt8):Prop:=∀ c∈cur,c≠10/\c≠32/\c≠35
theorem qq6(h:qeI cur)(l:List UInt8):qfF (cur++35::l)=qfi cur:=by
 have h1:∀ x∈cur,decide (x≠35)=true:=λx hx=>by simp only[zDe];exact(h x hx).2.2
 have h2:(32:UInt8) ∉ cur:=λhx=>(h 32 hx).2.1 rfl;unfold qfF;rw[List.takeWhile_append_of_pos h1,List.takeWhile_cons_of_neg (by simp),zLz,qdX h2,qlW]
theorem qlw(h:qeI cur):qfF cur=qfi cur:=by
 have h1:∀ x∈cur,decide (x≠35)=true:=λx hx=>by simp only[zDe];exact(h x hx).2.2
 have h2:(32:UInt8) ∉ cur:=λhx=>(h 32 hx).2.1 rfl;have h3:=List.takeWhile_append_of_pos (l₂:=[]) h1;rw[zLz,List.takeWhile_nil,zLz] at h3;unfold qfF;rw[h3,qdX h2,qlW]
theorem qkH(h:qeI cur)(l:List UInt8):qfF (cur++32::l)=qfi cur++qfF l:=by
 have h1:∀ x∈cur,decide (x≠35)=true:=λx hx=>by simp only[zDe];exact(h x hx).2.2
 have h2:(32:UInt8) ∉ cur:=λhx=>(h 32 hx).2.1 rfl;unfold qfF;rw[List.takeWhile_append_of_pos h1,List.takeWhile_cons_of_pos zDd,qif h2,<-List.singleton_append,quB,qlW]
theorem qh7:∀ (s cur:List UInt8) (com:Bool) (p:List UInt8) (ps:List (List UInt8)),qeI cur->(com=true->cur=[])->qaT 10 s=p::ps->qiM cur com s=qhB cur com p++ps.flatMap qfF
 |[],cur,com,p,ps,hc,hcom,hp=>by
  cases hp;rw[qiM,qhB]
  cases com with
  |true=>simp
  |false=>simp[qlw hc]
 |c::r,cur,com,p,ps,hc,hcom,hp=>by
  obtain⟨q,qs,hq⟩:=qhh 10 r;rw[qiM]
  by_cases h10:c=10
  subst h10;rw[qeG,hq] at hp;cases hp;rw[zp rfl,qh7 r [] false q qs (λx hx=>by cases hx) (by simp) hq]
  have:qhB cur com []=qfi cur:=by
   unfold qhB
   cases com with
   |true=>rfl
   |false=>rw[zn zDd,zLz,qlw hc]
  rw[this];simp[qhB];clear hq;obtain⟨q,qs,hq,hp'⟩:=qeZ h10 r;rw[hp'] at hp;cases hp;rw[zn h10]
  cases com with
  |true=>
   obtain rfl:=hcom rfl;rw[zp rfl,qh7 r [] true q ps (λx hx=>by cases hx) (λ_=>rfl) hq]
   simp[qhB]
  |false=>
   rw[zn zDd]
   by_cases h35:c=35
   subst h35;rw[zp rfl,qh7 r [] true q ps (λx hx=>by cases hx) (λ_=>rfl) hq];have:qhB cur false (35::q)=qfi cur:=by unfold qhB;rw[zn zDd,qq6 hc]
   rw[this];simp[qhB,qfi];rw[zn h35]
   by_cases h32:c=32
   subst h32;rw[zp rfl,qh7 r [] false q ps (λx hx=>by cases hx) (by simp) hq];have:qhB cur false (32::q)=qfi cur++qfF q:=by unfold qhB;rw[zn zDd,qkH hc]
   rw[this,zAs];simp[qhB]
   rw[zn h32,qh7 r (cur++[c]) false q ps (λx hx=>by
    rcases zRd hx with h|h;exact hc x h;obtain rfl:=zRa h
    exact⟨h10,h32,h35⟩) (by simp) hq]
   simp[qhB]
theorem qp3(s:List UInt8):qiM [] false s=qbc s:=by
 obtain⟨p,ps,hp⟩:=qhh 10 s;rw[qh7 s [] false p ps (λx hx=>by cases hx) (by simp) hp];unfold qbc;rw[hp];simp[qhB]
theorem qpF(used:Wd->Bool):∀ (f:Nat) (l:List Wd),l.length<=f->qcw used f l=l∨(qcw used f l).length<l.length
 |0,l,h=>by
  have:l=[]:=List.eq_nil_of_length_eq_zero (by omega);subst this
  exact .inl rfl
 |f+1,[],_=>.inl rfl
 |f+1,w::r,h=>by
  rw[qcw];split;rcases qpF used f r (by simp only[zLc] at h;omega) with h1|h1;rw[h1];exact .inl rfl;right;simp only[zLc];omega
  rename_i h0
  obtain⟨h1,h2⟩:=qfn used (w::r) h0;have:=qjI used f ((w::r).drop (qa4 used (w::r)).1);rw[length_drop] at this;right;rw[zLa];omega
theorem qlG(l:List Wd):qec l=l∨(qec l).length<l.length:=qpF _ _ l (zNr _)
def optF:Nat->List Wd->List Wd
 |0,l=>l
 |f+1,l=>if qec l=l then l else optF f (qec l)
def optP(l:List Wd):List Wd:=optF l.length l
theorem qmL:∀ (f g:Nat) (l:List Wd),l.length<=f->l.length<=g->optF f l=optF g l
 |0,0,_,_,_=>rfl
 |0,g+1,l,h,_=>by
  have:l=[]:=List.eq_nil_of_length_eq_zero (by omega);subst this
  rw[optF,optF,zp (by rfl)]
 |f+1,0,l,_,h=>by
  have:l=[]:=List.eq_nil_of_length_eq_zero (by omega);subst this
  rw[optF,optF,zp (by rfl)]
 |f+1,g+1,l,h1,h2=>by
  rw[optF,optF];split;rfl
  rename_i h
  rcases qlG l with h3|h3;exact absurd h3 h;exact qmL f g (qec l) (by omega) (by omega)
theorem qvI(h:qec l=l):optP l=l:=by
 unfold optP
 cases l with
 |nil=>rfl
 |cons w r=>rw[zLc,optF,zp h]
theorem qsR(h:qec l≠l):optP l=optP (qec l):=by
 rcases qlG l with h3|h3;exact absurd h3 h;have h4:∃ k,l.length=k+1:=⟨l.length-1,by omega⟩;obtain⟨k,hk⟩:=h4;unfold optP;rw[hk,optF,zn h];exact qmL _ _ _ (by omega) (zNr _)
theorem qlF{v:List Wd}(h:i<v.length):wdAt v i∈v:=by
 unfold wdAt;rw[zRl h];exact List.getElem_mem h
theorem qhJ{op:Wd}(h:qa2 x op y=some s):∃ c,c<4294967296/\s=decDigits c:=by
 unfold qa2 at h;split at h
 rename_i a b ha hb
 split at h
 rename_i c hc
 split at h;cases h;exact⟨c,qkn (qji ha) (qji hb) hc,rfl⟩;cases h;cases h;cases h
theorem quH{P:Wd->Prop}(hd:∀ n,n<4294967296->P (decDigits n))(used:Wd->Bool)(v:List Wd)(hv:∀ w∈v,P w):∀ w∈(qa4 used v).2,P w:=by
 have none:∀ n:Nat,∀ w∈((n,[]):qeW).2,P w:=λ_ w hw=>by cases hw
 by_cases h1:∃ s,qdy v=some s
 obtain⟨s,h1⟩:=h1;rw[qux h1];obtain⟨c,hc,rfl⟩:=qhJ h1;intro w hw;rcases zRa hw with rfl;exact hd c hc
 have h1:qdy v=Option.none:=by
  cases h:qdy v with
  |none=>rfl
  |some s=>exact absurd ⟨s,h⟩ h1
 by_cases h2:qbV v
 rw[qtQ h1 h2];exact none _
 by_cases h3:qa0 v/\∃ s,qbr v=some s
 obtain⟨h3,s,h4⟩:=h3;rw[qum h1 h2 h3 h4];obtain⟨c,hc,rfl⟩:=qhJ h4;have h5:=qbW (qcS h4).2.1;intro w hw;simp only[zMi,not_mem_nil,or_false] at hw;rcases hw with rfl|rfl;exact hd c hc;exact hv _ (qlF h5)
 have h3:¬ qa0 v∨qbr v=Option.none:=by
  by_cases hc:qa0 v
  exact zT30;exact .inl hc
 by_cases h4:qhe v
 rw[quG h1 h2 h3 h4];exact none _
 by_cases h5:qc5 v
 rw[qu2 h1 h2 h3 h4 h5];obtain⟨l,hl⟩:=zR h5.1;have h6:=qcC hl;intro w hw;simp only[zMi,not_mem_nil,or_false] at hw;rcases hw with rfl|rfl;exact hv _ (qlF (by omega));exact hv _ (qlF (by omega))
 cases h6:qeg v with
 |true=>rw[qt8 h1 h2 h3 h4 h5 h6];exact none _
 |false=>
  cases h7:qik v with
  |true=>rw[qur h1 h2 h3 h4 h5 h6 h7];exact none _
  |false=>
   by_cases h8:qkB v
   rw[quc h1 h2 h3 h4 h5 h6 h7 h8];exact λw hw=>hv w (List.mem_of_mem_take hw);rw[qtH h1 h2 h3 h4 h5 h6 h7 h8];unfold qcv;split;split <;> exact none _;exact none _
theorem qfU{P:Wd->Prop}(hd:∀ n,n<4294967296->P (decDigits n))(used:Wd->Bool):∀ (f:Nat) (l:List Wd),(∀ w∈l,P w)->∀ w∈qcw used f l,P w
 |0,_,_=>λw hw=>by cases hw
 |f+1,[],_=>λw hw=>by cases hw
 |f+1,a::r,hl=>by
  rw[qcw];split;intro w hw;rcases zMi.1 hw with rfl|hw;exact hl _ zMs;exact qfU hd used f r (λx hx=>hl x (zMo _ hx)) w hw;intro w hw;rcases zRd hw with hw|hw;exact quH hd used (a::r) hl w hw;exact qfU hd used f _ (λx hx=>hl x (List.mem_of_mem_drop hx)) w hw
theorem qpe{P:Wd->Prop}(hd:∀ n,n<4294967296->P (decDigits n)):∀ (f:Nat) (l:List Wd),(∀ w∈l,P w)->∀ w∈optF f l,P w
 |0,l,h=>h
 |f+1,l,h=>by
  rw[optF];split;exact h;exact qpe hd f _ (qfU hd _ _ l h)
theorem qtY{P:Wd->Prop}(hd:∀ n,n<4294967296->P (decDigits n)){l:List Wd}(h:∀ w∈l,P w):∀ w∈optP l,P w:=qpe hd _ l h
def qbv(w:Wd):Prop:=w≠[]/\qeI w
theorem qfm(n:Nat):qbv (decDigits n):=⟨qcl n,λc hc=>by
 have:=qdW n c hc
 refine⟨?_,?_,?_⟩ <;> (rintro rfl;exact absurd this zDd)⟩
theorem qiw{c:UInt8}{l:List UInt8}:∀ p∈qaT c l,c ∉ p/\∀ x∈p,x∈l:=by
 induction l with
 |nil=>
  intro p hp;obtain rfl:=zRa hp
  exact⟨by simp,by simp⟩
 |cons d r ih=>
  intro p hp
  by_cases h:d=c
  subst h;rw[qeG] at hp;rcases zMi.1 hp with rfl|hp;exact⟨by simp,by simp⟩;exact⟨(ih p hp).1,λx hx=>zMo _ ((ih p hp).2 x hx)⟩;obtain⟨q,qs,h1,h2⟩:=qeZ h r;rw[h2] at hp;rw[h1] at ih;rcases zMi.1 hp with rfl|hp;have:=ih q zMs;refine⟨λhm=>?_,λx hx=>?_⟩;rcases zMi.1 hm with e|hm;exact h e.symm;exact this.1 hm;rcases zMi.1 hx with rfl|hx;exact mem_cons_self ..;exact zMo _ (this.2 x hx);have:=ih p (zMo _ hp);exact⟨this.1,λx hx=>zMo _ (this.2 x hx)⟩
theorem qod{l:List UInt8}(h:(10:UInt8) ∉ l):∀ w∈qfF l,qbv w:=by
 intro w hw;obtain⟨h1,h2⟩:=List.mem_filter.1 hw;obtain⟨h3,h4⟩:=qiw w h1;refine⟨zRi h2,λc hc=>⟨?_,?_,?_⟩⟩;rintro rfl;exact h ((takeWhile_prefix _).subset (h4 _ hc));rintro rfl;exact h3 hc;rintro rfl
 have:∀ (l:List UInt8),(35:UInt8) ∉ l.takeWhile λd=>decide (d≠35):=by
  intro l
  induction l with
  |nil=>simp
  |cons d r ih=>
   rw[List.takeWhile_cons];split
   rename_i hd
   intro hm;rcases zMi.1 hm with e|hm;rw[<-e] at hd;simp at hd;exact ih hm
   simp
 exact this _ (h4 _ hc)
theorem qir(s:List UInt8):∀ w∈qbc s,qbv w:=by
 intro w hw;obtain⟨p,hp,hw⟩:=List.mem_flatMap.1 hw;exact qod (qiw p hp).1 w hw
theorem qj4(x y:Wd)(r:List Wd):join (x::y::r) [32]=x++32::join (y::r) [32]:=by simp[join]
theorem qnE:∀ (l:List Wd),(∀ w∈l,qbv w)->(10:UInt8) ∉ join l [32]
 |[],_=>by simp[join]
 |[a],h=>by
  rw[join_one]
  exact λhm=>((h a zMs).2 10 hm).1 rfl
 |a::b::r,h=>by
  rw[qj4];intro hm;rcases zRd hm with hm|hm;exact((h a zMs).2 10 hm).1 rfl;rcases zMi.1 hm with e|hm;exact absurd e zDd;exact qnE (b::r) (λx hx=>h x (zMo _ hx)) hm
theorem qm4:∀ (l:List Wd),(∀ w∈l,qbv w)->qfF (join l [32])=l
 |[],_=>rfl
 |[a],h=>by
  obtain⟨h1,h2⟩:=h a zMs;rw[join_one,qlw h2]
  simp[qfi,h1]
 |a::b::r,h=>by
  obtain⟨h1,h2⟩:=h a zMs;rw[qj4,qkH h2,qm4 (b::r) λx hx=>h x (zMo _ hx)];simp[qfi,h1]
theorem qez{l:List Wd}(h:∀ w∈l,qbv w):qbc (join l [32])=l:=by
 unfold qbc;rw[qdX (qnE l h)];simp[qm4 l h]
theorem qtW{a b:List Wd}(ha:∀ w∈a,qbv w)(hb:∀ w∈b,qbv w)(h:join a [32]=join b [32]):a=b:=by
 rw[<-qez ha,<-qez hb,h]
theorem qqr{l:List Wd}(h:∀ w∈l,qbv w):∀ w∈qec l,qbv w:=qfU (λn _=>qfm n) _ _ l h
theorem qs8{l:List Wd}(h:∀ w∈l,qbv w):∀ w∈optP l,qbv w:=qtY (λn _=>qfm n) h
def qcy(s:List UInt8):List UInt8×Int:=if 400000<s.length then ([],6) else (join (optP (qbc s)) [32],0)
def tot(l:List Wd):Nat:=(l.map λw=>w.length+1).sum
theorem qaJ(w:Wd)(l:List Wd):tot (w::l)=w.length+1+tot l:=by simp[tot]
theorem qbf:tot []=0:=rfl
theorem qbi(a b:List Wd):tot (a++b)=tot a+tot b:=by simp[tot]
theorem qm9(l:List Wd)(n:Nat):tot l=tot (l.take n)+tot (l.drop n):=by rw[<-qbi,take_append_drop]
theorem qgg:∀ l:List Wd,(join l [32]).length<=tot l
 |[]=>zero_le _
 |[a]=>by
  rw[join_one,qaJ]
  omega
 |a::b::r=>by
  have:=qgg (b::r);rw[qj4,qaJ];simp only[zLa,zLc];omega
theorem qeM{op:Wd}(h:qa2 x op y=some s):s.length<=x.length+y.length+1:=by
 unfold qa2 at h;split at h;split at h;split at h
 rename_i hle
 cases h;exact hle;cases h;cases h;cases h
theorem qtG(used:Wd->Bool)(v:List Wd):tot (qa4 used v).2<=tot (v.take (qa4 used v).1):=by
 by_cases h1:∃ s,qdy v=some s
 obtain⟨s,h1⟩:=h1;rw[qux h1];have hl:=qeM h1;have hlt:=qbW (qcS h1).2.1
 match v,hlt,hl with
 |a::b::c::r,_,hl=>
  simp only[wdAt,zRj,zRk,getD_some] at hl;simp only[take_succ_cons,take_zero,qaJ,qbf];omega
 have h1:qdy v=Option.none:=by
  cases h:qdy v with
  |none=>rfl
  |some s=>exact absurd ⟨s,h⟩ h1
 by_cases h2:qbV v
 rw[qtQ h1 h2];exact zero_le _
 by_cases h3:qa0 v/\∃ s,qbr v=some s
 obtain⟨h3,s,h4⟩:=h3;rw[qum h1 h2 h3 h4];have hl:=qeM h4;have h5:wdAt v 3≠[]:=by rw[h3.2];exact(qcS h4).2.1
 have hlt:=qbW h5
 match v,hlt,hl with
 |a::b::c::d::r,_,hl=>
  simp only[wdAt,zRj,zRk,getD_some] at hl ⊢;simp only[take_succ_cons,take_zero,qaJ,qbf];omega
 have h3:¬ qa0 v∨qbr v=Option.none:=by
  by_cases hc:qa0 v
  exact zT30;exact .inl hc
 by_cases h4:qhe v
 rw[quG h1 h2 h3 h4];exact zero_le _
 by_cases h5:qc5 v
 rw[qu2 h1 h2 h3 h4 h5];obtain⟨l,hl⟩:=zR h5.1;have h6:=qcC hl
 match v,h6 with
 |a::b::c::d::e::f::r,_=>
  simp only[wdAt,zRj,zRk,getD_some];simp only[take_succ_cons,take_zero,qaJ,qbf];omega
 cases h6:qeg v with
 |true=>rw[qt8 h1 h2 h3 h4 h5 h6];exact zero_le _
 |false=>
  cases h7:qik v with
  |true=>rw[qur h1 h2 h3 h4 h5 h6 h7];exact zero_le _
  |false=>
   by_cases h8:qkB v
   rw[quc h1 h2 h3 h4 h5 h6 h7 h8];simp only;have:=qm9 (v.take (qco v+qbY (v.drop (qco v)))) (qco v);rw[List.take_take,Nat.min_eq_left (by omega)] at this;omega;rw[qtH h1 h2 h3 h4 h5 h6 h7 h8];unfold qcv;split;split <;> exact zero_le _;exact zero_le _
theorem qg8(used:Wd->Bool):∀ (f:Nat) (l:List Wd),tot (qcw used f l)<=tot l
 |0,_=>zero_le _
 |f+1,[]=>zNr _
 |f+1,a::r=>by
  rw[qcw];split;rw[qaJ,qaJ];have:=qg8 used f r;omega;have h1:=qtG used (a::r);have h2:=qg8 used f ((a::r).drop (qa4 used (a::r)).1);have h3:=qm9 (a::r) (qa4 used (a::r)).1;rw[qbi];omega
theorem qpU:∀ (f:Nat) (l:List Wd),tot (optF f l)<=tot l
 |0,l=>zNr _
 |f+1,l=>by
  rw[optF];split;exact zNr _;exact zNt (qpU f _) (qg8 _ _ l)
theorem qge:∀ (s cur:List UInt8) (com:Bool),tot (qiM cur com s)<=cur.length+s.length+1
 |[],cur,com=>by
  rw[qiM];unfold qfi;split;exact zero_le _
  simp[tot]
 |c::r,cur,com=>by
  have hf:tot (qfi cur)<=cur.length+1:=by
   unfold qfi;split;exact zero_le _;simp[tot]
  rw[qiM];simp only[zLc];split;have:=qge r [] false;rw[qbi];simp only[zLn] at this;omega;split;have:=qge r cur true;omega;split;have:=qge r [] true;rw[qbi];simp only[zLn] at this;omega;split;have:=qge r [] false;rw[qbi];simp only[zLn] at this;omega;have:=qge r (cur++[c]) false;rw[zLa,List.length_singleton] at this;omega
theorem qhc(s:List UInt8):tot (qbc s)<=s.length+1:=by
 rw[<-qp3];have:=qge s [] false;simpa using this
theorem qu6(s:List UInt8):(join (optP (qbc s)) [32]).length<=s.length+1:=
 zNt (qgg _) (zNt (qpU _ _) (qhc s))
theorem qoL(c:UInt8)(r:List UInt8):qgn (c::r)=(decide ((c::r).length<=40) && qaV c && (c::r).all qaU):=rfl
theorem quU(h:qgn s=true):s≠[]:=by
 rintro rfl;cases h
def qkD:Nat->List (List UInt8)->List (Wd×Nat)
 |_,[]=>[]
 |n,l::r=>(qfF l).map (λw=>(w,n+1))++qkD (n+1) r
def qfR(s:List UInt8):List (Wd×Nat):=qkD 0 (qaT 10 s)
theorem qmE:∀ (l:List (List UInt8)) (n:Nat),(qkD n l).map (·.1)=l.flatMap qfF
 |[],_=>rfl
 |a::r,n=>by
  rw[qkD,zMa,map_map,qmE r];simp[Function.comp_def]
theorem qcQ(s:List UInt8):(qfR s).map (·.1)=qbc s:=qmE _ 0
theorem qpZ{l:List (List UInt8)}(h:i<l.length)(n:Nat):qkD n (l.drop i)=(qfF l[i]).map (λw=>(w,n+1))++qkD (n+1) (l.drop (i+1)):=by
 rw[List.drop_eq_getElem_cons h,qkD]
theorem qq8{l:List (List UInt8)}(h:i<l.length):full (l.drop i)=if l[i]=[] then full (l.drop (i+1)) else l[i]::full (l.drop (i+1)):=by
 rw[List.drop_eq_getElem_cons h];unfold full;rw[List.filter_cons]
 by_cases hc:l[i]=[]
 simp[hc];simp[hc]
theorem qid(c:UInt8):∀ s,(qaT c s).length<=s.length+1
 |[]=>by simp[qaT]
 |d::r=>by
  have:=qid c r
  by_cases h:d=c
  subst h;rw[qeG];simp only[zLc];omega;obtain⟨p,ps,h1,h2⟩:=qeZ h r;rw[h2];rw[h1] at this;simp only[zLc] at this ⊢;omega
theorem qdh{c:UInt8}:∀ {s p:List UInt8},p∈qaT c s->p.length<=s.length
 |[],p,h=>by
  obtain rfl:=zRa h
  exact zNr _
 |d::r,p,h=>by
  by_cases hd:d=c
  subst hd;rw[qeG] at h;rcases zMi.1 h with rfl|h;exact zero_le _;have:=qdh h;simp only[zLc];omega;obtain⟨q,qs,h1,h2⟩:=qeZ hd r;rw[h2] at h;rcases zMi.1 h with rfl|h;have:=qdh (c:=c) (s:=r) (p:=q) (by rw[h1];exact mem_cons_self ..);simp only[zLc];omega;have:=qdh (c:=c) (s:=r) (p:=p) (by rw[h1];exact zMo _ h);simp only[zLc];omega
theorem qin(s:List UInt8):(qbc s).length<=s.length+1:=by
 have h1:=qhc s
 have h2:(qbc s).length<=tot (qbc s):=by
  unfold tot;generalize qbc s=l
  induction l with
  |nil=>exact zNr _
  |cons a l ih=>
   simp only[zLc,zMc,List.sum_cons];omega
 omega
theorem qq2(h:w∈l):w.length+1<=tot l:=by
 induction l with
 |nil=>cases h
 |cons a l ih=>
  rw[qaJ];rcases zMi.1 h with rfl|h;omega;have:=ih h;omega
theorem qlU(l:List Wd):l.length<=tot l:=by
 induction l with
 |nil=>exact zero_le _
 |cons a l ih=>
  rw[qaJ,zLc];omega
theorem qs9(l:List Wd):tot (qec l)<=tot l:=qg8 _ _ _
def qdx:List UInt8:=[43,45,42,47,37,94,60,64,33,63,58,59,44,46,36,48,49,50,51,52,53,54,55,56,57]
def qho(w:Wd):Bool:=w.all λc=>qdx.contains c
def defs(l:List Wd):List Wd:=l.filterMap defW
def OkW(ds:List Wd)(w:Wd):Prop:=match defW w with
 |some _=>True
 |none=>match refW w with
  |some d=>d∈ds
  |none=>qho w=true
def qgm(l:List Wd):Prop:=(defs l).Nodup/\∀ w∈l,OkW (defs l) w
def qbU(w:Wd):Bool:=match w with
 |[]=>false
 |c::_=>qar c
def qbh(w:Wd):Bool:=match w.getLast? with
 |some c=>qar c
 |none=>false
def one(d:Bool):Nat:=if d=true then 1 else 0
def lenW:Bool->List Wd->Nat
 |_,[]=>0
 |d,w::r=>match defW w with
  |some _=>lenW d r
  |none=>match refW w with
   |some _=>one d+6+lenW true r
   |none=>one (d && qbU w)+w.length+lenW (qbh w) r
structure Sign(w:Wd):Prop where
 d:defW w=none
 r:refW w=none
 f:qbU w=false
 l:qbh w=false
 n:w.length=1
structure Num(w:Wd):Prop where
 d:defW w=none
 r:refW w=none
 f:qbU w=true
 l:qbh w=true
 n:1<=w.length
 c:qho w=true
theorem qkO(h:qar c=true):qdx.contains c=true:=by
 have:∀ n:Nat,n<256->qar (UInt8.ofNat n)=true->qdx.contains (UInt8.ofNat n)=true:=by decide +kernel
 have h1:=this c.toNat c.toNat_lt;rw[UInt8.ofNat_toNat] at h1;exact h1 h
theorem qjx(n:Nat):Num (decDigits n):=by
 have hd:=qdW n;have hne:=qcl n;generalize decDigits n=w at hd hne
 cases w with
 |nil=>exact absurd rfl hne
 |cons c r=>
  have hc:=hd c zMs;have hl:(c::r).getLast? = some ((c::r).getLast (by simp)):=List.getLast?_eq_some_getLast (by simp);have hlm:=hd _ (getLast_mem (l:=c::r) (by simp));refine⟨?_,?_,hc,?_,by simp,?_⟩;unfold defW;rw[hl,zn];intro h;rw[Option.some.inj h.1] at hlm;exact absurd hlm zDd;unfold refW;simp only;rw[zn];intro h;rw[h.1] at hc;exact absurd hc zDd;unfold qbh;rw[hl];exact hlm;unfold qho;rw[List.all_eq_true];exact λx hx=>qkO (hd x hx)
theorem qki(h:numW w=some n):Num w:=by
 rw[<-((qcO w n).1 h).2];exact qjx n
theorem qdb(h:w∈([[43],[45],[42],[94],[60],[47],[37],[64],[33],[63],[59],[36]]:List Wd)):Sign w:=by
 have:∀ w∈([[43],[45],[42],[94],[60],[47],[37],[64],[33],[63],[59],[36]]:List Wd),defW w=none/\refW w=none/\qbU w=false/\qbh w=false/\w.length=1:=by decide +kernel
 obtain⟨h1,h2,h3,h4,h5⟩:=this w h;exact⟨h1,h2,h3,h4,h5⟩
theorem qrm{c:Nat}{op:Wd}(h:qd2 a op b=some c):Sign op:=by
 apply qdb;unfold qd2 at h;simp only[zMi,not_mem_nil,or_false];split at h;exact .inl ‹_›;split at h;exact .inr (.inl ‹_›);split at h;exact .inr (.inr (.inl ‹_›));split at h;exact .inr (.inr (.inr (.inl ‹_›)));split at h;exact .inr (.inr (.inr (.inr (.inl ‹_›))));split at h;exact .inr (.inr (.inr (.inr (.inr (.inl ‹_›)))));split at h;exact .inr (.inr (.inr (.inr (.inr (.inr (.inl ‹_›))))));cases h
theorem qfZ{op:Wd}(h:qa2 x op y=some s):Num x/\Sign op/\Num y/\Num s:=by
 obtain⟨c,_,rfl⟩:=qhJ h;unfold qa2 at h;split at h
 rename_i a b ha hb
 split at h
 rename_i c' hc
 exact⟨qki ha,qrm hc,qki hb,qjx c⟩;cases h;cases h
theorem qa5{d:Wd}(h:refW w=some d):defW w=none:=by
 unfold refW at h;split at h;cases h
 rename_i c r
 split at h
 rename_i hc
 obtain⟨rfl,hn⟩:=hc;unfold defW;rw[zn];rintro⟨_,h2⟩
 cases r with
 |nil=>cases hn
 |cons e r=>
  rw[List.dropLast_cons_of_ne_nil (by simp),qoL] at h2;have:qaV 38=false:=by decide
  rw[this] at h2;simp at h2
 cases h
theorem qhV{v:List Wd}{l:Wd}(h:qdd v i=some l):refW (wdAt v i)=some l/\wdAt v (i+1)=[63]:=by
 unfold qdd at h;split at h
 rename_i d hd
 split at h;cases h;exact⟨hd,‹_›⟩;cases h;cases h
theorem qub{l:Wd}(h:defW w=some l)(d:Bool)(r:List Wd):lenW d (w::r)=lenW d r:=by
 rw[lenW,h]
theorem qo8{l:Wd}(h:refW w=some l)(d:Bool)(r:List Wd):lenW d (w::r)=one d+6+lenW true r:=by
 rw[lenW,qa5 h,h]
theorem Sign.len(h:Sign w)(d:Bool)(r:List Wd):lenW d (w::r)=1+lenW false r:=by
 rw[lenW,h.d,h.r,h.f,h.l,h.n,Bool.and_false];simp[one]
theorem Num.len(h:Num w)(d:Bool)(r:List Wd):lenW d (w::r)=one d+w.length+lenW true r:=by
 rw[lenW,h.d,h.r,h.f,h.l,Bool.and_true]
theorem one_le(d:Bool):one d<=1:=by cases d <;> simp[one]
theorem qor:∀ r:List Wd,lenW true r<=lenW false r+1/\lenW false r<=lenW true r
 |[]=>⟨by simp[lenW],by simp[lenW]⟩
 |w::r=>by
  have ih:=qor r;have e1:one true=1:=rfl;have e0:one false=0:=rfl;have h1:=one_le (qbU w);rw[lenW,lenW]
  cases defW w with
  |some l=>exact ih
  |none=>
   cases refW w with
   |some l=>simp only;omega
   |none=>
    simp only[Bool.true_and,zRs,e0];omega
theorem qmo(d:Bool)(r:List Wd):lenW d r<=lenW false r+1/\lenW false r<=lenW d r:=by
 cases d with
 |true=>exact qor r
 |false=>exact⟨by omega,zNr _⟩
theorem qey(r:List Wd):∀ (m:List Wd) (d:Bool),lenW false r<=lenW d (m++r)
 |[],d=>(qmo d r).2
 |w::m,d=>by
  rw[cons_append,lenW]
  cases defW w with
  |some l=>exact qey r m d
  |none=>
   cases refW w with
   |some l=>have:=qey r m true;simp only;omega
   |none=>have:=qey r m (qbh w);simp only;omega
theorem qjc(h:Num w∨Sign w)(m r:List Wd)(d:Bool):lenW d r<=lenW d (w::(m++r)):=by
 have h1:=(qmo d r).1;rcases h with h|h;have h2:=qey r m true;have h3:=h.n;rw[h.len];omega;have h2:=qey r m false;rw[h.len];omega
theorem qfI{x y:List Wd}(h:∀ d,lenW d x<=lenW d y):∀ (m:List Wd) (d:Bool),lenW d (m++x)<=lenW d (m++y)
 |[],d=>h d
 |w::m,d=>by
  rw[cons_append,cons_append,lenW,lenW]
  cases defW w with
  |some l=>exact qfI h m d
  |none=>
   cases refW w with
   |some l=>have:=qfI h m true;simp only;omega
   |none=>have:=qfI h m (qbh w);simp only;omega
theorem qcV(w:Wd)(l:List Wd):defs (w::l)=(match defW w with|some d=>[d]|none=>[])++defs l:=by
 unfold defs;rw[List.filterMap_cons]
 try cases defW w <;> rfl
theorem qaB(h:defW w=none)(l:List Wd):defs (w::l)=defs l:=by rw[qcV,h];try rfl
theorem qcE(a b:List Wd):defs (a++b)=defs a++defs b:=List.filterMap_append
theorem qrV{p:Wd->Bool}:∀ {l:List Wd} {x:Wd},x∈l.takeWhile p->p x=true
 |[],x,h=>by cases h
 |a::l,x,h=>by
  rw[List.takeWhile_cons] at h;split at h;rcases zMi.1 h with rfl|h
  assumption
  exact qrV h;cases h
structure RuleFine(used:Wd->Bool)(v:List Wd)(r:qeW):Prop where
 len:∀ d rest,lenW d (r.2++rest)<=lenW d (v.take r.1++rest)
 put:defs r.2=[]
 took:∀ d∈defs (v.take r.1),used d=false
theorem num0:Num [48]:=qjx 0 |> λh=>by rwa [decDigits_one zDd] at h
theorem num1:Num [49]:=qjx 1 |> λh=>by rwa [decDigits_one zDd] at h
theorem qgY(used:Wd->Bool)(v:List Wd)(h:(qa4 used v).1≠0):RuleFine used v (qa4 used v):=by
 by_cases h1:∃ s,qdy v=some s
 ·obtain⟨s,h1⟩:=h1;rw[qux h1];have hl:=qeM h1;have hlt:=qbW (qcS h1).2.1;obtain⟨k1,k2,k3,k4⟩:=qfZ h1
  match v,hlt,hl,k1,k2,k3 with
  |a::b::c::r,_,hl,k1,k2,k3=>
   simp only[wdAt,zRj,zRk,getD_some] at hl k1 k2 k3;refine⟨λd rest=>?_,by rw[qaB k4.d];try rfl,λd hd=>?_⟩;simp only[take_succ_cons,take_zero,cons_append,nil_append];rw[k4.len,k1.len,k3.len,k2.len];have:=(qor rest).1;have e1:one true=1:=rfl;omega;simp only[take_succ_cons,take_zero] at hd;rw[qaB k1.d,qaB k3.d,qaB k2.d] at hd;cases hd
 have h1:qdy v=Option.none:=by
  cases h:qdy v with
  |none=>rfl
  |some s=>exact absurd ⟨s,h⟩ h1
 by_cases h2:qbV v
 rw[qtQ h1 h2]
 have hop:Num (wdAt v 0)/\Sign (wdAt v 1):=by
  rcases h2 with⟨e,h|h|h⟩|⟨e,h|h⟩;exact⟨by rw[e];exact num0,by rw[h];exact qdb zDd⟩;exact⟨by rw[e];exact num0,by rw[h];exact qdb zDd⟩;exact⟨by rw[e];exact num0,by rw[h];exact qdb zDd⟩;exact⟨by rw[e];exact num1,by rw[h];exact qdb zDd⟩;exact⟨by rw[e];exact num1,by rw[h];exact qdb zDd⟩
 have hlt:1<v.length:=qbW (by intro h0;have:=hop.2.n;rw[h0] at this;cases this)
 match v,hlt,hop with
 |a::b::r,_,hop=>
  simp only[wdAt,zRj,zRk,getD_some] at hop;refine⟨λd rest=>qjc (.inl hop.1) [b] rest d,rfl,λd hd=>?_⟩;simp only[take_succ_cons,take_zero] at hd;rw[qaB hop.1.d,qaB hop.2.d] at hd;cases hd
 by_cases h3:qa0 v/\∃ s,qbr v=some s
 ·obtain⟨h3,s,h4⟩:=h3;rw[qum h1 h2 h3 h4];have hl:=qeM h4;have h5:wdAt v 3≠[]:=by rw[h3.2];exact(qcS h4).2.1
  have hlt:=qbW h5;have heq:=h3.2;obtain⟨k1,k2,k3,k4⟩:=qfZ h4
  match v,hlt,hl,k1,k2,k3,heq with
  |a::b::c::e::r,_,hl,k1,k2,k3,heq=>
   simp only[wdAt,zRj,zRk,getD_some] at hl k1 k2 k3 heq ⊢;subst heq;refine⟨λd rest=>?_,by rw[qaB k4.d,qaB k2.d];try rfl,λd hd=>?_⟩;simp only[take_succ_cons,take_zero,cons_append,nil_append];rw[k4.len,k1.len,k2.len,k2.len,k3.len,k2.len];omega;simp only[take_succ_cons,take_zero] at hd;rw[qaB k1.d,qaB k2.d,qaB k3.d,qaB k2.d] at hd;cases hd
 have h3:¬ qa0 v∨qbr v=Option.none:=by
  by_cases hc:qa0 v
  exact zT30;exact .inl hc
 by_cases h4:qhe v
 rw[quG h1 h2 h3 h4];obtain⟨g1,g2,g3,g4⟩:=h4;obtain⟨n,hn⟩:=zR g1;have kn:=qki hn;have hlt:=qbW (v:=v) (i:=3) (by rw[g4];decide)
 match v,hlt,g2,g3,g4,kn with
 |a::b::c::e::r,_,g2,g3,g4,kn=>
  simp only[wdAt,zRj,zRk,getD_some] at g2 g3 g4 kn;subst g2 g3 g4;refine⟨λd rest=>qjc (.inl kn) [[64],c,[33]] rest d,rfl,λd hd=>?_⟩;simp only[take_succ_cons,take_zero] at hd;rw[qaB kn.d,qaB (qdb zDd).d,qaB kn.d,qaB (qdb zDd).d] at hd;cases hd
 by_cases h5:qc5 v
 ·rw[qu2 h1 h2 h3 h4 h5];obtain⟨g0,g1,g2,g3,g4⟩:=h5;obtain⟨l,hl⟩:=zR g0;have h6:=qcC hl;obtain⟨j1,j2⟩:=qhV hl
  match v,h6,g1,g2,g3,g4,j1,j2 with
  |a::b::c::e::p::q::r,_,g1,g2,g3,g4,j1,j2=>
   simp only[wdAt,zRj,zRk,getD_some] at g1 g2 g3 g4 j1 j2 ⊢;subst g1 g2 g3 g4 j2;have s60:Sign [60]:=qdb zDd;have s63:Sign [63]:=qdb zDd;refine⟨λd rest=>?_,by rw[qaB (qa5 j1),qaB s63.d];try rfl,λd hd=>?_⟩;simp only[take_succ_cons,take_zero,cons_append,nil_append];rw[num1.len,s60.len,num1.len,s60.len];have:=(qmo d (p::[63]::rest)).1;have e1:([49]:Wd).length=1:=rfl;omega;simp only[take_succ_cons,take_zero] at hd;rw[qaB num1.d,qaB s60.d,qaB num1.d,qaB s60.d,qaB (qa5 j1),qaB s63.d] at hd;cases hd
 have three:∀ (x:Wd),Num x->wdAt v 0=x->(qdd v 1).isSome=true->RuleFine used v (3,[]):=λx hx h0 hj=>by
  obtain⟨l,hl⟩:=zR hj;have h6:=qcC hl;obtain⟨j1,j2⟩:=qhV hl;clear h hj
  match v,h6,h0,j1,j2 with
  |a::p::q::r,_,h0,j1,j2=>
   simp only[wdAt,zRj,zRk,getD_some] at h0 j1 j2;subst h0 j2;refine⟨λd rest=>qjc (.inl hx) [p,[63]] rest d,rfl,λd hd=>?_⟩;simp only[take_succ_cons,take_zero] at hd;rw[qaB hx.d,qaB (qa5 j1),qaB (qdb zDd).d] at hd;cases hd
 cases h6:qeg v with
 |true=>
  rw[qt8 h1 h2 h3 h4 h5 h6];unfold qeg at h6;split at h6
  rename_i n hn
  exact three _ (qki hn) rfl (zRi h6).2
  cases h6
 |false=>
  cases h7:qik v with
  |true=>
   rw[qur h1 h2 h3 h4 h5 h6 h7];unfold qik at h7;split at h7
   ·rename_i l hl
    exact three _ num0 (zRi h7).1 (by rw[hl];try rfl)
   cases h7
  |false=>
   by_cases h8:qkB v
   ·rw[quc h1 h2 h3 h4 h5 h6 h7 h8]
    have hst:defs (v.take (qco v))=[]/\∀ (d:Bool) (x y:List Wd),lenW false x<=lenW false y->lenW d (v.take (qco v)++x)<=lenW d (v.take (qco v)++y):=by
     have hp:=h8.1;revert hp;unfold qco;split
     ·rename_i hj
      intro _;obtain⟨l,hl⟩:=zR hj.1;have h6:=qcC hl;obtain⟨j1,j2⟩:=qhV hl;have h0:=hj.2;clear hj h8 hl h h1 h2 h3 h4 h5 h7 three
      match v,h6,h0,j1,j2 with
      |a::p::q::r,_,h0,j1,j2=>
       simp only[wdAt,zRj,zRk,getD_some] at h0 j1 j2;subst h0 j2;have s63:Sign [63]:=qdb zDd;refine⟨?_,λd x y hxy=>?_⟩
       ·simp only[take_succ_cons,take_zero];rw[qaB num0.d,qaB (qa5 j1),qaB s63.d]
        try rfl
       simp only[take_succ_cons,take_zero,cons_append,nil_append];rw[num0.len,num0.len,qo8 j1,qo8 j1,s63.len,s63.len];omega
     split
     ·rename_i hs
      intro _
      have hsg:Sign (wdAt v 0):=by
       rcases hs with h|h <;> rw[h] <;> exact qdb zDd
      have hlt:0<v.length:=qbW (by intro h0;have:=hsg.n;rw[h0] at this;cases this);clear hs h8 h h1 h2 h3 h4 h5 h6 h7 three
      match v,hlt,hsg with
      |a::r,_,hsg=>
       simp only[wdAt,zRj,getD_some] at hsg;refine⟨?_,λd x y hxy=>?_⟩
       ·simp only[take_succ_cons,take_zero];rw[qaB hsg.d]
        try rfl
       simp only[take_succ_cons,take_zero,cons_append,nil_append];rw[hsg.len,hsg.len];omega
     intro hp;omega
    have htk:v.take (qco v+qbY (v.drop (qco v)))=v.take (qco v)++(v.drop (qco v)).takeWhile λw=>(defW w).isNone:=by
     rw[List.take_add];congr 1;unfold qbY;exact(List.prefix_iff_eq_take.1 (takeWhile_prefix _)).symm
    refine⟨λd rest=>?_,hst.1,λd hd=>?_⟩;simp only;rw[htk,zAs];exact hst.2 d _ _ (qey rest _ false);simp only at hd;rw[htk,qcE,hst.1,nil_append] at hd;exfalso;obtain⟨w,hw,hwd⟩:=List.mem_filterMap.1 hd;have:=qrV hw;rw[hwd] at this;cases this
   rw[qtH h1 h2 h3 h4 h5 h6 h7 h8] at h ⊢
   have hU:qcv used v=match defW (wdAt v 0) with
    |some l=>if used l=true then (0,[]) else (1,[])
    |none=>(0,[]):=rfl
   cases hd:defW (wdAt v 0) with
   |none=>rw[hd] at hU;rw[hU] at h;exact absurd rfl h
   |some l=>
    rw[hd] at hU;simp only at hU
    by_cases hu:used l=true
    rw[zp hu] at hU;rw[hU] at h;exact absurd rfl h;rw[zn hu] at hU;rw[hU];have hlt:0<v.length:=qbW (by intro h0;rw[h0] at hd;cases hd);clear hU h h1 h2 h3 h4 h5 h6 h7 h8 three
    match v,hlt,hd with
    |a::r,_,hd=>
     simp only[wdAt,zRj,getD_some] at hd;refine⟨λd rest=>?_,rfl,λd hdd=>?_⟩;simp only[take_succ_cons,take_zero,cons_append,nil_append];rw[qub hd];exact zNr _;simp only[take_succ_cons,take_zero] at hdd;rw[qcV,hd] at hdd;have:d=l:=by simpa [defs] using hdd
     rw[this];exact Bool.eq_false_iff.2 hu
theorem qh9(used:Wd->Bool):∀ (f:Nat) (l:List Wd) (d:Bool),l.length<=f->lenW d (qcw used f l)<=lenW d l
 |0,l,d,h=>by
  have:l=[]:=List.eq_nil_of_length_eq_zero (by omega);subst this
  exact zNr _
 |f+1,[],d,_=>zNr _
 |f+1,w::r,d,h=>by
  rw[qcw];split;exact qfI (x:=qcw used f r) (y:=r) (λd=>qh9 used f r d (by simp only[zLc] at h;omega)) [w] d
  rename_i h0
  have hR:=qgY used (w::r) h0;have hk:=qfn used (w::r) h0;have ih:=λd=>qh9 used f ((w::r).drop (qa4 used (w::r)).1) d (by rw[length_drop];omega);have h1:=qfI ih (qa4 used (w::r)).2 d;have h2:=hR.len d ((w::r).drop (qa4 used (w::r)).1);rw[take_append_drop] at h2;exact zNt h1 h2
theorem qhT(used:Wd->Bool):∀ (f:Nat) (l:List Wd),l.length<=f->(defs (qcw used f l)).Sublist (defs l)/\∀ d∈defs l,used d=true->d∈defs (qcw used f l)
 |0,l,h=>by
  have:l=[]:=List.eq_nil_of_length_eq_zero (by omega);subst this
  exact⟨List.Sublist.refl _,λd hd=>by cases hd⟩
 |f+1,[],_=>⟨List.Sublist.refl _,λd hd=>by cases hd⟩
 |f+1,w::r,h=>by
  rw[qcw];split;obtain⟨i1,i2⟩:=qhT used f r (by simp only[zLc] at h;omega);rw[qcV w r,qcV w (qcw used f r)];refine⟨List.Sublist.append (List.Sublist.refl _) i1,λd hd hu=>?_⟩;rcases zRd hd with hd|hd;exact List.mem_append_left _ hd;exact List.mem_append_right _ (i2 d hd hu)
  rename_i h0
  have hR:=qgY used (w::r) h0;obtain⟨i1,i2⟩:=qhT used f ((w::r).drop (qa4 used (w::r)).1) (by have:=qfn used (w::r) h0;rw[length_drop];omega);have hs:defs (w::r)=defs ((w::r).take (qa4 used (w::r)).1)++defs ((w::r).drop (qa4 used (w::r)).1):=by rw[<-qcE,take_append_drop]
  rw[qcE,hR.put,nil_append];refine⟨i1.trans (by rw[hs];exact List.sublist_append_right _ _),λd hd hu=>?_⟩;rw[hs] at hd;rcases zRd hd with hd|hd;rw[hR.took d hd] at hu;cases hu;exact i2 d hd hu
theorem qpd(h:qgm l):qgm (qec l):=by
 obtain⟨h1,h2⟩:=h;obtain⟨i1,i2⟩:=qhT (qaK l) l.length l (zNr _);refine⟨h1.sublist i1,λw hw=>?_⟩;have hm:=qfU (P:=λw=>w∈l∨∃ n,w=decDigits n) (λn _=>.inr ⟨n,rfl⟩) (qaK l) l.length l (λw hw=>.inl hw) w hw;rcases hm with hm|⟨n,rfl⟩;have hk:=h2 w hm;unfold OkW at hk ⊢
 cases hd:defW w with
 |some d=>trivial
 |none=>
  rw[hd] at hk;simp only at hk ⊢
  cases hr:refW w with
  |none=>rw[hr] at hk;exact hk
  |some d=>
   rw[hr] at hk;simp only at hk ⊢;refine i2 d hk ?_;unfold qaK;rw[List.any_eq_true];exact⟨w,hm,zRp hr⟩
 have hk:=qjx n;unfold OkW;rw[hk.d,hk.r];exact hk.c
theorem qoG:∀ (f:Nat) (l:List Wd),qgm l->qgm (optF f l)/\lenW false (optF f l)<=lenW false l
 |0,l,h=>⟨h,zNr _⟩
 |f+1,l,h=>by
  rw[optF];split;exact⟨h,zNr _⟩;obtain⟨i1,i2⟩:=qoG f _ (qpd h);exact⟨i1,zNt i2 (qh9 _ _ l false (zNr _))⟩
theorem qv5(h:qgm l):qgm (optP l)/\lenW false (optP l)<=lenW false l:=qoG _ _ h
def qeb(n:Nat):Wd:=([48,48,48,48,48]++decDigits n).drop (([48,48,48,48,48]++decDigits n).length-6)
def qaF(known:Wd->Nat)(w:Wd):Wd:=match refW w with
 |some x=>qeb (known x)
 |none=>w
def addT(known:Wd->Nat)(t w:Wd):Wd:=match defW w with
 |some _=>t
 |none=>t++(if qbh t && qbU (qaF known w) then [32] else [])++qaF known w
def qcZ(known:Wd->Nat)(l:List Wd):Wd:=l.foldl (addT known) []
def qbx(known:Wd->Nat)(og:Nat)(s:Wd×List (Wd×Nat))(w:Wd):Wd×List (Wd×Nat):=match defW w with
 |some x=>(s.1,s.2++[(x,og+s.1.length)])
 |none=>(addT known s.1 w,s.2)
def qee(known:Wd->Nat)(og:Nat)(l:List Wd):List (Wd×Nat):=(l.foldl (qbx known og) ([],[])).2
def qdI(labs:List (Wd×Nat))(x:Wd):Nat:=match labs.find? λp=>decide (p.1=x) with
 |some p=>p.2
 |none=>0
def errT(all:List Wd):List Wd->List (Wd×Nat)->Nat×Nat
 |_,[]=>(0,0)
 |met,(w,ln)::r=>match defW w with
  |some x=>if x∈met then (ln,8) else errT all (met++[x]) r
  |none=>match refW w with
   |some x=>if x∈all then errT all met r else (ln,7)
   |none=>if qho w=true then errT all met r else (ln,3)
def asmP(src:Wd)(og:Int):Except (Nat×Nat) (Wd×List (Wd×Nat)):=
 if og<0∨262144<=og then .error (0,2)
 else if (errT (defs (qbc src)) [] (qfR src)).2≠0 then .error (errT (defs (qbc src)) [] (qfR src))
 else if 40000<(qcZ (qdI (qee (λ_=>0) og.toNat (qbc src))) (qbc src)).length then .error (0,6)
 else .ok (qcZ (qdI (qee (λ_=>0) og.toNat (qbc src))) (qbc src),qee (λ_=>0) og.toNat (qbc src))
theorem qfX(n:Nat):(qeb n).length=6/\∀ c∈qeb n,qar c=true:=by
 have h1:1<=(decDigits n).length:=List.length_pos_iff.2 (qcl n);constructor;unfold qeb;rw[length_drop,zLa];simp only[zLc,zLn];omega;intro c hc;have h2:=List.mem_of_mem_drop hc;rcases zRd h2 with h|h;simp only[zMi,not_mem_nil,or_false,or_self] at h;rw[h];decide;exact qdW n c h
theorem qoi{known:Wd->Nat}(known':Wd->Nat):qbU (qaF known w)=qbU (qaF known' w)/\qbh (qaF known w)=qbh (qaF known' w)/\(qaF known w).length=(qaF known' w).length:=by
 unfold qaF
 cases refW w with
 |none=>exact⟨rfl,rfl,rfl⟩
 |some x=>
  have key:∀ n,qbU (qeb n)=true/\qbh (qeb n)=true/\(qeb n).length=6:=λn=>by
   obtain⟨h1,h2⟩:=qfX n;have hne:qeb n≠[]:=λh=>by rw[h] at h1;cases h1
   refine⟨?_,?_,h1⟩
   cases h:qeb n with
   |nil=>exact absurd h hne
   |cons c r=>exact h2 c (by rw[h];simp)
   unfold qbh;rw[List.getLast?_eq_some_getLast hne];exact h2 _ (getLast_mem hne)
  obtain⟨a1,a2,a3⟩:=key (known x);obtain⟨b1,b2,b3⟩:=key (known' x);exact⟨a1.trans b1.symm,a2.trans b2.symm,a3.trans b3.symm⟩
theorem qjS{a b:Wd}(h:b≠[]):qbh (a++b)=qbh b:=by
 unfold qbh;rw[List.getLast?_append,List.getLast?_eq_some_getLast h];try rfl
theorem qhz(known:Wd->Nat)(t w:Wd)(hd:defW w=none)(hw:w≠[]):qaF known w≠[]/\qbh (addT known t w)=qbh (qaF known w)/\(addT known t w).length=t.length+one (qbh t && qbU (qaF known w))+(qaF known w).length:=by
 have hp:qaF known w≠[]:=by
  unfold qaF
  cases refW w with
  |none=>exact hw
  |some x=>intro h;have:=(qfX (known x)).1;rw[show qeb (known x)=[] from h] at this;cases this
 refine⟨hp,?_,?_⟩;unfold addT;rw[hd];exact qjS hp;unfold addT;rw[hd];simp only[zLa,one];split <;> rfl
theorem qj2(known:Wd->Nat):∀ (l:List Wd) (t:Wd),(∀ w∈l,w≠[])->(l.foldl (addT known) t).length=t.length+lenW (qbh t) l
 |[],t,_=>rfl
 |w::r,t,h=>by
  have hr:=λx hx=>h x (zMo w hx);rw[foldl_cons,qj2 known r _ hr,lenW]
  cases hd:defW w with
  |some x=>
   have:addT known t w=t:=by unfold addT;rw[hd]
   rw[this]
  |none=>
   obtain⟨h1,h2,h3⟩:=qhz known t w hd (h w (by simp));rw[h2,h3]
   cases hr:refW w with
   |some x=>
    have hp:qaF known w=qeb (known x):=by unfold qaF;rw[hr]
    obtain⟨a1,a2⟩:=qfX (known x)
    have hf:qbU (qeb (known x))=true:=by
     cases h:qeb (known x) with
     |nil=>rw[h] at a1;cases a1
     |cons c q=>exact a2 c (by rw[h];simp)
    have hl:qbh (qeb (known x))=true:=by
     have hne:qeb (known x)≠[]:=λh=>by rw[h] at a1;cases a1
     unfold qbh;rw[List.getLast?_eq_some_getLast hne];exact a2 _ (getLast_mem hne)
    rw[hp,hf,hl,a1,Bool.and_true];simp only
    omega
   |none=>
    have hp:qaF known w=w:=by unfold qaF;rw[hr]
    rw[hp];simp only;omega
theorem qjP(known:Wd->Nat)(l:List Wd)(h:∀ w∈l,w≠[]):(qcZ known l).length=lenW false l:=by
 have:=qj2 known l [] h;rw[qcZ,this];simp[qbh]
theorem qhr(known:Wd->Nat)(og:Nat):∀ (l:List Wd) (s:Wd×List (Wd×Nat)),(l.foldl (qbx known og) s).1=l.foldl (addT known) s.1
 |[],s=>rfl
 |w::r,s=>by
  rw[foldl_cons,foldl_cons,qhr known og r];congr 1;unfold qbx
  cases hd:defW w with
  |some x=>simp only;unfold addT;rw[hd]
  |none=>rfl
theorem qlY(known known':Wd->Nat)(og:Nat):∀ (l:List Wd) (s s':Wd×List (Wd×Nat)),(∀ w∈l,w≠[])->s.1.length=s'.1.length->qbh s.1=qbh s'.1->s.2=s'.2->(l.foldl (qbx known og) s).2=(l.foldl (qbx known' og) s').2
 |[],s,s',_,_,_,h=>h
 |w::r,s,s',hw,h1,h2,h3=>by
  rw[foldl_cons,foldl_cons];have hr:=λx hx=>hw x (zMo w hx)
  cases hd:defW w with
  |some x=>
   have e1:qbx known og s w=(s.1,s.2++[(x,og+s.1.length)]):=by unfold qbx;rw[hd]
   have e2:qbx known' og s' w=(s'.1,s'.2++[(x,og+s'.1.length)]):=by unfold qbx;rw[hd]
   rw[e1,e2]
   exact qlY known known' og r _ _ hr h1 h2 (by simp only[h3,h1])
  |none=>
   have e1:qbx known og s w=(addT known s.1 w,s.2):=by unfold qbx;rw[hd]
   have e2:qbx known' og s' w=(addT known' s'.1 w,s'.2):=by unfold qbx;rw[hd]
   rw[e1,e2];obtain⟨a1,a2,a3⟩:=qhz known s.1 w hd (hw w (by simp));obtain⟨b1,b2,b3⟩:=qhz known' s'.1 w hd (hw w (by simp));obtain⟨c1,c2,c3⟩:=qoi (known:=known) (w:=w) known';exact qlY known known' og r _ _ hr (by rw[a3,b3,c1,c3,h1,h2]) (by rw[a2,b2,c2]) h3
theorem qnj(known known':Wd->Nat)(og:Nat)(l:List Wd)(h:∀ w∈l,w≠[]):qee known og l=qee known' og l:=qlY known known' og l _ _ h rfl rfl rfl
theorem qgw(known:Wd->Nat)(og:Nat):∀ (l:List Wd) (s:Wd×List (Wd×Nat)),((l.foldl (qbx known og) s).2).map (·.1)=s.2.map (·.1)++defs l
 |[],s=>by simp[defs]
 |w::r,s=>by
  rw[foldl_cons,qgw known og r];unfold qbx defs
  cases hd:defW w with
  |some x=>simp[hd]
  |none=>simp[hd]
def qfH:List UInt8:=[97,98,99,100,101,102,103,104,105,106,107,108,109,110,111,112,113,114,115,116,117,118,119,120,121,122,48,49,50,51,52,53,54,55,56,57,95]
theorem ql2:∀ n:Nat,n<256->qfH.contains (UInt8.ofNat n)=qaU (UInt8.ofNat n):=by decide +kernel
theorem qrI(c:UInt8):qfH.contains c=qaU c:=by
 have h:=ql2 c.toNat c.toNat_lt
 rwa [UInt8.ofNat_toNat] at h
theorem qb8{p:UInt8->Bool}:∀ {l:List UInt8},l.dropWhile p=[] ↔ l.all p=true
 |[]=>by simp
 |c::l=>by
  rw[List.dropWhile_cons,all_cons]
  cases h:p c with
  |true=>simpa using qb8
  |false=>simp
theorem qus(s:List UInt8):(trimS s qfH=[]) ↔ s.all qaU=true:=by
 have he:(λc=>qfH.contains c)=qaU:=funext qrI;unfold trimS trimLeftS trimRightS;rw[he,qb8];constructor;intro h
 by_cases h2:s.reverse.dropWhile qaU=[]
 rw[qb8] at h2;rw[all_reverse] at h2;exact h2;exfalso;obtain⟨c,r,hcr⟩:=List.exists_cons_of_ne_nil h2
 have h3:qaU c=false:=by
  have:=List.head?_dropWhile_not qaU s.reverse;rw[hcr] at this;simpa using this
 rw[hcr,all_reverse,all_cons,h3] at h;cases h;intro h;have h2:s.reverse.dropWhile qaU=[]:=by rw[qb8,all_reverse];exact h
 rw[h2]
 try rfl
theorem qrM(r:List UInt8):hasPrefix (38::r) [38]=true/\trimPrefix (38::r) [38]=r:=by
 simp[trimPrefix,hasPrefix,List.isPrefixOf]
theorem qup(h:c≠38)(r:List UInt8):hasPrefix (c::r) [38]=false:=by
 have:¬ (38:UInt8)=c:=λe=>h e.symm;simp[hasPrefix,List.isPrefixOf,this]
theorem qvx(w:Wd):refW w=if hasPrefix w [38]=true/\qgn (trimPrefix w [38])=true then some (trimPrefix w [38]) else none:=by
 cases w with
 |nil=>rfl
 |cons c r=>
  by_cases h:c=38
  subst h;rw[(qrM r).1,(qrM r).2];simp[refW];rw[qup h];simp[refW,h]
theorem qlj(w:Wd):hasSuffix w [58]=decide (w.getLast? = some 58):=by
 unfold hasSuffix;rw[Bool.eq_iff_iff,List.isSuffixOf_iff_suffix,decide_eq_true_iff];constructor;rintro⟨t,rfl⟩
 simp
 intro h;rw[List.getLast?_eq_some_iff] at h;obtain⟨t,rfl⟩:=h;exact⟨t,rfl⟩
theorem qvi(w:Wd):defW w=if hasSuffix w [58]=true/\qgn (trimSuffix w [58])=true then some (trimSuffix w [58]) else none:=by
 rw[qlj];unfold defW
 by_cases h:w.getLast? = some 58
 ·have h2:trimSuffix w [58]=w.dropLast:=by
   unfold trimSuffix;rw[qlj,zRp h,zp rfl,List.dropLast_eq_take]
   try rfl
  rw[h2];simp[h]
 simp[h]
structure MS where
 mem:Nat->Nat
 pc:Nat
 data:List Nat
 calls:List Nat
 inp:List Nat
 out:Wd
 digit:Bool
variable{s':MS}
inductive MR where
 |run (s:MS)
 |stop (e:Nat) (out:Wd)
def MR.trap(s:MS):MR:=.stop 12 s.out
def qdE(v:Nat)(s:MS):MR:=if s.data.length<256 then .run { s with data:=v::s.data } else .trap s
def binM(c a b:Nat):Option Nat:=
 if c=43 then some ((a+b) % 4294967296)
 else if c=45 then some ((a+4294967296-b) % 4294967296)
 else if c=42 then some (a * b % 4294967296)
 else if c=47 then (if b=0 then none else some (a / b))
 else if c=37 then (if b=0 then none else some (a % b))
 else if c=94 then some (a ^^^ b)
 else some (if a<b then 1 else 0)
def qcc(c:Nat):Bool:=decide (48<=c) && decide (c<=57)
def qlZ(c:Nat)(s:MS):MR:=if s.digit=true then (match s.data with
 |d::r=>.run { s with data:=(d * 10+c-48) % 4294967296::r }
 |[]=>.trap s) else qdE (c-48) s
def ldM(s:MS):MR:=match s.data with
 |a::r=>if a<262144 then qdE (s.mem a) { s with data:=r } else .trap s
 |[]=>.trap s
def stoM(s:MS):MR:=match s.data with
 |a::v::r=>if a<262144 then .run { s with data:=r,mem:=λi=>if i=a then v else s.mem i } else .trap s
 |_=>.trap s
def jmpM(s:MS):MR:=match s.data with
 |t::v::r=>.run { s with data:=r,pc:=if v=0 then t else s.pc }
 |_=>.trap s
def qm5(s:MS):MR:=match s.data with
 |t::r=>if s.calls.length<64 then .run { s with data:=r,calls:=s.pc::s.calls,pc:=t } else .trap s
 |[]=>.trap s
def bakM(s:MS):MR:=match s.calls with
 |t::r=>.run { s with calls:=r,pc:=t }
 |[]=>.trap s
def rdM(s:MS):MR:=match s.inp with
 |v::r=>qdE v { s with inp:=r }
 |[]=>qdE 4294967295 s
def wrM(s:MS):MR:=match s.data with
 |v::r=>.run { s with data:=r,out:=s.out++[UInt8.ofNat v] }
 |[]=>.trap s
def opM(c:Nat)(s:MS):MR:=match s.data with
 |b::a::r=>(match binM c a b with
  |some v=>qdE v { s with data:=r }
  |none=>.trap s)
 |_=>.trap s
def exeM(c:Nat)(s:MS):MR:=
 if qcc c=true then qlZ c s
 else if c=32∨c=10 then .run s
 else if c=64 then ldM s
 else if c=33 then stoM s
 else if c=63 then jmpM s
 else if c=58 then qm5 s
 else if c=59 then bakM s
 else if c=44 then rdM s
 else if c=46 then wrM s
 else if c=36 then .stop 0 s.out
 else if c=43∨c=45∨c=42∨c=47∨c=37∨c=94∨c=60 then opM c s
 else .trap s
def stepM(s:MS):MR:=
 if s.pc<262144 then (match exeM (s.mem s.pc) { s with pc:=s.pc+1 } with
  |.run s'=>.run { s' with digit:=qcc (s.mem s.pc) }
  |.stop e o=>.stop e o)
 else .trap s
def runM:Nat->MS->Nat×Wd×Nat
 |0,s=>(13,s.out,0)
 |n+1,s=>match stepM s with
  |.run s'=>((runM n s').1,(runM n s').2.1,(runM n s').2.2+1)
  |.stop e o=>(e,o,1)
def qfl(code:Wd)(og:Nat):Nat->Nat:=λi=>if og<=i then (match code[i-og]? with
 |some c=>c.toNat
 |none=>0) else 0
def qeN(code:Wd)(og:Nat)(inp:List Nat):MS:=⟨qfl code og,og,[],[],inp,[],false⟩
inductive Stp:Nat->MS->MS->Prop
 |zero (s:MS):Stp 0 s s
 |step {k:Nat} {s s' s2:MS}:stepM s=.run s'->Stp k s' s2->Stp (k+1) s s2
theorem Stp.one{s:MS}(h:stepM s=.run s'):Stp 1 s s':=.step h (.zero _)
theorem Stp.trans{s s2:MS}(h:Stp a s s')(k:Stp b s' s2):Stp (a+b) s s2:=by
 induction h with
 |zero s=>rw[zero_add];exact k
 |step h1 _ ih=>rw[Nat.add_right_comm];exact .step h1 (ih k)
theorem qwu{s:MS}(h:Stp k s s'):∀ n,runM (k+n) s=((runM n s').1,(runM n s').2.1,(runM n s').2.2+k):=by
 induction h with
 |zero s=>intro n;rw[zero_add];try rfl
 |step h1 _ ih=>
  intro n;rw[Nat.add_right_comm,runM,h1];simp only;rw[ih n];simp only[add_assoc]
def Stx(m:Nat)(s s':MS):Prop:=∃ k,k<=m/\Stp k s s'
theorem Stx.one{s s':MS}(h:stepM s=.run s'):Stx 1 s s':=⟨1,zNr _,.one h⟩
def qhv(mem:Nat->Nat)(p:Nat)(t:Wd):Prop:=∀ i (h:i<t.length),mem (p+i)=(t[i]).toNat
theorem qhv.app{mem:Nat->Nat}{p:Nat}{a b:Wd}(h:qhv mem p (a++b)):qhv mem p a/\qhv mem (p+a.length) b:=by
 constructor;intro i hi;have:=h i (by rw[zLa];omega);rw[List.getElem_append_left hi] at this;exact this;intro i hi;have:=h (a.length+i) (by rw[zLa];omega);rw[List.getElem_append_right (by omega)] at this;rw[add_assoc];simpa using this
theorem qhv.pre{mem:Nat->Nat}{p:Nat}{a t:Wd}(h:qhv mem p t)(hp:a <+: t):qhv mem p a:=by
 obtain⟨b,rfl⟩:=hp;exact h.app.1
theorem qv9(code:Wd)(og:Nat):qhv (qfl code og) og code:=λi hi=>by
 unfold qfl;rw[zp (le_add_right _ _),Nat.add_sub_cancel_left,zRl hi]
def valD(a:Nat)(l:Wd):Nat:=l.foldl (λa c=>10 * a+(c.toNat-48)) a
theorem qpM(a:Nat)(l m:Wd):valD a (l++m)=valD (valD a l) m:=List.foldl_append ..
theorem qh5:qar c=true ↔ 48<=c.toNat/\c.toNat<=57:=by
 have h:∀ n:Nat,n<256->(qar (UInt8.ofNat n)=true ↔ 48<=n/\n<=57):=by decide +kernel
 have:=h c.toNat c.toNat_lt
 rwa [UInt8.ofNat_toNat] at this
theorem qmi(u:Nat):valD 0 (decDigits u)=u:=by
 rw[decDigits];split
 rename_i h
 unfold valD;simp only[foldl_cons,List.foldl_nil]
 have:(UInt8.ofNat (48+u)).toNat=48+u:=by
  rw[UInt8.toNat_ofNat'];omega
 rw[this];omega
 rename_i h
 have ih:=qmi (u / 10);rw[qpM,ih];unfold valD;simp only[foldl_cons,List.foldl_nil]
 have:(UInt8.ofNat (48+u % 10)).toNat=48+u % 10:=by
  rw[UInt8.toNat_ofNat'];omega
 rw[this];omega
termination_by u
theorem qk9:∀ k:Nat,valD 0 (List.replicate k 48)=0
 |0=>rfl
 |k+1=>by
  have:=qk9 k;rw[List.replicate_succ];exact this
theorem qi0:∀ (k n:Nat),n<10 ^ (k+1)->(decDigits n).length<=k+1
 |0,n,h=>by rw[decDigits,dif_pos (by simpa using h)];simp
 |k+1,n,h=>by
  rw[decDigits];split
  simp
  have:=qi0 k (n / 10) (by rw[Nat.pow_succ] at h;omega);rw[zLa,List.length_singleton];omega
theorem qnz(h:n<1000000):valD 0 (qeb n)=n:=by
 have h1:=qi0 5 n h;have h2:1<=(decDigits n).length:=List.length_pos_iff.2 (qcl n)
 have h3:qeb n=List.replicate (6-(decDigits n).length) 48++decDigits n:=by
  unfold qeb;rw[zLa,List.drop_append_of_le_length (by simp only[zLc,zLn];omega)];congr 1
  have:∀ k:Nat,k<=6->1<=k->([48,48,48,48,48]:Wd).drop (([48,48,48,48,48]:Wd).length+k-6)=List.replicate (6-k) 48:=by
   intro k hk h1;have:k=1∨k=2∨k=3∨k=4∨k=5∨k=6:=by omega
   rcases this with rfl|rfl|rfl|rfl|rfl|rfl <;> rfl
  exact this _ h1 h2
 rw[h3,qpM,qk9,qmi]
theorem qt1(l:Wd):∀ a:Nat,(∀ c∈l,qar c=true)->l.foldl (λa c=>(a * 10+c.toNat-48) % 4294967296) (a % 4294967296)=valD a l % 4294967296:=by
 induction l with
 |nil=>intro a _;rfl
 |cons c l ih=>
  intro a h;have hc:=qh5.1 (h c (by simp));have h1:=ih (a * 10+c.toNat-48) λx hx=>h x (zMo _ hx)
  have h2:valD a (c::l)=valD (a * 10+c.toNat-48) l:=by
   unfold valD;rw[foldl_cons];congr 1;omega
  rw[h2,<-h1,foldl_cons];congr 1;omega
theorem qmH:∀ (l:Wd) (s:MS) (d:Nat) (r:List Nat),(∀ c∈l,qar c=true)->s.digit=true->s.data=d::r->qhv s.mem s.pc l->s.pc+l.length<=262144 ->
  Stp l.length s { s with pc:=s.pc+l.length,data:=l.foldl (λa c=>(a * 10+c.toNat-48) % 4294967296) d::r }
 |[],s,d,r,_,_,hd,_,_=>by
  have:({ s with pc:=s.pc+([]:Wd).length,data:=([]:Wd).foldl (λa c=>(a * 10+c.toNat-48) % 4294967296) d::r }:MS)=s:=by
   cases s;simp only at hd;subst hd;rfl
  rw[this];exact .zero s
 |c::l,s,d,r,h,hg,hd,hm,hp=>by
  have hc:=h c (by simp);have hcn:=qh5.1 hc;have hm0:=hm 0 (by simp);simp only[add_zero,List.getElem_cons_zero] at hm0;have hdn:qcc c.toNat=true:=by unfold qcc;simp[hcn.1,hcn.2]
  rw[zLc] at hp
  have hst:stepM s=.run { s with pc:=s.pc+1,data:=(d * 10+c.toNat-48) % 4294967296::r }:=by
   unfold stepM;rw[zp (by omega),hm0];unfold exeM qlZ;rw[zp hdn];simp only[hg,if_true,hd,hdn]
  have hm1:qhv s.mem (s.pc+1) l:=λi hi=>by
   have:=hm (i+1) (by rw[zLc];omega);rw[show s.pc+1+i=s.pc+(i+1) by omega];simpa using this
  have ih:=qmH l { s with pc:=s.pc+1,data:=(d * 10+c.toNat-48) % 4294967296::r } _ r (λx hx=>h x (zMo _ hx)) hg rfl hm1 (by simp only;omega)
  have e:({ s with pc:=s.pc+(c::l).length,data:=(c::l).foldl (λa c=>(a * 10+c.toNat-48) % 4294967296) d::r }:MS)={ s with pc:=s.pc+1+l.length,data:=l.foldl (λa c=>(a * 10+c.toNat-48) % 4294967296) ((d * 10+c.toNat-48) % 4294967296)::r }:=by
   rw[zLc,foldl_cons,add_assoc,Nat.add_comm 1]
  rw[e];exact .step hst ih
theorem qpJ{l:Wd}{s:MS}(hne:l≠[])(h:∀ c∈l,qar c=true)(hg:s.digit=false)(hroom:s.data.length<256)(hm:qhv s.mem s.pc l)(hp:s.pc+l.length<=262144)(hv:valD 0 l<4294967296) :
  Stp l.length s { s with pc:=s.pc+l.length,data:=valD 0 l::s.data,digit:=true }:=by
 cases l with
 |nil=>exact absurd rfl hne
 |cons c l=>
  have hc:=h c (by simp);have hcn:=qh5.1 hc;have hm0:=hm 0 (by simp);simp only[add_zero,List.getElem_cons_zero] at hm0;have hdn:qcc c.toNat=true:=by unfold qcc;simp[hcn.1,hcn.2]
  rw[zLc] at hp
  have hst:stepM s=.run { s with pc:=s.pc+1,data:=(c.toNat-48)::s.data,digit:=true }:=by
   unfold stepM;rw[zp (by omega),hm0];unfold exeM qlZ qdE;rw[zp hdn];simp[hg,hroom,hdn]
  have hm1:qhv s.mem (s.pc+1) l:=λi hi=>by
   have:=hm (i+1) (by rw[zLc];omega);rw[show s.pc+1+i=s.pc+(i+1) by omega];simpa using this
  have hl:=λx hx=>h x (zMo c hx);have ih:=qmH l { s with pc:=s.pc+1,data:=(c.toNat-48)::s.data,digit:=true } _ s.data hl rfl rfl hm1 (by simp only;omega);have h3:=qt1 l (c.toNat-48) hl;have h4:valD 0 (c::l)=valD (c.toNat-48) l:=by unfold valD;rw[foldl_cons];congr 1;omega
  rw[Nat.mod_eq_of_lt (show c.toNat-48<4294967296 by omega),<-h4,Nat.mod_eq_of_lt hv] at h3;rw[h3] at ih
  have e:({ s with pc:=s.pc+(c::l).length,data:=valD 0 (c::l)::s.data,digit:=true }:MS)={ s with pc:=s.pc+1+l.length,data:=valD 0 (c::l)::s.data,digit:=true }:=by
   rw[zLc,add_assoc,Nat.add_comm 1]
  rw[e];exact .step hst ih
structure PW where
 W:List Wd
 og:Nat
 known:Wd->Nat
def PW.pre(C:PW)(i:Nat):Wd:=qcZ C.known (C.W.take i)
def PW.plc(C:PW)(i:Nat):Nat:=C.og+(C.pre i).length
def PW.At(C:PW)(s:MS)(i:Nat):Prop:=s.pc=C.plc i/\(s.digit=true->qbh (C.pre i)=true)
structure PW.Ok(C:PW)(mem:Nat->Nat):Prop where
 here:qhv mem C.og (qcZ C.known C.W)
 fits:C.og+(qcZ C.known C.W).length<=262144
theorem qu5(known:Wd->Nat)(t w:Wd):t <+: addT known t w:=by
 unfold addT;split;exact zPf _;rw[zAs];exact List.prefix_append _ _
theorem qnC(known:Wd->Nat):∀ (l:List Wd) (t:Wd),t <+: l.foldl (addT known) t
 |[],t=>zPf _
 |w::l,t=>List.IsPrefix.trans (qu5 known t w) (qnC known l _)
theorem PW.pre_all(C:PW)(i:Nat):C.pre i <+: qcZ C.known C.W:=by
 have h:qcZ C.known C.W=(C.W.drop i).foldl (addT C.known) (C.pre i):=by
  unfold PW.pre qcZ;rw[<-List.foldl_append,take_append_drop]
 rw[h];exact qnC _ _ _
theorem PW.pre_succ(C:PW)(h:C.W[i]? = some w):C.pre (i+1)=addT C.known (C.pre i) w:=by
 obtain⟨hi,rfl⟩:=List.getElem?_eq_some_iff.1 h;unfold PW.pre qcZ;rw[List.take_succ_eq_append_getElem hi,List.foldl_append]
 try rfl
theorem PW.pre_le(C:PW)(i:Nat):C.plc i<=C.og+(qcZ C.known C.W).length:=by
 have:=(C.pre_all i).length_le;unfold PW.plc;omega
theorem PW.piece{C:PW}{mem:Nat->Nat}(hk:C.Ok mem)(hw:C.W[i]? = some w)(hd:defW w=none) :
  C.pre (i+1)=C.pre i++(if qbh (C.pre i) && qbU (qaF C.known w) then [32] else [])++qaF C.known w /\
  qhv mem (C.plc i) ((if qbh (C.pre i) && qbU (qaF C.known w) then [32] else [])++qaF C.known w)/\C.plc (i+1)<=262144:=by
 have h1:=C.pre_succ hw;have h2:addT C.known (C.pre i) w=C.pre i++(if qbh (C.pre i) && qbU (qaF C.known w) then [32] else [])++qaF C.known w:=by unfold addT;rw[hd]
 rw[h2] at h1;refine⟨h1,?_,zNt (C.pre_le _) hk.fits⟩;have h3:=hk.here.pre (C.pre_all (i+1));rw[h1,zAs] at h3;exact h3.app.2
theorem PW.sign{C:PW}{s:MS}(hk:C.Ok s.mem)(h:C.At s i)(hw:C.W[i]? = some [c])(hd:defW [c]=none)(hr:refW [c]=none)(hc:qar c=false) :
  stepM s=(match exeM c.toNat { s with pc:=C.plc (i+1) } with
   |.run s'=>.run { s' with digit:=false }
   |.stop e o=>.stop e o)/\qbh (C.pre (i+1))=false:=by
 obtain⟨h1,h2,h3⟩:=C.piece hk hw hd;have hp:qaF C.known [c]=[c]:=by unfold qaF;rw[hr]
 have hf:qbU [c]=false:=hc;rw[hp,hf,Bool.and_false,zn zDd] at h1 h2;rw[zLz] at h1;rw[nil_append] at h2;have m0:=h2 0 (by simp);simp only[add_zero,List.getElem_cons_zero] at m0
 have hplc:C.plc (i+1)=C.plc i+1:=by
  unfold PW.plc;rw[h1,zLa]
  try rfl
 have hn:qcc c.toNat=false:=by
  cases hx:qcc c.toNat with
  |false=>rfl
  |true=>
   unfold qcc at hx;simp only[zBa,zDe] at hx;rw[qh5.2 hx] at hc;cases hc
 constructor
 ·unfold stepM;rw[zp (by rw[h.1];omega),h.1,m0,<-hplc,hn]
  try cases exeM c.toNat { s with pc:=C.plc (i+1) } <;> rfl
 rw[h1];unfold qbh;simp[hc]
def PW.Code(C:PW)(i:Nat)(ws:List Wd):Prop:=∀ k (h:k<ws.length),C.W[i+k]? = some ws[k]
theorem PW.Code.app{C:PW}{a b:List Wd}(h:C.Code i (a++b)):C.Code i a/\C.Code (i+a.length) b:=by
 constructor;intro k hk;have:=h k (by rw[zLa];omega)
 rwa [List.getElem_append_left hk] at this
 intro k hk;have:=h (a.length+k) (by rw[zLa];omega);rw[List.getElem_append_right (by omega)] at this;rw[add_assoc];simpa using this
theorem PW.Code.cons{C:PW}{b:List Wd}(h:C.Code i (w::b)):C.W[i]? = some w/\C.Code (i+1) b:=by
 have h1:=PW.Code.app (a:=[w]) (b:=b) h;have h2:=h1.1 0 (by simp);exact⟨by simpa using h2,h1.2⟩
def PW.put(C:PW)(s:MS)(i:Nat)(d:List Nat):MS:={ s with pc:=C.plc i,data:=d,digit:=false }
theorem qbt(h:c∈([43,45,42,47,37,94,60,64,33,63,58,59,44,46,36]:Wd)):defW [c]=none/\refW [c]=none/\qar c=false:=by
 have:∀ c∈([43,45,42,47,37,94,60,64,33,63,58,59,44,46,36]:Wd),defW [c]=none/\refW [c]=none/\qar c=false:=by decide +kernel
 exact this c h
section
variable{C:PW}{s:MS}{i:Nat}
theorem PW.load(hk:C.Ok s.mem)(h:C.At s i)(hw:C.W[i]? = some [64])(hd:s.data=a::r)(ha:a<262144)(hroom:r.length<256):Stx 1 s (C.put s (i+1) (s.mem a::r)):=by
 obtain⟨e1,e2,e3⟩:=qbt (c:=64) zDd;obtain⟨h1,_⟩:=C.sign hk h hw e1 e2 e3;refine Stx.one (h1.trans ?_)
 have:exeM (64:UInt8).toNat { s with pc:=C.plc (i+1) }=.run { s with pc:=C.plc (i+1),data:=s.mem a::r }:=by
  unfold exeM;rw[zn zDd,zn zDd,zp zDd];unfold ldM qdE;simp[hd,ha,hroom]
 rw[this]
 try rfl
theorem PW.store(hk:C.Ok s.mem)(h:C.At s i)(hw:C.W[i]? = some [33])(hd:s.data=a::v::r)(ha:a<262144):Stx 1 s { C.put s (i+1) r with mem:=λi=>if i=a then v else s.mem i }:=by
 obtain⟨e1,e2,e3⟩:=qbt (c:=33) zDd;obtain⟨h1,_⟩:=C.sign hk h hw e1 e2 e3;refine Stx.one (h1.trans ?_)
 have:exeM (33:UInt8).toNat { s with pc:=C.plc (i+1) }=.run { s with pc:=C.plc (i+1),data:=r,mem:=λi=>if i=a then v else s.mem i }:=by
  unfold exeM;rw[zn zDd,zn zDd,zn zDd,zp zDd];unfold stoM;simp[hd,ha]
 rw[this]
 try rfl
theorem PW.jump(hk:C.Ok s.mem)(h:C.At s i)(hw:C.W[i]? = some [63])(hd:s.data=t::v::r):Stx 1 s { C.put s (i+1) r with pc:=if v=0 then t else C.plc (i+1) }:=by
 obtain⟨e1,e2,e3⟩:=qbt (c:=63) zDd;obtain⟨h1,_⟩:=C.sign hk h hw e1 e2 e3;refine Stx.one (h1.trans ?_)
 have:exeM (63:UInt8).toNat { s with pc:=C.plc (i+1) }=.run { s with pc:=if v=0 then t else C.plc (i+1),data:=r }:=by
  unfold exeM;rw[zn zDd,zn zDd,zn zDd,zn zDd,zp zDd];unfold jmpM;simp[hd]
 rw[this]
 try rfl
theorem PW.call(hk:C.Ok s.mem)(h:C.At s i)(hw:C.W[i]? = some [58])(hd:s.data=t::r)(hc:s.calls.length<64):Stx 1 s { C.put s (i+1) r with pc:=t,calls:=C.plc (i+1)::s.calls }:=by
 obtain⟨e1,e2,e3⟩:=qbt (c:=58) zDd;obtain⟨h1,_⟩:=C.sign hk h hw e1 e2 e3;refine Stx.one (h1.trans ?_)
 have:exeM (58:UInt8).toNat { s with pc:=C.plc (i+1) }=.run { s with pc:=t,data:=r,calls:=C.plc (i+1)::s.calls }:=by
  unfold exeM;rw[zn zDd,zn zDd,zn zDd,zn zDd,zn zDd,zp zDd];unfold qm5;simp[hd,hc]
 rw[this]
 try rfl
theorem PW.back(hk:C.Ok s.mem)(h:C.At s i)(hw:C.W[i]? = some [59])(hd:s.calls=t::r):Stx 1 s { s with pc:=t,calls:=r,digit:=false }:=by
 obtain⟨e1,e2,e3⟩:=qbt (c:=59) zDd;obtain⟨h1,_⟩:=C.sign hk h hw e1 e2 e3;refine Stx.one (h1.trans ?_)
 have:exeM (59:UInt8).toNat { s with pc:=C.plc (i+1) }=.run { s with pc:=t,calls:=r }:=by
  unfold exeM;rw[zn zDd,zn zDd,zn zDd,zn zDd,zn zDd,zn zDd,zp zDd];unfold bakM;simp[hd]
 rw[this]
theorem PW.read(hk:C.Ok s.mem)(h:C.At s i)(hw:C.W[i]? = some [44])(hroom:s.data.length<256):Stx 1 s { C.put s (i+1) ((s.inp.headD 4294967295)::s.data) with inp:=s.inp.tail }:=by
 obtain⟨e1,e2,e3⟩:=qbt (c:=44) zDd;obtain⟨h1,_⟩:=C.sign hk h hw e1 e2 e3;refine Stx.one (h1.trans ?_)
 have:exeM (44:UInt8).toNat { s with pc:=C.plc (i+1) }=.run { s with pc:=C.plc (i+1),data:=(s.inp.headD 4294967295)::s.data,inp:=s.inp.tail }:=by
  unfold exeM;rw[zn zDd,zn zDd,zn zDd,zn zDd,zn zDd,zn zDd,zn zDd,zp zDd];unfold rdM qdE
  cases hi:s.inp with
  |nil=>simp[hi,hroom]
  |cons v r=>simp[hi,hroom]
 rw[this]
 try rfl
theorem PW.write(hk:C.Ok s.mem)(h:C.At s i)(hw:C.W[i]? = some [46])(hd:s.data=v::r):Stx 1 s { C.put s (i+1) r with out:=s.out++[UInt8.ofNat v] }:=by
 obtain⟨e1,e2,e3⟩:=qbt (c:=46) zDd;obtain⟨h1,_⟩:=C.sign hk h hw e1 e2 e3;refine Stx.one (h1.trans ?_)
 have:exeM (46:UInt8).toNat { s with pc:=C.plc (i+1) }=.run { s with pc:=C.plc (i+1),data:=r,out:=s.out++[UInt8.ofNat v] }:=by
  unfold exeM;rw[zn zDd,zn zDd,zn zDd,zn zDd,zn zDd,zn zDd,zn zDd,zn zDd,zp zDd];unfold wrM;simp[hd]
 rw[this]
 try rfl
theorem PW.halt(hk:C.Ok s.mem)(h:C.At s i)(hw:C.W[i]? = some [36]):stepM s=.stop 0 s.out:=by
 obtain⟨e1,e2,e3⟩:=qbt (c:=36) zDd;obtain⟨h1,_⟩:=C.sign hk h hw e1 e2 e3;rw[h1]
 have:exeM (36:UInt8).toNat { s with pc:=C.plc (i+1) }=.stop 0 s.out:=by
  unfold exeM;rw[zn zDd,zn zDd,zn zDd,zn zDd,zn zDd,zn zDd,zn zDd,zn zDd,zn zDd,zp zDd]
 rw[this]
def isOp(c:UInt8):Prop:=c=43∨c=45∨c=42∨c=47∨c=37∨c=94∨c=60
theorem qve(hc:isOp c)(s:MS):exeM c.toNat s=opM c.toNat s:=by
 have h:qcc c.toNat=false/\¬ (c.toNat=32∨c.toNat=10)/\c.toNat≠64/\c.toNat≠33/\c.toNat≠63/\c.toNat≠58/\c.toNat≠59/\c.toNat≠44/\c.toNat≠46/\c.toNat≠36/\(c.toNat=43∨c.toNat=45∨c.toNat=42∨c.toNat=47∨c.toNat=37∨c.toNat=94∨c.toNat=60):=by
  rcases hc with rfl|rfl|rfl|rfl|rfl|rfl|rfl <;> decide
 obtain⟨a1,a2,a3,a4,a5,a6,a7,a8,a9,a10,a11⟩:=h;unfold exeM;rw[zn (by rw[a1];decide),zn a2,zn a3,zn a4,zn a5,zn a6,zn a7,zn a8,zn a9,zn a10,zp a11]
theorem qpL(hc:isOp c):defW [c]=none/\refW [c]=none/\qar c=false:=
 qbt (by unfold isOp at hc;rcases hc with rfl|rfl|rfl|rfl|rfl|rfl|rfl <;> decide)
theorem PW.op(hk:C.Ok s.mem)(h:C.At s i)(hc:isOp c)(hw:C.W[i]? = some [c])(hd:s.data=b::a::r)(hv:binM c.toNat a b=some v)(hroom:r.length<256):Stx 1 s (C.put s (i+1) (v::r)):=by
 obtain⟨e1,e2,e3⟩:=qpL hc;obtain⟨h1,_⟩:=C.sign hk h hw e1 e2 e3;refine Stx.one (h1.trans ?_)
 have:exeM c.toNat { s with pc:=C.plc (i+1) }=.run { s with pc:=C.plc (i+1),data:=v::r }:=by
  rw[qve hc];unfold opM qdE;simp[hd,hv,hroom]
 rw[this]
 try rfl
theorem PW.opTrap(hk:C.Ok s.mem)(h:C.At s i)(hc:isOp c)(hw:C.W[i]? = some [c])(hd:s.data=b::a::r)(hv:binM c.toNat a b=none):stepM s=.stop 12 s.out:=by
 obtain⟨e1,e2,e3⟩:=qpL hc;obtain⟨h1,_⟩:=C.sign hk h hw e1 e2 e3;rw[h1]
 have:exeM c.toNat { s with pc:=C.plc (i+1) }=.stop 12 s.out:=by
  rw[qve hc];unfold opM MR.trap;simp[hd,hv]
 rw[this]
end
structure IS where
 sc:List UInt8->Nat
 ar:List UInt8->List Nat
 inp:List Nat
 out:List UInt8
 left:Nat
inductive IR (A:Type) where
 |ok (v:A) (s:IS)
 |stop (e:Int) (s:IS)
def IR.bind{A B:Type}(r:IR A)(f:A->IS->IR B):IR B:=match r with
 |.ok v s=>f v s
 |.stop e s=>.stop e s
def IR.st{A:Type}:IR A->IS
 |.ok _ s=>s
 |.stop _ s=>s
def tick(s:IS):IR Unit:=if s.left=0 then .stop 13 s else .ok () { s with left:=s.left-1 }
def b2n(b:Bool):Nat:=if b=true then 1 else 0
def binI(op:List UInt8)(a b:Nat):Option Nat:=
 if op=[43] then some ((a+b) % 4294967296)
 else if op=[45] then some ((a+4294967296-b) % 4294967296)
 else if op=[42] then some (a * b % 4294967296)
 else if op=[94] then some (a ^^^ b)
 else if op=[61,61] then some (b2n (decide (a=b)))
 else if op=[33,61] then some (b2n (decide (a≠b)))
 else if op=[60] then some (b2n (decide (a<b)))
 else if op=[62] then some (b2n (decide (b<a)))
 else if op=[60,61] then some (b2n (decide (a<=b)))
 else if op=[62,61] then some (b2n (decide (b<=a)))
 else if op=[38,38] then some (b2n (decide (a≠0/\b≠0)))
 else if op=[124,124] then some (b2n (decide (a≠0∨b≠0)))
 else if b=0 then none
 else if op=[47] then some (a / b) else some (a % b)
def keyI(f:FnD)(name:List UInt8):List UInt8:=if name∈f.params∨name∈f.locals then f.name++[46]++name else name
def fnI(P:Pr)(name:List UInt8):FnD:=(P.funcs.find? λf=>decide (f.name=name)).getD ⟨[],[],[],[]⟩
def qed(s:IS)(k:List UInt8)(v:Nat):IS:={ s with sc:=λx=>if x=k then v else s.sc x }
def qcN(f:FnD):List (List UInt8)->List Nat->IS->IS
 |p::ps,v::vs,s=>qcN f ps vs (qed s (keyI f p) v)
 |_,_,s=>s
def mapR{A:Type}(g:A->IS->IR Nat):List A->IS->IR (List Nat)
 |[],s=>.ok [] s
 |a::l,s=>(g a s).bind λv s=>(mapR g l s).bind λvs s=>.ok (v::vs) s
def blkR(g:Sm->IS->IR (Option Nat)):List Sm->IS->IR (Option Nat)
 |[],s=>.ok none s
 |a::l,s=>(g a s).bind λr s=>match r with
  |some v=>.ok (some v) s
  |none=>blkR g l s
def whlR(c:IS->IR Nat)(b:IS->IR (Option Nat)):Nat->Nat->IS->IR (Option Nat)
 |0,v,s=>if v=0 then .ok none s else .stop 13 s
 |m+1,v,s=>if v=0 then .ok none s else (b s).bind λr s=>match r with
  |some x=>.ok (some x) s
  |none=>(c s).bind λv s=>whlR c b m v s
def callI(P:Pr)(g:FnD->Sm->IS->IR (Option Nat))(name:List UInt8)(vs:List Nat)(s:IS):IR Nat:=
 if name=[105,110] then (match s.inp with
  |[]=>.ok 4294967295 s
  |v::r=>.ok v { s with inp:=r })
 else if name=[111,117,116] then .ok 0 { s with out:=s.out++[UInt8.ofNat (vs.headD 0)] }
 else (blkR (g (fnI P name)) (fnI P name).body (qcN (fnI P name) (fnI P name).params vs s)).bind λr s=>.ok (r.getD 0) s
def opI(P:Pr)(g:FnD->Sm->IS->IR (Option Nat))(f:FnD)(op:List UInt8)(num:Nat)(name:List UInt8)(vs:List Nat)(s:IS):IR Nat:=
 if op=[110,117,109] then .ok num s
 else if op=[118,97,114] then .ok (s.sc (keyI f name)) s
 else if op=[101,108,101,109] then (match (s.ar name)[vs.headD 0]? with
  |some v=>.ok v s
  |none=>.stop 2 s)
 else if op=[110,101,103] then .ok ((4294967296-vs.headD 0) % 4294967296) s
 else if op=[110,111,116] then .ok (b2n (decide (vs.headD 0=0))) s
 else if op=[99,97,108,108] then callI P g name vs s
 else match binI op (vs.headD 0) (vs.tail.headD 0) with
  |some v=>.ok v s
  |none=>.stop 12 s
mutual
def evI(P:Pr):Nat->FnD->Ex->IS->IR Nat
 |0,_,_,s=>.stop 13 s
 |n+1,f,.mk op num name args,s=>(tick s).bind λ_ s=>(mapR (evI P n f) args s).bind λvs s=>opI P (stI P n) f op num name vs s
def stI(P:Pr):Nat->FnD->Sm->IS->IR (Option Nat)
 |0,_,_,s=>.stop 13 s
 |n+1,f,.mk kind name index value thn els,s=>(tick s).bind λ_ s=>
  if kind=7 then .stop 0 s else (evI P n f (value.headD default) s).bind λv s=>
   if kind=1 then .ok none (qed s (keyI f name) v)
   else if kind=2 then (evI P n f (index.headD default) s).bind λi s=>match (s.ar name)[i]? with
    |some _=>.ok none { s with ar:=λx=>if x=name then (s.ar name).set i v else s.ar x }
    |none=>.stop 2 s
   else if kind=5 then .ok (some v) s
   else if kind=3 then (if v≠0 then blkR (stI P n f) thn s else blkR (stI P n f) els s)
   else if kind=4 then whlR (evI P n f (value.headD default)) (blkR (stI P n f) thn) n v s
   else .ok none s
end
def up(k:Nat)(s:IS):IS:={ s with left:=s.left+k }
def Grow{A:Type}(s:IS)(r:IR A):Prop:=s.out <+: r.st.out/\r.st.left<=s.left
theorem Grow.bind{A B:Type}{s:IS}{r:IR A}{f:A->IS->IR B}(h:Grow s r)(hf:∀ v s',Grow s' (f v s')):Grow s (r.bind f):=by
 cases r with
 |ok v s'=>exact⟨List.IsPrefix.trans h.1 (hf v s').1,zNt (hf v s').2 h.2⟩
 |stop e s'=>exact h
theorem qmA(s:IS):Grow s (tick s):=by
 unfold tick;split;exact⟨zPf _,zNr _⟩;exact⟨zPf _,Nat.sub_le _ _⟩
theorem qkr{A:Type}{g:A->IS->IR Nat}(h:∀ a s,Grow s (g a s)):∀ (l:List A) (s:IS),Grow s (mapR g l s)
 |[],s=>⟨zPf _,zNr _⟩
 |a::l,s=>(h a s).bind λv s=>(qkr h l s).bind λvs s=>⟨zPf _,zNr _⟩
theorem qd5{g:Sm->IS->IR (Option Nat)}(h:∀ a s,Grow s (g a s)):∀ (l:List Sm) (s:IS),Grow s (blkR g l s)
 |[],s=>⟨zPf _,zNr _⟩
 |a::l,s=>(h a s).bind λr s=>by
  cases r with
  |none=>exact qd5 h l s
  |some v=>exact⟨zPf _,zNr _⟩
theorem qnq{c:IS->IR Nat}{b:IS->IR (Option Nat)}(hc:∀ s,Grow s (c s))(hb:∀ s,Grow s (b s)):∀ (m v:Nat) (s:IS),Grow s (whlR c b m v s)
 |0,v,s=>by
  unfold whlR
  split <;> exact⟨zPf _,zNr _⟩
 |m+1,v,s=>by
  unfold whlR;split;exact⟨zPf _,zNr _⟩;refine(hb s).bind λr s=>?_
  cases r with
  |some x=>exact⟨zPf _,zNr _⟩
  |none=>exact(hc s).bind λv s=>qnq hc hb m v s
theorem qdT(f:FnD):∀ (ps:List (List UInt8)) (vs:List Nat) (s:IS),(qcN f ps vs s).out=s.out/\(qcN f ps vs s).left=s.left/\∀ k,qcN f ps vs (up k s)=up k (qcN f ps vs s)
 |p::ps,v::vs,s=>by
  obtain⟨h1,h2,h3⟩:=qdT f ps vs (qed s (keyI f p) v)
  exact⟨h1,h2,λk=>h3 k⟩
 |[],_,s=>by unfold qcN;exact⟨rfl,rfl,λ_=>rfl⟩
 |_::_,[],s=>by unfold qcN;exact⟨rfl,rfl,λ_=>rfl⟩
theorem qpj{g:FnD->Sm->IS->IR (Option Nat)}(h:∀ f a s,Grow s (g f a s))(f:FnD)(op:List UInt8)(num:Nat)(name:List UInt8)(vs:List Nat)(s:IS):Grow s (opI P g f op num name vs s):=by
 unfold opI;split;exact⟨zPf _,zNr _⟩;split;exact⟨zPf _,zNr _⟩;split;split <;> exact⟨zPf _,zNr _⟩;split;exact⟨zPf _,zNr _⟩;split;exact⟨zPf _,zNr _⟩;split;unfold callI;split;split <;> exact⟨zPf _,zNr _⟩;split;exact⟨List.prefix_append _ _,zNr _⟩;refine Grow.bind ?_ λr s=>⟨zPf _,zNr _⟩;have:=qd5 (h (fnI P name)) (fnI P name).body (qcN (fnI P name) (fnI P name).params vs s);unfold Grow at this ⊢
 rwa [(qdT _ _ _ _).1,(qdT _ _ _ _).2.1] at this
 split <;> exact⟨zPf _,zNr _⟩
theorem qgf(P:Pr):∀ n:Nat,(∀ f x s,Grow s (evI P n f x s))/\∀ f x s,Grow s (stI P n f x s)
 |0=>⟨λf x s=>by unfold evI;exact⟨zPf _,zNr _⟩,λf x s=>by unfold stI;exact⟨zPf _,zNr _⟩⟩
 |n+1=>by
  obtain⟨h1,h2⟩:=qgf P n;refine⟨λf x s=>?_,λf x s=>?_⟩;obtain⟨op,num,name,args⟩:=x;unfold evI;exact(qmA s).bind λ_ s=>(qkr (h1 f) args s).bind λvs s=>qpj h2 f op num name vs s;obtain⟨kind,name,index,value,thn,els⟩:=x;unfold stI;refine(qmA s).bind λ_ s=>?_;split;exact⟨zPf _,zNr _⟩;refine(h1 f _ s).bind λv s=>?_;split;exact⟨zPf _,zNr _⟩;split;refine(h1 f _ s).bind λi s=>?_;split <;> exact⟨zPf _,zNr _⟩;split;exact⟨zPf _,zNr _⟩;split;split;exact qd5 (h2 f) _ _;exact qd5 (h2 f) _ _;split;exact qnq (h1 f _) (qd5 (h2 f) _) _ _ _;exact⟨zPf _,zNr _⟩
theorem qsK(c:IS->IR Nat)(b:IS->IR (Option Nat))(m:Nat)(s:IS):whlR c b m 0 s=.ok none s:=by
 cases m <;> rw[whlR,zp rfl]
theorem qkb{s s':IS}{u:Unit}(h:tick s=.ok u s'):s'.left<s.left:=by
 unfold tick at h;split at h;cases h;cases h;simp only;omega
theorem qvR(P:Pr)(n:Nat)(f:FnD)(x:Ex)(s s':IS)(v:Nat)(h:evI P n f x s=.ok v s'):s'.left<s.left:=by
 cases n with
 |zero=>unfold evI at h;cases h
 |succ n=>
  obtain⟨op,num,name,args⟩:=x;unfold evI at h
  cases ht:tick s with
  |stop e s1=>rw[ht] at h;cases h
  |ok u s1=>
   rw[ht] at h;have h1:=qkb ht;have hG:Grow s1 ((mapR (evI P n f) args s1).bind λvs s=>opI P (stI P n) f op num name vs s):=(qkr ((qgf P n).1 f) args s1).bind λvs s=>qpj (qgf P n).2 f op num name vs s;have h2:=hG.2;have h3:(mapR (evI P n f) args s1).bind (λvs s=>opI P (stI P n) f op num name vs s)=.ok v s':=h;rw[h3] at h2;exact lt_of_le_of_lt h2 h1
structure OutI where
 out:List UInt8
 err:Int
 steps:Nat
def qb7(P:Pr)(inp:List Nat)(limit:Nat):IS:=⟨λ_=>0,λx=>match P.arrays.find? λa=>decide (a.name=x) with
 |some a=>List.replicate a.size 0
 |none=>[],inp,[],limit⟩
def qbn(P:Pr):FnD:=P.funcs.getLast?.getD ⟨[],[],[],[]⟩
def endI{A:Type}(limit:Nat):IR A->OutI
 |.ok _ s=>⟨s.out,0,limit-s.left⟩
 |.stop e s=>⟨s.out,e,limit-s.left⟩
def runI(P:Pr)(inp:List Nat)(limit:Nat):OutI:=endI limit (blkR (stI P limit (qbn P)) (qbn P).body (qb7 P inp limit))
abbrev Nm:=List UInt8
variable{arrays vars:List Nm}{name:Nm}
def qna:List Nm:=qdm++[[105,110],[111,117,116]]
def isNm(s:Nm):Bool:=decide (s.length<=24) && !qna.contains s && (match s with
 |[]=>false
 |c::r=>qaV c && r.all qaU)
structure FSum where
 name:Nm
 params:Nat
 need:Nat
 depth:Nat
structure CEnv where
 vars:List Nm
 arrays:List Nm
 later:List Nm
 own:List Nm
 funcs:List FSum
def CEnv.globals(c:CEnv):List Nm:=c.vars++c.arrays++c.later
def CEnv.fn(c:CEnv)(name:Nm):Option FSum:=c.funcs.find? λf=>decide (f.name=name)
def orE(a b:Int):Int:=if a≠0 then a else b
def qc4:List Nm:=[[124,124],[38,38],[61,61],[33,61],[60],[62],[60,61],[62,61],[94],[43],[45],[42],[47],[37]]
def qbk(op:Nm):Int:=if op=nNum∨op=nVar then 0 else if op=qeD∨op=nNeg∨op=nNot then 1 else if op=qch then -1 else if op∈qc4 then 2 else -2
def qb9(c:CEnv)(name:Nm):Int:=if name∈c.vars∨name∈c.own then 0 else if name∈c.globals then 10 else 7
def qdB(c:CEnv)(name:Nm):Int:=if name∈c.arrays then 0 else if name∈c.globals∨name∈c.own then 10 else 7
def callE(c:CEnv)(name:Nm)(n:Nat):Int:=
 if name=[105,110] then (if n=0 then 0 else 1)
 else if name=[111,117,116] then (if n=1 then 0 else 1)
 else match c.fn name with
  |some f=>if n=f.params then 0 else 1
  |none=>if name∈c.vars∨name∈c.arrays∨name∈c.own then 10 else 7
def useE(c:CEnv)(op name:Nm)(n:Nat):Int:=if op=nVar then qb9 c name else if op=qeD then qdB c name else if op=qch then callE c name n else 0
mutual
def errE(c:CEnv):Ex->Int
 |.mk op num name args=>if qbk op = -1∨qbk op=args.length then orE (qba c args) (useE c op name args.length) else 3
def qba(c:CEnv):List Ex->Int
 |[]=>0
 |x::l=>orE (errE c x) (qba c l)
end
def qhM:Nat->List Nat->Nat->Nat
 |i,[],m=>m
 |i,n::l,m=>qhM (i+1) l (max m (i+n))
def qiO(c:CEnv)(name:Nm)(ns:List Nat):Nat:=
 if name=[105,110] then 1
 else if name=[111,117,116] then ns.headD 0
 else match c.fn name with
  |some f=>qhM 0 ns (max (f.params+1) f.need)
  |none=>0
def opN(c:CEnv)(op name:Nm)(ns:List Nat):Nat:=
 if op=nNum∨op=nVar then 1
 else if op=qeD∨op=nNeg then 1+ns.headD 0
 else if op=qch then qiO c name ns
 else if op=nNot then max 2 (ns.headD 0)
 else if op=[62]∨op=[60,61] then max (max 3 (ns.headD 0)) (1+ns.tail.headD 0)
 else if op=[33,61] then max (max 3 (1+ns.headD 0)) (2+ns.tail.headD 0)
 else if op=[38,38] then max (1+ns.headD 0) (2+ns.tail.headD 0)
 else if op=[124,124] then max (2+ns.headD 0) (3+ns.tail.headD 0)
 else max (max 2 (ns.headD 0)) (1+ns.tail.headD 0)
mutual
def qbg(c:CEnv):Ex->Nat
 |.mk op num name args=>opN c op name (qaZ c args)
def qaZ(c:CEnv):List Ex->List Nat
 |[]=>[]
 |x::l=>qbg c x::qaZ c l
end
def qgl(c:CEnv)(op name:Nm):Nat:=if op=qch/\name≠[105,110]/\name≠[111,117,116] then (match c.fn name with
 |some f=>f.depth+1
 |none=>0) else 0
mutual
def depE(c:CEnv):Ex->Nat
 |.mk op num name args=>max (qb2 c args) (qgl c op name)
def qb2(c:CEnv):List Ex->Nat
 |[]=>0
 |x::l=>max (depE c x) (qb2 c l)
end
def exOp1:Ex->Nm
 |.mk op _ _ _=>op
def qbJ:Sm->Bool
 |.mk kind name index value thn els=>
  if kind=1 then decide (name≠[]/\index.length=0/\value.length=1/\thn.length=0/\els.length=0)
  else if kind=2 then decide (name≠[]/\index.length=1/\value.length=1/\thn.length=0/\els.length=0)
  else if kind=3 then decide (name=[]/\index.length=0/\value.length=1)
  else if kind=4 then decide (name=[]/\index.length=0/\value.length=1/\els.length=0)
  else if kind=5 then decide (name=[]/\index.length=0/\value.length=1/\thn.length=0/\els.length=0)
  else if kind=6 then decide (name=[]/\index.length=0/\value.length=1/\thn.length=0/\els.length=0/\exOp1 (value.headD default)=qch)
  else if kind=7 then decide (name=[]/\index.length=0/\value.length=0/\thn.length=0/\els.length=0)
  else false
mutual
def errS(c:CEnv):Sm->Int
 |.mk kind name index value thn els=>if qbJ (.mk kind name index value thn els)=false then 3
  else orE (qba c value) (orE (qba c index) (orE (if kind=1 then qb9 c name else if kind=2 then qdB c name else 0) (orE (qbB c thn) (qbB c els))))
def qbB(c:CEnv):List Sm->Int
 |[]=>0
 |s::l=>orE (errS c s) (qbB c l)
end
mutual
def qkz(c:CEnv):Sm->Nat
 |.mk kind name index value thn els=>
  if kind=7 then 0
  else if kind=2 then max (qbg c (value.headD default)) (2+qbg c (index.headD default))
  else if kind=5 then qbg c (value.headD default)
  else max 2 (max (max (qbg c (value.headD default)) (qbP c thn)) (qbP c els))
def qbP(c:CEnv):List Sm->Nat
 |[]=>0
 |s::l=>max (qkz c s) (qbP c l)
end
mutual
def depS(c:CEnv):Sm->Nat
 |.mk kind name index value thn els=>max (max (qb2 c value) (qb2 c index)) (max (qcg c thn) (qcg c els))
def qcg(c:CEnv):List Sm->Nat
 |[]=>0
 |s::l=>max (depS c s) (qcg c l)
end
def qce:List Nm->List Nm->Int
 |known,[]=>0
 |known,s::l=>if isNm s=false then 7 else if s∈known then 8 else qce (s::known) l
def qgZ:Int->List Int->Int
 |total,[]=>0
 |total,n::l=>if n<=0 then 2 else if 150000-total<n then 6 else qgZ (total+n) l
def envF(vars arrays later:List Nm)(known:List FSum)(f:FnD):CEnv:=⟨vars,arrays,later,f.params++f.locals,known⟩
def errF(vars arrays later:List Nm)(known:List FSum)(f:FnD):Int:=orE (qce (vars++arrays++later) (f.params++f.locals)) (qbB (envF vars arrays later known f) f.body)
def sumF(vars arrays later:List Nm)(known:List FSum)(f:FnD):FSum:=⟨f.name,f.params.length,max (max 2 (f.params.length+1)) (qbP (envF vars arrays later known f) f.body),max 1 (qcg (envF vars arrays later known f) f.body)⟩
def qeK(vars arrays later:List Nm):List FSum->List FnD->Int
 |known,[]=>0
 |known,f::l=>orE (errF vars arrays later known f) (qeK vars arrays later (known++[sumF vars arrays later known f]) l)
def qjO(vars arrays later:List Nm):List FSum->List FnD->List FSum
 |known,[]=>known
 |known,f::l=>qjO vars arrays later (known++[sumF vars arrays later known f]) l
def qaf(vars:List Nm)(fs:List FnD):List Nm:=vars++(fs.map λf=>(f.params++f.locals).map λx=>f.name++[46]++x).flatten
def qtu(vars:List Nm)(fs:List FnD)(sums:List FSum):Int:=match fs.getLast?,sums.getLast? with
 |some f,some m=>if f.name=[109,97,105,110]/\f.params=[] then (if (qaf vars fs).length<=8000/\m.need<=200/\m.depth<=60 then 0 else 6) else 9
 |_,_=>9
def qb5(vars:List Nm)(arrays:List (Nm×Int))(fs:List FnD):Int:=
 orE (qce [] (vars++arrays.map (·.1)++fs.map (·.name))) (orE (qgZ 0 (arrays.map (·.2)))
  (orE (qeK vars (arrays.map (·.1)) (fs.map (·.name)) [] fs) (qtu vars fs (qjO vars (arrays.map (·.1)) (fs.map (·.name)) [] fs))))
def qbj(p:Pr):Int:=qb5 p.vars (p.arrays.map λa=>(a.name,(a.size:Int))) p.funcs
theorem qac{a b:Int}:orE a b=0 ↔ a=0/\b=0:=by
 unfold orE;split;constructor;intro h;contradiction;rintro⟨h,_⟩;contradiction;constructor;intro h;exact⟨by omega,h⟩;rintro⟨_,h⟩;exact h
def qoT(p:Pr)(inp:List Nat)(steps:Int):OutI:=if 100000000<steps then ⟨[],6,0⟩ else if steps<=0 then ⟨[],13,0⟩ else runI p inp steps.toNat
theorem qaP:∀ (l k:List Nm),qce k l=0->l.Nodup/\∀ s∈l,s ∉ k/\isNm s=true
 |[],k,_=>⟨nodup_nil,λs hs=>(not_mem_nil hs).elim⟩
 |s::l,k,h=>by
  rw[qce] at h;split at h;cases h
  rename_i h1
  split at h;cases h
  rename_i h2
  obtain⟨g1,g2⟩:=qaP l (s::k) h;refine⟨List.nodup_cons.2 ⟨λhm=>(g2 s hm).1 zMs,g1⟩,λx hx=>?_⟩;rcases zMi.1 hx with rfl|hx;exact⟨h2,by simpa using h1⟩;exact⟨λhm=>(g2 x hx).1 (zMo _ hm),(g2 x hx).2⟩
theorem quI{s:Nm}(h:isNm s=true):(46:UInt8) ∉ s:=by
 unfold isNm at h;rw[zBa] at h;have h2:=h.2
 cases s with
 |nil=>exact not_mem_nil
 |cons c r=>
  simp only[zBa] at h2;intro hm;rcases zMi.1 hm with rfl|hm;exact absurd h2.1 zDd;exact absurd (List.all_eq_true.1 h2.2 46 hm) zDd
theorem qjf:∀ (a b x y:Nm),(46:UInt8) ∉ a->(46:UInt8) ∉ b->a++46::x=b++46::y->a=b/\x=y
 |[],[],x,y,_,_,h=>by
  injection h with _ h
  exact⟨rfl,h⟩
 |[],d::b,x,y,_,hb,h=>by
  injection h with h1 _
  exact absurd (h1▸mem_cons_self ..) hb
 |c::a,[],x,y,ha,_,h=>by
  injection h with h1 _
  exact absurd (h1▸mem_cons_self ..) ha
 |c::a,d::b,x,y,ha,hb,h=>by
  injection h with h1 h2;obtain⟨e1,e2⟩:=qjf a b x y (λg=>ha (zMo _ g)) (λg=>hb (zMo _ g)) h2;exact⟨by rw[h1,e1],e2⟩
theorem qmB(h:(fs.map (·.name)).Nodup){g:FnD}(hf:f∈fs)(hg:g∈fs)(he:f.name=g.name):f=g:=by
 induction fs with
 |nil=>cases hf
 |cons a l ih=>
  rw[zMc,nodup_cons] at h;rcases zMi.1 hf with rfl|hf';rcases zMi.1 hg with rfl|hg';rfl;exact absurd (zRg ⟨g,hg',he.symm⟩) h.1;rcases zMi.1 hg with rfl|hg';exact absurd (zRg ⟨f,hf',he⟩) h.1;exact ih h.2 hf' hg'
theorem qnL(h:qce [] (vars++arrays++fs.map (·.name))=0)(hf:f∈fs)(name:Nm):f.name++[46]++name∈qaf vars fs ↔ name∈f.params++f.locals:=by
 obtain⟨h1,h2⟩:=qaP _ _ h;have hd:∀ g∈fs,(46:UInt8) ∉ g.name:=λg hg=>quI (h2 _ (zRe (.inr (zRg ⟨g,hg,rfl⟩)))).2;unfold qaf;rw[mem_append];constructor;rintro(g|g);have:=quI (h2 _ (zRe (.inl (zRe (.inl g))))).2;exact absurd (by simp) this;obtain⟨l,g1,g2⟩:=List.mem_flatten.1 g;obtain⟨k,g3,rfl⟩:=zRf g1;obtain⟨x,g4,g5⟩:=zRf g2;have g6:k.name++46::x=f.name++46::name:=by simpa using g5
 obtain⟨e1,rfl⟩:=qjf _ _ _ _ (hd k g3) (hd f hf) g6;rw[<-qmB (zRc h1).2.1 g3 hf e1];exact g4;intro g;exact .inr (List.mem_flatten.2 ⟨_,zRg ⟨f,hf,rfl⟩,zRg ⟨name,g,rfl⟩⟩)
theorem qvC(h:qce [] (vars++arrays++fs.map (·.name))=0)(hf:f∈fs)(name:Nm):(if f.name++[46]++name∈qaf vars fs then f.name++[46]++name else name)=keyI f name:=by
 unfold keyI;simp only[qnL h hf,mem_append]
theorem qia{known:List FSum}(hf:f∈fs)(h:qb9 (envF vars arrays (fs.map (·.name)) known f) name=0):keyI f name∈qaf vars fs:=by
 unfold qb9 at h;unfold keyI qaf;rw[mem_append];split at h
 rename_i h1
 split
 rename_i h2
 exact .inr (List.mem_flatten.2 ⟨_,zRg ⟨f,hf,rfl⟩,zRg ⟨name,zRe h2,rfl⟩⟩)
 rename_i h2
 rcases h1 with h1|h1;exact .inl h1;exact absurd (zRd h1) h2;split at h <;> cases h
theorem qlK(h:(P.funcs.map (·.name)).Nodup)(hf:f∈P.funcs):fnI P f.name=f:=by
 unfold fnI
 cases hg:P.funcs.find? λg=>decide (g.name=f.name) with
 |none=>exact absurd (List.find?_eq_none.1 hg f hf) (by simp)
 |some g=>exact qmB h (mem_of_find?_eq_some hg) hf (zRi (List.find?_some (p:=λg:FnD=>decide (g.name=f.name)) hg))
structure CC where
 sc:Nm->Wd
 ar:Nm->Wd
 t0:Wd
 t1:Wd
 t2:Wd
def qaX(c:CC):List Wd:=[c.t2,[33],c.t1,[33],c.t2,[64],c.t1,[64],[60]]
def opW(c:CC)(op:Nm)(num:Nat)(name:Nm)(l:List (List Wd)):List Wd:=
 if op=nNum then [decDigits num]
 else if op=nVar then [c.sc name,[64]]
 else if op=qeD then c.ar name::(l.headD []++[[43],[64]])
 else if op=qch then l.flatten++(if name=[105,110] then [[44]] else if name=[111,117,116] then [[46],[48]] else [[38,102,95]++name,[58]])
 else if op=nNeg then [48]::(l.headD []++[[45]])
 else if op=nNot then l.headD []++[[49],[60]]
 else if op=[33,61] then [48]::(l.headD []++(l.drop 1).headD []++[[94],[60]])
 else if op=[38,38] then [48]::(l.headD []++[[60],[48]]++(l.drop 1).headD []++[[60],[42]])
 else if op=[124,124] then [48]::[48]::(l.headD []++[[60],[48]]++(l.drop 1).headD []++[[60],[43],[60]])
 else l.headD []++(l.drop 1).headD []++(if op=[62] then qaX c else if op=[60,61] then qaX c++[[49],[94]] else if op=[62,61] then [[60],[49],[94]] else if op=[61,61] then [[94],[49],[60]] else [op])
mutual
def exW(c:CC):Ex->List Wd
 |.mk op num name args=>opW c op num name (exWl c args)
def exWl(c:CC):List Ex->List (List Wd)
 |[]=>[]
 |x::l=>exW c x::exWl c l
end
def labW(n:Nat):Wd:=106::decDigits n
mutual
def stW(c:CC):Nat->Sm->List Wd×Nat
 |n,.mk kind name index value thn els=>
  if kind=1 then (exW c (value.headD default)++[c.sc name,[33]],n)
  else if kind=2 then (exW c (value.headD default)++c.ar name::(exW c (index.headD default)++[[43],[33]]),n)
  else if kind=3 then
   (match els with
   |[]=>(exW c (value.headD default)++[38::labW n,[63]]++(stWs c (n+1) thn).1++[labW n++[58]],(stWs c (n+1) thn).2)
   |_::_=>(exW c (value.headD default)++[38::labW n,[63]]++(stWs c (n+2) thn).1++[[48],38::labW (n+1),[63],labW n++[58]]++(stWs c (stWs c (n+2) thn).2 els).1++[labW (n+1)++[58]],(stWs c (stWs c (n+2) thn).2 els).2))
  else if kind=4 then ([labW n++[58]]++exW c (value.headD default)++[38::labW (n+1),[63]]++(stWs c (n+2) thn).1++[[48],38::labW n,[63],labW (n+1)++[58]],(stWs c (n+2) thn).2)
  else if kind=5 then (exW c (value.headD default)++[[59]],n)
  else if kind=6 then (exW c (value.headD default)++[c.t0,[33]],n)
  else if kind=7 then ([[36]],n)
  else ([],n)
def stWs(c:CC):Nat->List Sm->List Wd×Nat
 |n,[]=>([],n)
 |n,s::l=>((stW c n s).1++(stWs c (stW c n s).2 l).1,(stWs c (stW c n s).2 l).2)
end
def qen(l:List Nm)(S:Int)(k:Nm):Int:=if k∈l then S+3+(l.idxOf k:Nat) else 0
def keyC(l:List Nm)(own name:Nm):Nm:=if own++[46]++name∈l then own++[46]++name else name
def arrA:Int->List (Nm×Int)->Nm->Int
 |_,[],_=>0
 |at',(x,n)::r,name=>if x=name then at' else arrA (at'+n) r name
structure Org where
 code:Int
 scalars:Int
 arrays:Int
def ccF(vars:List Nm)(arrays:List (Nm×Int))(fs:List FnD)(o:Org)(own:Nm):CC:=
 ⟨λs=>itoa (qen (qaf vars fs) o.scalars (keyC (qaf vars fs) own s)),λs=>itoa (arrA o.arrays arrays s),itoa o.scalars,itoa (o.scalars+1),itoa (o.scalars+2)⟩
def fnW(c:CC)(n:Nat)(f:FnD):List Wd×Nat:=
 ([[102,95]++f.name++[58]]++f.params.reverse.flatMap (λp=>[c.sc p,[33]])++(stWs c n f.body).1++[[48],[59]],(stWs c n f.body).2)
def fnWs(cc:Nm->CC):Nat->List FnD->List Wd×Nat
 |n,[]=>([],n)
 |n,f::l=>((fnW (cc f.name) n f).1++(fnWs cc (fnW (cc f.name) n f).2 l).1,(fnWs cc (fnW (cc f.name) n f).2 l).2)
def prW(vars:List Nm)(arrays:List (Nm×Int))(fs:List FnD)(o:Org):List Wd:=
 [[38,102,95,109,97,105,110],[58],itoa o.scalars,[33],[36]]++(fnWs (ccF vars arrays fs o) 0 fs).1
def qe8(a n:Int):Bool:=decide (0<=a/\a<=262144-n)
def qhp(a n b m:Int):Bool:=decide (0<n/\0<m/\a<b+m/\b<a+n)
def qeS(vars:List Nm)(arrays:List (Nm×Int))(fs:List FnD)(o:Org):Bool:=
 let total:=(arrays.map (·.2)).sum
 let n:Int:=3+(qaf vars fs).length
 qe8 o.scalars n && qe8 o.code 40000 && qe8 o.arrays total && !qhp o.code 40000 o.scalars n && !qhp o.arrays total o.scalars n && !qhp o.arrays total o.code 40000
def cmpP(vars:List Nm)(arrays:List (Nm×Int))(fs:List FnD)(o:Org):Except Int Wd:=
 if qb5 vars arrays fs≠0 then .error (qb5 vars arrays fs)
 else if qeS vars arrays fs o=false then .error 2
 else match asmP (join (prW vars arrays fs o) [32]) o.code with
  |.error e=>.error e.2
  |.ok _=>.ok (join (prW vars arrays fs o) [32])
def Lt(v:Nat):Prop:=v<4294967296
mutual
def numE:Ex->Prop
 |.mk op num name args=>Lt num/\qcB args
def qcB:List Ex->Prop
 |[]=>True
 |x::l=>numE x/\qcB l
end
mutual
def numS:Sm->Prop
 |.mk kind name index value thn els=>qcB index/\qcB value/\qbu thn/\qbu els
def qbu:List Sm->Prop
 |[]=>True
 |x::l=>numS x/\qbu l
end
theorem qnm:∀ {l:List Ex} {x:Ex},qcB l->x∈l->numE x
 |a::l,x,h,hx=>by
  rcases zMi.1 hx with rfl|hx;exact h.1;exact qnm h.2 hx
theorem qeA:∀ {l:List Sm} {x:Sm},qbu l->x∈l->numS x
 |a::l,x,h,hx=>by
  rcases zMi.1 hx with rfl|hx;exact h.1;exact qeA h.2 hx
theorem qi5{l:List Ex}(h:qcB l):numE (l.headD default):=by
 cases l with
 |nil=>exact⟨by unfold Lt;decide,trivial⟩
 |cons a l=>exact h.1
structure Bnd(s:IS):Prop where
 sc:∀ k,Lt (s.sc k)
 ar:∀ x,∀ v∈s.ar x,Lt v
 inp:∀ v∈s.inp,Lt v
def Bd{A:Type}(P:A->Prop):IR A->Prop
 |.ok v s=>P v/\Bnd s
 |.stop _ _=>True
theorem Bd.bind{A B:Type}{P:A->Prop}{Q:B->Prop}{r:IR A}{f:A->IS->IR B}(h:Bd P r)(hf:∀ v s,P v->Bnd s->Bd Q (f v s)):Bd Q (r.bind f):=by
 cases r with
 |ok v s=>exact hf v s h.1 h.2
 |stop e s=>trivial
def qcA(r:Option Nat):Prop:=∀ v,r=some v->Lt v
theorem qcA.none:qcA none:=λ_ h=>by cases h
theorem qcA.some{v:Nat}(h:Lt v):qcA (some v):=λ_ e=>by cases e;exact h
theorem qlm{s:IS}(h:Bnd s):Bd (λ_=>True) (tick s):=by
 unfold tick;split;trivial;exact⟨trivial,h.sc,h.ar,h.inp⟩
theorem qs0{A:Type}{g:A->IS->IR Nat}:∀ (l:List A) (s:IS),(∀ a∈l,∀ s,Bnd s->Bd Lt (g a s))->Bnd s->Bd (λvs=>∀ v∈vs,Lt v) (mapR g l s)
 |[],s,_,hs=>⟨λv hv=>(not_mem_nil hv).elim,hs⟩
 |a::l,s,h,hs=>by
  unfold mapR;refine(h a zMs s hs).bind λv s hv hs=>(qs0 l s (λb hb=>h b (zMo _ hb)) hs).bind λvs s hvs hs=>⟨λx hx=>?_,hs⟩;rcases zMi.1 hx with rfl|hx;exact hv;exact hvs x hx
theorem qhX{g:Sm->IS->IR (Option Nat)}:∀ (l:List Sm) (s:IS),(∀ a∈l,∀ s,Bnd s->Bd qcA (g a s))->Bnd s->Bd qcA (blkR g l s)
 |[],s,_,hs=>⟨qcA.none,hs⟩
 |a::l,s,h,hs=>by
  unfold blkR;refine(h a zMs s hs).bind λr s hr hs=>?_
  cases r with
  |some v=>exact⟨hr,hs⟩
  |none=>exact qhX l s (λb hb=>h b (zMo _ hb)) hs
theorem qr4{c:IS->IR Nat}{b:IS->IR (Option Nat)}(hc:∀ s,Bnd s->Bd Lt (c s))(hb:∀ s,Bnd s->Bd qcA (b s)):∀ (m v:Nat) (s:IS),Bnd s->Bd qcA (whlR c b m v s)
 |0,v,s,hs=>by
  unfold whlR;split;exact⟨qcA.none,hs⟩
  trivial
 |m+1,v,s,hs=>by
  unfold whlR;split;exact⟨qcA.none,hs⟩;refine(hb s hs).bind λr s hr hs=>?_
  cases r with
  |some x=>exact⟨hr,hs⟩
  |none=>exact(hc s hs).bind λv s _ hs=>qr4 hc hb m v s hs
theorem qvg(b:Bool):Lt (b2n b):=by unfold b2n Lt;split <;> decide
theorem qwz{op:List UInt8}(ha:Lt a)(hb:Lt b)(h:binI op a b=some v):Lt v:=by
 have hm:∀ n:Nat,Lt (n % 4294967296):=λn=>mod_lt _ zDd;have hx:Lt (a ^^^ b):=Nat.xor_lt_two_pow (n:=32) ha hb
 have hi:∀ {c:Prop} [Decidable c] {x y:Option Nat},qcA x->qcA y->qcA (if c then x else y):=λh1 h2=>by
  split;exact h1;exact h2
 have hB:∀ b,qcA (some (b2n b)):=λb=>qcA.some (qvg b)
 have:qcA (binI op a b):=hi (qcA.some (hm _)) (hi (qcA.some (hm _)) (hi (qcA.some (hm _)) (hi (qcA.some hx) (hi (hB _) (hi (hB _) (hi (hB _) (hi (hB _) (hi (hB _) (hi (hB _) (hi (hB _) (hi (hB _) (hi qcA.none
  (hi (qcA.some (lt_of_le_of_lt (Nat.div_le_self _ _) ha)) (qcA.some (lt_of_le_of_lt (Nat.mod_le _ _) ha)))))))))))))))
 exact this v h
theorem qmn(f:FnD):∀ (ps:List (List UInt8)) (vs:List Nat) (s:IS),(∀ v∈vs,Lt v)->Bnd s->Bnd (qcN f ps vs s)
 |p::ps,v::vs,s,hv,hs=>by
  unfold qcN;refine qmn f ps vs _ (λx hx=>hv x (zMo _ hx)) ⟨λk=>?_,hs.ar,hs.inp⟩;show Lt (if k=keyI f p then v else s.sc k);split;exact hv v zMs
  exact hs.sc k
 |[],_,s,_,hs=>by unfold qcN;exact hs
 |_::_,[],s,_,hs=>by unfold qcN;exact hs
theorem qr9{l:List Nat}(h:∀ v∈l,Lt v):Lt (l.headD 0):=by
 cases l with
 |nil=>unfold Lt;decide
 |cons a l=>exact h a zMs
theorem qxw{P:Pr}{g:FnD->Sm->IS->IR (Option Nat)}(hP:∀ f∈P.funcs,qbu f.body)(hg:∀ f x s,numS x->Bnd s->Bd qcA (g f x s))(f:FnD)(op:List UInt8){num:Nat}(hn:Lt num)(name:List UInt8){vs:List Nat}(hv:∀ v∈vs,Lt v){s:IS}(hs:Bnd s):Bd Lt (opI P g f op num name vs s):=by
 have ht:Lt (vs.tail.headD 0):=qr9 λv h=>hv v (List.mem_of_mem_tail h);unfold opI;split;exact⟨hn,hs⟩;split;exact⟨hs.sc _,hs⟩;split;split
 rename_i v h
 exact⟨hs.ar _ v (List.mem_of_getElem? h),hs⟩;trivial;split;exact⟨mod_lt _ zDd,hs⟩;split;exact⟨qvg _,hs⟩;split;unfold callI;split;split;exact⟨by unfold Lt;decide,hs⟩
 rename_i v r h
 exact⟨hs.inp v (by rw[h];exact mem_cons_self ..),hs.sc,hs.ar,λx hx=>hs.inp x (by rw[h];exact zMo _ hx)⟩;split;exact⟨by unfold Lt;decide,hs.sc,hs.ar,hs.inp⟩;refine(qhX _ _ (λx hx s hs=>hg _ x s ?_ hs) (qmn _ _ _ _ hv hs)).bind λr s hr hs=>⟨?_,hs⟩;unfold fnI at hx
 cases hf:P.funcs.find? λf=>decide (f.name=name) with
 |none=>rw[hf] at hx;cases hx
 |some f'=>
  rw[hf] at hx;exact qeA (hP f' (mem_of_find?_eq_some hf)) hx
 cases r with
 |none=>show Lt 0;unfold Lt;decide
 |some v=>exact hr v rfl
 split
 rename_i v h
 exact⟨qwz (qr9 hv) ht h,hs⟩;trivial
theorem qoX{P:Pr}(hP:∀ f∈P.funcs,qbu f.body):∀ n:Nat,(∀ f x s,numE x->Bnd s->Bd Lt (evI P n f x s))/\∀ f x s,numS x->Bnd s->Bd qcA (stI P n f x s)
 |0=>⟨λf x s _ _=>by unfold evI;trivial,λf x s _ _=>by unfold stI;trivial⟩
 |n+1=>by
  obtain⟨i1,i2⟩:=qoX hP n;refine⟨λf x s hx hs=>?_,λf x s hx hs=>?_⟩;obtain⟨op,num,name,args⟩:=x;unfold evI;exact(qlm hs).bind λ_ s _ hs=>(qs0 args s (λa ha s hs=>i1 f a s (qnm hx.2 ha) hs) hs).bind λvs s hvs hs=>qxw hP i2 f op hx.1 name hvs hs;obtain⟨kind,name,index,value,thn,els⟩:=x;obtain⟨h1,h2,h3,h4⟩:=hx;unfold stI;refine(qlm hs).bind λ_ s _ hs=>?_;split;trivial;refine(i1 f _ s (qi5 h2) hs).bind λv s hv hs=>?_;split;refine⟨qcA.none,λk=>?_,hs.ar,hs.inp⟩;show Lt (if k=keyI f name then v else s.sc k);split;exact hv;exact hs.sc k;split;refine(i1 f _ s (qi5 h1) hs).bind λi s hi hs=>?_;split;refine⟨qcA.none,hs.sc,λx w hw=>?_,hs.inp⟩;have hw':w∈(if x=name then (s.ar name).set i v else s.ar x):=hw;split at hw';rcases List.mem_or_eq_of_mem_set hw' with g|rfl;exact hs.ar name w g;exact hv;exact hs.ar x w hw';trivial;split;exact⟨qcA.some hv,hs⟩;split;split;exact qhX _ _ (λa ha s hs=>i2 f a s (qeA h3 ha) hs) hs;exact qhX _ _ (λa ha s hs=>i2 f a s (qeA h4 ha) hs) hs;split;exact qr4 (λs hs=>i1 f _ s (qi5 h2) hs) (λs hs=>qhX _ _ (λa ha s hs=>i2 f a s (qeA h3 ha) hs) hs) n v s hs;exact⟨qcA.none,hs⟩
theorem qjJ{vars arrays later:List Nm}:∀ (fs:List FnD) (known:List FSum),qeK vars arrays later known fs=0->∀ f∈fs,(f.params++f.locals).Nodup/\∀ x∈f.params++f.locals,x ∉ vars++arrays++later
 |[],known,_,f,hf=>(not_mem_nil hf).elim
 |g::l,known,h,f,hf=>by
  rw[qeK] at h;obtain⟨h1,h2⟩:=qac.1 h;rcases zMi.1 hf with rfl|hf;obtain⟨g1,g2⟩:=qaP _ _ (qac.1 h1).1;exact⟨g1,λx hx=>(g2 x hx).1⟩;exact qjJ l _ h2 f hf
theorem qmS{A B:Type}{g:A->B}(hg:∀ x y,g x=g y->x=y):∀ {l:List A},l.Nodup->(l.map g).Nodup
 |[],_=>nodup_nil
 |a::l,h=>by
  rw[nodup_cons] at h;rw[zMc,nodup_cons];refine⟨λhm=>?_,qmS hg h.2⟩;obtain⟨b,hb,he⟩:=zRf hm;exact h.1 (hg _ _ he▸hb)
theorem qsB{fs:List FnD}:(fs.map (·.name)).Nodup->(∀ f∈fs,(46:UInt8) ∉ f.name)->(∀ f∈fs,(f.params++f.locals).Nodup)->((fs.map λf=>(f.params++f.locals).map λx=>f.name++[46]++x).flatten).Nodup:=by
 induction fs with
 |nil=>intro _ _ _;exact nodup_nil
 |cons f l ih=>
  intro h1 h2 h3;rw[zMc,nodup_cons] at h1;rw[zMc,List.flatten_cons,List.nodup_append];refine⟨?_,ih h1.2 (λg hg=>h2 g (zMo _ hg)) (λg hg=>h3 g (zMo _ hg)),?_⟩;exact qmS (λx y hxy=>List.append_cancel_left hxy) (h3 f zMs);intro a ha b hb he;subst he;obtain⟨x,_,rfl⟩:=zRf ha;obtain⟨L,g1,g2⟩:=List.mem_flatten.1 hb;obtain⟨g,g3,rfl⟩:=zRf g1;obtain⟨y,_,g5⟩:=zRf g2;have g6:g.name++46::y=f.name++46::x:=by simpa using g5
  obtain⟨e1,_⟩:=qjf _ _ _ _ (h2 g (zMo _ g3)) (h2 f zMs) g6;exact h1.1 (zRg ⟨g,g3,e1⟩)
theorem qqP(h:qce [] (vars++arrays++fs.map (·.name))=0)(hf:qeK vars arrays (fs.map (·.name)) [] fs=0):(qaf vars fs).Nodup:=by
 obtain⟨h1,h2⟩:=qaP _ _ h;have ho:=qjJ fs [] hf;unfold qaf;rw[List.nodup_append];refine⟨(zRc (zRc h1).1).1,qsB (zRc h1).2.1 (λf hf=>quI (h2 _ (zRe (.inr (zRg ⟨f,hf,rfl⟩)))).2) λf hf=>(ho f hf).1,?_⟩;intro a ha b hb he;subst he;obtain⟨L,g1,g2⟩:=List.mem_flatten.1 hb;obtain⟨g,g3,rfl⟩:=zRf g1;obtain⟨y,_,g5⟩:=zRf g2;have:=quI (h2 _ (zRe (.inl (zRe (.inl ha))))).2;rw[<-g5] at this;exact absurd (by simp) this
def qiN(fs:List FnD)(known:List FSum):Prop:=∀ k∈known,∃ g∈fs,g.name=k.name/\g.params.length=k.params
theorem qkS{vars arrays later:List Nm}{all:List FnD}:∀ (fs:List FnD) (known:List FSum),qeK vars arrays later known fs=0->qiN all known->(∀ f∈fs,f∈all)->∀ f∈fs,∃ kn,qbB (envF vars arrays later kn f) f.body=0/\qiN all kn
 |[],known,_,_,_,f,hf=>(not_mem_nil hf).elim
 |g::l,known,h,hk,ha,f,hf=>by
  rw[qeK] at h;obtain⟨h1,h2⟩:=qac.1 h;rcases zMi.1 hf with rfl|hf;exact⟨known,(qac.1 h1).2,hk⟩;refine qkS l _ h2 (λk hk'=>?_) (λx hx=>ha x (zMo _ hx)) f hf;rcases zRd hk' with g1|g1;exact hk k g1;rw[zRa g1];exact⟨g,ha g zMs,rfl,rfl⟩
theorem qke:∀ (l:List Int) (t:Int),0<=t->qgZ t l=0->∀ n∈l,0<n/\t+n<=150000
 |[],t,_,_,n,hn=>(not_mem_nil hn).elim
 |a::l,t,ht,h,n,hn=>by
  rw[qgZ] at h;split at h;cases h;split at h;cases h;rcases zMi.1 hn with rfl|hn;constructor <;> omega;have:=qke l (t+a) (by omega) h n hn;constructor <;> omega
structure Valid(p:Pr):Prop where
 names:qce [] (p.vars++p.arrays.map (·.name)++p.funcs.map (·.name))=0
 sizes:∀ a∈p.arrays,0<a.size/\a.size<=150000
 own:∀ f∈p.funcs,(f.params++f.locals).Nodup/\∀ x∈f.params++f.locals,x ∉ p.vars++p.arrays.map (·.name)++p.funcs.map (·.name)
 bodies:∀ f∈p.funcs,∃ kn,qbB (envF p.vars (p.arrays.map (·.name)) (p.funcs.map (·.name)) kn f) f.body=0/\qiN p.funcs kn
 keys:(qaf p.vars p.funcs).Nodup
 main:qbn p∈p.funcs/\(qbn p).name=[109,97,105,110]/\(qbn p).params=[]
 few:(qaf p.vars p.funcs).length<=8000
theorem qdl(h:qbj p=0):Valid p:=by
 unfold qbj qb5 at h;have e1:(p.arrays.map λa=>(a.name,(a.size:Int))).map (·.1)=p.arrays.map (·.name):=by rw[map_map];try rfl
 rw[e1] at h;obtain⟨h1,h⟩:=qac.1 h;obtain⟨h2,h⟩:=qac.1 h;obtain⟨h3,h4⟩:=qac.1 h
 have hm:qbn p∈p.funcs/\(qbn p).name=[109,97,105,110]/\(qbn p).params=[]/\(qaf p.vars p.funcs).length<=8000:=by
  unfold qtu at h4;split at h4
  ·rename_i f m hf hms
   split at h4
   ·rename_i h5
    split at h4
    ·rename_i h6
     have e:qbn p=f:=by unfold qbn;rw[hf];try rfl
     rw[e];exact⟨List.mem_of_getLast? hf,h5.1,h5.2,h6.1⟩
    cases h4
   cases h4
  cases h4
 refine⟨h1,λa ha=>?_,qjJ _ _ h3,qkS _ _ h3 (λk hk=>(not_mem_nil hk).elim) (λf hf=>hf),qqP h1 h3,⟨hm.1,hm.2.1,hm.2.2.1⟩,hm.2.2.2⟩
 have:=qke _ 0 zDd h2 (a.size:Int) (by
  rw[map_map]
  exact zRg ⟨a,ha,rfl⟩)
 constructor <;> omega
theorem qql{kn:List FSum}(hv:Valid p)(hk:qiN p.funcs kn)(h:callE (envF p.vars (p.arrays.map (·.name)) (p.funcs.map (·.name)) kn f) name n=0)(h1:name≠[105,110])(h2:name≠[111,117,116]):fnI p name∈p.funcs/\(fnI p name).name=name/\(fnI p name).params.length=n:=by
 unfold callE at h;rw[zn h1,zn h2] at h;unfold CEnv.fn at h;rw[show(envF p.vars (p.arrays.map (·.name)) (p.funcs.map (·.name)) kn f).funcs=kn from rfl] at h
 cases hf:kn.find? λf=>decide (f.name=name) with
 |none=>
  rw[hf] at h;simp only at h
  split at h <;> cases h
 |some k=>
  rw[hf] at h;simp only at h;split at h
  rename_i hn
  obtain⟨g,g1,g2,g3⟩:=hk k (mem_of_find?_eq_some hf);have hkn:k.name=name:=zRi (List.find?_some (p:=λg:FSum=>decide (g.name=name)) hf);have e:=qlK (P:=p) (zRc (qaP _ _ hv.names).1).2.1 g1;rw[g2,hkn] at e;rw[e];exact⟨g1,g2.trans hkn,by rw[g3,hn]⟩;cases h
section
variable{A B:Type}{Q:A->IS->MS->Prop}{R:B->IS->MS->Prop}{c d c1 d1 c2 d2:Int}{m m1:MS}{s:IS}
end
structure Trn where
 C:PW
 P:Pr
 cc:FnD->CC
 cenv:FnD->CEnv
 sa:Nm->Nat
 aa:Nm->Nat
 S:Nat
 fst:FnD->Nat
def Trn.keys(X:Trn):List Nm:=qaf X.P.vars X.P.funcs
def Trn.Data(X:Trn)(x:Nat):Prop:=(∃ k∈X.keys,x=X.sa k)∨(X.S<=x/\x<=X.S+2)∨∃ a∈X.P.arrays,∃ i,i<a.size/\x=X.aa a.name+i
structure TrnOk(X:Trn):Prop where
 sc:∀ f∈X.P.funcs,∀ name,qb9 (X.cenv f) name=0->(X.cc f).sc name=decDigits (X.sa (keyI f name))/\keyI f name∈X.keys
 ar:∀ f∈X.P.funcs,∀ name,qdB (X.cenv f) name=0->(X.cc f).ar name=decDigits (X.aa name)/\∃ a∈X.P.arrays,a.name=name
 temps:∀ f∈X.P.funcs,(X.cc f).t0=decDigits X.S/\(X.cc f).t1=decDigits (X.S+1)/\(X.cc f).t2=decDigits (X.S+2)
 low:∀ x,X.Data x->x<262144
 free:∀ x,X.Data x->x<X.C.og∨X.C.og+(qcZ X.C.known X.C.W).length<=x
 keyLow:∀ k∈X.keys,X.S+3<=X.sa k
 inj:∀ k∈X.keys,∀ k'∈X.keys,X.sa k=X.sa k'->k=k'
 apart:∀ a∈X.P.arrays,∀ i,i<a.size->(∀ k∈X.keys,X.sa k≠X.aa a.name+i)/\¬ (X.S<=X.aa a.name+i/\X.aa a.name+i<=X.S+2)
 arInj:∀ a∈X.P.arrays,∀ b∈X.P.arrays,∀ i j,i<a.size->j<b.size->X.aa a.name+i=X.aa b.name+j->a.name=b.name/\i=j
 arLow:∀ a∈X.P.arrays,X.aa a.name<1000000
 arName:∀ a∈X.P.arrays,∀ b∈X.P.arrays,a.name=b.name->a.size=b.size
 body:∀ f∈X.P.funcs,qbB (X.cenv f) f.body=0/\qbu f.body
 fn:∀ f∈X.P.funcs,∀ name g,(X.cenv f).fn name=some g->fnI X.P name∈X.P.funcs/\(fnI X.P name).name=name/\g.params=(fnI X.P name).params.length/\qbP (X.cenv (fnI X.P name)) (fnI X.P name).body<=g.need/\qcg (X.cenv (fnI X.P name)) (fnI X.P name).body<=g.depth
 par:∀ f∈X.P.funcs,(∀ p∈f.params,keyI f p∈X.keys/\(X.cc f).sc p=decDigits (X.sa (keyI f p)))/\(f.params.map (keyI f)).Nodup
 code:∀ f∈X.P.funcs,∃ nl,X.C.Code (X.fst f) (fnW (X.cc f) nl f).1
 ldef:∀ (j n:Nat),X.C.W[j]? = some (labW n++[58])->defW (labW n++[58])=some (labW n)
 lref:∀ (j n:Nat),X.C.W[j]? = some (38::labW n)->refW (38::labW n)=some (labW n)
 fdef:∀ f∈X.P.funcs,defW ([102,95]++f.name++[58])=some ([102,95]++f.name)
 fref:∀ f∈X.P.funcs,refW ([38,102,95]++f.name)=some ([102,95]++f.name)
 label:∀ (j:Nat) (w x:Wd),X.C.W[j]? = some w->defW w=some x->X.C.known x=X.C.plc j
section
variable{X:Trn}{n:Nat}
theorem qnB(c:CC)(n:Nat)(kind:Int)(name:Nm)(index value:List Ex)(thn els:List Sm):stW c n (.mk kind name index value thn els) =
  if kind=1 then (exW c (value.headD default)++[c.sc name,[33]],n)
  else if kind=2 then (exW c (value.headD default)++c.ar name::(exW c (index.headD default)++[[43],[33]]),n)
  else if kind=3 then
   (match els with
   |[]=>(exW c (value.headD default)++[38::labW n,[63]]++(stWs c (n+1) thn).1++[labW n++[58]],(stWs c (n+1) thn).2)
   |_::_=>(exW c (value.headD default)++[38::labW n,[63]]++(stWs c (n+2) thn).1++[[48],38::labW (n+1),[63],labW n++[58]]++(stWs c (stWs c (n+2) thn).2 els).1++[labW (n+1)++[58]],(stWs c (stWs c (n+2) thn).2 els).2))
  else if kind=4 then ([labW n++[58]]++exW c (value.headD default)++[38::labW (n+1),[63]]++(stWs c (n+2) thn).1++[[48],38::labW n,[63],labW (n+1)++[58]],(stWs c (n+2) thn).2)
  else if kind=5 then (exW c (value.headD default)++[[59]],n)
  else if kind=6 then (exW c (value.headD default)++[c.t0,[33]],n)
  else if kind=7 then ([[36]],n)
  else ([],n):=by
 rw[stW.eq_def];try rfl
end
theorem qi6(all:List Wd):∀ (l:List (Wd×Nat)) (met:List Wd),(errT all met l).2=0->met.Nodup->(met++defs (l.map (·.1))).Nodup/\∀ w∈l.map (·.1),OkW all w
 |[],met,_,hm=>by
  simp only[map_nil,defs,List.filterMap_nil,zLz]
  exact⟨hm,λw hw=>(not_mem_nil hw).elim⟩
 |(w,ln)::r,met,h,hm=>by
  rw[errT] at h;rw[zMc,qcV]
  cases hd:defW w with
  |some x=>
   rw[hd] at h;simp only at h ⊢;split at h;simp at h
   rename_i hx
   have hn:(met++[x]).Nodup:=List.nodup_append.2 ⟨hm,by simp,λa ha b hb=>by
    rw[zRa hb]
    exact λe=>hx (e▸ha)⟩
   obtain⟨h1,h2⟩:=qi6 all r (met++[x]) h hn;refine⟨by rw[zAs] at h1;exact h1,λy hy=>?_⟩;rcases zMi.1 hy with rfl|hy;unfold OkW;rw[hd];trivial
   exact h2 y hy
  |none=>
   rw[hd] at h;simp only at h ⊢
   have key:OkW all w/\(errT all met r).2=0:=by
    unfold OkW;rw[hd]
    cases hr:refW w with
    |some x=>
     rw[hr] at h;simp only at h ⊢;split at h
     rename_i hx;exact⟨hx,h⟩
     simp at h
    |none=>
     rw[hr] at h;simp only at h ⊢;split at h
     rename_i hx;exact⟨hx,h⟩
     simp at h
   obtain⟨h1,h2⟩:=qi6 all r met key.2 hm;refine⟨by simpa using h1,λy hy=>?_⟩;rcases zMi.1 hy with rfl|hy;exact key.1;exact h2 y hy
theorem qpg{src:Wd}(h:(errT (defs (qbc src)) [] (qfR src)).2=0):qgm (qbc src):=by
 have:=qi6 _ _ _ h nodup_nil;rw[qcQ,nil_append] at this;exact this
theorem qlk(known:Wd->Nat)(og:Nat){p:Wd×Nat}:∀ (l:List Wd) (s:Wd×List (Wd×Nat)),p∈s.2->p∈(l.foldl (qbx known og) s).2
 |[],s,h=>h
 |w::l,s,h=>by
  rw[foldl_cons];refine qlk known og l _ ?_;unfold qbx;split;exact zRe (.inl h);exact h
theorem qpK(known:Wd->Nat)(og:Nat){w x:Wd}(hd:defW w=some x):∀ (l:List Wd) (s:Wd×List (Wd×Nat)) (j:Nat),l[j]? = some w->(x,og+((l.take j).foldl (addT known) s.1).length)∈(l.foldl (qbx known og) s).2
 |[],s,j,h=>by simp at h
 |v::l,s,0,h=>by
  simp only[zRj,zRh] at h;subst h;rw[foldl_cons];refine qlk known og l _ ?_;unfold qbx;rw[hd]
  simp
 |v::l,s,j+1,h=>by
  rw[zRk] at h;have ih:=qpK known og hd l (qbx known og s v) j h
  have e:(qbx known og s v).1=addT known s.1 v:=by
   unfold qbx
   cases hv:defW v with
   |some y=>simp only;unfold addT;rw[hv]
   |none=>rfl
  rw[e] at ih;rw[foldl_cons,take_succ_cons,foldl_cons];exact ih
theorem qmT:∀ (labs:List (Wd×Nat)) (x:Wd) (n:Nat),(labs.map (·.1)).Nodup->(x,n)∈labs->qdI labs x=n
 |[],x,n,_,h=>(not_mem_nil h).elim
 |(y,k)::l,x,n,hn,h=>by
  rw[zMc,nodup_cons] at hn;unfold qdI;rw[List.find?_cons];rcases zMi.1 h with h|h;injection h with h1 h2;subst h1 h2
  simp
  have hne:y≠x:=λe=>hn.1 (zRg ⟨(x,n),h,by simp[e]⟩);simp only[hne,decide_false];exact qmT l x n hn.2 h
theorem qnx{W:List Wd}(og:Nat)(hn:(defs W).Nodup)(he:∀ w∈W,w≠[]){j:Nat}(hw:W[j]? = some w)(hd:defW w=some x) :
  qdI (qee (λ_=>0) og W) x=PW.plc ⟨W,og,qdI (qee (λ_=>0) og W)⟩ j:=by
 generalize hk:qdI (qee (λ_=>0) og W)=known;have h1:=qpK known og hd W ([],[]) j hw;have h2:qee (λ_=>0) og W=qee known og W:=qnj _ _ og W he;rw[<-hk,h2];refine qmT _ _ _ ?_ ?_;have:=qgw known og W ([],[]);unfold qee;rw[this];simpa using hn;rw[<-h2,hk];rw[h2];exact h1
theorem qrw(h:qgn x=true):x≠[]/\∀ c r,x=c::r->qaV c=true:=by
 unfold qgn at h
 cases x with
 |nil=>cases h
 |cons c r=>
  simp only[zBa] at h;exact⟨by simp,λc' r' e=>by injection e with e1 _;rw[<-e1];exact h.1.2⟩
theorem qq9{ds:List Wd}(h:OkW ds (c::x++[58]))(h1:c≠38)(h2:qdx.contains c=false):defW (c::x++[58])=some (c::x):=by
 cases hd:defW (c::x++[58]) with
 |some y=>
  unfold defW at hd;split at hd;injection hd with hd;rw[<-hd,List.dropLast_concat]
  cases hd
 |none=>
  exfalso;unfold OkW at h;rw[hd] at h
  have hr:refW (c::x++[58])=none:=by
   unfold refW;simp only[cons_append,h1,false_and,if_false]
  rw[hr] at h;simp only at h;unfold qho at h;rw[cons_append,all_cons,h2] at h;cases h
theorem qvw{ds:List Wd}(h:OkW ds (38::x)):refW (38::x)=some x:=by
 have hd:defW (38::x)=none:=by
  unfold defW;split
  rename_i h1
  exfalso
  cases x with
  |nil=>exact absurd h1.1 zDd
  |cons c r=>
   have:=(qrw h1.2).2 38 _ (List.dropLast_cons_cons ..);exact absurd this zDd
  rfl
 cases hr:refW (38::x) with
 |some y=>
  unfold refW at hr;simp only[true_and] at hr;split at hr;injection hr with hr;rw[<-hr]
  cases hr
 |none=>
  exfalso;unfold OkW at h;rw[hd,hr] at h;simp only at h;unfold qho at h;rw[all_cons,show qdx.contains 38=false by decide,zRs] at h;cases h
theorem qvX(h:defW (x++[58])=some x):refW (38::x)=some x:=by
 unfold defW at h;split at h
 rename_i h1
 rw[List.dropLast_concat] at h1;unfold refW;simp only[true_and,h1.2,if_true];cases h
def Few{A:Type}(k:Nat)(s:IS)(r:IR A):Prop:=r.st.out.length+r.st.left<=s.out.length+s.left+k
theorem Few.bind{A B:Type}{k:Nat}{s:IS}{r:IR A}{f:A->IS->IR B}(h:Few 0 s r)(hf:∀ v s',Few k s' (f v s')):Few k s (r.bind f):=by
 cases r with
 |ok v s'=>exact zNt (hf v s') (Nat.add_le_add_right h k)
 |stop e s'=>exact zNt h (le_add_right _ _)
theorem Few.bind'{A B:Type}{s:IS}{r:IR A}{f:A->IS->IR B}(h:Few k s r)(hf:∀ v s',Few 0 s' (f v s')):Few k s (r.bind f):=by
 cases r with
 |ok v s'=>exact zNt (hf v s') h
 |stop e s'=>exact h
theorem Few.refl{A:Type}{v:A}{s:IS}:Few k s (.ok v s):=le_add_right _ _
theorem Few.reflS{A:Type}{e:Int}{s:IS}:Few (A:=A) k s (.stop e s):=le_add_right _ _
theorem Few.tick{B:Type}{s:IS}{f:Unit->IS->IR B}(hf:∀ s',Few 1 s' (f () s')):Few 0 s ((tick s).bind f):=by
 unfold Go.Stele.tick;split;exact Few.reflS
 rename_i h
 have:=hf { s with left:=s.left-1 };unfold Few at this ⊢;simp only at this;show(f () { s with left:=s.left-1 }).st.out.length+(f () { s with left:=s.left-1 }).st.left<=_
 omega
theorem Few.up{A:Type}{s:IS}{r:IR A}(h:Few 0 s r):Few 1 s r:=zNt h (le_add_right _ _)
theorem qpc{A:Type}{g:A->IS->IR Nat}(h:∀ a s,Few 0 s (g a s)):∀ (l:List A) (s:IS),Few 0 s (mapR g l s)
 |[],s=>Few.refl
 |a::l,s=>(h a s).bind λv s=>(qpc h l s).bind λvs s=>Few.refl
theorem qf9{g:Sm->IS->IR (Option Nat)}(h:∀ a s,Few 0 s (g a s)):∀ (l:List Sm) (s:IS),Few 0 s (blkR g l s)
 |[],s=>Few.refl
 |a::l,s=>(h a s).bind λr s=>by
  cases r with
  |none=>exact qf9 h l s
  |some v=>exact Few.refl
theorem qpG{c:IS->IR Nat}{b:IS->IR (Option Nat)}(hc:∀ s,Few 0 s (c s))(hb:∀ s,Few 0 s (b s)):∀ (m v:Nat) (s:IS),Few 0 s (whlR c b m v s)
 |0,v,s=>by
  unfold whlR;split;exact Few.refl
  exact Few.reflS
 |m+1,v,s=>by
  unfold whlR;split;exact Few.refl;refine(hb s).bind λr s=>?_
  cases r with
  |some x=>exact Few.refl
  |none=>exact(hc s).bind λv s=>qpG hc hb m v s
theorem qv2{g:FnD->Sm->IS->IR (Option Nat)}(h:∀ f a s,Few 0 s (g f a s))(f:FnD)(op:List UInt8)(num:Nat)(name:List UInt8)(vs:List Nat)(s:IS):Few 1 s (opI P g f op num name vs s):=by
 unfold opI;split;exact Few.refl;split;exact Few.refl;split;split;exact Few.refl;exact Few.reflS;split;exact Few.refl;split;exact Few.refl;split;unfold callI;split;split;exact Few.refl;exact le_add_right _ _;split;unfold Few;simp only[IR.st,zLa,zLc,zLn];omega;refine Few.bind' (Few.up ?_) λr s=>Few.refl;have:=qf9 (h (fnI P name)) (fnI P name).body (qcN (fnI P name) (fnI P name).params vs s);unfold Few at this ⊢
 rwa [(qdT _ _ _ _).1,(qdT _ _ _ _).2.1] at this
 split;exact Few.refl;exact Few.reflS
theorem qj0(P:Pr):∀ n:Nat,(∀ f x s,Few 0 s (evI P n f x s))/\∀ f x s,Few 0 s (stI P n f x s)
 |0=>⟨λf x s=>by unfold evI;exact Few.reflS,λf x s=>by unfold stI;exact Few.reflS⟩
 |n+1=>by
  obtain⟨h1,h2⟩:=qj0 P n;refine⟨λf x s=>?_,λf x s=>?_⟩;obtain⟨op,num,name,args⟩:=x;unfold evI;exact Few.tick λs=>(qpc (h1 f) args s).bind λvs s=>qv2 h2 f op num name vs s;obtain⟨kind,name,index,value,thn,els⟩:=x;unfold stI;refine Few.tick λs=>Few.up ?_;split;exact Few.reflS;refine(h1 f _ s).bind λv s=>?_;split;exact Few.refl;split;refine(h1 f _ s).bind λi s=>?_;split;exact Few.refl;exact Few.reflS;split;exact Few.refl;split;split;exact qf9 (h2 f) _ _;exact qf9 (h2 f) _ _;split;exact qpG (h1 f _) (qf9 (h2 f) _) _ _ _;exact Few.refl
theorem qiW{s:Nm}(h:isNm s=true):s.length<=24:=by
 unfold isNm at h;simp only[zBa,zDe] at h;exact h.1.1
theorem qlX{vars arrays later:List Nm}:∀ (fs:List FnD) (known:List FSum),qeK vars arrays later known fs=0->∀ f∈fs,∀ x∈f.params++f.locals,isNm x=true
 |[],known,_,f,hf=>(not_mem_nil hf).elim
 |g::l,known,h,f,hf=>by
  rw[qeK] at h;obtain⟨h1,h2⟩:=qac.1 h;rcases zMi.1 hf with rfl|hf;obtain⟨g1,g2⟩:=qaP _ _ (qac.1 h1).1;exact λx hx=>(g2 x hx).2;exact qlX l _ h2 f hf
theorem qpv{p:Pr}(h:qbj p=0):(∀ f∈p.funcs,f.name.length<=24)/\∀ k∈qaf p.vars p.funcs,k.length<=49:=by
 unfold qbj qb5 at h;have e1:(p.arrays.map λa=>(a.name,(a.size:Int))).map (·.1)=p.arrays.map (·.name):=by rw[map_map];try rfl
 rw[e1] at h;obtain⟨h1,h⟩:=qac.1 h;obtain⟨h2,h⟩:=qac.1 h;obtain⟨h3,h4⟩:=qac.1 h;have hn:=(qaP _ _ h1).2;have hf:∀ f∈p.funcs,f.name.length<=24:=λf hf=>qiW (hn _ (zRe (.inr (zRg ⟨f,hf,rfl⟩)))).2;refine⟨hf,λk hk=>?_⟩;unfold qaf at hk;rcases zRd hk with g|g;have:=qiW (hn k (zRe (.inl (zRe (.inl g))))).2;omega;obtain⟨l,g1,g2⟩:=List.mem_flatten.1 g;obtain⟨f,g3,rfl⟩:=zRf g1;obtain⟨x,g4,rfl⟩:=zRf g2;have a1:=hf f g3;have a2:=qiW (qlX _ _ h3 f g3 x g4);simp only[zLa,zLc,zLn];omega
theorem qhj{p:Pr}(h:qbj p=0):∀ f∈p.funcs,f.name.length<=1000/\∀ x∈f.params++f.locals,x.length<=1000:=by
 have h0:=(qpv h).1;unfold qbj qb5 at h;have e1:(p.arrays.map λa=>(a.name,(a.size:Int))).map (·.1)=p.arrays.map (·.name):=by rw[map_map];try rfl
 rw[e1] at h;have h3:=(qac.1 (qac.1 (qac.1 h).2).2).1;exact λf hf=>⟨zNt (h0 f hf) zDd,λx hx=>zNt (qiW (qlX _ _ h3 f hf x hx)) zDd⟩
theorem qrH{p:Pr}(h:∀ k∈qaf p.vars p.funcs,k.length<=49)(hk:keyI f name∈qaf p.vars p.funcs):name.length<=49:=by
 have:=h _ hk;unfold keyI at this;split at this;simp only[zLa,zLc,zLn] at this;omega;exact this
def Few6(n:Nat):Prop:=n<=2000000
mutual
def smE:Ex->Prop
 |.mk op num name args=>Few6 args.length/\smEs args
def smEs:List Ex->Prop
 |[]=>True
 |x::l=>smE x/\smEs l
end
mutual
def smS:Sm->Prop
 |.mk kind name index value thn els=>Few6 index.length/\Few6 value.length/\Few6 thn.length/\Few6 els.length/\smEs index/\smEs value/\smSs thn/\smSs els
def smSs:List Sm->Prop
 |[]=>True
 |x::l=>smS x/\smSs l
end
structure SmF(f:FnD):Prop where
 params:Few6 f.params.length
 locals:Few6 f.locals.length
 body:Few6 f.body.length
 stmts:smSs f.body
structure SmP(p:Pr):Prop where
 vars:Few6 p.vars.length
 arrays:Few6 p.arrays.length
 funcs:Few6 p.funcs.length
 each:∀ f∈p.funcs,SmF f
mutual
def ndE:Ex->Nat
 |.mk op num name args=>1+ndEs args
def ndEs:List Ex->Nat
 |[]=>0
 |x::l=>ndE x+ndEs l
end
mutual
def ndS:Sm->Nat
 |.mk kind name index value thn els=>1+(ndEs index+ndEs value+ndSs thn+ndSs els)
def ndSs:List Sm->Nat
 |[]=>0
 |x::l=>ndS x+ndSs l
end
def ndF(f:FnD):Nat:=1+f.params.length+f.locals.length+ndSs f.body
def ndFs:List FnD->Nat
 |[]=>0
 |f::l=>ndF f+ndFs l
theorem qlJ(x:Ex):1<=ndE x:=by
 obtain⟨op,num,name,args⟩:=x;rw[ndE];omega
theorem qn0(x:Sm):1<=ndS x:=by
 obtain⟨k,n,i,v,t,e⟩:=x;rw[ndS];omega
theorem qdF:∀ l:List Ex,l.length<=ndEs l
 |[]=>zNr _
 |x::l=>by
  have h1:=qlJ x;have h2:=qdF l;rw[ndEs,zLc];omega
theorem qek:∀ l:List Sm,l.length<=ndSs l
 |[]=>zNr _
 |x::l=>by
  have h1:=qn0 x;have h2:=qek l;rw[ndSs,zLc];omega
theorem ndFs_len:∀ l:List FnD,l.length<=ndFs l
 |[]=>zNr _
 |x::l=>by
  have h2:=ndFs_len l;rw[ndFs,zLc];unfold ndF;omega
theorem qgS:∀ {l:List FnD} {f:FnD},f∈l->ndF f<=ndFs l
 |g::l,f,h=>by
  rw[ndFs];rcases zMi.1 h with rfl|h;omega;have:=qgS h;omega
theorem qlz:∀ {l:List Ex} {f:Ex},f∈l->ndE f<=ndEs l
 |g::l,f,h=>by
  rw[ndEs];rcases zMi.1 h with rfl|h;omega;have:=qlz h;omega
mutual
theorem qxF:∀ x:Ex,ndE x<=2000000->smE x
 |.mk op num name args,h=>by
  rw[ndE] at h;have:=qdF args;exact⟨show args.length<=2000000 by omega,ql0 args (by omega)⟩
theorem ql0:∀ l:List Ex,ndEs l<=2000000->smEs l
 |[],_=>trivial
 |x::l,h=>by
  rw[ndEs] at h;exact⟨qxF x (by omega),ql0 l (by omega)⟩
end
mutual
theorem qxL:∀ x:Sm,ndS x<=2000000->smS x
 |.mk k n i v t e,h=>by
  rw[ndS] at h;have h1:=qdF i;have h2:=qdF v;have h3:=qek t;have h4:=qek e;exact⟨show i.length<=2000000 by omega,show v.length<=2000000 by omega,show t.length<=2000000 by omega,show e.length<=2000000 by omega,ql0 i (by omega),ql0 v (by omega),qls t (by omega),qls e (by omega)⟩
theorem qls:∀ l:List Sm,ndSs l<=2000000->smSs l
 |[],_=>trivial
 |x::l,h=>by
  rw[ndSs] at h;exact⟨qxL x (by omega),qls l (by omega)⟩
end
theorem qkX(h:ndF f<=2000000):SmF f:=by
 unfold ndF at h;have:=qek f.body;exact⟨show f.params.length<=2000000 by omega,show f.locals.length<=2000000 by omega,show f.body.length<=2000000 by omega,qls _ (by omega)⟩
def KnB(B D:Nat)(known:List FSum):Prop:=∀ k∈known,k.need<=B/\k.params+1<=B/\k.depth<=D
theorem qoJ(B:Nat)(c:CEnv):∀ (l:List Ex) (i m:Nat),(∀ x∈l,qbg c x<=4 * ndE x+B)->qhM i (qaZ c l) m<=max m (4 * ndEs l+i+B)
 |[],i,m,_=>by rw[qaZ,qhM];exact Nat.le_max_left _ _
 |x::l,i,m,h=>by
  rw[qaZ,qhM,ndEs];have h1:=h x zMs;have h2:=qoJ B c l (i+1) (max m (i+qbg c x)) (λy hy=>h y (zMo _ hy));have h3:=qlJ x;omega
mutual
theorem qgb(B D:Nat)(c:CEnv)(hB:KnB B D c.funcs):∀ x:Ex,qbg c x<=4 * ndE x+B
 |.mk op num name args=>by
  rw[qbg,ndE];have ha:=qnh B D c hB args
  have h0:(qaZ c args).headD 0<=4 * ndEs args+B:=by
   cases args with
   |nil=>rw[qaZ];exact zero_le _
   |cons x l=>
    have:=ha x zMs;rw[qaZ,ndEs];show qbg c x<=_;omega
  have h1:(qaZ c args).tail.headD 0<=4 * ndEs args+B:=by
   cases args with
   |nil=>rw[qaZ];exact zero_le _
   |cons x l=>
    cases l with
    |nil=>rw[qaZ,qaZ];exact zero_le _
    |cons y l=>
     have:=ha y (zMo _ zMs);rw[qaZ,qaZ,ndEs,ndEs];show qbg c y<=_;omega
  have hc:qiO c name (qaZ c args)<=4 * (1+ndEs args)+B:=by
   unfold qiO;split;omega;split;omega;unfold CEnv.fn;split
   rename_i k hk
   have hkb:=hB k (mem_of_find?_eq_some hk);have:=qoJ B c args 0 (max (k.params+1) k.need) ha;omega;omega
  unfold opN;split;omega;split;omega;split;exact hc;split;omega;split;omega;split;omega;split;omega;split;omega;omega
theorem qnh(B D:Nat)(c:CEnv)(hB:KnB B D c.funcs):∀ (l:List Ex),∀ x∈l,qbg c x<=4 * ndE x+B
 |[],x,h=>(not_mem_nil h).elim
 |a::l,x,h=>by
  rcases zMi.1 h with h1|h1;rw[h1];exact qgb B D c hB a;exact qnh B D c hB l x h1
end
theorem qu0{c:CEnv}(hB:KnB B D c.funcs)(op name:Nm):qgl c op name<=D+1:=by
 unfold qgl;split;unfold CEnv.fn;split
 rename_i k hk
 have:=hB k (mem_of_find?_eq_some hk);omega;omega;omega
mutual
theorem qn7(B D:Nat)(c:CEnv)(hB:KnB B D c.funcs):∀ x:Ex,depE c x<=D+1
 |.mk op num name args=>by
  rw[depE];have h1:=qgL B D c hB args;have h2:=qu0 hB op name;omega
theorem qgL(B D:Nat)(c:CEnv)(hB:KnB B D c.funcs):∀ l:List Ex,qb2 c l<=D+1
 |[]=>zero_le _
 |x::l=>by
  rw[qb2];have h1:=qn7 B D c hB x;have h2:=qgL B D c hB l;omega
end
theorem qjQ{c:CEnv}(hB:KnB B D c.funcs)(l:List Ex):qbg c (l.headD default)<=4 * (ndEs l+1)+B:=by
 cases l with
 |nil=>
  have:=qgb B D c hB (default:Ex)
  have h1:ndE (default:Ex)=1:=by
   show ndE (.mk [] 0 [] [])=1;rw[ndE,ndEs]
  show qbg c default<=_;rw[ndEs]
  omega
 |cons x l=>
  have:=qgb B D c hB x;show qbg c x<=_;rw[ndEs];omega
mutual
theorem qtD(B D:Nat)(c:CEnv)(hB:KnB B D c.funcs):∀ x:Sm,qkz c x<=8 * ndS x+B
 |.mk k n i v t e=>by
  rw[qkz,ndS];have h1:=qjQ hB v;have h2:=qjQ hB i;have h3:=qfs B D c hB t;have h4:=qfs B D c hB e;split;omega;split;omega;split;omega;omega
theorem qfs(B D:Nat)(c:CEnv)(hB:KnB B D c.funcs):∀ l:List Sm,qbP c l<=8 * ndSs l+B
 |[]=>by rw[qbP];exact zero_le _
 |x::l=>by
  rw[qbP,ndSs];have h1:=qtD B D c hB x;have h2:=qfs B D c hB l;omega
end
mutual
theorem qq5(B D:Nat)(c:CEnv)(hB:KnB B D c.funcs):∀ x:Sm,depS c x<=D+1
 |.mk k n i v t e=>by
  rw[depS];have h1:=qgL B D c hB v;have h2:=qgL B D c hB i;have h3:=qfa B D c hB t;have h4:=qfa B D c hB e;omega
theorem qfa(B D:Nat)(c:CEnv)(hB:KnB B D c.funcs):∀ l:List Sm,qcg c l<=D+1
 |[]=>by rw[qcg];exact zero_le _
 |x::l=>by
  rw[qcg];have h1:=qq5 B D c hB x;have h2:=qfa B D c hB l;omega
end
theorem qvQ{later:List Nm}{known:List FSum}(hB:KnB B D known):(sumF vars arrays later known f).need<=8 * ndF f+B/\(sumF vars arrays later known f).params+1<=8 * ndF f+B/\(sumF vars arrays later known f).depth<=D+1:=by
 have h1:=qfs B D (envF vars arrays later known f) hB f.body;have h2:=qfa B D (envF vars arrays later known f) hB f.body;unfold sumF ndF;simp only;omega
structure SzP(p:Pr)(n:Nat):Prop where
 vars:p.vars.length<=n
 arrays:p.arrays.length<=n
 size:∀ a∈p.arrays,a.size<4294967296
 funcs:ndFs p.funcs<=n
 nums:∀ f∈p.funcs,qbu f.body
theorem SzP.small(h:SzP p n)(hn:n<=2000000):SmP p:=by
 have h1:=ndFs_len p.funcs;have h2:=h.funcs;exact⟨show p.vars.length<=2000000 from zNt h.vars hn,show p.arrays.length<=2000000 from zNt h.arrays hn,show p.funcs.length<=2000000 by omega,λf hf=>qkX (zNt (qgS hf) (zNt h2 hn))⟩
structure MsOk(s:MS):Prop where
 mem:∀ i,s.mem i<4294967296
 pc:s.pc<4294967296
 data:∀ v∈s.data,v<4294967296
 calls:∀ v∈s.calls,v<4294967296
 inp:∀ v∈s.inp,v<4294967296
 few:s.data.length<=256
 deep:s.calls.length<=64
theorem MsOk.push{s:MS}(h:MsOk s)(hv:v<4294967296)(hs:qdE v s=.run s'):MsOk s':=by
 unfold qdE at hs;split at hs
 rename_i hl
 injection hs with hs;subst hs;exact⟨h.mem,h.pc,λx hx=>(zMi.1 hx).elim (λe=>e▸hv) (h.data x),h.calls,h.inp,by simp only[zLc];omega,h.deep⟩;cases hs
theorem MsOk.pop{s:MS}(h:MsOk s)(hd:s.data=a::r):a<4294967296/\MsOk { s with data:=r }:=by
 have h1:=h.data;have h2:=h.few;rw[hd] at h1 h2;exact⟨h1 a zMs,h.mem,h.pc,λx hx=>h1 x (zMo _ hx),h.calls,h.inp,by simp only[zLc] at h2;show r.length<=256;omega,h.deep⟩
theorem qxh(ha:a<4294967296)(hb:b<4294967296):a ^^^ b<4294967296:=Nat.xor_lt_two_pow (n:=32) ha hb
theorem qo9{c:Nat}(ha:a<4294967296)(hb:b<4294967296)(h:binM c a b=some v):v<4294967296:=by
 unfold binM at h;split at h;injection h with h;rw[<-h];exact mod_lt _ zDd;split at h;injection h with h;rw[<-h];exact mod_lt _ zDd;split at h;injection h with h;rw[<-h];exact mod_lt _ zDd;split at h;split at h;cases h;injection h with h;rw[<-h];exact lt_of_le_of_lt (Nat.div_le_self _ _) ha;split at h;split at h;cases h
 rename_i hb0
 injection h with h;rw[<-h];exact Nat.lt_trans (mod_lt _ (by omega)) hb;split at h;injection h with h;rw[<-h];exact qxh ha hb;injection h with h;rw[<-h];split <;> decide
theorem qxj{c:Nat}{s:MS}(h:MsOk s)(hc:c<4294967296)(hs:exeM c s=.run s'):MsOk s':=by
 unfold exeM at hs;split at hs
 rename_i hd
 unfold qcc at hd;rw[zBa,zDe,zDe] at hd;unfold qlZ at hs;split at hs;split at hs
 rename_i d r hdr
 injection hs with hs;subst hs;obtain⟨_,h2⟩:=h.pop hdr;exact⟨h2.mem,h2.pc,λx hx=>(zMi.1 hx).elim (λe=>by rw[e];exact mod_lt _ zDd) (h2.data x),h2.calls,h2.inp,by have:=h.few;rw[hdr] at this;exact this,h2.deep⟩;cases hs;exact h.push (by omega) hs;split at hs;injection hs with hs;subst hs;exact h;split at hs;unfold ldM at hs;split at hs
 rename_i a r hd
 split at hs;exact(h.pop hd).2.push (h.mem a) hs;cases hs;cases hs;split at hs;unfold stoM at hs;split at hs
 rename_i a v r hd
 split at hs;injection hs with hs;subst hs;obtain⟨h1,h2⟩:=h.pop hd;obtain⟨h3,h4⟩:=h2.pop (a:=v) (r:=r) rfl;refine⟨λi=>?_,h4.pc,h4.data,h4.calls,h4.inp,h4.few,h4.deep⟩;simp only;split;exact h3;exact h.mem i;cases hs;cases hs;split at hs;unfold jmpM at hs;split at hs
 rename_i t v r hd
 injection hs with hs;subst hs;obtain⟨h1,h2⟩:=h.pop hd;obtain⟨h3,h4⟩:=h2.pop (a:=v) (r:=r) rfl;refine⟨h4.mem,?_,h4.data,h4.calls,h4.inp,h4.few,h4.deep⟩;simp only;split;exact h1;exact h.pc;cases hs;split at hs;unfold qm5 at hs;split at hs
 rename_i t r hd
 split at hs
 rename_i hl
 injection hs with hs;subst hs;obtain⟨h1,h2⟩:=h.pop hd;exact⟨h2.mem,h1,h2.data,λx hx=>(zMi.1 hx).elim (λe=>e▸h.pc) (h.calls x),h2.inp,h2.few,by simp only[zLc];omega⟩;cases hs;cases hs;split at hs;unfold bakM at hs;split at hs
 rename_i t r hd
 injection hs with hs;subst hs;have h1:=h.calls;have h2:=h.deep;rw[hd] at h1 h2;exact⟨h.mem,h1 t zMs,h.data,λx hx=>h1 x (zMo _ hx),h.inp,h.few,by simp only[zLc] at h2;show r.length<=64;omega⟩;cases hs;split at hs;unfold rdM at hs;split at hs
 rename_i v r hi
 have h1:=h.inp;rw[hi] at h1;have h2:MsOk { s with inp:=r }:=⟨h.mem,h.pc,h.data,h.calls,λx hx=>h1 x (zMo _ hx),h.few,h.deep⟩;exact h2.push (h1 v zMs) hs;exact h.push zDd hs;split at hs;unfold wrM at hs;split at hs
 rename_i v r hd
 injection hs with hs;subst hs;obtain⟨h1,h2⟩:=h.pop hd;exact⟨h2.mem,h2.pc,h2.data,h2.calls,h2.inp,h2.few,h2.deep⟩;cases hs;split at hs;cases hs;split at hs;unfold opM at hs;split at hs
 rename_i b a r hd
 obtain⟨h1,h2⟩:=h.pop hd;obtain⟨h3,h4⟩:=h2.pop (a:=a) (r:=r) rfl;split at hs
 rename_i v hv
 exact h4.push (qo9 h3 h1 hv) hs;cases hs;cases hs;cases hs
theorem qwT(code:Wd)(og i:Nat):qfl code og i<4294967296:=by
 unfold qfl;split;split
 rename_i c _
 have:=c.toNat_lt;omega;decide;decide
section
variable(vars arrays later:List Nm)
def knF:List FSum->List FnD->FnD->List FSum
 |known,[],f=>known
 |known,g::l,f=>if g.name=f.name then known else knF (known++[sumF vars arrays later known g]) l f
end
section
variable{vars arrays later:List Nm}
theorem qrq:∀ (fs:List FnD) (known:List FSum),qeK vars arrays later known fs=0->(fs.map (·.name)).Nodup->∀ f∈fs,qbB (envF vars arrays later (knF vars arrays later known fs f) f) f.body=0
 |[],known,_,_,f,hf=>(not_mem_nil hf).elim
 |g::l,known,h,hn,f,hf=>by
  rw[qeK] at h;obtain⟨h1,h2⟩:=qac.1 h;rw[zMc,nodup_cons] at hn;rw[knF];rcases zMi.1 hf with rfl|hf;rw[zp rfl];exact(qac.1 h1).2;rw[zn (λe=>hn.1 (zRg ⟨f,hf,e.symm⟩))];exact qrq l _ h2 hn.2 f hf
theorem qsJ:∀ (fs:List FnD) (known:List FSum),(fs.map (·.name)).Nodup->∀ f∈fs,∀ k∈knF vars arrays later known fs f,k∈known∨∃ g∈fs,k=sumF vars arrays later (knF vars arrays later known fs g) g
 |[],known,_,f,hf,k,hk=>(not_mem_nil hf).elim
 |g::l,known,hn,f,hf,k,hk=>by
  rw[zMc,nodup_cons] at hn;rw[knF] at hk;rcases zMi.1 hf with rfl|hf;rw[zp rfl] at hk;exact .inl hk;rw[zn (λe=>hn.1 (zRg ⟨f,hf,e.symm⟩))] at hk;rcases qsJ l _ hn.2 f hf k hk with h|⟨x,h1,h2⟩;rcases zRd h with h|h;exact .inl h;refine .inr ⟨g,mem_cons_self ..,?_⟩;rw[knF,zp rfl];exact zRa h;refine .inr ⟨x,zMo _ h1,?_⟩;rw[knF,zn (λe=>hn.1 (zRg ⟨x,h1,e.symm⟩))];exact h2
theorem qnF:∀ (fs:List FnD) (known:List FSum),(fs.map (·.name)).Nodup->qjO vars arrays later known fs=known++fs.map λg=>sumF vars arrays later (knF vars arrays later known fs g) g
 |[],known,_=>by simp[qjO]
 |g::l,known,hn=>by
  rw[zMc,nodup_cons] at hn;rw[qjO,qnF l _ hn.2,zMc,zAs];congr 1;rw[List.singleton_append];congr 1;rw[knF,zp rfl];refine List.map_congr_left λx hx=>?_;rw[knF,zn (λe=>hn.1 (zRg ⟨x,hx,e.symm⟩))]
theorem qlB(known:List FSum)(f:FnD):qbP (envF vars arrays later known f) f.body<=(sumF vars arrays later known f).need/\qcg (envF vars arrays later known f) f.body<=(sumF vars arrays later known f).depth:=⟨Nat.le_max_right _ _,Nat.le_max_right _ _⟩
end
def fstF(cc:Nm->CC):Nat->Nat->List FnD->FnD->Nat
 |_,i,[],_=>i
 |n,i,g::l,f=>if g.name=f.name then i else fstF cc (fnW (cc g.name) n g).2 (i+(fnW (cc g.name) n g).1.length) l f
theorem qsV{C:PW}{cc:Nm->CC}:∀ (fs:List FnD) (n i:Nat),C.Code i (fnWs cc n fs).1->(fs.map (·.name)).Nodup->∀ f∈fs,∃ nl,C.Code (fstF cc n i fs f) (fnW (cc f.name) nl f).1
 |[],n,i,_,_,f,hf=>(not_mem_nil hf).elim
 |g::l,n,i,h,hn,f,hf=>by
  rw[zMc,nodup_cons] at hn;rw[fnWs] at h;obtain⟨h1,h2⟩:=h.app;rw[fstF];rcases zMi.1 hf with rfl|hf;rw[zp rfl];exact⟨n,h1⟩;rw[zn (λe=>hn.1 (zRg ⟨f,hf,e.symm⟩))];exact qsV l _ _ h2 hn.2 f hf
theorem qoI(W:List Wd)(og:Nat)(known:Wd->Nat):PW.Code ⟨W,og,known⟩ 0 W:=λk hk=>by
 rw[zero_add];exact zRl hk
def offA:List Ar->Nm->Nat
 |[],_=>0
 |a::l,x=>if a.name=x then 0 else a.size+offA l x
def totA(l:List Ar):Nat:=(l.map (·.size)).sum
theorem qg5(l:List Ar):((l.map λa=>(a.name,(a.size:Int))).map (·.2)).sum=((totA l:Nat):Int):=by
 unfold totA
 induction l with
 |nil=>rfl
 |cons a l ih=>
  simp only[zMc,List.sum_cons] at ih ⊢;rw[ih];omega
theorem qpR:∀ (l:List Ar) (at':Int) (a:Ar),a∈l->arrA at' (l.map λa=>(a.name,(a.size:Int))) a.name=at'+(offA l a.name:Nat)
 |[],at',a,h=>(not_mem_nil h).elim
 |b::l,at',a,h=>by
  rw[zMc,arrA,offA]
  by_cases he:b.name=a.name
  rw[zp he,zp he];simp;rw[zn he,zn he];rcases zMi.1 h with rfl|h;exact absurd rfl he;rw[qpR l _ a h];omega
theorem qk1:∀ (l:List Ar),(l.map (·.name)).Nodup->∀ a∈l,offA l a.name+a.size<=totA l
 |[],_,a,h=>(not_mem_nil h).elim
 |b::l,hn,a,h=>by
  rw[zMc,nodup_cons] at hn;have ht:totA (b::l)=b.size+totA l:=by simp[totA]
  rw[offA,ht];rcases zMi.1 h with rfl|h;rw[zp rfl];omega;rw[zn (λe=>hn.1 (zRg ⟨a,h,e.symm⟩))];have:=qk1 l hn.2 a h;omega
theorem qnw:∀ (l:List Ar),(l.map (·.name)).Nodup->∀ a∈l,∀ b∈l,a.name≠b.name->offA l a.name+a.size<=offA l b.name∨offA l b.name+b.size<=offA l a.name
 |[],_,a,h,_,_,_=>(not_mem_nil h).elim
 |x::l,hn,a,ha,b,hb,hne=>by
  rw[zMc,nodup_cons] at hn;rw[offA,offA];rcases zMi.1 ha with rfl|ha;rw[zp rfl,zn hne];left;omega;rw[zn (λe=>hn.1 (zRg ⟨a,ha,e.symm⟩))];rcases zMi.1 hb with rfl|hb;rw[zp rfl];right;omega;rw[zn (λe=>hn.1 (zRg ⟨b,hb,e.symm⟩))];rcases qnw l hn.2 a ha b hb hne with h|h;left;omega;right;omega
theorem quJ{l:List Ar}(h:(l.map (·.name)).Nodup){a b:Ar}(ha:a∈l)(hb:b∈l)(he:a.name=b.name):a=b:=by
 induction l with
 |nil=>cases ha
 |cons x l ih=>
  rw[zMc,nodup_cons] at h;rcases zMi.1 ha with rfl|ha';rcases zMi.1 hb with rfl|hb';rfl;exact absurd (zRg ⟨b,hb',he.symm⟩) h.1;rcases zMi.1 hb with rfl|hb';exact absurd (zRg ⟨a,ha',he⟩) h.1;exact ih h.2 ha' hb'
end Go.Stele
