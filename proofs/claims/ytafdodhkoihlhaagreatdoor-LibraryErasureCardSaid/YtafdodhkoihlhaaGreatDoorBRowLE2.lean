import Derived.StillTail
import Derived.Recover
import Derived.Lib.ParseIntB
import Derived.Lib.ItoaNum
import Derived.Lib.Join
import Derived.Lib.Split
import Derived.Test.YtafdodhkoihlhaaGreatDoorBRowLE1
set_option linter.unusedVariables false
set_option linter.unusedSimpArgs false
set_option maxRecDepth 100000
set_option maxHeartbeats 0
open List (mem_singleton map_nil map_set mem_cons_self map_toArray nil_append length_take length_drop takeWhile_cons_of_pos takeWhile_cons_of_neg cons_append count_cons count_append)
open Nat (zero_add zero_le add_mul lt_or_ge)
open Option (map_some)
namespace Go.GL
open Go.RowKit
variable{C:Ctx}{F H:Heap}{L:Live}{P:Program}{Q:Vc}{a i j:Int}{ua:Array Edge}{args cs es:List LV}{b bytes cap ka el n o off s:Nat}{c:Code}{dst:Option Nat}{f:FuncId}{k:List UInt8}{kd:IntKind}{lv zl:LV}{mo x z:Operand}{ra:String}{rest:List Oper}{t ty u xT yT:TypeId}{v zv:Value}{vs:List Value}{w w':World}{ρ:Operand->Value}
abbrev KV:=List (List UInt8×LV)
variable{m:KV}
@[reducible] def Sj(k:List UInt8):Value:=.string ⟨k.toArray⟩
def Ve(m:KV):List (Value×LV):=m.map λp=>(Sj p.1,p.2)
def wb:KV->List UInt8->Option LV
 |[],_=>none
 |p::r,k=>if p.1=k then some p.2 else wb r k
def Nc:KV->List UInt8->LV->KV
 |[],k,v=>[(k,v)]
 |p::r,k,v=>if p.1=k then (k,v)::r else p::Nc r k v
theorem Dn(k k':List UInt8)(v:LV):∀ m:KV,wb (Nc m k v) k'=if k=k' then some v else wb m k'
 |[]=>by simp only[Nc,wb]
 |p::r=>by unfold Nc;by_cases h:p.1=k;rw[zp h];by_cases h':k=k';simp only[wb,zp h'];simp only[wb,zn h'];rw[zn (by rw[h];exact h')];rw[zn h];simp only[wb];rw[Dn k k' v r];by_cases h2:p.1=k';rw[zp h2,zn (by rw[<-h2];exact λh3=>h h3.symm)];simp only[zp h2];simp only[zn h2]
theorem BZ(k:List UInt8):∀ (m:KV) (es:List MapEntry) (i:Nat),es.map (·.key)=(Ve m).map (·.1) ->
  (wb m k=none/\(∀ v,Nc m k v=m++[(k,v)])/\Instr.findNow .string (Sj k) es i=some none) ∨
  ∃ (j:Nat) (e:MapEntry) (v:LV),Instr.findNow .string (Sj k) es i=some (some (i+j,e.val))/\es[j]? = some e/\m[j]? = some (k,v)/\wb m k=some v/\∀ v',Nc m k v'=m.set j (k,v')
 |[],[],i,_=>.inl ⟨rfl,λ_=>rfl,rfl⟩
 |[],_::_,_,h=>by cases h
 |_::_,[],_,h=>by cases h
 |p::m,e::es,i,h=>by
  have h1:e.key=Sj p.1:=by have:=(List.cons.inj h).1;exact this
  have h2:es.map (·.key)=(Ve m).map (·.1):=(List.cons.inj h).2;by_cases hs:p.1=k
  ·right;have hb:((⟨k.toArray⟩:ByteArray) == ⟨p.1.toArray⟩)=true:=by rw[II,Dg hs.symm]
   refine⟨0,e,p.2,?_,rfl,by rw[<-hs];try rfl,by simp only[wb,zp hs],λv'=>by simp only[Nc,zp hs];rfl⟩;simp only[Instr.findNow,h1,Instr.sameNow,hb,Nat.add_zero]
  have hb:((⟨k.toArray⟩:ByteArray) == ⟨p.1.toArray⟩)=false:=by rw[II,decide_eq_false (λh3=>hs h3.symm)]
  rcases BZ k m es (i+1) h2 with⟨g1,g2,g3⟩|⟨j,e2,v,g1,g2,g3,g4,g5⟩;left;refine⟨by simp only[wb,zn hs];exact g1,λv=>by simp only[Nc,zn hs,g2];rfl,?_⟩;simp only[Instr.findNow,h1,Instr.sameNow,hb];exact g3;right;refine⟨j+1,e2,v,?_,g2,g3,by simp only[wb,zn hs];exact g4,λv'=>by simp only[Nc,zn hs,g5];rfl⟩;simp only[Instr.findNow,h1,Instr.sameNow,hb];rw[g1];congr 3;omega
theorem oa.setAt{w:World}{L:Live}:∀ {cs:List LV} {xs:List Value},oa w L cs xs->∀ (j:Nat) {c:LV} {x:Value},Fb w L c x->oa w L (cs.set j c) (xs.set j x)
 |[],xs,h,j,c,x,hr=>by simp only[oa] at h;subst h;simp only[List.set_nil,oa]
 |d::cs,xs,h,j,c,x,hr=>by
  simp only[oa] at h;obtain⟨y,ys,rfl,h1,h2⟩:=h;cases j with
  |zero=>simp only[List.set_cons_zero,oa];exact⟨x,ys,rfl,hr,h2⟩
  |succ j=>simp only[List.set_cons_succ,oa];exact⟨y,_,rfl,h1,h2.setAt j hr⟩
section
variable{C:Ctx}{e:Env}{H:Heap}{dst:Option Nat}{ty:TypeId}{ra:String}{ua:Array Edge}{g:Option (Nat×Bool)}{K:LV->Heap->Prop}{X:List PanicEntry->Heap->Prop}{x y:Operand}
theorem qqg{L:Live}{mc:Nat}{es Am:List (Value×LV)}(hH:Ta C w L [(b,.map es ka)])(h1:w'.os=w.os)(h2:w'.tape=w.tape)(h3:w'.output=w.output)
  (h4:w'.heap.size=w.heap.size) (h5:∀ c,c≠b->w'.heap[c]? = w.heap[c]?) (Sc:List MapEntry) (h6:w'.heap[b]? = some (.map Sc.toArray mc)) (h7:Sc.map (·.key)=Am.map (·.1)) (h8:oa w L (Am.map (·.2)) (Sc.map (·.val)))
  (h9:∀ e∈Sc,e.born<mc) (fw:(Sc.map (·.born)).Nodup) {v:Value} {lv:LV} (hv:∀ L,Fb w' L lv v) (hk:K lv [(b,.map Am mc)]):Left C w L [(b,.map es ka)] w' v K:=by
 obtain⟨Wf,vh,hl,xs,Kd,_⟩:=hH.Bc _ (Sq rfl);simp only at Wf vh hl Kd;have hx:Ext w L w' L:=by
  refine⟨by rw[h4];exact Pb _,λc hc=>?_,λc i hi=>?_,λ_=>Pb _⟩
  by_cases he:c=b;subst he;rw[YN Kd rfl];exact YN h6 rfl;exact QI (h5 c he);by_cases he:c=b;subst he;rw[hl] at hi;omega;exact cell_of_heap (h5 c he) i
 refine⟨lv,[(b,.map Am mc)],L,⟨h1,h2,h3,hx,λc hc hn=>h5 c (by simpa using hn),λ_ _ _=>rfl,λp hp=>.inl (by simp only[mem_singleton] at hp;subst hp;simp)⟩,
  ⟨?_,hH.sj,by rw[h4];exact hH.b0,by rw[h4];exact hH.wf,by simp,λp hp=>?_⟩,hv L,hk⟩
 exact hH.base.trans ⟨h1,h2,h3,by rw[h4];exact Pb _,λc hc=>h5 c zo⟩;simp only[mem_singleton] at hp;subst hp;exact⟨Wf,by rw[h4];exact vh,hl,Sc,h6,h7,oa.mono hx _ _ h8,h9,fw⟩
theorem S.im(hk:∀ b,K (.atom (.map (some b))) ((b,.map (Ve []) 0)::H)):ab C ⟨dst,.makeMap t none,ty,ra,ua,g⟩ e H K X:=by
 refine ab.rF λρ w L _ hH=>?_;have h3:execOp ρ ⟨dst,.makeMap t none,ty,ra,ua,g⟩=(do Pure.pure (.value (<-Instr.makeMap t none))):=rfl;have h4:(Instr.makeMap t none).run C.P w=.ok (.map (some w.heap.size)) (World.push w (.map #[] 0)):=rfl;rw[h3,Lc,h4]
 have:=OE hH (.map #[] 0) 0 [(w.heap.size,.map (Ve []) 0)] (λp hp=>by
  simp only[mem_singleton] at hp;subst hp;refine⟨rfl,by simp[Live.Rd],[],aw,rfl,?_,(λe he=>by cases he),List.nodup_nil⟩;show oa _ _ [] [];simp only[oa]) (by simp)
 exact⟨_,_,_,this.1,this.2,Ld,hk _⟩
theorem S.Nc{t kt el:TypeId}(ht:C.P.underlying t=some (.map kt el))(Vf:C.P.underlying kt=some .string){b ka:Nat}{m:KV}{F:Heap}{mo z:Operand}{k:List UInt8}{lv:LV}(hm:e.ev mo=.atom (.map (some b)))(hx:e.ev x=str k)(hz:e.ev z=lv)
  (hp:xd (b,.map (Ve m) ka) H F) (hk:∀ mc,K (.atom undef) ((b,.map (Ve (GL.Nc m k lv)) mc)::F)):ab C ⟨dst,.mapUpdate t mo x z,ty,ra,ua,g⟩ e H K X:=by
 refine ab.DM hp λρ w L h hH=>?_;obtain⟨Wf,vh,hl,Sc,Kd,me,Uy,mX,hx5⟩:=hH.Bc _ (Sq rfl);simp only at Wf vh hl Kd me Uy;have SL:Fb w L lv (ρ z):=hz▸h z;have h3:execOp ρ ⟨dst,.mapUpdate t mo x z,ty,ra,ua,g⟩=(do Instr.mapUpdate t (ρ mo) (ρ x) (ρ z);Pure.pure .skip):=rfl;have hg:(getObj b).run C.P w=.ok (.map Sc.toArray ka) w:=by simp only[getObj,Sem.run,Kd]
 have yt:∀ o',(setObj b o').run C.P w=.ok () (gi w b o'):=λo'=>BR Kd rfl;rw[h3,nc h hm,nc h hx];rcases BZ k m Sc 0 me with⟨g1,g2,g3⟩|⟨j,e2,v,g1,g2,g3,g4,g5⟩
 ·have hf:(Instr.findKey kt (Sj k) Sc.toArray.toList).run C.P w=.ok none w:=by
   simp only[Instr.findKey,Lc,Fe Vf,jd,g3,Xd]
  simp only[Instr.mapUpdate,Lc,Fe ht,jd,hg,TI Vf,hf];rw[yt];refine qqg (w':=gi w b _) hH rfl rfl rfl (by simp[gi]) (λc hc=>ZN hc) (Sc++[⟨Sj k,ρ z,ka⟩]) (mc:=ka+1) ((QN vh).trans (by simp)) (Am:=Ve (GL.Nc m k lv)) ?_ ?_ ?_ ?_ (λ_=>Ld) (hk _)
  ·rw[g2,Ve,Te,Te,Te,<-Ve,me]
   try rfl
  rw[g2,Ve,Te,Te,Te,<-Ve];refine oa.append Uy ?_;simp only[yd,map_nil,oa];exact⟨_,_,rfl,SL,rfl⟩;intro e' Na;rcases xj Na with h1|h1;exact Nat.lt_succ_of_lt (mX e' h1);obtain rfl:=aj h1;exact Nat.lt_succ_self _;rw[Te,List.nodup_append];refine⟨hx5,by simp,λa ha b' zT he=>?_⟩;obtain⟨e',h1,rfl⟩:=Ni ha;simp only[yd,map_nil,mem_singleton] at zT;have:=mX e' h1;omega
 have hf:(Instr.findKey kt (Sj k) Sc.toArray.toList).run C.P w=.ok (some (0+j,e2.val)) w:=by simp only[Instr.findKey,Lc,Fe Vf,jd,g1,Xd]
 have JD:e2.key=Sj k:=by
  have h1:(Sc.map (·.key))[j]? = some e2.key:=by rw[List.getElem?_map,g2];try rfl
  rw[me,Ve,List.map_map,List.getElem?_map,g3] at h1;exact(Option.some.inj h1).symm
 have gk:(Instr.keyThatStays (((Sc.toArray[0+j]?).map (·.key)).getD (Sj k)) (Sj k)).run C.P w=.ok (Sj k) w:=by rw[zero_add,List.getElem?_toArray,g2];simp only[map_some,Option.getD_some,JD];unfold Instr.keyThatStays;rw[zp (by simp only[Instr.sameBits];rw[II];simp)];try rfl
 simp only[Instr.mapUpdate,Lc,Fe ht,jd,hg,TI Vf,hf,gk];rw[yt];have l7:Sc.toArray.modify (0+j) (λe=>{ e with key:=Sj k,val:=ρ z })=(Sc.set j { e2 with key:=Sj k,val:=ρ z }).toArray:=by
  rw[zero_add];apply Array.ext';simp only[Array.toList_modify];refine List.ext_getElem? λi=>?_;rw[List.getElem?_modify,List.getElem?_set]
  by_cases hi:j=i;subst hi;have Ka:j<Sc.length:=(List.getElem?_eq_some_iff.1 g2).1;rw[zp rfl,g2,zp Ka];show some _=_;simp;rw[zn hi];cases Sc[i]? with
  |none=>rfl
  |some a=>show some _=_;simp[hi]
 refine qqg (w':=gi w b _) hH rfl rfl rfl (by simp[gi]) (λc hc=>ZN hc) (Sc.set j { e2 with key:=Sj k,val:=ρ z }) ((QN vh).trans (by rw[l7])) (Am:=Ve (GL.Nc m k lv)) ?_ ?_ ?_ ?_ (λ_=>Ld) (hk _)
 ·rw[g5,Ve,map_set,map_set,map_set,me]
  try rfl
 rw[g5,Ve,map_set,map_set,map_set];exact oa.setAt Uy j SL;intro e' Na;rcases List.mem_or_eq_of_mem_set Na with h1|h1;exact mX e' h1;rw[h1];exact mX e2 (List.mem_of_getElem? g2);rw[map_set];have:(Sc.map (·.born)).set j e2.born=Sc.map (·.born):=by
  refine List.ext_getElem? λi=>?_;rw[List.getElem?_set];split
  ·rename_i h1
   subst h1;split
   ·rw[List.getElem?_map,g2];try rfl
   rename_i h2;rw[List.getElem?_eq_none zo]
  rfl
 rw[this];exact hx5
theorem qtC{kt el:TypeId}(ht:C.P.underlying t=some (.map kt el))(Vf:C.P.underlying kt=some .string)(hz:∀ w,(zeroValue el).run C.P w=.ok zv w)(qO:∀ w L,Fb w L zl zv)
  (hH:Ta C w L H) (hb:(b,.map (Ve m) ka)∈H):∃ v,Fb w L ((wb m k).getD zl) v/\∀ w',Ps w L H w'->∀ c,(Instr.lookup t (.map (some b)) (Sj k) c).run C.P w'=.ok (if c=true then .tuple #[v,.bool (wb m k).isSome] else v) w':=by
 obtain⟨_,_,_,Sc,Kd,me,Uy,_⟩:=hH.Bc _ hb;simp only at Kd;rcases BZ k m Sc 0 me with⟨g1,g2,g3⟩|⟨j,e2,v,g1,g2,g3,g4,g5⟩;refine⟨zv,by rw[g1];exact qO w L,λw' ha c=>?_⟩;have hw:w'.heap[b]? = some (.map Sc.toArray ka):=(ha.1 _ hb).trans Kd;have hg:(getObj b).run C.P w'=.ok (.map Sc.toArray ka) w':=by simp only[getObj,Sem.run,hw]
 have hf:(Instr.findKey kt (Sj k) Sc.toArray.toList).run C.P w'=.ok none w':=by simp only[Instr.findKey,Lc,Fe Vf,jd,g3,Xd]
 simp only[Instr.lookup,Lc,Fe ht,jd,hg,Xd,TI Vf,hf,hz,g1];rfl;refine⟨e2.val,?_,λw' ha c=>?_⟩
 ·rw[g4];obtain⟨x,h1,h2⟩:=Uy.get (i:=j) (c:=v) (by rw[Ve,List.map_map,List.getElem?_map,g3];try rfl);rw[List.getElem?_map,g2] at h1;obtain rfl:=Option.some.inj h1;exact h2
 have hw:w'.heap[b]? = some (.map Sc.toArray ka):=(ha.1 _ hb).trans Kd;have hg:(getObj b).run C.P w'=.ok (.map Sc.toArray ka) w':=by simp only[getObj,Sem.run,hw]
 have hf:(Instr.findKey kt (Sj k) Sc.toArray.toList).run C.P w'=.ok (some (0+j,e2.val)) w':=by simp only[Instr.findKey,Lc,Fe Vf,jd,g1,Xd]
 simp only[Instr.lookup,Lc,Fe ht,jd,hg,Xd,TI Vf,hf,g4];rfl
theorem Pure.wb{t kt el:TypeId}(ht:C.P.underlying t=some (.map kt el))(Vf:C.P.underlying kt=some .string){zv:Value}{zl:LV}(hz:∀ w,(zeroValue el).run C.P w=.ok zv w)(qO:∀ w L,Fb w L zl zv){b ka:Nat}{m:KV}{k:List UInt8}(hm:e.ev x=.atom (.map (some b)))(hx:e.ev y=str k)
  (hb:(b,.map (Ve m) ka)∈H):Pure C ⟨dst,.lookup t x y false,ty,ra,ua,g⟩ e H ((GL.wb m k).getD zl):=λρ w L h hH=>by
 obtain⟨v,h1,h2⟩:=qtC ht Vf hz qO (k:=k) hH hb;refine⟨v,h1,λw' ha=>?_⟩;have h3:execOp ρ ⟨dst,.lookup t x y false,ty,ra,ua,g⟩=(do Pure.pure (.value (<-Instr.lookup t (ρ x) (ρ y) false))):=rfl;rw[h3,nc h hm,nc h hx,Lc,h2 w' ha false]
 try rfl
theorem Pure.kD{kt el:TypeId}(ht:C.P.underlying t=some (.map kt el))(Vf:C.P.underlying kt=some .string)(hz:∀ w,(zeroValue el).run C.P w=.ok zv w)(qO:∀ w L,Fb w L zl zv)(hm:e.ev x=.atom (.map (some b)))(hx:e.ev y=str k)
  (hb:(b,.map (Ve m) ka)∈H):Pure C ⟨dst,.lookup t x y true,ty,ra,ua,g⟩ e H (.tuple [(GL.wb m k).getD zl,bool (GL.wb m k).isSome]):=λρ w L h hH=>by
 obtain⟨v,h1,h2⟩:=qtC ht Vf hz qO (k:=k) hH hb;refine⟨.tuple #[v,.bool (GL.wb m k).isSome],?_,λw' ha=>?_⟩;simp only[Fb];refine⟨[v,.bool (GL.wb m k).isSome],rfl,?_⟩;simp only[oa];exact⟨_,_,rfl,h1,_,_,rfl,rfl,rfl⟩;have h3:execOp ρ ⟨dst,.lookup t x y true,ty,ra,ua,g⟩=(do Pure.pure (.value (<-Instr.lookup t (ρ x) (ρ y) true))):=rfl;rw[h3,nc h hm,nc h hx,Lc,h2 w' ha true]
 try rfl
end
class dp (P:Program) (t:TypeId) (el:outParam TypeId) (zv:outParam Value) (zl:outParam LV):Prop where
 af:∃ kt,P.underlying t=some (.map kt el)/\P.underlying kt=some .string
 zero:∀ w,(zeroValue el).run P w=.ok zv w
 rep:∀ w L,Fb w L zl zv
theorem qxH(w:World)(L:Live)(zs:List Value):Fb w L (.agg (zs.map .atom)) (.agg zs.toArray):=by simp only[Fb];exact⟨zs,rfl,Ys zs⟩
section
variable{C:Ctx}{e:Env}{H:Heap}{dst:Option Nat}{ty:TypeId}{ra:String}{ua:Array Edge}{g:Option (Nat×Bool)}{K:LV->Heap->Prop}{X:List PanicEntry->Heap->Prop}{x y:Operand}
theorem Pure.ZI{el:TypeId} [h:dp C.P t el zv zl](hm:e.ev x=.atom (.map (some b)))(hx:e.ev y=str k)(hb:(b,.map (Ve m) ka)∈H)(hg:GL.wb m k=some lv) :
  Pure C ⟨dst,.lookup t x y false,ty,ra,ua,g⟩ e H lv:=by
 obtain⟨kt,h1,h2⟩:=h.af;have:=Pure.wb (dst:=dst) (ty:=ty) (ra:=ra) (ua:=ua) (g:=g) h1 h2 h.zero h.rep hm hx hb;rwa [hg] at this
theorem Pure.FL{el:TypeId} [h:dp C.P t el zv zl](hm:e.ev x=.atom (.map (some b)))(hx:e.ev y=str k)(hb:(b,.map (Ve m) ka)∈H)(hg:GL.wb m k=none) :
  Pure C ⟨dst,.lookup t x y false,ty,ra,ua,g⟩ e H zl:=by
 obtain⟨kt,h1,h2⟩:=h.af;have:=Pure.wb (dst:=dst) (ty:=ty) (ra:=ra) (ua:=ua) (g:=g) h1 h2 h.zero h.rep hm hx hb;rwa [hg] at this
theorem Pure.bx{el:TypeId} [h:dp C.P t el zv zl](hm:e.ev x=.atom (.map (some b)))(hx:e.ev y=str k)(hb:(b,.map (Ve m) ka)∈H)(hg:GL.wb m k=some lv) :
  Pure C ⟨dst,.lookup t x y true,ty,ra,ua,g⟩ e H (.tuple [lv,bool true]):=by
 obtain⟨kt,h1,h2⟩:=h.af;have:=Pure.kD (dst:=dst) (ty:=ty) (ra:=ra) (ua:=ua) (g:=g) h1 h2 h.zero h.rep hm hx hb;rwa [hg] at this
theorem Pure.vt{el:TypeId} [h:dp C.P t el zv zl](hm:e.ev x=.atom (.map (some b)))(hx:e.ev y=str k)(hb:(b,.map (Ve m) ka)∈H)(hg:GL.wb m k=none) :
  Pure C ⟨dst,.lookup t x y true,ty,ra,ua,g⟩ e H (.tuple [zl,bool false]):=by
 obtain⟨kt,h1,h2⟩:=h.af;have:=Pure.kD (dst:=dst) (ty:=ty) (ra:=ra) (ua:=ua) (g:=g) h1 h2 h.zero h.rep hm hx hb;rwa [hg] at this
theorem S.ao{el:TypeId} [h:dp C.P t el zv zl](hm:e.ev mo=.atom (.map (some b)))(hx:e.ev x=str k)(hz:e.ev z=lv)
  (hp:xd (b,.map (Ve m) ka) H F) (hk:∀ mc,K (.atom undef) ((b,.map (Ve (GL.Nc m k lv)) mc)::F)):ab C ⟨dst,.mapUpdate t mo x z,ty,ra,ua,g⟩ e H K X:=by
 obtain⟨kt,h1,h2⟩:=h.af;exact S.Nc h1 h2 hm hx hz hp hk
theorem S.YR{el:TypeId} [h:dp C.P t el zv zl](hm:e.ev mo=.atom (.map (some b)))(hx:e.ev x=str k)(hz:e.ev z=lv)
  (hp:xd (b,.map (Ve m) ka) H F) (hk:∀ mc,K (.atom undef) ((b,.map (Ve (GL.Nc m k lv)) mc)::F)):ab C ⟨dst,.insert t mo x z,ty,ra,ua,g⟩ e H K X:=
 λρ w L h1 h2=>(S.ao (dst:=dst) (ty:=ty) (ra:=ra) (ua:=ua) (g:=g) (X:=X) hm hx hz hp hk) ρ w L h1 h2
theorem S.Od{el:TypeId} [h:dp C.P t el zv zl](m':KV)(hm:e.ev mo=.atom (.map (some b)))(hx:e.ev x=str k)(hz:e.ev z=lv)
  (hp:xd (b,.map (Ve m) ka) H F) (he:GL.Nc m k lv=m') (hk:∀ mc,K (.atom undef) ((b,.map (Ve m') mc)::F)):ab C ⟨dst,.insert t mo x z,ty,ra,ua,g⟩ e H K X:=
 S.YR hm hx hz hp (he▸hk)
theorem lV{k:List UInt8}{v:LV}:∀ {m:KV},k ∉ m.map (·.1)->GL.Nc m k v=m++[(k,v)]
 |[],_=>rfl
 |p::r,h=>by
  rw[GL.Nc,zn (λhe=>h (by rw[yd];exact Dc.2 (.inl he.symm))),lV (λhm=>h (by rw[yd];exact Oc _ hm))]
  try rfl
end
variable{C:Ctx}{dst:Option Nat}{ty:TypeId}{ra:String}{ua:Array Edge}{g:Option (Nat×Bool)}{e:Env}{H:Heap}{K:LV->Heap->Prop}{X:List PanicEntry->Heap->Prop}
theorem S.zw{kt el:TypeId}(ht:C.P.underlying t=some (.map kt el))(Vf:C.P.underlying kt=some .string){es:Array MapEntry}{p:List UInt8->Bool}{m:Operand}(hm:e.ev m=.atom (.map (some b)))(hx:e.ev x=str k)(hz:e.ev z=bool true)
  (hp:xd (b,.obj (.map es ka)) H F) (hs:Oe es p) (hk:∀ Am mc,Oe Am (λs=>p s || decide (s=k))->K (.atom undef) ((b,.obj (.map Am mc))::F)):ab C ⟨dst,.mapUpdate t m x z,ty,ra,ua,g⟩ e H K X:=
 λρ w L h hH=>(S.gK (dst:=dst) (ty:=ty) (ra:=ra) (ua:=ua) (g:=g) (X:=X) ht Vf hm hx hz hp hs hk) ρ w L h hH
theorem qwz{fn:Func}{r s t q:ResultVar}(h:fn.results=#[r,s,t,q]){tmps:Array Value}{u x y:Value}(h1:(rn tmps r).run P w=.ok v w)(h2:(rn tmps s).run P w=.ok u w)(h3:(rn tmps t).run P w=.ok x w)(h4:(rn tmps q).run P w=.ok y w) :
  (results fn tmps).run P w=.ok (.tuple #[v,u,x,y]) w:=by
 have:results fn tmps=(do let v <-rn tmps r;let u <-rn tmps s;let x <-rn tmps t;let y <-rn tmps q;Pure.pure (.tuple #[v,u,x,y])):=by cases r <;> cases s <;> cases t <;> cases q <;> simp[results,h,rn]
 rw[this,zG h1,zG h2,zG h3,zG h4];try rfl
theorem qoz{fn:Func}{e:Env}{a:Act}(hE:Ec n a e w L)(hH:Ta C w L H){vs:List LV}
  (h:tn C n e H fn.results.toList vs) (h3:fn.results.size=4):∃ v,(results fn a.tmps).run C.P w=.ok v w/\Fb w L (Oh vs) v:=by
 obtain⟨rs,Pq⟩:∃ rs,fn.results=List.toArray rs:=⟨fn.results.toList,by simp⟩;rw[Pq] at h h3;simp only[List.size_toArray] at h h3;match rs,vs,h,h3,Pq with
 |[r,s,t,q],[x,y,z,o],h,_,Pq=>obtain⟨v1,g1,r1⟩:=h.1 a w L hE hH;obtain⟨v2,g2,r2⟩:=h.2.1 a w L hE hH;obtain⟨v3,g3,r3⟩:=h.2.2.1 a w L hE hH;obtain⟨v4,g4,r4⟩:=h.2.2.2.1 a w L hE hH;exact⟨_,qwz Pq g1 g2 g3 g4,by simp only[Oh,Fb];exact⟨[v1,v2,v3,v4],rfl,by simp only[oa];exact⟨v1,_,rfl,r1,v2,_,rfl,r2,v3,_,rfl,r3,v4,_,rfl,r4,rfl⟩⟩⟩
 |[_,_,_,_],[],h,_,_=>exact h.elim
 |[_,_,_,_],[_],h,_,_=>exact h.2.elim
 |[_,_,_,_],[_,_],h,_,_=>exact h.2.2.elim
 |[_,_,_,_],[_,_,_],h,_,_=>exact h.2.2.2.elim
 |[_,_,_,_],_::_::_::_::_::_,h,_,_=>exact h.2.2.2.2.elim
theorem ca.LL{fn:Func}{R:Pe->Heap->Prop}(hf:C.P.funcs[f]? = some fn)(hb:fn.body=some c)(hn:fn.ntmps=n)(h3:Nat.beq fn.results.size 4=true)
  (hl:Nat.ble args.length n=true) (h:kb C n c (ke C n fn.results.toList R) (tI args) H):ca C f args H R:=λvs w L hv hH=>by
 subst hn;have az:args.length<=fn.ntmps:=by simpa using hl
 have Nt:fn.results.size=4:=Nat.eq_of_beq_eq_true h3;have ma:=hv.length;refine calls_of_wp hf hb (Go.wp_mono (h _ w L ⟨?_,rfl,λi=>?_⟩ hH) λex a' w' hq=>?_)
 simp;omega;exact kP;obtain⟨e',H',L',g1,g2,g3,g4⟩:=hq;have ret:Ec fn.ntmps a' e' w' L'->(e'.ds=[]/\∃ vs Kh,tn C fn.ntmps e' H' fn.results.toList vs/\HSub Kh H'/\R (.ret (Oh vs)) Kh) ->
   a'.defers=[]/\∃ v,(results fn a'.tmps).run C.P w'=.ok v w'/\AB C w L H (λv=>R (.ret v)) (λch=>R (.panic ch)) (.returned v) w':=λhE hr=>by
  obtain⟨h1,EE,Kh,h2,h4,h5⟩:=hr;obtain⟨v,r1,r2⟩:=qoz hE g2 h2 Nt;exact⟨hE.ds.trans h1,v,r1,Oh EE,Kh,L',g1.Yb h4,g2.Yb h4,r2,h5⟩
 cases ex with
 |normal=>exact ret g3 g4
 |ret=>exact ret g3 g4
 |panic ch=>obtain⟨h1,Kh,h4,h5⟩:=g4;exact⟨g3.trans h1,Kh,L',g1.Yb h4,g2.Yb h4,h5⟩
 |exit id=>exact g4.elim
 |goto id=>exact g4.elim
 |outgrown=>exact g4.elim
section
variable{C:Ctx}{e:Env}{H:Heap}{dst:Option Nat}{ty:TypeId}{ra:String}{ua:Array Edge}{g:Option (Nat×Bool)}{xT yT:TypeId}{x y:Operand}{k k2:IntKind}{a b:Int}
theorem KN{op:BinOp}{y:Operand}{k k2:IntKind}{b:Int}(hx:ρ x=.int k a)(hy:ρ y=.int k2 b){s:Sem Value}
  (h:(binOp op xT (.int k a) (.int k2 b))=s) {v:Value} (hv:∀ w,s.run P w=.ok v w) (w:World):(execOp ρ ⟨dst,.binOp op xT x y yT,ty,ra,ua,g⟩).run P w=.ok (.value v) w:=by
 subst h;have he:eqGuard op xT x y (.int k a) (.int k2 b)=Pure.pure ():=by unfold eqGuard;cases op <;> rfl
 simp only[execOp,hx,hy,he,Lc,Xd,jd,hv]
theorem Pure.eQ(hx:e.ev x=int k a)(hy:e.ev y=int k b)(hb:b≠0):Pure C ⟨dst,.binOp .quo xT x y yT,ty,ra,ua,g⟩ e H (int k (k.wrap (a.tdiv b))):=
 .Xa λ_ _ _ h=>⟨_,Ld,KN (nc h hx) (nc h hy) (s:=Op.intDiv .quo k a b) (by simp only[binOp,ne_eq,not_true_eq_false,if_false]) (λ_=>by simp only[Op.intDiv,zn hb,Xd])⟩
theorem Pure.kK(hx:e.ev x=int k a)(hy:e.ev y=int k b)(hb:b≠0):Pure C ⟨dst,.binOp .rem xT x y yT,ty,ra,ua,g⟩ e H (int k (a.tmod b)):=
 .Xa λ_ _ _ h=>⟨_,Ld,KN (nc h hx) (nc h hy) (s:=Op.intDiv .rem k a b) (by simp only[binOp,ne_eq,not_true_eq_false,if_false]) (λ_=>by simp only[Op.intDiv,zn hb,Xd])⟩
theorem Pure.shr(hx:e.ev x=int k a)(hy:e.ev y=int k2 b)(hb:0<=b):Pure C ⟨dst,.binOp .shr xT x y yT,ty,ra,ua,g⟩ e H (int k (a.fdiv (2 ^ min b.toNat k.bits))):=
 .Xa λ_ _ _ h=>⟨_,Ld,KN (nc h hx) (nc h hy) (s:=Op.shift .shr k a k2 b) (by simp only[binOp]) (λ_=>by simp only[Op.shift,zn (Int.not_lt.2 hb),Xd])⟩
theorem Pure.VP(hx:e.ev x=int k a)(hy:e.ev y=int k2 b)(hb:0<=b):Pure C ⟨dst,.binOp .shl xT x y yT,ty,ra,ua,g⟩ e H (int k (k.wrap (a * 2 ^ min b.toNat k.bits))):=
 .Xa λ_ _ _ h=>⟨_,Ld,KN (nc h hx) (nc h hy) (s:=Op.shift .shl k a k2 b) (by simp only[binOp]) (λ_=>by simp only[Op.shift,zn (Int.not_lt.2 hb),Xd])⟩
theorem Pure.oU(hx:e.ev x=int k a)(hy:e.ev y=int k b):Pure C ⟨dst,.binOp .and xT x y yT,ty,ra,ua,g⟩ e H (int k (k.wrap ((BitVec.ofInt k.bits a &&& BitVec.ofInt k.bits b).toNat:Nat))):=
 .Xa λ_ _ _ h=>⟨_,Ld,KN (nc h hx) (nc h hy) (s:=Op.intBits .and k a b) (by simp only[binOp,ne_eq,not_true_eq_false,if_false]) λ_=>rfl⟩
theorem Pure.vw(hx:e.ev x=int k a)(hy:e.ev y=int k b):Pure C ⟨dst,.binOp .xor xT x y yT,ty,ra,ua,g⟩ e H (int k (k.wrap ((BitVec.ofInt k.bits a ^^^ BitVec.ofInt k.bits b).toNat:Nat))):=
 .Xa λ_ _ _ h=>⟨_,Ld,KN (nc h hx) (nc h hy) (s:=Op.intBits .xor k a b) (by simp only[binOp,ne_eq,not_true_eq_false,if_false]) λ_=>rfl⟩
end
theorem qiM{P:Program}{md:Region.Mode}{Sa:Array Oper}{Q:Exit->Act->World->Prop}{S S':World->Prop}(hS:∀ w,S' w->S w):∀ (Ba:Nat) (Da:Array Bool) (a:Act) (w:World),
  wpAnyH P md Sa Q S' Ba Da a w->wpAnyH P md Sa Q S Ba Da a w
 |0,_,_,_,k=>k
 |Ba+1,_,_,_,k=>⟨k.1,λi hi=>wpOp_mono (λa' w' h=>⟨hS _ h.1,qiM hS Ba _ a' w' h.2⟩) (k.2 i hi)⟩
theorem oi.any{Sa:Array Oper}{HF:Heap}{Ba:Nat}{Da:Array Bool}{e:Env}(HF':Heap)(hs:∀ p∈HF,p∈HF')(h:Rb C n Sa Q HF' Ba Da e H):oi C n Sa Q HF Ba Da e H:=λw0 L0 a w L hL hA _ hE hH=>
 qiM (λw' tO=>⟨λp hp=>(tO.1 p (hs p hp)).trans (hA.1 p hp),λb i hi=>(tO.2 b i (Nat.lt_of_lt_of_le hi (hL b))).trans (hA.2 b i hi)⟩) _ _ _ _ (h a w L hE hH)
def LS(C:Ctx)(n:Nat)(Sa:Array Oper)(K:Env->Prop)(rest:List Oper)(e:Env)(H:Heap):Prop:=
 ∀ a w L,Ec n a e w L->Ta C w L H->wpStill C.P Sa w (λa'=>∃ e',Ec n a' e' w L/\K e') rest a
section still
variable{C:Ctx}{n:Nat}{Sa:Array Oper}{K:Env->Prop}{e:Env}{H:Heap}{dst:Option Nat}{op:Op}{ty:TypeId}{ra:String}{ua:Array Edge}{rest:List Oper}
theorem LS.nil(h:K e):LS C n Sa K [] e H:=λ_ _ _ hE _=>⟨e,hE,h⟩
theorem quz{Q:Act->Prop}{a:Act}{o:Oper}(hg:Region.wanted o (yielded Sa a.tmps)=true)(h:(execOp a.eval o).run P w=.ok (.value v) w)(k:wpStill P Sa w Q rest (a.put o.dst v)):wpStill P Sa w Q (o::rest) a:=by unfold wpStill;rw[zp hg];unfold Oper.still;rw[h];exact⟨rfl,k⟩
theorem lP(h:Pure C ⟨dst,op,ty,ra,ua,none⟩ e H lv)(hd:Im n dst)(k:LS C n Sa K rest (e.put dst lv) H):LS C n Sa K (⟨dst,op,ty,ra,ua,none⟩::rest) e H:=λa w L hE hH=>by obtain⟨v,hv,hr⟩:=h a.eval w L hE.ev hH;exact quz (by simp[Region.wanted]) (hr w (Ps.refl _ _ _)) (k _ w L (hE.put hd hv) hH)
theorem O4{P:Program}{w:World}{Q Q':Act->Prop}(h:∀ a,Q a->Q' a):∀ (l:List Oper) (a:Act),wpStill P Sa w Q l a->wpStill P Sa w Q' l a
 |[],a,k=>h a k
 |o::l,a,k=>by unfold wpStill at k ⊢;split at k;rename_i hw;rw[zp hw];exact Oper.still_mono (λa=>O4 h l a) k;rename_i hw;rw[zn hw];exact O4 h l _ k
theorem kb.tail [hm:Yt C.P] {id:Nat} {l:List Oper}  (m:Nat) (hB:Region.lexTailB .any l.toArray m=true) (h:LS C n l.toArray (λe'=>Ea C n l.toArray Q (l.drop m) e' H) (l.take m) e H):kb C n (.region id l.toArray true) Q e H:=λa w L hE hH=>by refine wp_region_still_tail m hm.out hB ?_;refine O4 (λa' h'=>?_) _ _ (h a w.drew L (hE.mono (zI w L)) hH.drew);obtain⟨e',y8,hk⟩:=h';refine NC (λx a2 w' hq=>?_) _ _ _ (hk a' w.drew L y8 hH.drew);obtain⟨e2,H',L',h1,h2,h3,h4⟩:=hq;exact⟨e2,H',L',h1.xf,h2,h3,h4⟩
end still
@[reducible] def uC(b n:Nat):LV:=.atom (.slice (some ⟨b,0,none⟩) n n)
section
variable{C:Ctx}{e:Env}{H:Heap}{dst:Option Nat}{ty:TypeId}{ra:String}{ua:Array Edge}{g:Option (Nat×Bool)}{K:LV->Heap->Prop}{X:List PanicEntry->Heap->Prop}{x y:Operand}
theorem qsi(n:Nat)(z:Value):(Array.range n).map (λi=>(if n * 1=0 then #[] else #[z])[i % (if n * 1=0 then (#[]:Array Value) else #[z]).size]!)=(List.replicate n z).toArray:=by rcases Nat.eq_zero_or_pos n with rfl|hn;simp;rw[zn zo];apply Array.ext;simp;intro i h1 h2;simp[Nat.mod_one]
theorem S.dt{t:Nat} [ht:Qa C.P t el 1] [hr:ui C.P el 1 bytes] [hz:Mi C.P el [zv]]{k k2:IntKind}(hx:e.ev x=int k n)(hy:e.ev y=int k2 n)(hb:bytes * n<=100000000000)(hn:n<=100000000000)
  (hk:∀ b,K (uC b n) ((b,.cells el (List.replicate n (.atom zv)))::H)):ab C ⟨dst,.makeSlice t x y,ty,ra,ua,g⟩ e H K X:=by
 refine ab.rF λρ w L h hH=>?_;have h3:execOp ρ ⟨dst,.makeSlice t x y,ty,ra,ua,g⟩=(do Pure.pure (.value (<-Instr.makeSlice t (ρ x) (ρ y)))):=rfl;obtain⟨i,z,hi,hs,EO,Wf,bS,lX⟩:=hr.out;obtain⟨i',z',Wg,aH,Xo,Wy⟩:=hz.out;rw[hi] at Wg;obtain rfl:=Option.some.inj Wg;rw[bS] at aH;obtain rfl:=Option.some.inj aH;have wn:IntKind.i64.wrap (n:Int)=n:=cA zo;have n1:¬ ((n:Int)<0):=by omega
 have n2:¬ ((281474976710656:Int)<(i.bytes:Int) * n):=by
  rw[EO];have:((bytes * n:Nat):Int)<=100000000000:=by omega
  rw[Int.natCast_mul] at this;omega
 have n3:¬ (n * i.bytes > roomBytes):=by rw[EO,Nat.mul_comm];unfold roomBytes;omega
 have Cf:(Instr.makeSlice t (.int k n) (.int k2 n)).run C.P w=.ok (.slice (some ⟨w.heap.size,0,none⟩) n n) (World.push w (.cells (List.replicate n zv).toArray el)):=by
  have SL:=qsi n zv;by_cases h0:n=0
  ·subst h0;have wz:IntKind.i64.wrap 0=0:=cA zo;simp[Instr.makeSlice,Fe ht.af,asInt,asIntOf,YW hi,MC hi,hs,wz,newRow,askRoom,roomBytes,newObj,World.push,Lc,Xd];have e0:(Array.range 0).map (λ_=>(default:Value))=#[]:=by simp
   rw[e0];try rfl
  simp only[Nat.mul_one,h0,if_false] at SL;simp[Instr.makeSlice,Fe ht.af,asInt,asIntOf,YW hi,MC hi,hs,wn,n1,n2,n3,h0,zeroValue,bS,Xo,newRow,askRoom,newObj,World.push,Lc,Xd,SL];simp at SL;rw[SL];try rfl
 rw[h3,nc h hx,nc h hy,Lc,Cf];have ox:oa w L (List.replicate n (.atom zv)) (List.replicate n zv):=by have:=Ys (w:=w) (L:=L) (List.replicate n zv);rwa [List.map_replicate] at this
 have To:=DI hH.wf (.cells (List.replicate n zv).toArray el) 0;have:=OE hH (.cells (List.replicate n zv).toArray el) 0 [(w.heap.size,.cells el (List.replicate n (.atom zv)))] (λp hp=>by
  simp only[mem_singleton] at hp;subst hp;exact⟨rfl,by simp[Live.Rd],List.replicate n zv,aw,ox.mono To _ _⟩) (by simp)
 exact⟨_,_,_,this.1,this.2,Ld,hk _⟩
theorem Pure.gq{t:Nat} [ht:Qa C.P t el s]{m:Nat}{n:Int}{k:IntKind}(hx:e.ev x=.atom (.slice (some ⟨b,off,none⟩) m cap))(hy:e.ev y=int k n)(h0:0<=n)(hn:n<m) :
  Pure C ⟨dst,.indexAddr t x y,ty,ra,ua,g⟩ e H (ptr b (off+n.toNat * s)):=.Xa λρ w L h=>by
 obtain⟨i,hi,ae⟩:=ht.size;refine⟨_,Ld,λw'=>?_⟩;have h3:execOp ρ ⟨dst,.indexAddr t x y,ty,ra,ua,g⟩=(do Pure.pure (.value (<-Instr.indexAt t (ρ x) (ρ y)))):=rfl;rw[h3,nc h hx,nc h hy];have hc:0<=n/\n<(m:Int):=⟨h0,hn⟩;simp[Instr.indexAt,asIntOf,Fe ht.af,hc,MC hi,Pg,ae]
theorem Pure.Is{t:Nat} [Qa C.P t el s]{a:Option Addr}{m:Nat}(hx:e.ev x=.atom (.slice a m cap)):Pure C ⟨dst,.call { callee:=.builtin .len,args:=#[x],argTypes:=#[t] },ty,ra,ua,g⟩ e H (int .i64 m):=
 .Xa λρ _ _ h=>⟨_,Ld,λw'=>by
  have hu:=Fe (P:=C.P) (Qa.af (t:=t)) w';rw[Xs,SW];simp[Builtin.len_,hu,goInt,nc h hx]⟩
end
section shut
variable{C:Ctx}{n:Nat}{Q:Vc}{e:Env}{H F:Heap}
theorem UZ(hp:xd (b,.cells el (vs.map .atom)) H F)(hH:Ta C w L H) :
  Ta C w (L.Rd b vs.length) F/\Ext w L w (L.Rd b vs.length)/\Fb w (L.Rd b vs.length) (.list (vs.map .atom)) (.slice (some ⟨b,0,none⟩) vs.length vs.length):=by
 have sv:=hH.perm hp;obtain⟨Wf,vh,hl,xs,Kd,me⟩:=sv.Bc _ mem_cons_self;simp only at Wf vh hl Kd me;have hxs:xs=vs:=oa.atoms me;subst hxs;have hx:Ext w L w (L.Rd b xs.length):=⟨Pb _,λ_ _=>rfl,λ_ _ _=>rfl,λc=>by
  unfold Live.Rd;split;rename_i h;subst h;rw[hl];exact zero_le _;exact Pb _⟩
 have xb:∀ p∈F,p.1≠b:=λp jr he=>by have:=sv.nodup;rw[yd,List.nodup_cons] at this;exact this.1 (jl ⟨p,jr,he⟩)
 refine⟨⟨sv.base,trivial,sv.b0,λc hc=>?_,?_,λp jr=>?_⟩,hx,?_⟩;unfold Live.Rd;rw[zn zo];exact sv.wf c hc;have:=sv.nodup;rw[yd,List.nodup_cons] at this;exact this.2;obtain⟨g1,g2,g3⟩:=sv.Bc p (Oc _ jr);exact⟨g1,g2,g3.IL hx rfl (by unfold Live.Rd;rw[zn (xb p jr)])⟩;have hL:(L.Rd b xs.length) b=xs.length:=by unfold Live.Rd;rw[zp rfl]
 have ma:(xs.map LV.atom).length=xs.length:=Mb _;simp only[Fb];refine⟨some ⟨b,0,none⟩,xs.length,by rw[ma],by rw[ma];exact Pb _,λ_=>⟨b,0,1,rfl,?_⟩⟩
 have MD:∀ l:List Value,(l.map LV.atom).flatMap LV.cells=l.map LV.atom:=λl=>by
  induction l with
  |nil=>rfl
  |cons a l ih=>simp only[yd,List.flatMap_cons,ih];rfl
 refine Zc.gX (λv hv=>?_) ?_;obtain⟨a,_,rfl⟩:=Ni hv;rfl;rw[MD];refine Tb.Gi (Ys xs) (by rw[hL];omega) λj x hx=>?_;simp only[World.cell?,Kd,zero_add];simpa using hx
theorem qvE(hp:xd (b,.cells el (vs.map .atom)) H F)(hH:Ta C w L H){x:Exit}{a:Act}(h:lift C n w (L.Rd b vs.length) (keys F) Q x a w'):lift C n w L (keys H) Q x a w':=by
 obtain⟨e',H',L',h1,h2,h3,h4⟩:=h;have hx:=(UZ hp hH).2.1;have Og:∀ c,c∈keys F->c∈keys H:=λc hc=>by obtain⟨p,jr,rfl⟩:=Ni hc;exact List.mem_map_of_mem (hp.mem_iff.2 (Oc _ jr))
 have hb:b∈keys H:=jl ⟨_,hp.mem_iff.2 mem_cons_self,rfl⟩;refine⟨e',H',L',⟨h1.os,h1.tape,h1.output,hx.trans h1.ext,λc hc hn=>h1.block c hc λk=>hn (Og c k),λc hc hn=>?_,λp jr=>(h1.mD p jr).imp (Og _) id⟩,h2,h3,h4⟩;rw[h1.fk c hc (λk=>hn (Og c k))];unfold Live.Rd;rw[zn (λhe=>hn (by rw[he];exact hb))]
theorem qs6{a:Act}{d:Nat}(hp:xd (b,.cells el (vs.map .atom)) H F)(hd:e.s d=uC b vs.length)(hE:Ec n a e w L)(hH:Ta C w L H):Ec n a (e.Rd d (.list (vs.map .atom))) w (L.Rd b vs.length):=by
 obtain⟨_,hx,hr⟩:=UZ hp hH;refine⟨hE.size,hE.ds,λi=>?_⟩;have hv:=hE.zj i;simp only[Env.Rd]
 cases hb:Nat.beq i d with
 |false=>exact hv.mono hx _ _
 |true=>have hi:=Nat.eq_of_beq_eq_true hb;subst hi;rw[hd] at hv;simp only[Fb] at hv;rw[hv];exact hr
theorem kb.XF(d:Nat)(hp:xd (b,.cells el (vs.map .atom)) H F)(hd:e.s d=uC b vs.length)(h:kb C n c Q (e.Rd d (.list (vs.map .atom))) F):kb C n c Q e H:=λa w L hE hH=>
 Go.wp_mono (h a w _ (qs6 hp hd hE hH) (UZ hp hH).1) λ_ _ _=>qvE hp hH
end shut
section
variable{C:Ctx}{e:Env}{H:Heap}{dst:Option Nat}{ty:TypeId}{ra:String}{ua:Array Edge}{g:Option (Nat×Bool)}{K:LV->Heap->Prop}{X:List PanicEntry->Heap->Prop}{x y:Operand}
theorem qkd{t:Nat} [h:Qa P t el s](a:Option Addr)(n m:Nat)(w:World):(Op.equal t (.slice a n m) (.slice none 0 0)).run P w=.ok a.isNone w:=by rw[CW,Op.equalIn];try cases a <;> simp only[Lc,Fe h.af,jd,Xd] <;> rfl
theorem S.pC{t yT:Nat} [ht:Qa C.P t el s](hx:elems (e.ev x)=some es)(hk:∀ b,(b=true->es=[])->K (bool b) H):ab C ⟨dst,.binOp .eql t x (.const (.slice none 0 0)) yT,ty,ra,ua,g⟩ e H K X:=λρ w L h hH=>by
 obtain⟨a,cap,hv,hc,hr⟩:=(h x).elems hx;have h2:=nc h (x:=.const (.slice none 0 0)) rfl;have he:eqGuard .eql t x (.const (.slice none 0 0)) (.slice a es.length cap) (.slice none 0 0)=Pure.pure ():=by simp[eqGuard]
 have hb:binOp .eql t (.slice a es.length cap) (.slice none 0 0)=(do Pure.pure (.bool (<-Op.equal t (.slice a es.length cap) (.slice none 0 0)))):=rfl;have Cf:(execOp ρ ⟨dst,.binOp .eql t x (.const (.slice none 0 0)) yT,ty,ra,ua,g⟩).run C.P w=.ok (.value (.bool a.isNone)) w:=by simp only[execOp,hv,h2,he,hb,Lc,Xd,jd,qkd]
 rw[Cf];refine⟨bool a.isNone,H,L,Fr.refl _ _ _,hH,Ld,hk _ λhn=>?_⟩
 cases a with
 |some a=>cases hn
 |none=>
  cases es with
  |nil=>rfl
  |cons v es=>obtain⟨b,off,k,h3,_⟩:=hr (by simp);cases h3
theorem Pure.vC{t:Nat} [Qa C.P t el s]{a:Option Addr}{m:Nat}(hx:e.ev x=.atom (.slice a m cap)):Pure C ⟨dst,.call { callee:=.builtin .cap,args:=#[x],argTypes:=#[t] },ty,ra,ua,g⟩ e H (int .i64 cap):=
 .Xa λρ _ _ h=>⟨_,Ld,λw'=>by
  have hu:=Fe (P:=C.P) (Qa.af (t:=t)) w';have h0:∀ (cs:Array Bool) (args:Array Value),builtin .cap #[t] ty cs args=(do Pure.pure (.value (<-Builtin.cap_ #[t] ty args))):=λ_ _=>rfl;rw[Xs,h0]
  simp[Builtin.cap_,hu,goInt,nc h hx]⟩
theorem Pure.Ul{t:Nat} [ht:Qa C.P t el s]{a:Option Addr}{m:Nat}{hi:Operand}{k:IntKind}(hx:e.ev x=.atom (.slice a m cap))(hh:e.ev hi=int k n)(hn:n<=cap) :
  Pure C ⟨dst,.slice t x none (some hi) none,ty,ra,ua,g⟩ e H (.atom (.slice a n cap)):=.Xa λρ w L h=>by
 obtain⟨ti,A6,ae⟩:=ht.size;refine⟨_,Ld,λw'=>?_⟩;have hb:=U4 (P:=C.P) (w':=w') (len:=m) (cap:=cap) (lo:=none) (hi:=some hi) (i:=0) (j:=n) h true rfl ⟨k,hh⟩ zo zo zo;have h3:execOp ρ ⟨dst,.slice t x none (some hi) none,ty,ra,ua,g⟩=(do Pure.pure (.value (<-Instr.sliceAt t (ρ x) none (some (ρ hi)) none))):=rfl;rw[h3,nc h hx];simp only[Option.map_none,map_some] at hb;simp only[Instr.sliceAt,Instr.slice,Lc,Fe (P:=C.P) ht.af w',jd,Xd,hb,MC A6,ae]
 have ha:∀ a:Addr,a.add 0=a:=λa=>by obtain⟨b,o,sp⟩:=a;unfold Addr.add;cases sp <;> simp
 simp[ha]
theorem S.AE{sT xT:Nat} [ht:Qa C.P sT el 1] [hr:ui C.P el 1 bytes] [hz:Mi C.P el [zv]] [xH:uj C.P xT .i64](hx:e.ev x=fc)(hy:e.ev y=int .i64 n)(hn:0<n)(Wa:n * bytes<=140737488355328)
  (hk:∀ b cap,n<=cap->K (.atom (.slice (some ⟨b,0,none⟩) n cap)) ((b,.cells el (List.replicate cap (.atom zv)))::H)) :
  ab C ⟨dst,.call { callee:=.builtin .append,args:=#[x,y],argTypes:=#[sT,xT] },ty,ra,ua,g⟩ e H K X:=by
 refine ab.rF λρ w L h hH=>?_;have h0:∀ (cs:Array Bool) (args:Array Value),builtin .append #[sT,xT] ty cs args=(do Pure.pure (.value (<-Builtin.append_ #[sT,xT] ty args))):=λ_ _=>rfl;obtain⟨i,z,hi,hs,hb,Wf,bS,lX⟩:=hr.out;obtain⟨i',z',Wg,aH,Xo,Wy⟩:=hz.out;rw[hi] at Wg;obtain rfl:=Option.some.inj Wg;rw[bS] at aH;obtain rfl:=Option.some.inj aH;have hmul:n<=n * bytes:=Nat.le_mul_of_pos_right _ Wf;have wn:IntKind.i64.wrap (n:Int)=n:=cA zo;have n1:¬ ((n:Int)<0):=by omega
 have n2:¬ ((281474976710656:Int)<(n:Int) * (i.bytes:Int)):=by
  rw[hb];have:((n * bytes:Nat):Int)<=140737488355328:=by omega
  rw[Int.natCast_mul] at this;omega
 have wM:¬ (9223372036854775807<(n:Int)):=by omega
 have Ge:=growslice_fits (bytes:=bytes) (need:=n) (old:=0) hn Wa;have yM:¬ (281474976710656<Builtin.nextslicecap n 0 * i.bytes):=by rw[hb];omega
 have Zu:¬ n=0:=by omega
 have yA:∀ m,(Builtin.zeroCells #[zv] m)=(List.replicate m zv).toArray:=λm=>by unfold Builtin.zeroCells;apply Array.ext;simp;intro j h1 h2;simp[Nat.mod_one]
 have ri:n<=grownCap w n 0 el:=by simp[grownCap,Question.cut]
 have Cf:(Builtin.append_ #[sT,xT] ty #[.slice none 0 0,.int .i64 n]).run C.P w=.ok (.slice (some ⟨w.heap.size,0,none⟩) n (grownCap w n 0 el)) (World.push w.drew (.cells (List.replicate (grownCap w n 0 el) zv).toArray el)):=by simp[Builtin.append_,Fe ht.af,Fe xH.af,sizeOf,typeInfo,zeroValue,hi,hs,bS,Xo,asInt,asIntOf,wn,n1,n2,Zu,wM,yM,Question.forced,newRow,grownCap,Builtin.firstCells,yA];show World.push w.drew _=World.push w.drew _;congr 2;apply Array.ext';have:=ri;unfold grownCap at this;congr 2;omega
 rw[Xs,h0];simp only[map_toArray,yd,map_nil,Lc,nc h hx,nc h hy,Cf,jd,Xd];have hHd:=hH.drew;have ox:oa w.drew L (List.replicate (grownCap w n 0 el) (.atom zv)) (List.replicate (grownCap w n 0 el) zv):=by have:=Ys (w:=w.drew) (L:=L) (List.replicate (grownCap w n 0 el) zv);rwa [List.map_replicate] at this
 have To:=DI hHd.wf (.cells (List.replicate (grownCap w n 0 el) zv).toArray el) 0;have:=OE hHd (.cells (List.replicate (grownCap w n 0 el) zv).toArray el) 0 [(w.heap.size,.cells el (List.replicate (grownCap w n 0 el) (.atom zv)))] (λp hp=>by
  simp only[mem_singleton] at hp;subst hp;exact⟨rfl,by simp[Live.Rd],List.replicate (grownCap w n 0 el) zv,aw,ox.mono To _ _⟩) (by simp)
 exact⟨_,_,_,this.1.xf,this.2,Ld,hk _ _ ri⟩
end
section opened
variable{C:Ctx}{n:Nat}{Q:Vc}{e:Env}{H F:Heap}
theorem qwI(hp:xd (b,.cells el cs) H F)(hH:Ta C w L H)(hl:∀ k cap,cap * k<=cs.length->∃ e s,w.shape? b=some (e,s)/\cap * k<=s):Ta C w L ((b,.row 0)::F):=by have sv:=hH.perm hp;obtain⟨Wf,vh,zO,xs,Kd,me⟩:=sv.Bc _ mem_cons_self;simp only at Wf vh zO Kd me;refine⟨sv.base,sv.sj,sv.b0,sv.wf,sv.nodup,λp jr=>?_⟩;rcases Dc.1 jr with rfl|jr;exact⟨Wf,vh,zO,_,_,_,Kd,zero_le _,zero_le _⟩;exact sv.Bc p (Oc _ jr)
theorem qpP(hp:xd (b,.cells el cs) H F)(hH:Ta C w L H):w.shape? b=some (el,cs.length):=by have sv:=hH.perm hp;obtain⟨Wf,vh,zO,xs,Kd,me⟩:=sv.Bc _ mem_cons_self;simp only at Kd;simp only[World.shape?,Kd];rw[List.size_toArray,me.length]
theorem Ea.YF{Sa:Array Oper}(d k:Nat)(hp:xd (b,.cells el cs) H F)(hd:e.s d=.atom (.slice (some ⟨b,0,none⟩) 0 cap))(hc:cap * k<=cs.length)(h:Ea C n Sa Q rest (e.Rd d (.app b cap k [])) ((b,.row 0)::F)):Ea C n Sa Q rest e H:=λa w L hE hH=>by
 have hs:=qpP hp hH;have hk:∀ x,x∈keys ((b,ja.row 0)::F)->x∈keys H:=λx hx=>by have:=((hp.map (·.1)).mem_iff (a:=x)).2 (by simpa using hx);exact this
 refine NC (λ_ _ _=>tW hk) _ _ _ (h a w L ⟨hE.size,hE.ds,λi=>?_⟩ (qwI hp hH λk2 iU h2=>⟨_,_,hs,h2⟩));have hv:=hE.zj i;simp only[Env.Rd]
 cases hb:Nat.beq i d with
 |false=>exact hv
 |true=>have hi:=Nat.eq_of_beq_eq_true hb;subst hi;rw[hd] at hv;simp only[Fb] at hv;rw[hv];show Fb w L (.app b cap k []) _;simp only[Fb];refine⟨rfl,zero_le _,?_,_,_,hs,hc⟩;simp only[Zc]
end opened
section
variable{C:Ctx}{e:Env}{H:Heap}{dst:Option Nat}{ty:TypeId}{ra:String}{ua:Array Edge}{g:Option (Nat×Bool)}{K:LV->Heap->Prop}{X:List PanicEntry->Heap->Prop}{x y z:Operand}{k:IntKind}
theorem qwN(a b:Nat):(if (a:Int)<(b:Int) then (b:Int) else (a:Int))=((max a b:Nat):Int):=by split <;> omega
theorem Pure.max2{a b:Nat}(hx:e.ev x=int k (a:Int))(hy:e.ev y=int k (b:Int)){t u:TypeId}:Pure C ⟨dst,.call { callee:=.builtin .max,args:=#[x,y],argTypes:=#[t,u] },ty,ra,ua,g⟩ e H (int k ((max a b:Nat):Int)):=
 .Xa λρ _ _ h=>⟨_,Ld,λw'=>by
  have h0:∀ (cs:Array Bool) (args:Array Value),builtin .max #[t,u] ty cs args=(do Pure.pure (.value (<-Builtin.max_ #[t,u] ty args))):=λ_ _=>rfl;rw[Xs,h0];have:=qwN a b;simp[Builtin.max_,Builtin.max2,nc h hx,nc h hy]
  split <;> omega⟩
theorem Pure.J5{a c:Nat}(hx:e.ev x=int k (a:Int))(hy:e.ev y=int k (b:Int))(hz:e.ev z=int k (c:Int)){v:TypeId}:Pure C ⟨dst,.call { callee:=.builtin .max,args:=#[x,y,z],argTypes:=#[t,u,v] },ty,ra,ua,g⟩ e H (int k ((max (max a b) c:Nat):Int)):=
 .Xa λρ _ _ h=>⟨_,Ld,λw'=>by
  have h0:∀ (cs:Array Bool) (args:Array Value),builtin .max #[t,u,v] ty cs args=(do Pure.pure (.value (<-Builtin.max_ #[t,u,v] ty args))):=λ_ _=>rfl;rw[Xs,h0];simp[Builtin.max_,Builtin.max2,nc h hx,nc h hy,nc h hz]
  repeat' split
  all_goals omega⟩
theorem Pure.ck{A B:Int}(a b:Nat)(hx:e.ev x=int k A)(hy:e.ev y=int k B)(ha:A=(a:Int))(hb:B=(b:Int)):Pure C ⟨dst,.call { callee:=.builtin .max,args:=#[x,y],argTypes:=#[t,u] },ty,ra,ua,g⟩ e H (int k ((max a b:Nat):Int)):=by subst ha hb;exact Pure.max2 hx hy
theorem Pure.Hr{A B D:Int}(a b d:Nat)(hx:e.ev x=int k A)(hy:e.ev y=int k B)(hz:e.ev z=int k D)(ha:A=(a:Int))(hb:B=(b:Int))(hd:D=(d:Int)){v:TypeId}:Pure C ⟨dst,.call { callee:=.builtin .max,args:=#[x,y,z],argTypes:=#[t,u,v] },ty,ra,ua,g⟩ e H (int k ((max (max a b) d:Nat):Int)):=by subst ha hb hd;exact Pure.J5 hx hy hz
theorem Pure.XT{b:Int}(h:a=b)(hx:e.ev x=int k a)(hy:e.ev y=int k b):Pure C ⟨dst,.binOp .eql xT x y yT,ty,ra,ua,g⟩ e H (bool true):=by have:=Pure.eql (C:=C) (H:=H) (dst:=dst) (ty:=ty) (ra:=ra) (ua:=ua) (g:=g) (xT:=xT) (yT:=yT) hx hy;rwa [Dg h] at this
theorem Pure.YT{b:Int}(h:¬ a=b)(hx:e.ev x=int k a)(hy:e.ev y=int k b):Pure C ⟨dst,.binOp .eql xT x y yT,ty,ra,ua,g⟩ e H (bool false):=by have:=Pure.eql (C:=C) (H:=H) (dst:=dst) (ty:=ty) (ra:=ra) (ua:=ua) (g:=g) (xT:=xT) (yT:=yT) hx hy;rwa [decide_eq_false h] at this
def rp(m:KV)(l:List (List UInt8)):Prop:=∀ k,wb m k=if k∈l then some (bool true) else none
theorem rp.nil:rp [] []:=λk=>by simp[wb]
theorem rp.add{l:List (List UInt8)}(h:rp m l)(s:List UInt8):rp (Nc m s (bool true)) (l++[s]):=λk=>by
 rw[Dn,h k];by_cases h1:s=k;rw[zp h1,zp (by rw[h1];simp)];rw[zn h1];by_cases h2:k∈l;rw[zp h2,zp (List.mem_append_left _ h2)];rw[zn h2,zn (by
  intro h3;rcases xj h3 with h3|h3;exact h2 h3;exact h1 (aj h3).symm)]
theorem Pure.Jg{el:TypeId} [h:dp C.P t el zv (bool false)]{l:List (List UInt8)}{s:List UInt8}(hm:e.ev x=.atom (.map (some b)))(hx:e.ev y=str s)(hb:(b,.map (Ve m) ka)∈H)(hs:rp m l) :
  Pure C ⟨dst,.lookup t x y false,ty,ra,ua,g⟩ e H (bool (decide (s∈l))):=by
 by_cases h1:s∈l;rw[Dg h1];exact Pure.ZI hm hx hb (by rw[hs s,zp h1]);rw[decide_eq_false h1];exact Pure.FL hm hx hb (by rw[hs s,zn h1])
end
def Ko(C:Ctx)(f:FuncId)(args:List LV)(u:FrameMode)(H:Heap)(R:FrameMode->Heap->Prop):Prop:=
 ∀ (vs:List Value) w L,oa w L args vs->Ta C w L H->CallsD C.P f vs.toArray u w λe u' w'=>(∃ v,e=.returned v)/\Js C w L H w' (R u')
def CQ(C:Ctx)(n:Nat)(rs:List ResultVar)(R:Pe->Heap->Prop):List Deferred->FrameMode->Env->Heap->Prop
 |[],.returning,e,H=>∃ vs H',tn C n e H rs vs/\HSub H' H/\R (.ret (Oh vs)) H'
 |[],.panicking ch,_,H=>∃ H',HSub H' H/\R (.panic ch) H'
 |[],.run,_,_=>False
 |d::ds,u,e,H=>u≠.run/\∃ f cap H1 F,d={ target:=.fn (.func f) cap,args:=#[] }/\Wb C.P f/\H.Perm (H1++F) /\
   Ko C f (cap.toList.map .atom) u H1 λu' H'=>CQ C n rs R ds (settle u') e (H'++F)
def VM(C:Ctx)(n:Nat)(w:World)(L:Live)(K:List Nat)(Q:Vc):Exit->Act->World->Prop:=
 λx a' w'=>∃ e' H' L',Fr K w L w' L' H'/\Ta C w' L' H'/\Ec n a' e' w' L'/\Q x e' H'
theorem qj4{w1:World}{L1:Live}{K:List Nat}{H1:Heap}(f:Fr K w L w1 L1 H1){x:Exit}{a:Act}
  (k:VM C n w1 L1 (keys H1) Q x a w'):VM C n w L K Q x a w':=
 let ⟨e',H',L',h1,h2,h3,h4⟩:=k
 ⟨e',H',L',f.trans h1,h2,h3,h4⟩
def Cj(C:Ctx)(n:Nat)(Sa:Array Oper)(Q:Vc)(rest:List Oper)(e:Env)(H:Heap):Prop:=
 ∀ a w L,Ec n a e w L->Ta C w L H->wpList C.P Sa (VM C n w L (keys H) Q) rest a w
def Kg(C:Ctx)(n:Nat)(c:Code)(Q:Vc)(e:Env)(H:Heap):Prop:=
 ∀ a w L,Ec n a e w L->Ta C w L H->c.wp C.P (VM C n w L (keys H) Q) a w
section P
variable{C:Ctx}{n:Nat}{Sa:Array Oper}{Q:Vc}{e:Env}{H:Heap}
theorem Cj.nil(h:Q .normal e H):Cj C n Sa Q [] e H:=λ_ _ L hE hH=>⟨e,H,L,Fr.refl _ _ _,hH,hE,h⟩
theorem Cj.step{op:Op}
  (h:ab C ⟨dst,op,ty,ra,ua,none⟩ e H (λlv H'=>Cj C n Sa Q rest (e.put dst lv) H') λch H'=>Q (.panic ch) e H')
  (hd:Im n dst):Cj C n Sa Q (⟨dst,op,ty,ra,ua,none⟩::rest) e H:=λa w L hE hH=>by
 unfold wpList;rw[zp (by simp[Region.wanted])];have hs:=h a.eval w L hE.ev hH;refine .inl ?_;unfold Oper.wp;have left:∀ {w' v},Left C w L H w' v (λlv H'=>Cj C n Sa Q rest (e.put dst lv) H')->wpList C.P Sa (VM C n w L (keys H) Q) rest (a.put dst v) w':=λh=>by obtain⟨lv,H',L',h1,h2,h3,h4⟩:=h;exact NC (λ_ _ _=>qj4 h1) _ _ _ (h4 _ _ L' ((hE.mono h1.ext).put hd h3) h2)
 have Lu:∀ {w' ch},Js C w L H w' (λH'=>Q (.panic ch) e H')->VM C n w L (keys H) Q (.panic ch) a w':=λh=>by obtain⟨H',L',h1,h2,h3⟩:=h;exact⟨e,H',L',h1,h2,hE.mono h1.ext,h3⟩
 generalize (execOp a.eval ⟨dst,op,ty,ra,ua,none⟩).run C.P w=r at hs ⊢;unfold rG at hs;split at hs;exact left hs;exact left hs;obtain⟨rfl,hs⟩:=hs;refine Calls.mono hs λe w' he=>?_
 cases e with
 |returned v=>exact left he
 |panicked ch=>exact Lu he
 |outgrown=>exact he.elim
 exact Lu hs;exact hs.elim
theorem Cj.pure{op:Op}
  (h:Pure C ⟨dst,op,ty,ra,ua,none⟩ e H lv) (hd:Im n dst) (k:Cj C n Sa Q rest (e.put dst lv) H):Cj C n Sa Q (⟨dst,op,ty,ra,ua,none⟩::rest) e H:=
 Cj.step (h.step k) hd
theorem Kg.region{id:Nat}{l:List Oper}(h:Cj C n l.toArray Q l e H):Kg C n (.region id l.toArray false) Q e H:=λa w L hE hH=>wp_region_lit (h a w L hE hH)
theorem Kg.ret(h:Q .ret e H):Kg C n .ret Q e H:=λ_ _ L hE hH=>wp_ret ⟨e,H,L,Fr.refl _ _ _,hH,hE,h⟩
theorem Kg.seq{x y:Code}(h:Kg C n x (Ie (λe H=>Kg C n y Q e H) Q) e H):Kg C n (.seq x y) Q e H:=λa w L hE hH=>by
 refine wp_seq (Go.wp_mono (h a w L hE hH) λex a' w' hq=>?_);obtain⟨e',H',L',h1,h2,h3,h4⟩:=hq
 cases ex with
 |normal=>exact Go.wp_mono (h4 a' w' L' h3 h2) λ_ _ _=>qj4 h1
 |exit id=>exact⟨e',H',L',h1,h2,h3,h4⟩
 |goto id=>exact⟨e',H',L',h1,h2,h3,h4⟩
 |ret=>exact⟨e',H',L',h1,h2,h3,h4⟩
 |panic ch=>exact⟨e',H',L',h1,h2,h3,h4⟩
 |outgrown=>exact⟨e',H',L',h1,h2,h3,h4⟩
theorem Kg.block{id:Nat}{c:Code}(h:Kg C n c (pf id Q) e H):Kg C n (.block id c) Q e H:=λa w L hE hH=>by
 refine wp_block (Go.wp_mono (h a w L hE hH) λex a' w' hq=>?_);obtain⟨e',H',L',h1,h2,h3,h4⟩:=hq
 cases ex with
 |exit dJ=>simp only[Exit.inBlock,pf] at h4 ⊢;split;rename_i hid;rw[zp hid] at h4;exact⟨e',H',L',h1,h2,h3,h4⟩;rename_i hid;rw[zn hid] at h4;exact⟨e',H',L',h1,h2,h3,h4⟩
 |normal=>exact⟨e',H',L',h1,h2,h3,h4⟩
 |goto id=>exact⟨e',H',L',h1,h2,h3,h4⟩
 |ret=>exact⟨e',H',L',h1,h2,h3,h4⟩
 |panic ch=>exact⟨e',H',L',h1,h2,h3,h4⟩
 |outgrown=>exact⟨e',H',L',h1,h2,h3,h4⟩
def jw(Q:Vc):Vc
 |.panic _,_,_=>False
 |x,e,H=>Q x e H
theorem Kg.of(h:kb C n c (jw Q) e H):Kg C n c Q e H:=λa w L hE hH=>by
 refine Go.wp_mono (h a w L hE hH) λex a' w' hq=>?_;obtain⟨e',H',L',h1,h2,h3,h4⟩:=hq
 cases ex with
 |panic ch=>exact h4.elim
 |normal=>exact⟨e',H',L',h1,h2,h3,h4⟩
 |exit id=>exact⟨e',H',L',h1,h2,h3,h4⟩
 |goto id=>exact⟨e',H',L',h1,h2,h3,h4⟩
 |ret=>exact⟨e',H',L',h1,h2,h3,h4⟩
 |outgrown=>exact⟨e',H',L',h1,h2,h3,h4⟩
theorem jw.normal{k:Env->Heap->Prop}(h:k e H):jw (Ie k Q) .normal e H:=h
theorem jw.ret(h:Q .ret e H):jw Q .ret e H:=h
end P
def Jw(C:Ctx)(n:Nat)(rs:List ResultVar)(R:Pe->Heap->Prop):Vc
 |.normal,e,H|.ret,e,H=>CQ C n rs R e.ds .returning e H
 |.panic ch,e,H=>CQ C n rs R e.ds (.panicking ch) e H
 |_,_,_=>False
theorem qve{C:Ctx}{n:Nat}{fn:Func}{R:Pe->Heap->Prop}{w0:World}{L0:Live}{H0:Heap}(h3:fn.results.size<=3)(tmps:Array Value):∀ (ds:List Deferred) (u:FrameMode) (e:Env) (H:Heap) (w:World) (L:Live),tmps.size=n->(∀ i,Fb w L (e.s i) (tmps.getD i undef))->Ta C w L H->Fr (keys H0) w0 L0 w L H ->
  CQ C n fn.results.toList R ds u e H->Leaves C.P fn tmps (AB C w0 L0 H0 (λv=>R (.ret v)) λch=>R (.panic ch)) ds u w
 |[],.returning,e,H,w,L,hn,hv,hH,hF,h=>by obtain⟨vs,H',h1,h2,h5⟩:=h;obtain⟨v,r1,r2⟩:=J3 (a:={ tmps,defers:=e.ds }) ⟨hn,rfl,hv⟩ hH h1 h3;exact⟨v,r1,Oh vs,H',L,hF.Yb h2,hH.Yb h2,r2,h5⟩
 |[],.panicking ch,e,H,w,L,hn,hv,hH,hF,h=>by obtain⟨H',h2,h5⟩:=h;exact⟨H',L,hF.Yb h2,hH.Yb h2,h5⟩
 |[],.run,e,H,w,L,hn,hv,hH,hF,h=>h.elim
 |d::ds,u,e,H,w,L,hn,hv,hH,hF,h=>by obtain⟨hu,f,cap,H1,F,rfl,yJ,hp,hc⟩:=h;refine⟨hu,.func f,cap,f,cap,rfl,by simp[invoke,P4],?_⟩;have kF:=hH.perm hp;have:=hc cap.toList w L (Ys _) kF.left;simp only[Array.toArray_toList] at this;refine CallsD.mono this ?_;rintro ex u' w' ⟨⟨v,rfl⟩,hx⟩;obtain⟨H',L',g1,g2,g3⟩:=Js.frame kF hx;exact qve h3 tmps ds (settle u') e H' w' L' hn (λi=>(hv i).mono g1.ext _ _) g2 (hF.trans (g1.perm hp.symm)) g3
theorem Ko.mono{C:Ctx}{f:FuncId}{args:List LV}{u:FrameMode}{H:Heap}{R R':FrameMode->Heap->Prop}(h:Ko C f args u H R)(hr:∀ u H,R u H->R' u H):Ko C f args u H R':=λvs w L h1 h2=>
 CallsD.mono (h vs w L h1 h2) λ_ _ _ ⟨h3,h4⟩=>⟨h3,h4.mono (hr _)⟩
theorem ca.dx{fn:Func}{R:Pe->Heap->Prop}(hf:C.P.funcs[f]? = some fn)(hb:fn.body=some c)(hn:fn.ntmps=n)(h3:Nat.ble fn.results.size 3=true)
  (hl:Nat.ble args.length n=true) (h:Kg C n c (Jw C n fn.results.toList R) (tI args) H):ca C f args H R:=λvs w L hv hH=>by
 subst hn;have az:args.length<=fn.ntmps:=by simpa using hl
 have Nt:fn.results.size<=3:=by simpa using h3
 have ma:=hv.length;refine calls_of_wp_defers hf hb (Go.wp_mono (h _ w L ⟨?_,rfl,λi=>?_⟩ hH) λex a' w' hq=>?_)
 simp;omega;exact kP;obtain⟨e',H',L',g1,g2,g3,g4⟩:=hq;have ret:∀ u,CQ C fn.ntmps fn.results.toList R e'.ds u e' H'->Leaves C.P fn a'.tmps (AB C w L H (λv=>R (.ret v)) λch=>R (.panic ch)) a'.defers u w':=λu hu=>by rw[g3.ds];exact qve Nt a'.tmps _ u e' H' w' L' g3.size g3.zj g2 g1 hu
 cases ex with
 |normal=>exact ret _ g4
 |ret=>exact ret _ g4
 |panic ch=>exact ret _ g4
 |exit id=>exact g4.elim
 |goto id=>exact g4.elim
 |outgrown=>exact g4.elim
abbrev ZH:=Exit->FrameMode->Env->Heap->Prop
def Gw(C:Ctx)(n:Nat)(c:Code)(Q:ZH)(u:FrameMode)(e:Env)(H:Heap):Prop:=
 ∀ a w L (c0:Frame) cs,c0.mode=u->Ec n a e w L->Ta C w L H ->
  c.wpS C.P (λx a' Zb w'=>∃ u' e' H' L',Zb={ c0 with mode:=u' }::cs/\Fr (keys H) w L w' L' H'/\Ta C w' L' H'/\RH n x a' e' w' L'/\Q x u' e' H') a (c0::cs) w
theorem N0{Q Q':Exit->Act->List Frame->World->Prop}{a:Act}{cs:List Frame}{w:World}(h:c.wpS P Q a cs w)(hq:∀ x a cs w,Q x a cs w->Q' x a cs w):c.wpS P Q' a cs w:=λb k h1 h2=>
 let ⟨e,a',Zb,w',q,r⟩:=h b k h1 h2
 ⟨e,a',Zb,w',hq _ _ _ _ q,r⟩
section S
variable{C:Ctx}{n:Nat}{Q:ZH}{u:FrameMode}{e:Env}{H:Heap}
theorem Gw.of(h:kb C n c (λx e H=>Q x u e H) e H):Gw C n c Q u e H:=λa w L c0 cs hu hE hH=>by refine wpS_of_wp (Go.wp_mono (h a w L hE hH) λx a' w' hq=>?_);obtain⟨e',H',L',h1,h2,h3,h4⟩:=hq;exact⟨u,e',H',L',by subst hu;rfl,h1,h2,h3,h4⟩
theorem Gw.seq{x y:Code}(h:Gw C n x (λex u' e' H'=>match ex with|.normal=>Gw C n y Q u' e' H'|ex=>Q ex u' e' H') u e H):Gw C n (.seq x y) Q u e H:=λa w L c0 cs hu hE hH=>by
 refine wpS_seq (N0 (h a w L c0 cs hu hE hH) λex a' Zb w' hq=>?_);obtain⟨u',e',H',L',rfl,h1,h2,h3,h4⟩:=hq
 cases ex with
 |normal=>refine N0 (h4 a' w' L' { c0 with mode:=u' } cs rfl h3 h2) ?_;rintro ex a2 cs2 w2 ⟨u2,e2,H2,L2,rfl,g1,g2,g3,g4⟩;exact⟨u2,e2,H2,L2,rfl,h1.trans g1,g2,g3,g4⟩
 |exit id=>exact⟨u',e',H',L',rfl,h1,h2,h3,h4⟩
 |goto id=>exact⟨u',e',H',L',rfl,h1,h2,h3,h4⟩
 |ret=>exact⟨u',e',H',L',rfl,h1,h2,h3,h4⟩
 |panic ch=>exact⟨u',e',H',L',rfl,h1,h2,h3,h4⟩
 |outgrown=>exact⟨u',e',H',L',rfl,h1,h2,h3,h4⟩
def yN:FrameMode->Value×FrameMode
 |.panicking ({ v,recovered:=false,goexit:=false }::VI)=>(v,.panicking ({ v,recovered:=true }::VI))
 |u=>(.nilIface,u)
theorem qo9{g:Option (Nat×Bool)}(w:World) :
  (execOp ρ ⟨dst,.call { callee:=.builtin .recover,args:=#[],argTypes:=#[] },ty,ra,ua,g⟩).run P w=.ok .recover w:=by
 rfl
theorem qoL(c0:Frame)(cs:List Frame):recoverD (c0::cs)=none/\yN c0.mode=(.nilIface,c0.mode)∨recoverD (c0::cs)=some ((yN c0.mode).1,{ c0 with mode:=(yN c0.mode).2 }::cs):=by
 obtain⟨fn,tmps,todo,defers,mode,kind,ro⟩:=c0;cases mode with
 |run=>exact .inl ⟨rfl,rfl⟩
 |returning=>exact .inl ⟨rfl,rfl⟩
 |panicking ch=>
  cases ch with
  |nil=>exact .inl ⟨rfl,rfl⟩
  |cons p VI=>obtain⟨v,r,g⟩:=p;cases r <;> cases g <;> first|exact .inl ⟨rfl,rfl⟩|exact .inr rfl
theorem Gw.recover{id t s:Nat}{ty Aq:TypeId}{ra pos':String}{ua NH:Array Edge}(ht:Nat.blt t n=true)(hs:Nat.blt s n=true)(h:Q .normal (yN u).2 ((e.Rd t (.atom (yN u).1)).Rd s (.atom (yN u).1)) H) :
  Gw C n (.region id #[⟨some t,.call { callee:=.builtin .recover,args:=#[],argTypes:=#[] },ty,ra,ua,none⟩,⟨some s,.assign (.tmp t),Aq,pos',NH,none⟩] false) Q u e H:=λa w L c0 cs hu hE hH=>by
 refine wpS_region ?_;have JT:∀ v,Ec n (a.put (some t) v) (e.Rd t (.atom v)) w L:=λv=>hE.put (dst:=some t) (by simp only[Im,mE];exact ht) Ld
 have hev:∀ v,(a.put (some t) v).eval (.tmp t)=v:=λv=>by have:=(JT v).ev (.tmp t);simpa [Env.ev,Env.Rd,Fb] using this
 have Mt:∀ v,Ec n ((a.put (some t) v).put (some s) v) ((e.Rd t (.atom v)).Rd s (.atom v)) w L:=λv=>(JT v).put (dst:=some s) (by simp only[Im,mE];exact hs) Ld
 have h1:∀ v P8,wpOpsS C.P #[⟨some t,.call { callee:=.builtin .recover,args:=#[],argTypes:=#[] },ty,ra,ua,none⟩,⟨some s,.assign (.tmp t),Aq,pos',NH,none⟩] (λx a' Zb w'=>∃ u' e' H' L',Zb={ c0 with mode:=u' }::cs/\Fr (keys H) w L w' L' H'/\Ta C w' L' H'/\RH n x a' e' w' L'/\Q x u' e' H') [1] (a.put (some t) v) P8 w
   ↔ (λx a' Zb w'=>∃ u' e' H' L',Zb={ c0 with mode:=u' }::cs/\Fr (keys H) w L w' L' H'/\Ta C w' L' H'/\RH n x a' e' w' L'/\Q x u' e' H') Exit.normal ((a.put (some t) v).put (some s) v) P8 w:=by
  intro v P8;have hr:(execOp (a.put (some t) v).eval ⟨some s,.assign (.tmp t),Aq,pos',NH,none⟩).run C.P w=.ok (.value ((a.put (some t) v).eval (.tmp t))) w:=rfl;simp only[wpOpsS,List.getElem?_toArray,Bs,Jl,Region.wanted,if_true,hr,Oper.upon,hev]
 have h0:(execOp a.eval ⟨some t,.call { callee:=.builtin .recover,args:=#[],argTypes:=#[] },ty,ra,ua,none⟩).run C.P w=.ok .recover w:=qo9 w;have hl:List.range (#[(⟨some t,.call { callee:=.builtin .recover,args:=#[],argTypes:=#[] },ty,ra,ua,none⟩:Oper),⟨some s,.assign (.tmp t),Aq,pos',NH,none⟩]:Array Oper).size=[0,1]:=rfl;rw[hl,wpOpsS];simp only[List.getElem?_toArray,Jl,Region.wanted,if_true,h0];rcases qoL c0 cs with⟨h2,h3⟩|h2;simp only[h2];rw[h1];subst hu;rw[h3] at h;exact⟨c0.mode,_,H,L,rfl,Fr.refl _ _ _,hH,Mt _,h⟩;simp only[h2];rw[h1];subst hu;exact⟨_,_,H,L,rfl,Fr.refl _ _ _,hH,Mt _,h⟩
def qwB(R:FrameMode->Heap->Prop):ZH
 |.normal,u,e,H|.ret,u,e,H=>e.ds=[]/\∃ H',HSub H' H/\R u H'
 |_,_,_,_=>False
theorem Ko.intro{fn:Func}{R:FrameMode->Heap->Prop}(hf:C.P.funcs[f]? = some fn)(hb:fn.body=some c)(hn:fn.ntmps=n)(h3:fn.results=#[])
  (hl:Nat.ble args.length n=true) (h:Gw C n c (qwB R) u (tI args) H):Ko C f args u H R:=λvs w L hv hH=>by
 subst hn;have az:args.length<=fn.ntmps:=by simpa using hl
 have ma:=hv.length;have sM:Ec fn.ntmps { tmps:=vs.toArray++Array.replicate (fn.ntmps-vs.toArray.size) undef,defers:=[] } (tI args) w L:=by
  refine⟨?_,rfl,λi=>?_⟩
  simp;omega;exact kP
 refine callsD_of_wpS hf hb λc0 cs hu=>N0 (h _ w L c0 cs hu sM hH) λex a' Zb w' hq=>?_;obtain⟨u',e',H',L',rfl,g1,g2,g3,g4⟩:=hq
 have fin:Ec fn.ntmps a' e' w' L'->(e'.ds=[]/\∃ Kh,HSub Kh H'/\R u' Kh)->a'.defers=[]/\∃ G9,({ c0 with mode:=u' }::cs:List Frame)={ c0 with mode:=G9 }::cs/\∃ v,(results fn a'.tmps).run C.P w'=.ok v w'/\(∃ v',Ending.returned v=.returned v')/\Js C w L H w' (R G9):=λhE ⟨h1,Kh,h2,h4⟩=>
  ⟨hE.ds.trans h1,u',rfl,_,qqy h3 _ _,⟨_,rfl⟩,Kh,L',g1.Yb h2,g2.Yb h2,h4⟩
 cases ex with
 |normal=>exact fin g3 g4
 |ret=>exact fin g3 g4
 |panic ch=>exact g4.elim
 |exit id=>exact g4.elim
 |goto id=>exact g4.elim
 |outgrown=>exact g4.elim
end S
section defer
variable{C:Ctx}{n:Nat}{Sa:Array Oper}{Q:Vc}{e:Env}{H:Heap}
theorem Cj.defer{dst:Option Nat}{fo:Operand}{f:FuncId}{db:Array Value}{ty:TypeId}{ra:String}{ua:Array Edge}{rest:List Oper}(hf:e.ev fo=.atom (.func (.func f) #[] db))(hd:dst=none)
  (k:Cj C n Sa Q rest ⟨e.s,{ target:=.fn (.func f) db,args:=#[] }::e.ds⟩ H):Cj C n Sa Q (⟨dst,.defer { callee:=.value fo,args:=#[],argTypes:=#[] },ty,ra,ua,none⟩::rest) e H:=λa w L hE hH=>by
 subst hd;have hv:=hE.ev fo;rw[hf] at hv;simp only[Fb] at hv;have hr:(execOp a.eval ⟨none,.defer { callee:=.value fo,args:=#[],argTypes:=#[] },ty,ra,ua,none⟩).run C.P w=.ok (.defer { target:=.fn (.func f) db,args:=#[] }) w:=by have h3:execOp a.eval ⟨none,.defer { callee:=.value fo,args:=#[],argTypes:=#[] },ty,ra,ua,none⟩=(do let d <-Deferred.ofValue (a.eval fo) ((#[]:Array Operand).map a.eval);Pure.pure (.defer d)):=rfl;rw[h3,hv];simp only[Deferred.ofValue,map_toArray,map_nil];rfl
 unfold wpList;rw[zp (by simp[Region.wanted])];refine .inl ?_;unfold Oper.wp;rw[hr];simp only[Oper.upon,Act.put];exact k _ w L ⟨hE.size,by show _::a.defers=_;rw[hE.ds],hE.zj⟩ hH
end defer
inductive Lf (el:TypeId) (s:Nat):Value->List LV->Heap->Prop
 |nil:Lf el s (.slice none 0 0) [] []
 |row {b cap:Nat} {es spare:List LV} (hs:∀ v∈es,v.cells.length=s) (hc:es.length<=cap) (hl:es.length * s+spare.length=cap * s) :
   Lf el s (.slice (some ⟨b,0,none⟩) es.length cap) es [(b,.cells el (es.flatMap LV.cells++spare))]
section
variable{C:Ctx}{e:Env}{H:Heap}{x y:Operand}{dst:Option Nat}{ty:TypeId}{ra:String}{ua:Array Edge}{g:Option (Nat×Bool)}{K:LV->Heap->Prop}{X:List PanicEntry->Heap->Prop}
theorem qoo(hH:Ta C w L []){es:List LV}{xs rest:List Value}(hr:oa w L (es.flatMap LV.cells) xs)(hs:∀ v∈es,v.cells.length=s)(hc:es.length<=cap)(hl:es.length * s+rest.length=cap * s)
  (hk:∀ v' H',Lf el s v' es H'->K (.atom v') H') :
  Left C w L [] (World.push w (.cells (xs++rest).toArray el)) (.slice (some ⟨w.heap.size,0,none⟩) es.length cap) K:=by
 have hx:=DI hH.wf (.cells (xs++rest).toArray el) 0;have:=OE hH (.cells (xs++rest).toArray el) 0 [(w.heap.size,.cells el (es.flatMap LV.cells++rest.map .atom))] (λp hp=>by
  simp only[mem_singleton] at hp;subst hp;exact⟨rfl,by simp[Live.Rd],xs++rest,aw,oa.append (hr.mono hx _ _) (Ys rest)⟩) (by simp)
 exact⟨.atom _,_,_,this.1,this.2,Ld,hk _ _ (Lf.row hs hc (by simpa using hl))⟩
theorem ab.MH{sT xT:Nat} [ht:Qa C.P sT el s] [hr:ui C.P el s bytes]{e2 s2:Nat} [me:Qa C.P xT e2 s2]{v:Value}{ms:List LV}
  (hx:e.ev x=.atom v) (ha:Lf el s v es H) (hy:GL.elems (e.ev y)=some ms) (GB:∀ v∈ms,v.cells.length=s) (Kc:(ms.flatMap LV.cells).all Vs=true) (Wa:(es.length+ms.length) * bytes<=140737488355328)
  (hk:∀ v' H',Lf el s v' (es++ms) H'->K (.atom v') H'):ab C ⟨dst,.call { callee:=.builtin .append,args:=#[x,y],argTypes:=#[sT,xT] },ty,ra,ua,g⟩ e H K X:=by
 have h0:∀ (cs:Array Bool) (args:Array Value),builtin .append #[sT,xT] ty cs args=(do Pure.pure (.value (<-Builtin.append_ #[sT,xT] ty args))):=λ_ _=>rfl
 cases ha with
 |nil=>
  by_cases xb:ms=[];subst xb;exact ab.Em rfl ⟨e2,me.af⟩ hx hy (hk _ _ Lf.nil);intro ρ w L h hH;have AA:0<ms.length:=List.length_pos_iff.2 xb;obtain⟨ay,cy,new,zA,dS,nD,bH,fx⟩:=ZK (s:=s) (h y) hy GB;rw[zA] at fx;have ma:∀ w':World,(Builtin.lenOf (.slice ay ms.length cy)).run C.P w'=.ok ms.length w':=λw'=>by simp[Builtin.lenOf]
  obtain⟨nf,rest,r1,r2,r3⟩:=RI (ty:=ty) (P:=C.P) (w:=w) (sT:=sT) (xT:=xT) (a:=none) (len:=0) (cap:=0) (n:=ms.length) (xv:=.slice ay ms.length cy) (old:=[]) (new:=new) (.inr ⟨_,me.af⟩) ma (λw' hw=>fx C.P w' hw)
   (λw' _=>by simp[Builtin.firstCells]) (by simpa using Wa) zo
  rw[Xs,h0];simp only[map_toArray,yd,map_nil,Lc,nc h hx,zA,r3,jd,Xd,nil_append,zero_add];obtain⟨lv,H',L',g1,g2,g3,g4⟩:=qoo (K:=K) (el:=el) (es:=ms) (cap:=nf) (xs:=new) (rest:=rest) hH.drew (nD.mono (zI w L) _ _) GB zo (by
   rw[r2,<-add_mul];congr 1;omega) λv' H' h'=>hk v' H' h'
  exact⟨lv,H',L',g1.xf,g2,g3,g4⟩
 |row hs hc hl=>
  rename_i b cap spare;intro ρ w L h hH;obtain⟨Wf,vh,zO,zs,yA,OL⟩:=hH.Bc _ (Sq rfl);simp only at Wf vh zO yA;obtain⟨ay,cy,new,zA,dS,nD,bH,fx⟩:=ZK (s:=s) (h y) hy GB;rw[zA] at fx;have ma:∀ w':World,(Builtin.lenOf (.slice ay ms.length cy)).run C.P w'=.ok ms.length w':=λw'=>by simp[Builtin.lenOf]
  have yl:(es.flatMap LV.cells).length=es.length * s:=VN hs;have qO:zs.length=es.length * s+spare.length:=by rw[OL.length,Ga,yl]
  have hzt:oa w L (es.flatMap LV.cells) (zs.take (es.length * s)):=by have:=OL.take (es.length * s);rwa [List.take_left' yl] at this
  rw[Xs,h0];simp only[map_toArray,yd,map_nil,Lc,nc h hx,zA];by_cases fv:es.length+ms.length<=cap;have Cf:=ZW (ty:=ty) (P:=C.P) (w:=w) (sT:=sT) (xT:=xT) (s:=s) (a:=some ⟨b,0,none⟩) (len:=es.length) (cap:=cap) (n:=ms.length) (xv:=.slice ay ms.length cy) (new:=new) (.inr ⟨_,me.af⟩) ma (λw' hw=>fx C.P w' hw) fv;have hmul:(es.length+ms.length) * s<=cap * s:=Nat.mul_le_mul_right _ fv;rw[add_mul] at hmul;obtain⟨w',r1,r2,r3,r4,r5,r6,r7⟩:=jO (P:=C.P) (b:=b) (off:=0+es.length * s) (t:=el) (fr:=(0,0)) new 0 w zs yA zo (λj _ _=>by simp) (TV nD Kc);rw[Cf];simp only[Pg,r1,jd,Xd];have he:0+es.length * s+0=es.length * s:=by omega
  rw[he] at r7;have Ir:new.length=ms.length * s:=bH;have vi:oa w L (spare.drop (ms.length * s)) (zs.drop (es.length * s+new.length)):=by have:=OL.drop (es.length * s+new.length);rwa [List.drop_append,List.drop_eq_nil_of_le zo,nil_append,yl,show es.length * s+new.length-es.length * s=ms.length * s by omega] at this
  refine wR (v:=.slice (some ⟨b,0,none⟩) (es.length+ms.length) cap) (lv:=.atom (.slice (some ⟨b,0,none⟩) (es.length+ms.length) cap)) (K:=K) (Zb:=es.flatMap LV.cells++ms.flatMap LV.cells++spare.drop (ms.length * s)) hH r2 r3 r4 r5 r6 r7 ?_ (oa.append (oa.append hzt nD) vi) Ld ?_;simp only[Ga,length_take,length_drop,yl];omega;have hb:Lf el s (.slice (some ⟨b,0,none⟩) (es++ms).length cap) (es++ms) [(b,.cells el ((es++ms).flatMap LV.cells++spare.drop (ms.length * s)))]:=Lf.row (λv hv=>by
    rcases xj hv with hv|hv;exact hs v hv;exact GB v hv) (by rw[Ga];exact fv) (by
    rw[Ga,length_drop,add_mul];omega)
  rw[Ga,List.flatMap_append] at hb;exact hk _ _ hb;have hold:∀ w':World,w'.heap=w.heap->(Builtin.firstCells s es.length (.slice (some ⟨b,0,none⟩) es.length cap)).run C.P w'=.ok (zs.take (es.length * s)).toArray w':=λw' hw=>by
   have:=kO (P:=C.P) (w:=w') (b:=b) (off:=0) (es.length * s) 0 #[] (zs.take (es.length * s)) (by rw[length_take];omega) (λj x' hj=>by
    have jF:zs[j]? = some x':=by rw[List.getElem?_take] at hj;split at hj;exact hj;cases hj
    simp[World.cell?,hw,yA,jF])
   simp only[Builtin.firstCells,loadCells,this];simp
  obtain⟨nf,rest,r1,r2,r3⟩:=RI (ty:=ty) (P:=C.P) (w:=w) (sT:=sT) (xT:=xT) (a:=some ⟨b,0,none⟩) (len:=es.length) (cap:=cap) (n:=ms.length) (xv:=.slice ay ms.length cy) (old:=zs.take (es.length * s)) (new:=new) (.inr ⟨_,me.af⟩) ma (λw' hw=>fx C.P w' hw) hold Wa zo;rw[r3];simp only[jd,Xd];have XD:Ta C w L []:=hH.sub (List.nil_sublist _);obtain⟨lv,H',L',g1,g2,g3,g4⟩:=qoo (K:=K) (el:=el) (s:=s) (es:=es++ms) (cap:=nf) (xs:=zs.take (es.length * s)++new) (rest:=rest) XD.drew (by
    rw[List.flatMap_append];exact(oa.append hzt nD).mono (zI w L) _ _) (λv hv=>by
    rcases xj hv with hv|hv;exact hs v hv;exact GB v hv) (by rw[Ga];omega) (by
    rw[r2,Ga,<-add_mul];congr 1;omega) λv' H' h'=>hk v' H' h'
  rw[Ga] at g3;exact⟨lv,H',L',g1.xf.wide (by simp),g2,g3,g4⟩
theorem S.MH{sT xT el s bytes:Nat} [ht:Qa C.P sT el s] [hr:ui C.P el s bytes]{e2 s2:Nat} [me:Qa C.P xT e2 s2]{v:Value}{es ms:List LV}{HM F:Heap}
  (hx:e.ev x=.atom v) (hp:H.Perm (HM++F)) (ha:Lf el s v es HM) (hy:GL.elems (e.ev y)=some ms) (GB:∀ v∈ms,v.cells.length=s) (Kc:(ms.flatMap LV.cells).all Vs=true) (Wa:(es.length+ms.length) * bytes<=140737488355328)
  (hk:∀ v' H',Lf el s v' (es++ms) H'->K (.atom v') (F++H')):ab C ⟨dst,.call { callee:=.builtin .append,args:=#[x,y],argTypes:=#[sT,xT] },ty,ra,ua,g⟩ e H K X:=by
 refine ab.qd (K:=λlv H'=>∃ v' H2,lv=.atom v'/\H'=H2++F/\Lf el s v' (es++ms) H2) (ab.frame hp (ab.MH hx ha hy GB Kc Wa λv' H' h=>⟨v',H',rfl,rfl,h⟩)) ?_;rintro lv H' ⟨v',H2,rfl,rfl,h⟩;exact⟨_,F++H2,vR _,⟨[],by simpa using Lh⟩,hk _ _ h⟩
theorem Pure.ZC{t J8 s2:Nat} [Qa C.P t J8 s2]{Hv:Heap}(hx:e.ev x=.atom v)(ha:Lf el s v es Hv):Pure C ⟨dst,.call { callee:=.builtin .len,args:=#[x],argTypes:=#[t] },ty,ra,ua,g⟩ e H (int .i64 es.length):=by
 cases ha with
 |nil=>exact Pure.Is (m:=0) hx
 |row=>exact Pure.Is hx
end
theorem qv2(P:List LV):∀ (Q:List LV) (f:Nat) (vs:List LV),Mh (P++Q) (P.length+f) vs=P++Mh Q f vs:=by
 induction P with
 |nil=>intro Q f vs;simp
 |cons p P ih=>
  intro Q f vs;have:(p::P).length+f=(P.length+f)+1:=by simp only[Ma];omega
  rw[this];show Mh (p::(P++Q)) (P.length+f+1) vs=_;rw[Mh,ih];try rfl
section
variable{C:Ctx}{e:Env}{H:Heap}{x y:Operand}{dst:Option Nat}{ty:TypeId}{ra:String}{ua:Array Edge}{g:Option (Nat×Bool)}{K:LV->Heap->Prop}{X:List PanicEntry->Heap->Prop}
theorem Lf.addr{HM:Heap}(h:Lf el s v es HM)(xb:es≠[]):∃ b cap spare,v=.slice (some ⟨b,0,none⟩) es.length cap/\HM=[(b,.cells el (es.flatMap LV.cells++spare))]/\es.length<=cap/\es.length * s+spare.length=cap * s:=by
 cases h with
 |nil=>exact absurd rfl xb
 |row hs hc hl=>exact⟨_,_,_,rfl,rfl,hc,hl⟩
end
section settle
variable{C:Ctx}{n:Nat}{Q:Vc}{e:Env}{H F:Heap}
end settle
section
variable{C:Ctx}{e:Env}{H:Heap}{x y:Operand}{dst:Option Nat}{ty:TypeId}{ra:String}{ua:Array Edge}{g:Option (Nat×Bool)}{K:LV->Heap->Prop}{X:List PanicEntry->Heap->Prop}
theorem Pure.cg{t:Nat} [ht:Qa C.P t el s]{m:Nat}{n:Int}{k:IntKind}(hx:e.ev x=.atom (.slice (some ⟨b,off,none⟩) m cap))(hy:e.ev y=int k n)(h0:0<=n)(hn:n<m)(ho:off+n.toNat * s=o) :
  Pure C ⟨dst,.indexAddr t x y,ty,ra,ua,g⟩ e H (ptr b o):=ho▸Pure.gq hx hy h0 hn
theorem Pure.Qy{t:Nat}{lo hi:Option Operand}{es ms:List LV} [ht:Qa C.P t el s](hx:elems (e.ev x)=some es)
  (Dt:tG e lo 0 i) (LD:tG e hi es.length j) (h0:0<=i) (h1:i<=j) (h2:j<=es.length) (hs:∀ v∈es,v.cells.length=s) (he:(es.take j.toNat).drop i.toNat=ms) :
  Pure C ⟨dst,.slice t x lo hi none,ty,ra,ua,g⟩ e H (.list ms):=he▸Pure.ft hx Dt LD h0 h1 h2 hs
end
theorem Lf.Gi{m:Nat}{es spare:List LV}(hs:∀ v∈es,v.cells.length=1)(hf:es.flatMap LV.cells=es)(hm:es.length=m)(hc:m<=cap)(hl:m+spare.length=cap) :
  Lf el 1 (.slice (some ⟨b,0,none⟩) m cap) es [(b,.cells el (es++spare))]:=by
 subst hm;have:=Lf.row (el:=el) (s:=1) (b:=b) (cap:=cap) (es:=es) (spare:=spare) hs hc zo;rwa [hf] at this
section
variable{C:Ctx}{n:Nat}{Q:Vc}{e:Env}{H F:Heap}
end
section
variable{C:Ctx}{e:Env}{H:Heap}{dst:Option Nat}{ty:TypeId}{ra:String}{ua:Array Edge}{g:Option (Nat×Bool)}{K:LV->Heap->Prop}{X:List PanicEntry->Heap->Prop}{x y:Operand}
theorem DR{kt:TypeId}{k:IntKind}{n:Int}(Vf:P.underlying kt=some (.int kd))(b:Bool)(w:World):(Instr.checkKey b 10000 kt (.int k n)).run P w=.ok () w:=by have lu:Instr.checkKey b 10000 kt (.int k n)=Instr.checkKey b (9999+1) kt (.int k n):=rfl;rw[lu,Instr.checkKey];simp only[Lc,Fe Vf,jd,Xd]
theorem S.di{kt el:TypeId}{k:IntKind}(ht:C.P.underlying t=some (.map kt el))(Vf:C.P.underlying kt=some (.int kd)){es Am:Array MapEntry}{m:Operand}{n:Int}(hm:e.ev m=.atom (.map (some b)))(hx:e.ev x=int k n)(hz:e.ev z=.atom v)
  (hp:xd (b,.obj (.map es ka)) H F) (qm:Instr.findNow (.int kd) (.int k n) es.toList 0=some none) (he:es.push { key:=.int k n,val:=v,born:=ka }=Am) (hk:K (.atom undef) ((b,.obj (.map Am (ka+1)))::F)):ab C ⟨dst,.insert t m x z,ty,ra,ua,g⟩ e H K X:=by
 subst he;refine ab.DM hp λρ w L h hH=>?_;obtain⟨Wf,vh,hl,Kd,me⟩:=hH.Bc _ (Sq rfl);simp only at Wf vh hl Kd me;have h3:execOp ρ ⟨dst,.insert t m x z,ty,ra,ua,g⟩=(do Instr.mapUpdate t (ρ m) (ρ x) (ρ z);Pure.pure .skip):=rfl
 have hf:(Instr.findKey kt (.int k n) es.toList).run C.P w=.ok none w:=by simp only[Instr.findKey,Lc,Fe Vf,jd,qm,Xd]
 have hc:=DR (P:=C.P) (n:=n) (k:=k) Vf false w;have hg:(getObj b).run C.P w=.ok (.map es ka) w:=by simp only[getObj,Sem.run,Kd]
 rw[h3,nc h hm,nc h hx,nc h hz];simp only[Instr.mapUpdate,Lc,Fe ht,jd,hg,hc,hf];have hs:(setObj b (.map (es.push { key:=.int k n,val:=v,born:=ka }) (ka+1))).run C.P w=.ok () (gi w b (.map (es.push { key:=.int k n,val:=v,born:=ka }) (ka+1))):=BR Kd rfl;rw[hs];exact SQ (w':=gi w b (.map (es.push { key:=.int k n,val:=v,born:=ka }) (ka+1))) hH rfl rfl rfl rfl (by simp[gi]) (λc hc=>ZN hc) (QN vh) (λ_=>Ld) hk
theorem Pure.QG{kt el:TypeId}{k:IntKind}(ht:C.P.underlying t=some (.map kt el))(Vf:C.P.underlying kt=some (.int kd)){j:Nat}{es:Array MapEntry}{n:Int}(hm:e.ev x=.atom (.map (some b)))(hx:e.ev y=int k n)
  (hb:(b,ja.obj (.map es ka))∈H) (hf:Instr.findNow (.int kd) (.int k n) es.toList 0=some (some (j,v))):Pure C ⟨dst,.lookup t x y false,ty,ra,ua,g⟩ e H (.atom v):=λρ w L h hH=>by
 obtain⟨_,_,_,Kd,_⟩:=hH.Bc _ hb;simp only at Kd;refine⟨v,Ld,λw' ha=>?_⟩;have hw:w'.heap[b]? = some (.map es ka):=(ha.1 _ hb).trans Kd;have h3:execOp ρ ⟨dst,.lookup t x y false,ty,ra,ua,g⟩=(do Pure.pure (.value (<-Instr.lookup t (ρ x) (ρ y) false))):=rfl;have hg:(getObj b).run C.P w'=.ok (.map es ka) w':=by simp only[getObj,Sem.run,hw]
 rw[h3,nc h hm,nc h hx];have xJ:(Instr.findKey kt (.int k n) es.toList).run C.P w'=.ok (some (j,v)) w':=by simp only[Instr.findKey,Lc,Fe Vf,jd,hf,Xd]
 have hc:=DR (P:=C.P) (n:=n) (k:=k) Vf;simp only[Instr.lookup,Lc,Fe ht,jd,hg,Xd,hc,xJ];rfl
end
section
variable{C:Ctx}{e:Env}{H:Heap}{dst:Option Nat}{ty:TypeId}{ra:String}{ua:Array Edge}{g:Option (Nat×Bool)}{x y:Operand}
theorem Pure.Yw{kt el:TypeId}{k:IntKind}(ht:C.P.underlying t=some (.map kt el))(Vf:C.P.underlying kt=some (.int kd)){j:Nat}{es:Array MapEntry}{n:Int}(hm:e.ev x=.atom (.map (some b)))(hx:e.ev y=int k n)
  (hb:(b,ja.obj (.map es ka))∈H) (hf:Instr.findNow (.int kd) (.int k n) es.toList 0=some (some (j,v))):Pure C ⟨dst,.lookup t x y true,ty,ra,ua,g⟩ e H (.tuple [.atom v,bool true]):=λρ w L h hH=>by
 obtain⟨_,_,_,Kd,_⟩:=hH.Bc _ hb;simp only at Kd;refine⟨.tuple #[v,.bool true],?_,λw' ha=>?_⟩;simp only[Fb];refine⟨[v,.bool true],rfl,?_⟩;simp only[oa];exact⟨_,_,rfl,Ld,_,_,rfl,rfl,rfl⟩;have hw:w'.heap[b]? = some (.map es ka):=(ha.1 _ hb).trans Kd;have h3:execOp ρ ⟨dst,.lookup t x y true,ty,ra,ua,g⟩=(do Pure.pure (.value (<-Instr.lookup t (ρ x) (ρ y) true))):=rfl;have hg:(getObj b).run C.P w'=.ok (.map es ka) w':=by simp only[getObj,Sem.run,hw]
 rw[h3,nc h hm,nc h hx];have xJ:(Instr.findKey kt (.int k n) es.toList).run C.P w'=.ok (some (j,v)) w':=by simp only[Instr.findKey,Lc,Fe Vf,jd,hf,Xd]
 have hc:=DR (P:=C.P) (n:=n) (k:=k) Vf;simp only[Instr.lookup,Lc,Fe ht,jd,hg,Xd,hc,xJ];rfl
theorem Pure.Ku{kt el:TypeId}{k:IntKind}(ht:C.P.underlying t=some (.map kt el))(Vf:C.P.underlying kt=some (.int kd)){es:Array MapEntry}{n:Int}(hz:∀ w,(zeroValue el).run C.P w=.ok zv w)(hm:e.ev x=.atom (.map (some b)))(hx:e.ev y=int k n)
  (hb:(b,ja.obj (.map es ka))∈H) (hf:Instr.findNow (.int kd) (.int k n) es.toList 0=some none):Pure C ⟨dst,.lookup t x y true,ty,ra,ua,g⟩ e H (.tuple [.atom zv,bool false]):=λρ w L h hH=>by
 obtain⟨_,_,_,Kd,_⟩:=hH.Bc _ hb;simp only at Kd;refine⟨.tuple #[zv,.bool false],?_,λw' ha=>?_⟩;simp only[Fb];refine⟨[zv,.bool false],rfl,?_⟩;simp only[oa];exact⟨_,_,rfl,Ld,_,_,rfl,rfl,rfl⟩;have hw:w'.heap[b]? = some (.map es ka):=(ha.1 _ hb).trans Kd;have h3:execOp ρ ⟨dst,.lookup t x y true,ty,ra,ua,g⟩=(do Pure.pure (.value (<-Instr.lookup t (ρ x) (ρ y) true))):=rfl;have hg:(getObj b).run C.P w'=.ok (.map es ka) w':=by simp only[getObj,Sem.run,hw]
 rw[h3,nc h hm,nc h hx];have xJ:(Instr.findKey kt (.int k n) es.toList).run C.P w'=.ok none w':=by simp only[Instr.findKey,Lc,Fe Vf,jd,hf,Xd]
 have hc:=DR (P:=C.P) (n:=n) (k:=k) Vf;simp only[Instr.lookup,Lc,Fe ht,jd,hg,Xd,hc,xJ,hz];rfl
end
section
variable{C:Ctx}{n:Nat}{Q:Vc}{e:Env}{H:Heap}
theorem Kg.Yb{c:Code}{H':Heap}(s:HSub H' H)(h:Kg C n c Q e H'):Kg C n c Q e H:=λa w L hE hH=>
 Go.wp_mono (h a w L hE (hH.Yb s)) λ_ _ _ ⟨e',H2,L',h1,h2,h3,h4⟩=>⟨e',H2,L',h1.wide s.keys,h2,h3,h4⟩
theorem Kg.qd{Q':Vc}(h:Kg C n c Q e H)(hq:∀ x e H,Q x e H->Q' x e H):Kg C n c Q' e H:=λa w L hE hH=>
 Go.wp_mono (h a w L hE hH) λ_ _ _ ⟨e',H2,L',h1,h2,h3,h4⟩=>⟨e',H2,L',h1,h2,h3,hq _ _ _ h4⟩
theorem Kg.loop{c:Code}(I:Nat->Env->Heap->Prop)(k:Nat)(h0:I k e H)
  (round:∀ k e H,I k e H->Kg C n c (Ie (λe' H'=>∃ m,m<k/\I m e' H') Q) e H):Kg C n (.loop c) Q e H:=λa w L hE hH=>by
 refine qjB (I:=λk a' w'=>∃ e' H' L',Fr (keys H) w L w' L' H'/\Ta C w' L' H'/\Ec n a' e' w' L'/\I k e' H') (n:=k) ?_ ⟨e,H,L,Fr.refl _ _ _,hH,hE,h0⟩;rintro k a1 w1 ⟨e1,H1,L1,h1,h2,h3,h4⟩;refine Go.wp_mono (round k e1 H1 h4 a1 w1 L1 h3 h2) λex a' w' hq=>?_;obtain⟨e',H',L',g1,g2,g3,g4⟩:=hq
 cases ex with
 |normal=>obtain⟨m,hm,g4⟩:=g4;exact⟨m,hm,e',H',L',h1.trans g1,g2,g3,g4⟩
 |exit id=>exact⟨e',H',L',h1.trans g1,g2,g3,g4⟩
 |goto id=>exact⟨e',H',L',h1.trans g1,g2,g3,g4⟩
 |ret=>exact⟨e',H',L',h1.trans g1,g2,g3,g4⟩
 |panic ch=>exact⟨e',H',L',h1.trans g1,g2,g3,g4⟩
 |outgrown=>exact⟨e',H',L',h1.trans g1,g2,g3,g4⟩
theorem Kg.UR(I:Nat->List (Nat×LV)->Heap->Prop)(h0:∃ k l H0,I k l H0/\Jy e l/\HSub H0 H)
  (round:∀ k l H,I k l H->∀ j:Env,j.ds=e.ds->Kg C n c (Ie (AY I k e.ds) Q) (Env.Tj j l) H):Kg C n (.loop c) Q e H:=by
 obtain⟨k,l,H0,h0,h1,h2⟩:=h0;refine Kg.Yb h2 (Kg.loop (λk e' H'=>∃ l H0,I k l H0/\Jy e' l/\HSub H0 H'/\e'.ds=e.ds) k ⟨l,H0,h0,h1,bc _,rfl⟩ ?_);rintro k e' H' ⟨l,H0,g0,g1,g2,g3⟩;have:=round k l H0 g0 e' g3;rw[Env.Ce g1.mem] at this;refine Kg.Yb g2 (Kg.qd this ?_);rintro ex e2 H2 hq;cases ex with
 |normal=>obtain⟨m,l',H3,r1,r2,r3,r4,r5⟩:=hq;exact⟨m,r1,l',H3,r2,r3,r4,r5⟩
 |exit id=>exact hq
 |goto id=>exact hq
 |ret=>exact hq
 |panic ch=>exact hq
 |outgrown=>exact hq
end
section
variable{C:Ctx}{e:Env}{H:Heap}{x y:Operand}{dst:Option Nat}{ty:TypeId}{ra:String}{ua:Array Edge}{g:Option (Nat×Bool)}
theorem Pure.Xr{s d el:TypeId} [hs:Qa C.P s el 1] [he:uj C.P el .u8] [hd:cp C.P d]{l:List UInt8}(hx:elems (e.ev x)=some (ig l)):Pure C ⟨dst,.convert s d x,ty,ra,ua,g⟩ e H (str l):=by
 by_cases xb:l=[];subst xb;intro ρ w L h _;obtain⟨a,cap,hv,ri,hr⟩:=(h x).elems hx;refine⟨_,Ld,λw' ha=>?_⟩;have h0:execOp ρ ⟨dst,.convert s d x,ty,ra,ua,g⟩=(do Pure.pure (.value (<-convert s d (ρ x)))):=rfl;have ma:(ig []).length=0:=rfl
 have hc:(convert s d (.slice a 0 cap)).run C.P w'=.ok (.string ⟨#[]⟩) w':=by
  rw[run_convert_bytes_string w' s d el a 0 cap hs.af he.af hd.af];cases a with
  |none=>rfl
  |some a=>exact run_bytesToString w' a 0 cap [] (run_loadCells_list (P:=C.P) w' a [] λj v hj=>by cases hj)
 rw[h0,hv,ma];simp only[Lc,hc,jd,Xd];exact Pure.qE hx xb
end
class UA (P:Program) (t:TypeId):Prop where
 af:P.underlying t=some (.struct (P.fieldsOf t))
 apart:P.stoodInHeld t=false
 guard:P.eqGuardType P.depth t=false
 fields : ∃ f0 f1 f2 : Field, (P.fieldsOf t).toList = [f0, f1, f2] ∧ (f0.name ≠ "_" ∧ f0.offset = 0 ∧ P.underlying f0.type = some .string) ∧ (f1.name ≠ "_" ∧ f1.offset = 1 ∧ P.underlying f1.type = some (.int .i64)) ∧ (f2.name ≠ "_" ∧ f2.offset = 2 ∧ P.underlying f2.type = some (.int .i64))
def sZ (P : Program) (f : Field) (o : Nat) : Bool := f.name != "_" && f.offset == o && (match P.underlying f.type with | some .string => true | _ => false)
def mV (P : Program) (f : Field) (o : Nat) : Bool := f.name != "_" && f.offset == o && (match P.underlying f.type with | some (.int .i64) => true | _ => false)
def qyH(P:Program)(t:TypeId):Bool:=(match P.underlying t with|some (.struct _)=>true|_=>false) && !P.stoodInHeld t && !P.eqGuardType P.depth t && (match (P.fieldsOf t).toList with|[f0,f1,f2]=>sZ P f0 0 && mV P f1 1 && mV P f2 2|_=>false)
theorem qrS  {f : Field}  (h : sZ P f o = true) : f.name ≠ "_" ∧ f.offset = o ∧ P.underlying f.type = some .string := by
 unfold sZ at h;simp only[Ed,bne_iff_ne,beq_iff_eq] at h;obtain⟨⟨h1,h2⟩,h3⟩:=h;refine⟨h1,h2,?_⟩;split at h3
 assumption
 cases h3
theorem qny  {f : Field}  (h : mV P f o = true) : f.name ≠ "_" ∧ f.offset = o ∧ P.underlying f.type = some (.int .i64) := by
 unfold mV at h;simp only[Ed,bne_iff_ne,beq_iff_eq] at h;obtain⟨⟨h1,h2⟩,h3⟩:=h;refine⟨h1,h2,?_⟩;split at h3
 assumption
 cases h3
theorem UA.of(h:qyH P t=true):UA P t:=by unfold qyH at h;simp only[Ed,Bool.not_eq_true'] at h;obtain⟨⟨⟨h1,h2⟩,h3⟩,h4⟩:=h;refine⟨?_,h2,h3,?_⟩;split at h1;rename_i fs hu;rw[hu];simp[Program.fieldsOf,hu];cases h1;split at h4;rename_i f0 f1 f2 hf;simp only[Ed] at h4;exact⟨f0,f1,f2,hf,qrS h4.1.1,qny h4.1.2,qny h4.2⟩;cases h4
theorem G4{d:TypeDesc}(hu:P.underlying t=some d)(hp:d=.string∨d=.int .i64){xs:Array Value}(hx:xs[off]? = some v)(w:World):(part t xs off).run P w=.ok v w:=
 run_part_plain w (by rcases hp with rfl|rfl <;> simp[Program.plainKey,hu]) hx
theorem qnt(hu:P.underlying t=some .string)(d:Nat)(a b:List UInt8)(w:World):(Op.equalIn (d+1) t (.string ⟨a.toArray⟩) (.string ⟨b.toArray⟩)).run P w=.ok (decide (a=b)) w:=by simp only[Op.equalIn,Lc,Fe hu,jd,Xd];rw[beq_toListBytes,ByteArray.toList_eq,ByteArray.toList_eq];congr 1;by_cases h:a=b <;> simp[h]
theorem oW(hu:P.underlying t=some (.int .i64))(d:Nat)(a b:Int)(w:World):(Op.equalIn (d+1) t (.int .i64 a) (.int .i64 b)).run P w=.ok (decide (a=b)) w:=by simp only[Op.equalIn,Lc,Fe hu,jd,Xd,if_true];congr 1
theorem quv [h:UA P t](a b:List UInt8)(x y u v:Int)(w:World) :
  (Op.equal t (.agg #[.string ⟨a.toArray⟩,.int .i64 x,.int .i64 u]) (.agg #[.string ⟨b.toArray⟩,.int .i64 y,.int .i64 v])).run P w=.ok (decide (a=b/\x=y/\u=v)) w:=by
 obtain⟨f0,f1,f2,hf,⟨n0,o0,u0⟩,⟨n1,o1,u1⟩,⟨n2,o2,u2⟩⟩:=h.fields;rw[CW,run_equalIn_struct w 9999 t _ _ h.af h.apart,hf];have p0:∀ (s:List UInt8) (i j:Int),(part f0.type #[.string ⟨s.toArray⟩,.int .i64 i,.int .i64 j] f0.offset).run P w=.ok (.string ⟨s.toArray⟩) w:=λs i j=>G4 u0 (.inl rfl) (by rw[o0];try rfl) w;have p1:∀ (s:List UInt8) (i j:Int),(part f1.type #[.string ⟨s.toArray⟩,.int .i64 i,.int .i64 j] f1.offset).run P w=.ok (.int .i64 i) w:=λs i j=>G4 u1 (.inr rfl) (by rw[o1];try rfl) w;have p2:∀ (s:List UInt8) (i j:Int),(part f2.type #[.string ⟨s.toArray⟩,.int .i64 i,.int .i64 j] f2.offset).run P w=.ok (.int .i64 j) w:=λs i j=>G4 u2 (.inr rfl) (by rw[o2];try rfl) w;have e0:=qnt u0 9998 a b w;have e1:=oW u1 9998 x y w;have e2:=oW u2 9998 u v w;have q1:∀ a b:Int,(Op.equalIn 9999 f1.type (.int .i64 a) (.int .i64 b)).run P w=.ok (decide (a=b)) w:=λa b=>oW u1 9998 a b w;have q2:∀ a b:Int,(Op.equalIn 9999 f2.type (.int .i64 a) (.int .i64 b)).run P w=.ok (decide (a=b)) w:=λa b=>oW u2 9998 a b w;have q0:(Op.equalIn 9999 f0.type (.string ⟨a.toArray⟩) (.string ⟨b.toArray⟩)).run P w=.ok (decide (a=b)) w:=qnt u0 9998 a b w;simp only[Op.eqFields,n0,n1,n2,ne_eq,not_false_eq_true,if_true,Lc,p0,q0,jd]
 by_cases ha:a=b;simp only[ha,decide_true,Bool.not_true,Il,if_false,Lc,p1,q1,jd,true_and];by_cases hx:x=y;simp only[hx,decide_true,Bool.not_true,Il,if_false,Lc,p2,q2,jd,true_and];by_cases hu:u=v;simp[hu];simp[hu];simp[hx];simp[ha]
section
variable{C:Ctx}{e:Env}{H:Heap}{dst:Option Nat}{ty:TypeId}{ra:String}{ua:Array Edge}{g:Option (Nat×Bool)}{x y:Operand}
theorem Q9(h:∀ x,Fb w L (e.ev x) (ρ x)){a:List UInt8}(hx:e.ev x=.agg [str a,int .i64 i,int .i64 j]):ρ x=.agg #[.string ⟨a.toArray⟩,.int .i64 i,.int .i64 j]:=by have hv:=h x;rw[hx] at hv;simp only[Fb,oa,str,int] at hv;obtain⟨vs,h1,v0,r0,e0,rfl,v1,r1,e1,rfl,v2,r2,e2,rfl,e3⟩:=hv;rw[h1,e0,e1,e2,e3]
theorem Pure.ZT [h:UA C.P t]{a b:List UInt8}{k l:Int}(hx:e.ev x=.agg [str a,int .i64 i,int .i64 j])(hy:e.ev y=.agg [str b,int .i64 k,int .i64 l]) :
  Pure C ⟨dst,.binOp .eql t x y yT,ty,ra,ua,g⟩ e H (bool (decide (a=b/\i=k/\j=l))):=
 .Xa λρ _ _ hr=>⟨_,Ld,λw'=>by
  have h1:=Q9 hr hx;have h2:=Q9 hr hy;have he:(eqGuard .eql t x y (.agg #[.string ⟨a.toArray⟩,.int .i64 i,.int .i64 j]) (.agg #[.string ⟨b.toArray⟩,.int .i64 k,.int .i64 l])).run C.P w'=.ok () w':=by simp[eqGuard,h.guard]
  have hb:binOp .eql t (.agg #[.string ⟨a.toArray⟩,.int .i64 i,.int .i64 j]) (.agg #[.string ⟨b.toArray⟩,.int .i64 k,.int .i64 l])=(do Pure.pure (.bool (<-Op.equal t (.agg #[.string ⟨a.toArray⟩,.int .i64 i,.int .i64 j]) (.agg #[.string ⟨b.toArray⟩,.int .i64 k,.int .i64 l])))):=rfl;simp only[execOp,h1,h2,he,hb,Lc,Xd,jd,quv]⟩
theorem Pure.zM [h:UA C.P t]{a b:List UInt8}{k l:Int}(hx:e.ev x=.agg [str a,int .i64 i,int .i64 j])(hy:e.ev y=.agg [str b,int .i64 k,int .i64 l])(h1:a=b)(h2:i=k)(h3:j=l) :
  Pure C ⟨dst,.binOp .eql t x y yT,ty,ra,ua,g⟩ e H (bool true):=by
 have:=Pure.ZT (C:=C) (H:=H) (dst:=dst) (ty:=ty) (ra:=ra) (ua:=ua) (g:=g) (t:=t) (yT:=yT) hx hy;rwa [Dg ⟨h1,h2,h3⟩] at this
end
end Go.GL
namespace Go.ia
@[reducible] def cv(c:UInt8):Int:=(c.toNat:Int)
def qe(c:UInt8):Bool:=decide (48<=cv c) && decide (cv c<=57)
def Ml(c:UInt8):Bool:=decide (97<=cv c) && decide (cv c<=122)
def Si(c:UInt8):Bool:=Ml c || qe c || decide (cv c=95)
def xY(c:UInt8):Bool:=!decide (cv c=10)
def vB(c:UInt8):Bool:=decide (cv c=32) || decide (cv c=9) || decide (cv c=10)
structure Tok where
 kind:Int
 text:List UInt8
 line:Int
 deriving DecidableEq,Inhabited
theorem qgJ{p:UInt8->Bool}{s:List UInt8}{m:Nat}(hm:m<s.length)(h:s.takeWhile p=s.take m++(s.drop m).takeWhile p) :
  (p s[m]=true->s.takeWhile p=s.take (m+1)++(s.drop (m+1)).takeWhile p)/\(p s[m]=false->s.takeWhile p=s.take m):=by
 have h1:s.drop m=s[m]::s.drop (m+1):=List.drop_eq_getElem_cons hm;constructor;intro hp;rw[h,h1,takeWhile_cons_of_pos hp,List.take_succ_eq_append_getElem hm];simp only[Yc,List.singleton_append];intro hp;rw[h,h1,takeWhile_cons_of_neg (by simp[hp])];simp
theorem qmm{p:UInt8->Bool}{s:List UInt8}{m:Nat}(hm:s.length<=m)(h:s.takeWhile p=s.take m++(s.drop m).takeWhile p):s.takeWhile p=s.take m:=by rw[h,List.drop_eq_nil_of_le hm];simp
def Lo(s:List UInt8):Nat:=if [47,47].isPrefixOf s then (s.takeWhile xY).length else (s.takeWhile vB).length
end Go.ia
namespace Go.ia
def qz2:Tok:=⟨0,[],0⟩
abbrev Zx:=Tok×Nat×Int
def Jo(e:Int):Zx:=(qz2,0,e)
def QE(s:List UInt8)(n:Nat):Bool:=match s[n]? with
 |some c=>Ml c || decide (cv c=95)
 |none=>false
def LI(s:List UInt8):Zx:=
 if QE s (s.takeWhile qe).length then Jo 3 else
  match Go.Lib.parseUintB 32 (s.takeWhile qe) with
  |.ok u=>(⟨1,Go.Lib.decDigits u,0⟩,(s.takeWhile qe).length,0)
  |_=>Jo 2
def FG:List UInt8->Zx
 |_::b::c::_=>if (!decide (cv c=39)) || decide (cv b<32) || decide (126<cv b) || decide (cv b=39) || decide (cv b=92) then Jo 3 else (⟨1,Go.Lib.decDigits b.toNat,0⟩,3,0)
 |_=>Jo 3
def PE:List (List UInt8):=[[97,114,114,97,121],[101,108,115,101],[102,117,110,99],[104,97,108,116],[105,102],[114,101,116,117,114,110],[118,97,114],[119,104,105,108,101]]
def Kl:List (List UInt8):=[[38,38],[124,124],[61,61],[33,61],[60,61],[62,61],[60],[62],[94],[43],[45],[42],[47],[37],[33],[61],[40],[41],[123],[125],[91],[93],[44],[59]]
def rI(s:List UInt8):Zx:=
 if 24<(s.takeWhile Si).length then Jo 7 else (⟨if PE.contains (s.takeWhile Si) then 3 else 2,s.takeWhile Si,0⟩,(s.takeWhile Si).length,0)
def FK(s:List UInt8):Zx:=match Kl.find? (λx=>x.isPrefixOf s) with
 |some x=>(⟨4,x,0⟩,x.length,0)
 |none=>Jo 3
def eh(s:List UInt8):Zx:=match s with
 |[]=>Jo 3
 |c::_=>if qe c then LI s else if Ml c then rI s else if decide (cv c=39) then FG s else FK s
def Ke:Nat->List UInt8->Int->Except (Int×Int) (List Tok)
 |0,_,_=>.ok []
 |Ba+1,s,line=>
  if s=[] then .ok [] else
  if Lo s=0 then
   if (eh s).2.2≠0 then .error (line,(eh s).2.2)
   else (Ke Ba (s.drop (eh s).2.1) (line+((s.take (eh s).2.1).count 10:Nat))).map ({ (eh s).1 with line:=line }::·)
  else Ke Ba (s.drop (Lo s)) (line+((s.take (Lo s)).count 10:Nat))
theorem TW(p:UInt8->Bool)(s:List UInt8):(s.takeWhile p).length<=s.length:=(List.takeWhile_prefix p).length_le
theorem M4(s:List UInt8)(h:(eh s).2.2=0):0<(eh s).2.1/\(eh s).2.1<=s.length:=by
 match s with
 |[]=>simp[eh,Jo] at h
 |c::r=>
  simp only[eh] at h ⊢;split at h <;> rename_i hc;rw[zp hc];unfold LI at h ⊢;split at h;simp[Jo] at h
  rename_i hw;rw[zn hw];split at h;rename_i u hu;refine⟨?_,TW _ _⟩;rw[takeWhile_cons_of_pos hc];simp;simp[Jo] at h;rw[zn hc];split at h <;> rename_i hl;rw[zp hl];unfold rI at h ⊢;split at h;simp[Jo] at h
  rename_i hw;rw[zn hw];refine⟨?_,TW _ _⟩;rw[takeWhile_cons_of_pos (by simp[Si,hl])];simp;rw[zn hl];split at h <;> rename_i hq;rw[zp hq];unfold FG at h ⊢;split at h;split at h;simp[Jo] at h
  rename_i hx;rename_i yH;rw[zn hx,yH];simp;simp[Jo] at h;rw[zn hq];unfold FK at h ⊢;split at h;rename_i x hx;have h1:=List.find?_some hx;have h2:=List.mem_of_find?_eq_some hx;refine⟨?_,(List.isPrefixOf_iff_prefix.1 h1).length_le⟩;have:∀ x∈Kl,0<x.length:=by decide
  exact this x h2;simp[Jo] at h
theorem qli(s:List UInt8):Lo s<=s.length:=by unfold Lo;split <;> exact TW _ _
inductive pk (A:Type) where
 |ok (v:A) (at' op:Nat)
 |err (line e:Int)
def LN(T:List Tok)(i:Nat):Int:=match T[min i (T.length-1)]? with
 |some t=>t.line
 |none=>1
def jI{A:Type}(T:List Tok)(i:Nat):pk A:=.err (LN T i) 3
def Ja(T:List Tok)(i:Nat)(xs:List (List UInt8)):Bool:=match T[i]? with
 |some t=>(decide (t.kind=3) || decide (t.kind=4)) && xs.contains t.text
 |none=>false
def qn(T:List Tok)(k:Int)(i op:Nat):pk (List UInt8):=match T[i]? with
 |some t=>if t.kind=k then .ok t.text (i+1) op else jI T i
 |none=>jI T i
def Sn(T:List Tok)(x:List UInt8)(i op:Nat):pk Unit:=if Ja T i [x] then .ok () (i+1) op else jI T i
def vn(T:List Tok)(x:List UInt8)(i op:Nat):pk Unit:=
 if Ja T i [x] then (if 100<=op then .err (LN T i) 6 else .ok () (i+1) (op+1)) else jI T i
def pk.bind{A B:Type}(r:pk A)(f:A->Nat->Nat->pk B):pk B:=match r with
 |.ok v i op=>f v i op
 |.err l e=>.err l e
def Uv(s:List UInt8):Nat:=match Go.Lib.parseUintB 32 s with
 |.ok u=>u
 |_=>0
end Go.ia
namespace Go.ia
variable{T:List Tok}{i op:Nat}{x:List UInt8}
inductive Ex where
 |mk (op:List UInt8) (num:Nat) (name:List UInt8) (args:List Ex)
 deriving Inhabited
inductive Sm where
 |mk (kind:Int) (name:List UInt8) (index value:List Ex) (Ua Bb:List Sm)
 deriving Inhabited
structure yb where
 name:List UInt8
 params:List (List UInt8)
 locals:List (List UInt8)
 body:List Sm
 deriving Inhabited
structure Ar where
 name:List UInt8
 size:Nat
 deriving Inhabited
structure Pr where
 vars:List (List UInt8)
 ba:List Ar
 funcs:List yb
 deriving Inhabited
def Oi:Nat->List (List UInt8)
 |0=>[[124,124]]
 |1=>[[38,38]]
 |2=>[[61,61],[33,61],[60],[62],[60,61],[62,61]]
 |3=>[[94]]
 |4=>[[43],[45]]
 |5=>[[42],[47],[37]]
 |_=>[]
abbrev OR(A:Type):=Option (pk A)
def ad{A B:Type}(r:OR A)(f:A->Nat->Nat->OR B):OR B:=match r with
 |none=>none
 |some (.ok v i op)=>f v i op
 |some (.err l e)=>some (.err l e)
def Sz(T:List Tok)(i:Nat):List UInt8:=match T[i]? with
 |some t=>t.text
 |none=>[]
def vK(T:List Tok)(i:Nat):Int:=match T[i]? with
 |some t=>t.kind
 |none=>0
def Nh(T:List Tok)(x:List UInt8)(i op:Nat):pk Unit:=(Sn T x i op).bind λ_ i' La=>.ok () i' (La-1)
def My(T:List Tok)(i op:Nat):pk Nat:=(qn T 1 i op).bind λs i' La=>.ok (Uv s) i' La
def Nq(T:List Tok):Nat->List (List UInt8)->Nat->Nat->OR (List (List UInt8))
 |0,_,_,_=>none
 |f+1,acc,i,op=>if Ja T i [[44]] then ad (some (qn T 2 (i+1) op)) λs i' La=>Nq T f (acc++[s]) i' La else some (.ok acc i op)
def Hy(T:List Tok)(f:Nat)(i op:Nat):OR (List (List UInt8)):=ad (some (qn T 2 i op)) λs i' La=>Nq T f [s] i' La
def Ng:List UInt8:=[110,101,103]
def yg:List UInt8:=[110,111,116]
def Af:List UInt8:=[110,117,109]
def Vj:List UInt8:=[101,108,101,109]
def tg:List UInt8:=[99,97,108,108]
def bg:List UInt8:=[118,97,114]
mutual
def Dd(T:List Tok):Nat->Nat->Nat->Nat->OR Ex
 |0,_,_,_=>none
 |f+1,k,i,op=>if k=6 then Vn T f i op else ad (Dd T f (k+1) i op) λe i' La=>qp T f k e i' La
def qp(T:List Tok):Nat->Nat->Ex->Nat->Nat->OR Ex
 |0,_,_,_,_=>none
 |f+1,k,e,i,op=>
  if Ja T i (Oi k) then ad (Dd T f (k+1) (i+1) op) λe2 i' La=>
   if k=2 then some (.ok (.mk (Sz T i) 0 [] [e,e2]) i' La) else qp T f k (.mk (Sz T i) 0 [] [e,e2]) i' La
  else some (.ok e i op)
def Vn(T:List Tok):Nat->Nat->Nat->OR Ex
 |0,_,_=>none
 |f+1,i,op=>
  if Ja T i [[45]] then ad (some (vn T [45] i op)) λ_ i' La=>ad (Vn T f i' La) λe i' La=>some (.ok (.mk Ng 0 [] [e]) i' (La-1))
  else if Ja T i [[33]] then ad (some (vn T [33] i op)) λ_ i' La=>ad (Vn T f i' La) λe i' La=>some (.ok (.mk yg 0 [] [e]) i' (La-1))
  else Cq T f i op
def Cq(T:List Tok):Nat->Nat->Nat->OR Ex
 |0,_,_=>none
 |f+1,i,op=>
  if Ja T i [[40]] then ad (some (vn T [40] i op)) λ_ i' La=>ad (Dd T f 0 i' La) λe i' La=>ad (some (Nh T [41] i' La)) λ_ i' La=>some (.ok e i' La)
  else if vK T i=1 then ad (some (My T i op)) λn i' La=>some (.ok (.mk Af n [] []) i' La)
  else ad (some (qn T 2 i op)) λs i' La=>
   if Ja T i' [[91]] then ad (Ap T f i' La) λe i' La=>some (.ok (.mk Vj 0 s [e]) i' La)
   else if Ja T i' [[40]] then ad (Sp T f i' La) λl i' La=>some (.ok (.mk tg 0 s l) i' La)
   else some (.ok (.mk bg 0 s []) i' La)
def Ap(T:List Tok):Nat->Nat->Nat->OR Ex
 |0,_,_=>none
 |f+1,i,op=>ad (some (vn T [91] i op)) λ_ i' La=>ad (Dd T f 0 i' La) λe i' La=>ad (some (Nh T [93] i' La)) λ_ i' La=>some (.ok e i' La)
def Sp(T:List Tok):Nat->Nat->Nat->OR (List Ex)
 |0,_,_=>none
 |f+1,i,op=>ad (some (vn T [40] i op)) λ_ i' La=>ad (Yn T f [] i' La) λl i' La=>ad (some (Nh T [41] i' La)) λ_ i' La=>some (.ok l i' La)
def Yn(T:List Tok):Nat->List Ex->Nat->Nat->OR (List Ex)
 |0,_,_,_=>none
 |f+1,acc,i,op=>
  if Ja T i [[41]] then some (.ok acc i op)
  else ad (some (if acc=[] then .ok () i op else Sn T [44] i op)) λ_ i' La=>ad (Dd T f 0 i' La) λe i' La=>Yn T f (acc++[e]) i' La
end
def WR:List UInt8:=[105,102]
def qx4:List UInt8:=[101,108,115,101]
def quh:List UInt8:=[119,104,105,108,101]
def qqE:List UInt8:=[114,101,116,117,114,110]
def X9:List UInt8:=[104,97,108,116]
def ME:List UInt8:=[118,97,114]
def GQ:List UInt8:=[97,114,114,97,121]
def bZ:List UInt8:=[102,117,110,99]
mutual
def xp(T:List Tok):Nat->Nat->Nat->OR (List Sm)
 |0,_,_=>none
 |f+1,i,op=>ad (some (vn T [123] i op)) λ_ i' La=>ad (Lm T f [] i' La) λl i' La=>ad (some (Nh T [125] i' La)) λ_ i' La=>some (.ok l i' La)
def Lm(T:List Tok):Nat->List Sm->Nat->Nat->OR (List Sm)
 |0,_,_,_=>none
 |f+1,acc,i,op=>if Ja T i [[125]] then some (.ok acc i op) else ad (Fq T f i op) λs i' La=>Lm T f (acc++[s]) i' La
def Fq(T:List Tok):Nat->Nat->Nat->OR Sm
 |0,_,_=>none
 |f+1,i,op=>
  if Ja T i [WR] then ad (Dd T f 0 (i+1) op) λe i' La=>ad (xp T f i' La) λth i' La=>
   if Ja T i' [qx4] then ad (xp T f (i'+1) La) λel i' La=>some (.ok (.mk 3 [] [] [e] th el) i' La) else some (.ok (.mk 3 [] [] [e] th []) i' La)
  else if Ja T i [quh] then ad (Dd T f 0 (i+1) op) λe i' La=>ad (xp T f i' La) λth i' La=>some (.ok (.mk 4 [] [] [e] th []) i' La)
  else ad (Mq T f i op) λs i' La=>ad (some (Sn T [59] i' La)) λ_ i' La=>some (.ok s i' La)
def Mq(T:List Tok):Nat->Nat->Nat->OR Sm
 |0,_,_=>none
 |f+1,i,op=>
  if Ja T i [qqE] then ad (Dd T f 0 (i+1) op) λe i' La=>some (.ok (.mk 5 [] [] [e] [] []) i' La)
  else if Ja T i [X9] then some (.ok (.mk 7 [] [] [] [] []) (i+1) op)
  else ad (some (qn T 2 i op)) λs i' La=>
   if Ja T i' [[40]] then ad (Sp T f i' La) λl i' La=>some (.ok (.mk 6 [] [] [.mk tg 0 s l] [] []) i' La)
   else if Ja T i' [[91]] then ad (Ap T f i' La) λx i' La=>ad (some (Sn T [61] i' La)) λ_ i' La=>ad (Dd T f 0 i' La) λe i' La=>some (.ok (.mk 2 s [x] [e] [] []) i' La)
   else ad (some (Sn T [61] i' La)) λ_ i' La=>ad (Dd T f 0 i' La) λe i' La=>some (.ok (.mk 1 s [] [e] [] []) i' La)
end
def Fk(T:List Tok):Nat->List (List UInt8)->Nat->Nat->OR (List (List UInt8))
 |0,_,_,_=>none
 |f+1,acc,i,op=>if Ja T i [ME] then ad (Hy T f (i+1) op) λl i' La=>ad (some (Sn T [59] i' La)) λ_ i' La=>Fk T f (acc++l) i' La else some (.ok acc i op)
def Vv(T:List Tok)(f:Nat)(i op:Nat):OR yb:=
 ad (some (qn T 2 i op)) λnm i' La=>ad (some (vn T [40] i' La)) λ_ i' La=>
 ad (if Ja T i' [[41]] then some (.ok [] i' La) else Hy T f i' La) λps i' La=>ad (some (Nh T [41] i' La)) λ_ i' La=>
 ad (some (vn T [123] i' La)) λ_ i' La=>ad (Fk T f [] i' La) λls i' La=>ad (Lm T f [] i' La) λb i' La=>
 ad (some (Nh T [125] i' La)) λ_ i' La=>some (.ok ⟨nm,ps,ls,b⟩ i' La)
def Vz(T:List Tok)(i op:Nat):OR Ar:=
 ad (some (qn T 2 i op)) λnm i' La=>ad (some (vn T [91] i' La)) λ_ i' La=>ad (some (My T i' La)) λn i' La=>
 ad (some (Nh T [93] i' La)) λ_ i' La=>ad (some (Sn T [59] i' La)) λ_ i' La=>some (.ok ⟨nm,n⟩ i' La)
def Ll(T:List Tok):Nat->Pr->Nat->Nat->OR Pr
 |0,_,_,_=>none
 |f+1,p,i,op=>
  if T.length<=i then some (.ok p i op)
  else if Ja T i [ME] then ad (Fk T f [] i op) λl i' La=>Ll T f { p with vars:=p.vars++l } i' La
  else if Ja T i [GQ] then ad (Vz T (i+1) op) λa i' La=>Ll T f { p with ba:=p.ba++[a] } i' La
  else if Ja T i [bZ] then ad (Vv T f (i+1) op) λa i' La=>Ll T f { p with funcs:=p.funcs++[a] } i' La
  else some (jI T i)
def Li:Ex->List UInt8|.mk o _ _ _=>o
def Qs:Ex->Nat|.mk _ n _ _=>n
def Us:Ex->List UInt8|.mk _ _ n _=>n
def qxW:Sm->Int|.mk k _ _ _ _ _=>k
def E':Sm->List UInt8|.mk _ n _ _ _ _=>n
def qtc:Sm->List Ex|.mk _ _ i _ _ _=>i
def quJ:Sm->List Ex|.mk _ _ _ v _ _=>v
def Good{A:Type}(T:List Tok)(s:Bool)(i op:Nat)(r:pk A):Prop:=match r with
 |.ok _ i' La=>i<=i'/\(s=true->i<i')/\(i<=T.length->i'<=T.length)/\La=op
 |.err _ _=>True
def Jm{A:Type}(T:List Tok)(s:Bool)(i op:Nat)(r:OR A):Prop:=∀ r',r=some r'->Good T s i op r'
theorem Wj{xs:List (List UInt8)}(h:Ja T i xs=true):i<T.length:=by rcases lt_or_ge i T.length with h1|h1;exact h1;rw[Ja,List.getElem?_eq_none h1] at h;cases h
theorem wK{t:Tok}(h:T[i]? = some t):i<T.length:=(List.getElem?_eq_some_iff.1 h).1
theorem CB(T:List Tok)(k:Int)(i op:Nat):Good T true i op (qn T k i op):=by unfold qn;split;rename_i t ht;have:=wK ht;split;exact⟨by omega,λ_=>by omega,λ_=>by omega,rfl⟩;trivial;trivial
theorem Mw(T:List Tok)(x:List UInt8)(i op:Nat):Good T true i op (Sn T x i op):=by unfold Sn;split;rename_i h;have:=Wj h;exact⟨by omega,λ_=>by omega,λ_=>by omega,rfl⟩;trivial
theorem Pw{i' La:Nat}{u:Unit}(h:vn T x i op=.ok u i' La):i'=i+1/\La=op+1/\op<100/\i<T.length:=by unfold vn at h;split at h;rename_i h1;have:=Wj h1;split at h;cases h;cases h;exact⟨rfl,rfl,by omega,this⟩;cases h
theorem CK{i' La:Nat}{u:Unit}(h:Nh T x i op=.ok u i' La):i'=i+1/\La=op-1/\i<T.length:=by unfold Nh Sn at h;split at h;rename_i h1;have:=Wj h1;cases h;exact⟨rfl,rfl,this⟩;cases h
theorem R4(T:List Tok)(i op:Nat):Good T true i op (My T i op):=by
 have:=CB T 1 i op;unfold My;cases h:qn T 1 i op with
 |ok v i' La=>rw[h] at this;exact this
 |err l e=>trivial
theorem Kk{A B:Type}{r:OR A}{f:A->Nat->Nat->OR B}{q:pk B}(h:ad r f=some q) :
  (∃ v i op,r=some (.ok v i op)/\f v i op=some q)∨(∃ l e,r=some (.err l e)/\q=.err l e):=by
 match r,h with
 |some (.ok v i op),h=>exact .inl ⟨v,i,op,rfl,h⟩
 |some (.err l e),h=>exact .inr ⟨l,e,rfl,by simpa [ad] using h.symm⟩
theorem Pm{A B:Type}{s t:Bool}{j yc:Nat}{r:OR A}{f:A->Nat->Nat->OR B}(hr:Jm T s j yc r)
  (hf:∀ v i' ,r=some (.ok v i' yc)->j<=i'->(s=true->j<i')->(j<=T.length->i'<=T.length)->Jm T t i op (f v i' yc)):Jm T t i op (ad r f):=λq hq=>by
 rcases Kk hq with⟨v,i',La,h1,h2⟩|⟨l,e,_,rfl⟩;obtain⟨g1,g2,g3,g4⟩:=hr _ h1;subst g4;exact hf v i' h1 g1 g2 g3 q h2;trivial
theorem Nl{A:Type}{s:Bool}{r:pk A}(h:Good T s i op r):Jm T s i op (some r):=λr' hr=>by cases hr;exact h
theorem iA{A:Type}{s:Bool}:Jm (A:=A) T s i op none:=λr' hr=>by cases hr
theorem Jm.from{A:Type}{s t:Bool}{j:Nat}{r:OR A}(h:Jm T s j op r)(ZS:i<=j)(hs:t=true->i<j∨s=true)(hT:i<=T.length->j<=T.length):Jm T t i op r:=λr' hr=>by
 have:=h r' hr;cases r' with
 |ok v i' La=>
  obtain⟨g1,g2,g3,g4⟩:=this;refine⟨by omega,λht=>?_,λhi=>g3 (hT hi),g4⟩;rcases hs ht with h1|h1;omega
  have:=g2 h1;omega
 |err l e=>trivial
theorem qf8(T:List Tok):∀ (f:Nat) (acc:List (List UInt8)) (i op:Nat),Jm T false i op (Nq T f acc i op)
 |0,_,_,_=>iA
 |f+1,acc,i,op=>by rw[Nq];split;rename_i h;have:=Wj h;refine Pm (Nl (CB T 2 (i+1) op)) λv i' _ h1 h2 h3=>?_;exact(qf8 T f _ i' op).from ga (by simp) (λ_=>h3 ga);exact Nl ⟨by omega,by simp,λh=>h,rfl⟩
theorem MI(T:List Tok)(f i op:Nat):Jm T true i op (Hy T f i op):=
 Pm (Nl (CB T 2 i op)) λv i' _ h1 h2 h3=>(qf8 T f _ i' op).from h1 (λ_=>.inl (h2 rfl)) h3
theorem kW{A:Type}{s:Bool}{y:List UInt8}{g:Nat->Nat->OR A}(hg:i<T.length->op<100->Jm T s (i+1) (op+1) (g (i+1) (op+1))) :
  Jm T true i op (ad (some (vn T x i op)) λ_ i' La=>ad (g i' La) λv i' La=>ad (some (Nh T y i' La)) λ_ i' La=>some (.ok v i' La)):=λq hq=>by
 rcases Kk hq with⟨v,i1,yc,h1,h2⟩|⟨l,e,_,rfl⟩;injection h1 with h1;obtain⟨rfl,rfl,ho,hi⟩:=Pw h1;rcases Kk h2 with⟨w,i2,xg,h3,h4⟩|⟨l,e,_,rfl⟩;obtain⟨g1,_,g3,rfl⟩:=hg hi ho _ h3;rcases Kk h4 with⟨u,i3,wg,h5,h6⟩|⟨l,e,_,rfl⟩;injection h5 with h5;obtain⟨rfl,rfl,Dx⟩:=CK h5;cases h6;exact⟨by omega,λ_=>by omega,λ_=>by omega,by omega⟩;trivial;trivial;trivial
theorem Ky(T:List Tok):∀ f:Nat,(∀ k i op,Jm T true i op (Dd T f k i op))/\(∀ k e i op,Jm T false i op (qp T f k e i op))/\(∀ i op,Jm T true i op (Vn T f i op)) /\
  (∀ i op,Jm T true i op (Cq T f i op))/\(∀ i op,Jm T true i op (Ap T f i op))/\(∀ i op,Jm T true i op (Sp T f i op))/\(∀ acc i op,Jm T false i op (Yn T f acc i op))
 |0=>⟨λ_ _ _=>by rw[Dd];exact iA,λ_ _ _ _=>by rw[qp];exact iA,λ_ _=>by rw[Vn];exact iA,λ_ _=>by rw[Cq];exact iA,λ_ _=>by rw[Ap];exact iA,λ_ _=>by rw[Sp];exact iA,λ_ _ _=>by rw[Yn];exact iA⟩
 |f+1=>by
  obtain⟨hL,hO,hU,hP,hI,hA,hB⟩:=Ky T f;have neg:∀ (x:List UInt8) (nm:List UInt8) (i op:Nat),Jm T true i op (ad (some (vn T x i op)) λ_ i' La=>ad (Vn T f i' La) λe i' La=>some (.ok (Ex.mk nm 0 [] [e]) i' (La-1))):=λx nm i op q hq=>by rcases Kk hq with⟨v,i1,yc,h1,h2⟩|⟨l,e,_,rfl⟩;injection h1 with h1;obtain⟨rfl,rfl,ho,hi⟩:=Pw h1;rcases Kk h2 with⟨w,i2,xg,h3,h4⟩|⟨l,e,_,rfl⟩;obtain⟨g1,_,g3,rfl⟩:=hU _ _ _ h3;cases h4;exact⟨by omega,λ_=>by omega,λ_=>g3 ga,by omega⟩;trivial;trivial
  refine⟨λk i op=>?_,λk e i op=>?_,λi op=>?_,λi op=>?_,λi op=>?_,λi op=>?_,λacc i op=>?_⟩;rw[Dd];split;exact hU i op;exact Pm (hL (k+1) i op) λv i' _ h1 h2 h3=>(hO k v i' op).from h1 (λ_=>.inl (h2 rfl)) h3;rw[qp];split
  rename_i h;have:=Wj h;refine Pm (hL (k+1) (i+1) op) λv i' _ h1 h2 h3=>?_;split;exact Nl ⟨by omega,by simp,λ_=>h3 ga,rfl⟩;exact(hO k _ i' op).from ga (by simp) (λ_=>h3 ga);exact Nl ⟨by omega,by simp,λh=>h,rfl⟩;rw[Vn];split;exact neg _ _ _ _;split;exact neg _ _ _ _;exact hP i op;rw[Cq];split;exact kW (g:=λi op=>Dd T f 0 i op) λ_ _=>hL 0 _ _;split;exact Pm (Nl (R4 T i op)) λv i' _ h1 h2 h3=>Nl ⟨h1,λ_=>h2 rfl,h3,rfl⟩;refine Pm (Nl (CB T 2 i op)) λv i' _ h1 h2 h3=>?_;split;exact Pm (hI i' op) λv i2 _ g1 g2 g3=>Nl ⟨by omega,λ_=>by have:=h2 rfl;omega,λh=>g3 (h3 h),rfl⟩;split;exact Pm (hA i' op) λv i2 _ g1 g2 g3=>Nl ⟨by omega,λ_=>by have:=h2 rfl;omega,λh=>g3 (h3 h),rfl⟩;exact Nl ⟨h1,λ_=>h2 rfl,h3,rfl⟩;rw[Ap];exact kW (g:=λi op=>Dd T f 0 i op) λ_ _=>hL 0 _ _;rw[Sp];exact kW (g:=λi op=>Yn T f [] i op) λ_ _=>hB [] _ _;rw[Yn];split;exact Nl ⟨by omega,by simp,λh=>h,rfl⟩;refine Pm (s:=false) (j:=i) (yc:=op) ?_ λv i' _ h1 h2 h3=>?_;split;exact Nl ⟨by omega,by simp,λh=>h,rfl⟩;exact Jm.from (Nl (Mw T [44] i op)) ga (by simp) λh=>h;exact Pm (hL 0 i' op) λv i2 _ g1 g2 g3=>(hB _ i2 op).from ga (by simp) λh=>g3 (h3 h)
end Go.ia
namespace Go.ia
variable{T:List Tok}{i op:Nat}
theorem DK(T:List Tok):∀ f:Nat,(∀ i op,Jm T true i op (xp T f i op))/\(∀ acc i op,Jm T false i op (Lm T f acc i op))/\(∀ i op,Jm T true i op (Fq T f i op))/\(∀ i op,Jm T true i op (Mq T f i op))
 |0=>⟨λ_ _=>by rw[xp];exact iA,λ_ _ _=>by rw[Lm];exact iA,λ_ _=>by rw[Fq];exact iA,λ_ _=>by rw[Mq];exact iA⟩
 |f+1=>by
  obtain⟨hB,hL,hS,hM⟩:=DK T f;obtain⟨gL,_,_,_,gI,gA,_⟩:=Ky T f;refine⟨λi op=>?_,λacc i op=>?_,λi op=>?_,λi op=>?_⟩;rw[xp];exact kW (g:=λi op=>Lm T f [] i op) λ_ _=>hL [] _ _;rw[Lm];split;exact Nl ⟨by omega,by simp,λh=>h,rfl⟩;exact Pm (hS i op) λv i' _ h1 h2 h3=>(hL _ i' op).from h1 (by simp) h3;rw[Fq];split
  rename_i h;have:=Wj h;refine Pm (gL 0 (i+1) op) λv i' _ h1 h2 h3=>Pm (hB i' op) λw i2 _ g1 g2 g3=>?_;split
  rename_i h4;have:=Wj h4;refine Pm (hB (i2+1) op) λx i3 _ k1 k2 k3=>Nl ⟨by omega,λ_=>by omega,λ_=>k3 ga,rfl⟩;exact Nl ⟨by omega,λ_=>by omega,λ_=>g3 (h3 ga),rfl⟩;split
  rename_i h;have:=Wj h;exact Pm (gL 0 (i+1) op) λv i' _ h1 h2 h3=>Pm (hB i' op) λw i2 _ g1 g2 g3=>Nl ⟨by omega,λ_=>by omega,λ_=>g3 (h3 ga),rfl⟩;exact Pm (hM i op) λv i' _ h1 h2 h3=>Pm (Nl (Mw T [59] i' op)) λw i2 _ g1 g2 g3=>Nl ⟨by omega,λ_=>by have:=h2 rfl;omega,λhh=>g3 (h3 hh),rfl⟩;rw[Mq];split
  rename_i h;have:=Wj h;exact Pm (gL 0 (i+1) op) λv i' _ h1 h2 h3=>Nl ⟨by omega,λ_=>by omega,λ_=>h3 ga,rfl⟩;split
  rename_i h;have:=Wj h;exact Nl ⟨by omega,λ_=>by omega,λ_=>by omega,rfl⟩;refine Pm (Nl (CB T 2 i op)) λv i' _ h1 h2 h3=>?_;split;exact Pm (gA i' op) λw i2 _ g1 g2 g3=>Nl ⟨by omega,λ_=>by have:=h2 rfl;omega,λhh=>g3 (h3 hh),rfl⟩;split
  exact Pm (gI i' op) λw i2 _ g1 g2 g3=>Pm (Nl (Mw T [61] i2 op)) λu i3 _ k1 k2 k3=>Pm (gL 0 i3 op) λx i4 _ m1 m2 m3=>
   Nl ⟨by omega,λ_=>by have:=h2 rfl;omega,λhh=>m3 (k3 (g3 (h3 hh))),rfl⟩
  exact Pm (Nl (Mw T [61] i' op)) λu i3 _ k1 k2 k3=>Pm (gL 0 i3 op) λx i4 _ m1 m2 m3=>
   Nl ⟨by omega,λ_=>by have:=h2 rfl;omega,λhh=>m3 (k3 (h3 hh)),rfl⟩
theorem EG(T:List Tok):∀ (f:Nat) (acc:List (List UInt8)) (i op:Nat),Jm T (Ja T i [ME]) i op (Fk T f acc i op)
 |0,_,_,_=>by rw[Fk];exact iA
 |f+1,acc,i,op=>by
  rw[Fk];split;rename_i h;have:=Wj h;exact Pm (MI T f (i+1) op) λv i' _ h1 h2 h3=>Pm (Nl (Mw T [59] i' op)) λu i2 _ g1 g2 g3=>
   (EG T f _ i2 op).from ga (λ_=>.inl ga) (λ_=>g3 (h3 ga))
  rename_i h;exact Nl ⟨by omega,λhh=>absurd hh h,λh=>h,rfl⟩
def Ends{A:Type}(r:OR A):Prop:=∃ q,r=some q
theorem qh{A B:Type}{r:OR A}{f:A->Nat->Nat->OR B}(h:Ends r)(k:∀ v i op,r=some (.ok v i op)->Ends (f v i op)):Ends (ad r f):=by
 obtain⟨q,rfl⟩:=h;cases q with
 |ok v i op=>exact k v i op rfl
 |err l e=>exact⟨_,rfl⟩
theorem rh{A:Type}{r:pk A}:Ends (some r):=⟨_,rfl⟩
theorem OI{B:Type}{x:List UInt8}{g:Unit->Nat->Nat->OR B}(k:i<T.length->op<100->Ends (g () (i+1) (op+1))):Ends (ad (some (vn T x i op)) g):=
 qh rh λv i1 yc h1=>by injection h1 with h1;obtain⟨rfl,rfl,ho,hi⟩:=Pw h1;exact k hi ho
theorem qud(T:List Tok):∀ f:Nat,(∀ k i op,k<=6->i<=T.length->10 * (T.length-i)+20-k<=f->Ends (Dd T f k i op))/\(∀ k e i op,k<=5->i<=T.length->10 * (T.length-i)+11<=f->Ends (qp T f k e i op)) /\
  (∀ i op,i<=T.length->10 * (T.length-i)+13<=f->Ends (Vn T f i op))/\(∀ i op,i<=T.length->10 * (T.length-i)+12<=f->Ends (Cq T f i op))/\(∀ i op,i<=T.length->10 * (T.length-i)+11<=f->Ends (Ap T f i op)) /\
  (∀ i op,i<=T.length->10 * (T.length-i)+12<=f->Ends (Sp T f i op))/\(∀ acc i op,i<=T.length->10 * (T.length-i)+21<=f->Ends (Yn T f acc i op))
 |0=>⟨λ_ _ _ _ _ _=>by omega,λ_ _ _ _ _ _ _=>by omega,λ_ _ _ _=>by omega,λ_ _ _ _=>by omega,λ_ _ _ _=>by omega,λ_ _ _ _=>by omega,λ_ _ _ _ _=>by omega⟩
 |f+1=>by
  obtain⟨hL,hO,hU,hP,hI,hA,hB⟩:=qud T f;obtain⟨gL,gO,gU,gP,gI,gA,gB⟩:=Ky T f;have neg:∀ (x nm:List UInt8) (i op:Nat),10 * (T.length-i)+13<=f+1->Ends (ad (some (vn T x i op)) λ_ i' La=>ad (Vn T f i' La) λe i' La=>some (.ok (Ex.mk nm 0 [] [e]) i' (La-1))):=λx nm i op hf=>
   OI λhi ho=>qh (hU _ _ ga ga) λv i2 xg _=>rh
  refine⟨λk i op hk hi hf=>?_,λk e i op hk hi hf=>?_,λi op hi hf=>?_,λi op hi hf=>?_,λi op hi hf=>?_,λi op hi hf=>?_,λacc i op hi hf=>?_⟩;rw[Dd];split;exact hU i op hi ga;refine qh (hL (k+1) i op ga hi ga) λv i' La h=>?_;obtain⟨g1,g2,g3,rfl⟩:=gL (k+1) i op _ h;have:=g2 rfl;exact hO k v i' La ga (g3 hi) (by have:=g3 hi;omega);rw[qp];split
  rename_i h;have:=Wj h;refine qh (hL (k+1) (i+1) op ga ga ga) λv i' La h=>?_;obtain⟨g1,g2,g3,rfl⟩:=gL (k+1) (i+1) op _ h;have:=g3 ga;split;exact rh;exact hO k _ i' La hk this ga;exact rh;rw[Vn];split;exact neg _ _ _ _ hf;split;exact neg _ _ _ _ hf;exact hP i op hi ga;rw[Cq];split;exact OI λKa ho=>qh (hL 0 _ _ ga ga ga) λv i2 xg _=>qh rh λ_ _ _ _=>rh;split;exact qh rh λ_ _ _ _=>rh;refine qh rh λv i' La h=>?_;injection h with h;have hg:=CB T 2 i op;rw[h] at hg;obtain⟨h1,h2,h3,rfl⟩:=hg;have:=h2 rfl;have:=h3 hi;split;exact qh (hI i' _ ga ga) λ_ _ _ _=>rh;split;exact qh (hA i' _ ga ga) λ_ _ _ _=>rh;exact rh;rw[Ap];exact OI λKa ho=>qh (hL 0 _ _ ga ga ga) λv i2 xg _=>qh rh λ_ _ _ _=>rh;rw[Sp];exact OI λKa ho=>qh (hB [] _ _ ga ga) λv i2 xg _=>qh rh λ_ _ _ _=>rh;rw[Yn];split;exact rh;refine qh rh λv i' La h=>?_
  have hg:i<=i'/\i'<=T.length:=by injection h with h;split at h;cases h;exact⟨Pb _,hi⟩;have hg:=Mw T [44] i op;rw[h] at hg;exact⟨hg.1,hg.2.2.1 hi⟩
  refine qh (hL 0 i' La ga hg.2 ga) λv2 i2 xg h2=>?_;obtain⟨g1,g2,g3,rfl⟩:=gL 0 i' La _ h2;have:=g2 rfl;have:=g3 hg.2;exact hB _ i2 _ this ga
theorem qsY(T:List Tok):∀ f:Nat,(∀ i op,i<=T.length->10 * (T.length-i)+5<=f->Ends (xp T f i op))/\(∀ acc i op,i<=T.length->10 * (T.length-i)+14<=f->Ends (Lm T f acc i op)) /\
  (∀ i op,i<=T.length->10 * (T.length-i)+13<=f->Ends (Fq T f i op))/\(∀ i op,i<=T.length->10 * (T.length-i)+12<=f->Ends (Mq T f i op))
 |0=>⟨λ_ _ _ _=>by omega,λ_ _ _ _ _=>by omega,λ_ _ _ _=>by omega,λ_ _ _ _=>by omega⟩
 |f+1=>by
  obtain⟨hB,hL,hS,hM⟩:=qsY T f;obtain⟨eL,_,_,_,eI,eA,_⟩:=qud T f;obtain⟨gL,_,_,_,gI,gA,_⟩:=Ky T f;obtain⟨kB,kL,kS,kM⟩:=DK T f;refine⟨λi op hi hf=>?_,λacc i op hi hf=>?_,λi op hi hf=>?_,λi op hi hf=>?_⟩;rw[xp];exact OI λKa ho=>qh (hL [] _ _ ga ga) λv i2 xg _=>qh rh λ_ _ _ _=>rh;rw[Lm];split;exact rh;refine qh (hS i op hi ga) λv i' La h=>?_;obtain⟨g1,g2,g3,rfl⟩:=kS i op _ h;have:=g2 rfl;have:=g3 hi;exact hL _ i' _ ga ga;rw[Fq];split
  rename_i h;have:=Wj h;refine qh (eL 0 (i+1) op ga ga ga) λv i' La h=>?_;obtain⟨g1,g2,g3,rfl⟩:=gL 0 (i+1) op _ h;have:=g2 rfl;have:=g3 ga;refine qh (hB i' _ ga ga) λv2 i2 xg h2=>?_;obtain⟨q1,q2,q3,rfl⟩:=kB i' _ _ h2;have:=q3 ga;split
  rename_i h4;have:=Wj h4;exact qh (hB (i2+1) _ ga ga) λ_ _ _ _=>rh;exact rh;split
  rename_i h;have:=Wj h;refine qh (eL 0 (i+1) op ga ga ga) λv i' La h=>?_;obtain⟨g1,g2,g3,rfl⟩:=gL 0 (i+1) op _ h;have:=g2 rfl;have:=g3 ga;exact qh (hB i' _ ga ga) λv2 i2 xg h2=>rh;exact qh (hM i op hi ga) λ_ _ _ _=>qh rh λ_ _ _ _=>rh;rw[Mq];split
  rename_i h;have:=Wj h;exact qh (eL 0 (i+1) op ga ga ga) λ_ _ _ _=>rh;split;exact rh;refine qh rh λv i' La h=>?_;injection h with h;have hg:=CB T 2 i op;rw[h] at hg;obtain⟨h1,h2,h3,rfl⟩:=hg;have:=h2 rfl;have:=h3 hi;split;exact qh (eA i' _ ga ga) λ_ _ _ _=>rh
  have tail:∀ (i2 xg:Nat) (g:Ex->Sm),i'<=i2->i2<=T.length->Ends (ad (some (Sn T [61] i2 xg)) λ_ i' La=>ad (Dd T f 0 i' La) λe i' La=>some (.ok (g e) i' La)):=λi2 xg g NB Dx=>by refine qh rh λv i3 wg h3=>?_;injection h3 with h3;have hg:=Mw T [61] i2 xg;rw[h3] at hg;have:=hg.2.2.1 Dx;have:=hg.1;exact qh (eL 0 i3 _ ga ga ga) λ_ _ _ _=>rh
  split;refine qh (eI i' _ ga ga) λv2 i2 xg h2=>?_;obtain⟨q1,q2,q3,rfl⟩:=gI i' _ _ h2;exact tail i2 _ _ q1 (q3 ga);exact tail i' _ _ (Pb _) ga
theorem qfY(T:List Tok):∀ (f:Nat) (acc:List (List UInt8)) (i op:Nat),i<=T.length->T.length-i+1<=f->Ends (Nq T f acc i op)
 |0,_,_,_,_,h=>by omega
 |f+1,acc,i,op,hi,hf=>by rw[Nq];split;rename_i h;have:=Wj h;refine qh rh λv i' La h=>?_;injection h with h;have hg:=CB T 2 (i+1) op;rw[h] at hg;obtain⟨h1,h2,h3,rfl⟩:=hg;exact qfY T f _ i' _ (h3 ga) (by have:=h3 ga;omega);exact rh
theorem qkv(T:List Tok)(f i op:Nat)(hi:i<=T.length)(hf:T.length-i+1<=f):Ends (Hy T f i op):=
 qh rh λv i' La h=>by injection h with h;have hg:=CB T 2 i op;rw[h] at hg;obtain⟨h1,h2,h3,rfl⟩:=hg;exact qfY T f _ i' _ (h3 hi) (by have:=h3 hi;omega)
theorem R3(T:List Tok):∀ (f:Nat) (acc:List (List UInt8)) (i op:Nat),i<=T.length->T.length-i+2<=f->Ends (Fk T f acc i op)
 |0,_,_,_,_,h=>by omega
 |f+1,acc,i,op,hi,hf=>by rw[Fk];split;rename_i h;have:=Wj h;refine qh (qkv T f (i+1) op ga ga) λv i' La h=>?_;obtain⟨g1,g2,g3,rfl⟩:=MI T f (i+1) op _ h;have:=g3 ga;refine qh rh λv i2 xg h2=>?_;injection h2 with h2;have hg:=Mw T [59] i' La;rw[h2] at hg;obtain⟨h1,h2,h3,rfl⟩:=hg;have:=h3 ga;exact R3 T f _ i2 _ ga ga;exact rh
theorem qlN{B:Type}{k:Int}{g:List UInt8->Nat->Nat->OR B}(h:∀ s,i<T.length->Ends (g s (i+1) op)):Ends (ad (some (qn T k i op)) g):=
 qh rh λv i' La hw=>by injection hw with hw;unfold qn at hw;split at hw;rename_i t ht;have:=wK ht;split at hw;cases hw;exact h _ this;cases hw;cases hw
theorem qvH{B:Type}{x:List UInt8}{g:Unit->Nat->Nat->OR B}(h:i<T.length->Ends (g () (i+1) (op-1))):Ends (ad (some (Nh T x i op)) g):=
 qh rh λv i' La hw=>by injection hw with hw;obtain⟨rfl,rfl,Ka⟩:=CK hw;exact h Ka
theorem qrZ(T:List Tok)(f i op:Nat)(hi:i<=T.length)(hf:10 * (T.length-i)+14<=f):Ends (Vv T f i op):=by
 unfold Vv;refine qlN λs h1=>OI λh2 h3=>qh ?_ λv i2 xg h4=>qvH λh5=>OI λh6 h7=>qh (R3 T f [] _ _ ga ?_) λv2 i3 wg h8=>qh ((qsY T f).2.1 [] _ _ ?_ ?_) λv3 i4 Zn h9=>qh rh λ_ _ _ _=>rh;split;exact rh;exact qkv T f _ _ ga ga
 have:i+1+1<=i2:=by split at h4;cases h4;omega;exact(MI T f _ _ _ h4).1
 omega;exact(EG T f _ _ _ _ h8).2.2.1 ga;have:i+1+1<=i2:=by split at h4;cases h4;omega;exact(MI T f _ _ _ h4).1
 have:=(EG T f _ _ _ _ h8).1;omega
theorem uR(T:List Tok)(f i op:Nat):Jm T true i op (Vv T f i op):=by
 intro q yS;unfold Vv at yS;cases q with
 |err l e=>trivial
 |ok v i9 op9=>
  rcases Kk yS with⟨s,i1,yc,h1,U6⟩|⟨l,e,_,h⟩;injection h1 with h1;have g1:=CB T 2 i op;rw[h1] at g1;obtain⟨a1,a2,a3,rfl⟩:=g1;have:=a2 rfl;rcases Kk U6 with⟨_,i2,xg,h2,T6⟩|⟨l,e,_,h⟩;injection h2 with h2;obtain⟨rfl,rfl,b1,b2⟩:=Pw h2;rcases Kk T6 with⟨ps,i3,wg,h3,S6⟩|⟨l,e,_,h⟩;have c:i1+1<=i3/\(i1+1<=T.length->i3<=T.length)/\wg=yc+1:=by split at h3;cases h3;exact⟨Pb _,λh=>h,rfl⟩;obtain⟨c1,_,c3,c4⟩:=MI T f _ _ _ h3;exact⟨c1,c3,c4⟩
  obtain⟨c1,c2,rfl⟩:=c;rcases Kk S6 with⟨_,i4,Zn,h4,R6⟩|⟨l,e,_,h⟩;injection h4 with h4;obtain⟨rfl,rfl,d1⟩:=CK h4;rcases Kk R6 with⟨_,i5,rL,h5,Q6⟩|⟨l,e,_,h⟩;injection h5 with h5;obtain⟨rfl,rfl,e1,e2⟩:=Pw h5;rcases Kk Q6 with⟨ls,i6,D5,h6,P6⟩|⟨l,e,_,h⟩;obtain⟨f1,_,f3,rfl⟩:=EG T f _ _ _ _ h6;have:=f3 ga;rcases Kk P6 with⟨bs,i7,op7,h7,hq7⟩|⟨l,e,_,h⟩;obtain⟨k1,_,k3,rfl⟩:=(DK T f).2.1 _ _ _ _ h7;have:=k3 ga;rcases Kk hq7 with⟨_,i8,op8,h8,hq8⟩|⟨l,e,_,h⟩;injection h8 with h8;obtain⟨rfl,rfl,m1⟩:=CK h8;cases hq8;exact⟨by omega,λ_=>by omega,λ_=>by omega,by omega⟩;cases h;cases h;cases h;cases h;cases h;cases h;cases h;cases h
theorem nR(T:List Tok)(i op:Nat):Jm T true i op (Vz T i op):=by
 intro q yS;unfold Vz at yS;cases q with
 |err l e=>trivial
 |ok v i9 op9=>rcases Kk yS with⟨s,i1,yc,h1,U6⟩|⟨l,e,_,h⟩;injection h1 with h1;have g1:=CB T 2 i op;rw[h1] at g1;obtain⟨a1,a2,a3,rfl⟩:=g1;have:=a2 rfl;rcases Kk U6 with⟨_,i2,xg,h2,T6⟩|⟨l,e,_,h⟩;injection h2 with h2;obtain⟨rfl,rfl,b1,b2⟩:=Pw h2;rcases Kk T6 with⟨ps,i3,wg,h3,S6⟩|⟨l,e,_,h⟩;injection h3 with h3;have g3:=R4 T (i1+1) (yc+1);rw[h3] at g3;obtain⟨c1,c2,c3,rfl⟩:=g3;have:=c2 rfl;rcases Kk S6 with⟨_,i4,Zn,h4,R6⟩|⟨l,e,_,h⟩;injection h4 with h4;obtain⟨rfl,rfl,d1⟩:=CK h4;rcases Kk R6 with⟨_,i5,rL,h5,Q6⟩|⟨l,e,_,h⟩;injection h5 with h5;have g5:=Mw T [59] (i3+1) Zn;rw[h5] at g5;obtain⟨e1,e2,e3,rfl⟩:=g5;have:=e2 rfl;have:=e3 ga;cases Q6;exact⟨by omega,λ_=>by omega,λ_=>by omega,by omega⟩;cases h;cases h;cases h;cases h;cases h
theorem qpt(T:List Tok)(i op:Nat):Ends (Vz T i op):=by unfold Vz;exact qlN λs _=>OI λ_ _=>qh rh λ_ _ _ _=>qh rh λ_ _ _ _=>qh rh λ_ _ _ _=>rh
theorem dO(T:List Tok):∀ (f:Nat) (p:Pr) (i op:Nat),i<=T.length->10 * (T.length-i)+20<=f->Ends (Ll T f p i op)
 |0,_,_,_,_,h=>by omega
 |f+1,p,i,op,hi,hf=>by
  rw[Ll];split;exact rh;split;rename_i h;have:=Wj h;refine qh (R3 T f _ i op hi ga) λv i' La h2=>?_;obtain⟨g1,g2,g3,rfl⟩:=EG T f _ i op _ h2;have:=g2 h;have:=g3 hi;exact dO T f _ i' _ ga ga;split
  rename_i h;have:=Wj h;refine qh (qpt T _ _) λv i' La h2=>?_;obtain⟨g1,g2,g3,rfl⟩:=nR T _ _ _ h2;have:=g3 ga;exact dO T f _ i' _ ga ga;split
  rename_i h;have:=Wj h;refine qh (qrZ T f _ _ ga ga) λv i' La h2=>?_;obtain⟨g1,g2,g3,rfl⟩:=uR T f _ _ _ h2;have:=g3 ga;exact dO T f _ i' _ ga ga;exact rh
open Go.Lib
variable{c:UInt8}{cur:List UInt8}{n:Nat}
theorem qmV(M:Nat):∀ (l r:List UInt8) (acc u:Nat),parseUintM M acc l=.ok u->parseUintM M acc (l++r)=parseUintM M u r
 |[],r,acc,u,h=>by rw[parseUintM] at h;cases h;rfl
 |c::l,r,acc,u,h=>by rw[parseUintM] at h;rw[cons_append,parseUintM];split at h;rename_i hc;rw[zp hc];split at h;cases h;rename_i h1;rw[zn h1];split at h;cases h;rename_i h2;rw[zn h2];exact qmV M l r _ u h;cases h
theorem qkK{d:Nat}(h:d<10):(UInt8.ofNat (48+d)).toNat=48+d:=by rw[UInt8.toNat_ofNat'];omega
theorem qBT(M:Nat)(hM:M<=4294967295)(u:Nat)(hu:u<=M):parseUintM M 0 (decDigits u)=.ok u:=by
 induction u using Nat.strongRecOn with
 |_ u ih=>
  have one:∀ a d,d<10->a * 10+d<=M->parseUintM M a [UInt8.ofNat (48+d)]=.ok (a * 10+d):=λa d hd ha=>by rw[parseUintM,qkK hd,zp (by omega),zn (by omega),zn (by omega),parseUintM];congr 1;omega
  rw[decDigits];split;have:=one 0 u (by assumption) ga;simpa using this;rw[qmV M _ _ 0 (u / 10) (ih (u / 10) (by omega) (by omega)),one _ _ (by omega) (by omega)];congr 1;omega
theorem WK(u:Nat):decDigits u≠[]:=by rw[decDigits];split <;> simp
theorem M0(u:Nat)(hu:u<4294967296):parseUintB 32 (decDigits u)=.ok u:=by rw[parseUintB,zn (WK u)];exact qBT _ ea u ga
theorem LW:∀ (k u:Nat),u<10 ^ (k+1)->nDigits u<=k+1
 |0,u,h=>by rw[nDigits_small (by simpa using h)];omega
 |k+1,u,h=>by by_cases hu:u<10;rw[nDigits_small hu];omega;rw[nDigits_big hu];have:=LW k (u / 10) (by rw[Nat.pow_succ] at h;omega);omega
theorem sN{u:Nat}(hu:u<4294967296):(decDigits u).length<=10:=by rw[decDigits_length];exact LW 9 u ga
theorem HZ{l:List UInt8}{u:Nat}(h:parseUintB 32 l=.ok u):u<4294967296:=by
 have key:∀ (l:List UInt8) (acc u:Nat),acc<=4294967295->parseUintM 4294967295 acc l=.ok u->u<=4294967295:=by
  intro l;induction l with
  |nil=>intro acc u ha h;rw[parseUintM] at h;cases h;exact ha
  |cons c l ih=>intro acc u ha h;rw[parseUintM] at h;split at h;split at h;cases h;split at h;cases h;exact ih _ _ ga h;cases h
 rw[parseUintB] at h;split at h;cases h;have:=key _ _ _ ga h;omega
def qAz(t:Tok):Prop:=t.text.length<=100/\(t.kind=1->∃ u,u<4294967296/\parseUintB 32 t.text=.ok u/\t.text=decDigits u)
theorem qpQ(s:List UInt8)(h:(eh s).2.2=0):qAz (eh s).1:=by
 match s with
 |[]=>simp[eh,Jo] at h
 |c::r=>
  simp only[eh] at h ⊢;split at h <;> rename_i hc;rw[zp hc];unfold LI at h ⊢;split at h;simp[Jo] at h
  rename_i hw;rw[zn hw];split at h;rename_i u hu;have Ka:=HZ hu;exact⟨by have:=sN Ka;simp only;omega,λ_=>⟨u,Ka,M0 u Ka,rfl⟩⟩;simp[Jo] at h;rw[zn hc];split at h <;> rename_i hl;rw[zp hl];unfold rI at h ⊢;split at h;simp[Jo] at h
  rename_i hw;rw[zn hw];refine⟨by simp only;omega,λhk=>?_⟩;simp only at hk;split at hk <;> cases hk;rw[zn hl];split at h <;> rename_i hq;rw[zp hq];unfold FG at h ⊢;split at h;split at h;simp[Jo] at h
  rename_i hx;rename_i yH;rename_i b _ _;rw[zn hx];have hb:b.toNat<4294967296:=Nat.lt_trans (UInt8.toNat_lt b) ea;exact⟨by have:=sN hb;simp only;omega,λ_=>⟨b.toNat,hb,M0 _ hb,rfl⟩⟩;simp[Jo] at h;rw[zn hq];unfold FK at h ⊢;split at h
  rename_i x hx;have h2:=List.mem_of_find?_eq_some hx;have:∀ x∈Kl,x.length<=100:=by decide
  exact⟨this x h2,λhk=>by cases hk⟩;simp[Jo] at h
theorem qBU{A B:Type}{f:A->B}{r:Except (Int×Int) A}{b:B}(h:r.map f=.ok b):∃ a,r=.ok a/\f a=b:=by
 cases r with
 |ok a=>exact⟨a,rfl,by injection h⟩
 |error e=>cases h
theorem mZ:∀ (f:Nat) (s:List UInt8) (line:Int) (T:List Tok),Ke f s line=.ok T->T.length<=f/\∀ t∈T,qAz t
 |0,s,line,T,h=>by rw[Ke] at h;cases h;exact⟨Pb _,by simp⟩
 |f+1,s,line,T,h=>by rw[Ke] at h;split at h;cases h;exact⟨zero_le _,by simp⟩;split at h;split at h;cases h;rename_i he;obtain⟨T',h1,rfl⟩:=qBU h;obtain⟨k1,k2⟩:=mZ f _ _ _ h1;refine⟨by rw[Ma];omega,λt ht=>?_⟩;rcases Dc.1 ht with rfl|ht;exact qpQ s ga;exact k2 t ht;obtain⟨k1,k2⟩:=mZ f _ _ _ h;exact⟨by omega,k2⟩
abbrev Wd:=List UInt8
variable{s:Wd}
def Db(w:Wd):Option Nat:=match Go.Lib.parseUintB 32 w with
 |.ok u=>if Go.Lib.decDigits u=w then some u else none
 |_=>none
def Sv(s:Wd):Bool:=match s with
 |[]=>false
 |c::r=>decide (s.length<=40) && Ml c && s.all Si
def ya(w:Wd):Option Wd:=if w.getLast? = some 58/\Sv w.dropLast=true then some w.dropLast else none
def Va(w:Wd):Option Wd:=match w with
 |[]=>none
 |c::r=>if c=38/\Sv r=true then some r else none
def na(l:List Wd)(i:Nat):Wd:=(l[i]?).getD []
def Tp(a:Nat)(op:Wd)(b:Nat):Option Nat:=
 if op=[43] then some ((a+b) % 4294967296)
 else if op=[45] then some ((a+4294967296-b) % 4294967296)
 else if op=[42] then some (a * b % 4294967296)
 else if op=[94] then some (a ^^^ b)
 else if op=[60] then some (if a<b then 1 else 0)
 else if op=[47] then (if b=0 then none else some (a / b))
 else if op=[37] then (if b=0 then none else some (a % b))
 else none
def Mk(x op y:Wd):Option Wd:=match Db x,Db y with
 |some a,some b=>match Tp a op b with
  |some c=>if (Go.Lib.decDigits c).length<=x.length+y.length+1 then some (Go.Lib.decDigits c) else none
  |none=>none
 |_,_=>none
def mn(v:List Wd)(i:Nat):Option Wd:=match Va (na v i) with
 |some l=>if na v (i+1)=[63] then some l else none
 |none=>none
abbrev Rs:=Nat×List Wd
def Rz(v:List Wd):Rs:=match Mk (na v 0) (na v 2) (na v 1) with
 |some s=>(3,[s])
 |none=>(0,[])
def JC(v:List Wd):Rs:=
 if na v 0=[48]/\(na v 1=[43]∨na v 1=[45]∨na v 1=[94])∨na v 0=[49]/\(na v 1=[42]∨na v 1=[47]) then (2,[]) else (0,[])
def bA(v:List Wd):Rs:=
 if (na v 1=[43]∨na v 1=[42]∨na v 1=[94])/\na v 3=na v 1 then
  (match Mk (na v 0) (na v 1) (na v 2) with
  |some s=>(4,[s,na v 1])
  |none=>(0,[]))
 else (0,[])
def jB(v:List Wd):Rs:=if (Db (na v 0)).isSome=true/\na v 1=[64]/\na v 2=na v 0/\na v 3=[33] then (4,[]) else (0,[])
def yB(v:List Wd):Rs:=if (mn v 4).isSome=true/\na v 0=[49]/\na v 1=[60]/\na v 2=[49]/\na v 3=[60] then (6,[na v 4,na v 5]) else (0,[])
def Wz(v:List Wd):Rs:=match Db (na v 0) with
 |some n=>if n≠0/\(mn v 1).isSome=true then (3,[]) else (0,[])
 |none=>(0,[])
def vu(l:Wd):List Wd->Bool
 |[]=>false
 |w::r=>match ya w with
  |some d=>decide (d=l) || vu l r
  |none=>false
def Lz(v:List Wd):Rs:=match mn v 1 with
 |some l=>if na v 0=[48]/\vu l (v.drop 3)=true then (3,[]) else (0,[])
 |none=>(0,[])
def uk(v:List Wd):Nat:=if (mn v 1).isSome=true/\na v 0=[48] then 3 else if na v 0=[59]∨na v 0=[36] then 1 else 0
def zr(v:List Wd):Nat:=(v.takeWhile λw=>(ya w).isNone).length
def nB(v:List Wd):Rs:=if 0<uk v/\0<zr (v.drop (uk v)) then (uk v+zr (v.drop (uk v)),v.take (uk v)) else (0,[])
def Xv(la:Wd->Bool)(v:List Wd):Rs:=match ya (na v 0) with
 |some l=>if la l=true then (0,[]) else (1,[])
 |none=>(0,[])
def Se(la:Wd->Bool)(v:List Wd):Rs:=
 if (Rz v).1≠0 then Rz v else if (JC v).1≠0 then JC v else if (bA v).1≠0 then bA v else if (jB v).1≠0 then jB v else if (yB v).1≠0 then yB v else
 if (Wz v).1≠0 then Wz v else if (Lz v).1≠0 then Lz v else if (nB v).1≠0 then nB v else Xv la v
def Xk(la:Wd->Bool):Nat->List Wd->List Wd
 |0,_=>[]
 |_+1,[]=>[]
 |f+1,w::r=>if (Se la (w::r)).1=0 then w::Xk la f r else (Se la (w::r)).2++Xk la f ((w::r).drop (Se la (w::r)).1)
def Jd(l:List Wd)(s:Wd):Bool:=l.any λw=>decide (Va w=some s)
def Gq(l:List Wd):List Wd:=Xk (Jd l) l.length l
theorem Br{v:List Wd}(h:na v i≠[]):i<v.length:=by rcases lt_or_ge i v.length with h1|h1;exact h1;exact absurd (by simp[na,List.getElem?_eq_none h1]) h
theorem qt5{w:Wd}(h:Db w=some n):w≠[]:=by
 rintro rfl;have:Db []=none:=by decide +kernel
 rw[this] at h;cases h
theorem BB{v:List Wd}{l:Wd}(h:mn v i=some l):i+1<v.length:=by unfold mn at h;split at h;split at h;rename_i h2;exact Br (by rw[h2];decide);cases h;cases h
theorem qAh{a b:Nat}{op:Wd}{c:Nat}(h:Tp a op b=some c):op≠[]:=by rintro rfl;have:Tp a [] b=none:=rfl;rw[this] at h;cases h
theorem HG{x op y:Wd}(h:Mk x op y=some s):x≠[]/\op≠[]/\y≠[]:=by unfold Mk at h;split at h;rename_i a b ha hb;split at h;rename_i c hc;exact⟨qt5 ha,qAh hc,qt5 hb⟩;cases h;cases h
def DC(v:List Wd)(r:Rs):Prop:=r.1≠0->r.1<=v.length/\r.2.length<r.1
theorem fA(v:List Wd):DC v (0,[]):=λh=>absurd rfl h
theorem qAp(v:List Wd):DC v (Rz v):=by unfold Rz;split;rename_i s h;obtain⟨_,h2,_⟩:=HG h;have:=Br h2;exact λ_=>⟨by simp only;omega,by simp⟩;exact fA v
theorem qso(v:List Wd):DC v (JC v):=by
 unfold JC;split;rename_i h;have:na v 1≠[]:=by intro h0;rw[h0] at h;rcases h with⟨_,h|h|h⟩|⟨_,h|h⟩ <;> cases h
 have:=Br this;exact λ_=>⟨by simp only;omega,by simp⟩;exact fA v
theorem qrF(v:List Wd):DC v (bA v):=by
 unfold bA;split;rename_i h;split;rename_i s hs;have h3:na v 3≠[]:=by rw[h.2];exact(HG hs).2.1
 have:=Br h3;exact λ_=>⟨by simp only;omega,by simp⟩;exact fA v;exact fA v
theorem qzd(v:List Wd):DC v (jB v):=by unfold jB;split;rename_i h;have:=Br (v:=v) (i:=3) (by rw[h.2.2.2];decide);exact λ_=>⟨by simp only;omega,by simp⟩;exact fA v
theorem quw(v:List Wd):DC v (yB v):=by unfold yB;split;rename_i h;obtain⟨l,hl⟩:=zR h.1;have:=BB hl;exact λ_=>⟨by simp only;omega,by simp⟩;exact fA v
theorem qwa(v:List Wd):DC v (Wz v):=by unfold Wz;split;split;rename_i h;obtain⟨l,hl⟩:=zR h.2;have:=BB hl;exact λ_=>⟨by simp only;omega,by simp⟩;exact fA v;exact fA v
theorem qAq(v:List Wd):DC v (Lz v):=by unfold Lz;split;rename_i l hl;split;have:=BB hl;exact λ_=>⟨by simp only;omega,by simp⟩;exact fA v;exact fA v
theorem qyX(v:List Wd):uk v<=v.length:=by unfold uk;split;rename_i h;obtain⟨l,hl⟩:=zR h.1;have:=BB hl;omega;split;rename_i h;have:=Br (v:=v) (i:=0) (by rcases h with h|h <;> rw[h] <;> decide);omega;omega
theorem qzz(v:List Wd):DC v (nB v):=by unfold nB;split;rename_i h;intro _;have h1:=qyX v;have h2:zr (v.drop (uk v))<=(v.drop (uk v)).length:=(List.takeWhile_prefix _).length_le;rw[length_drop] at h2;simp only[length_take];omega;exact fA v
theorem qug(la:Wd->Bool)(v:List Wd):DC v (Xv la v):=by
 unfold Xv;split;rename_i l hl;split;exact fA v;have:na v 0≠[]:=by intro h0;rw[h0] at hl;cases hl
 have:=Br this;exact λ_=>⟨by simp only;omega,by simp⟩;exact fA v
theorem wI(la:Wd->Bool)(v:List Wd):DC v (Se la v):=by unfold Se;split;exact qAp v;split;exact qso v;split;exact qrF v;split;exact qzd v;split;exact quw v;split;exact qwa v;split;exact qAq v;split;exact qzz v;exact qug la v
theorem R1(la:Wd->Bool):∀ (f:Nat) (l:List Wd),(Xk la f l).length<=l.length
 |0,l=>zero_le _
 |f+1,[]=>Pb _
 |f+1,w::r=>by rw[Xk];split;have:=R1 la f r;simp only[Ma];omega;rename_i h;obtain⟨h1,h2⟩:=wI la (w::r) h;have:=R1 la f ((w::r).drop (Se la (w::r)).1);rw[length_drop] at this;rw[Ga];omega
theorem EW(hc:vB c=true)(b:List UInt8):Lo (c::b)=(b.takeWhile vB).length+1:=by
 have h47:([47,47]:List UInt8).isPrefixOf (c::b)=false:=by
  cases h:([47,47]:List UInt8).isPrefixOf (c::b) with
  |false=>rfl
  |true=>simp only[List.isPrefixOf,Ed,beq_iff_eq] at h;rw[<-h.1] at hc;exact absurd hc ea
 unfold Lo;rw[h47,zn ea,takeWhile_cons_of_pos hc];try rfl
theorem T1:∀ (f g:Nat) (s:List UInt8) (line:Int),s.length<=f->s.length<=g->Ke f s line=Ke g s line
 |0,g,s,line,hf,_=>by
  have:s=[]:=List.eq_nil_of_length_eq_zero ga;subst this;cases g with
  |zero=>rfl
  |succ g=>rw[Ke,Ke,zp rfl]
 |f+1,0,s,line,_,hg=>by have:s=[]:=List.eq_nil_of_length_eq_zero ga;subst this;rw[Ke,Ke,zp rfl]
 |f+1,g+1,s,line,hf,hg=>by rw[Ke,Ke];by_cases h0:s=[];rw[zp h0,zp h0];rw[zn h0,zn h0];by_cases hk:Lo s=0;rw[zp hk,zp hk];by_cases he:(eh s).2.2≠0;rw[zp he,zp he];rw[zn he,zn he];obtain⟨h1,h2⟩:=M4 s (by simpa using he);rw[T1 f g _ _ (by rw[length_drop];omega) (by rw[length_drop];omega)];rw[zn hk,zn hk];exact T1 f g _ _ (by rw[length_drop];omega) (by rw[length_drop];omega)
def Pz(s:List UInt8)(line:Int):Except (Int×Int) (List Tok):=Ke s.length s line
theorem TE{f:Nat}{s:List UInt8}(h:s.length<=f)(line:Int):Ke f s line=Pz s line:=T1 _ _ _ _ h (Pb _)
theorem qnS(line:Int):Pz [] line=.ok []:=rfl
theorem Y3(hc:vB c=true)(b:List UInt8)(line:Int):Pz (c::b) line=Pz b (line+(([c]:List UInt8).count 10:Nat)):=by
 rw[<-TE (f:=b.length+1) (by simp),Ke,zn (by simp),zn (by rw[EW hc];omega),EW hc,List.drop_succ_cons,List.take_succ_cons,TE (by rw[length_drop];omega)];cases b with
 |nil=>simp[qnS]
 |cons d b=>by_cases hd:vB d=true;rw[<-TE (f:=b.length+1) (s:=d::b) (by simp),Ke,zn (by simp),zn (by rw[EW hd];omega),EW hd,takeWhile_cons_of_pos hd,Ma,List.drop_succ_cons,List.take_succ_cons,TE (by rw[length_drop];omega)];congr 1;rw[count_cons,List.count_singleton,count_cons];omega;rw[takeWhile_cons_of_neg hd];simp
theorem iV{p:UInt8->Bool}(hp:p 10=false)(b:List UInt8):∀ s:List UInt8,(s++10::b).takeWhile p=s.takeWhile p
 |[]=>by rw[nil_append,takeWhile_cons_of_neg (by simp[hp])];rfl
 |c::s=>by rw[cons_append];by_cases h:p c=true;rw[takeWhile_cons_of_pos h,takeWhile_cons_of_pos h,iV hp b s];rw[takeWhile_cons_of_neg h,takeWhile_cons_of_neg h]
theorem KZ(b:List UInt8):∀ (x s:List UInt8),(10:UInt8) ∉ x->x.isPrefixOf (s++10::b)=x.isPrefixOf s
 |[],s,_=>by simp
 |c::x,[],h=>by
  have:¬ c=10:=λhc=>h (by rw[hc];exact mem_cons_self ..)
  simp[List.isPrefixOf,this]
 |c::x,d::s,h=>by have:=KZ b x s λhx=>h (Oc _ hx);simp only[cons_append,List.isPrefixOf,this]
theorem qqp(b s:List UInt8):∀ L:List (List UInt8),(∀ x∈L,(10:UInt8) ∉ x)->L.find? (λx=>x.isPrefixOf (s++10::b))=L.find? (λx=>x.isPrefixOf s)
 |[],_=>rfl
 |x::L,h=>by rw[List.find?_cons,List.find?_cons,KZ b x s (h x Qe),qqp b s L λy hy=>h y (Oc _ hy)]
theorem qn1(b s:List UInt8)(hn:n<=s.length):QE (s++10::b) n=QE s n:=by
 unfold QE;rcases lt_or_ge n s.length with h|h;rw[List.getElem?_append_left h];have:n=s.length:=by omega
 subst this;rw[List.getElem?_append_right (Pb _),List.getElem?_eq_none (Pb _)];rw[Nat.sub_self,Jl];try rfl
theorem qm4(b s:List UInt8)(h:(eh s).2.2=0):eh (s++10::b)=eh s:=by
 match s with
 |[]=>simp[eh,Jo] at h
 |c::r=>
  simp only[cons_append,eh] at h ⊢;by_cases hc:qe c=true;rw[zp hc,zp hc];unfold LI;have e1:(c::(r++10::b)).takeWhile qe=(c::r).takeWhile qe:=iV ea b (c::r);have e2:=qn1 b (c::r) (TW qe (c::r));rw[cons_append] at e2;rw[e1,e2];rw[zn hc] at h ⊢;rw[zn hc];by_cases hl:Ml c=true;rw[zp hl,zp hl];unfold rI;have e1:(c::(r++10::b)).takeWhile Si=(c::r).takeWhile Si:=iV ea b (c::r);rw[e1];rw[zn hl] at h ⊢;rw[zn hl];by_cases hq:decide (cv c=39)=true;rw[zp hq] at h ⊢;rw[zp hq];match r with
  |[]=>simp[FG,Jo] at h
  |[d]=>simp[FG,Jo] at h
  |d::e::r=>rfl
  rw[zn hq,zn hq];unfold FK;have e1:=qqp b (c::r) Kl ea;rw[cons_append] at e1;rw[e1]
theorem vW(b:List UInt8):∀ (n:Nat) (s:List UInt8) (line:Int) (A:List Tok),s.length<=n->Pz s line=.ok A->Pz (s++10::b) line=(Pz b (line+(s.count 10:Nat)+1)).map (A++·)
 |n,[],line,A,_,h=>by rw[qnS] at h;cases h;rw[nil_append,Y3 ea];simp;cases Pz b (line+1) <;> rfl
 |0,c::r,_,_,hn,_=>by simp at hn
 |n+1,c::r,line,A,hn,h=>by
  by_cases hw:vB c=true;rw[Y3 hw] at h;rw[cons_append,Y3 hw,vW b n r _ A (by simpa using hn) h];rw[count_cons (l:=r),List.count_singleton];congr 2;omega;have WS:(c::r).takeWhile vB=[]:=takeWhile_cons_of_neg hw;have hp:([47,47]:List UInt8).isPrefixOf (c::r++10::b)=([47,47]:List UInt8).isPrefixOf (c::r):=KZ b [47,47] (c::r) ea;have hk:Lo (c::r++10::b)=Lo (c::r):=by unfold Lo;rw[hp,iV ea,WS,cons_append,takeWhile_cons_of_neg hw]
  rw[<-TE (f:=n+1) hn,Ke,zn (by simp)] at h;rw[<-TE (f:=(r++10::b).length+1) (by simp),Ke,zn (by simp),hk];by_cases hz:Lo (c::r)=0
  ·rw[zp hz] at h ⊢
   by_cases he:(eh (c::r)).2.2≠0;rw[zp he] at h;cases h;have Na:(eh (c::r)).2.2=0:=by simpa using he
   rw[zn he] at h;obtain⟨h1,h2⟩:=M4 _ Na;rw[qm4 b _ Na,zn he,List.drop_append_of_le_length h2,List.take_append_of_le_length h2];rw[TE (by rw[length_drop];omega)] at h;rw[TE (by simp only[Ga,length_drop,Ma] at h2 ⊢;omega)];cases hx:Pz ((c::r).drop (eh (c::r)).2.1) (line+(((c::r).take (eh (c::r)).2.1).count 10:Nat)) with
   |error e=>rw[hx] at h;cases h
   |ok A2=>
    rw[hx] at h;cases h;rw[vW b n _ _ A2 (by rw[length_drop];omega) hx];have hc:(c::r).count 10=((c::r).take (eh (c::r)).2.1).count 10+((c::r).drop (eh (c::r)).2.1).count 10:=by rw[<-count_append,List.take_append_drop]
    rw[show line+(((c::r).take (eh (c::r)).2.1).count 10:Nat)+(((c::r).drop (eh (c::r)).2.1).count 10:Nat)+1=line+((c::r).count 10:Nat)+1 by rw[hc];omega];try cases Pz b (line+((c::r).count 10:Nat)+1) <;> rfl
  rw[zn hz] at h ⊢;have h2:=qli (c::r);rw[List.drop_append_of_le_length h2,List.take_append_of_le_length h2];rw[TE (by rw[length_drop];omega)] at h;rw[TE (by simp only[Ga,length_drop,Ma] at h2 ⊢;omega)];rw[vW b n _ _ A (by rw[length_drop];omega) h];have hc:(c::r).count 10=((c::r).take (Lo (c::r))).count 10+((c::r).drop (Lo (c::r))).count 10:=by rw[<-count_append,List.take_append_drop]
  congr 2;rw[hc];omega
def kt(t:Tok):Int×List UInt8:=(t.kind,t.text)
theorem U2:∀ (f:Nat) (s:List UInt8) (l1 l2:Int) (A:List Tok),Ke f s l1=.ok A->∃ B,Ke f s l2=.ok B/\B.map kt=A.map kt
 |0,_,_,_,_,h=>by cases h;exact⟨[],rfl,rfl⟩
 |f+1,s,l1,l2,A,h=>by
  rw[Ke] at h ⊢;split at h;rename_i h0;cases h;rw[zp h0];exact⟨[],rfl,rfl⟩;rename_i h0;rw[zn h0];split at h
  ·rename_i hk
   rw[zp hk];split at h;cases h;rename_i he;rw[zn he];cases hx:Ke f (s.drop (eh s).2.1) (l1+((s.take (eh s).2.1).count 10:Nat)) with
   |error e=>rw[hx] at h;cases h
   |ok A2=>rw[hx] at h;cases h;obtain⟨B,h1,h2⟩:=U2 f _ _ (l2+((s.take (eh s).2.1).count 10:Nat)) A2 hx;rw[h1];exact⟨_,rfl,by rw[yd,yd,h2];try rfl⟩
  rename_i hk;rw[zn hk];exact U2 f _ _ _ A h
theorem qqj{d:Nat}(h:d<10):qe (UInt8.ofNat (48+d))=true:=by have h1:(UInt8.ofNat (48+d)).toNat=48+d:=qkK h;unfold qe cv;rw[h1];simp;omega
theorem XN(u:Nat):∀ c∈decDigits u,qe c=true:=by
 induction u using Nat.strongRecOn with
 |ind u ih=>intro c hc;by_cases h:u<10;rw[decDigits_one h] at hc;rw[aj hc];exact qqj h;rw[decDigits,dif_neg h] at hc;rcases xj hc with hc|hc;exact ih (u / 10) ga c hc;rw[aj hc];exact qqj ga
theorem IC(w:Wd)(n:Nat):Db w=some n ↔ n<4294967296/\decDigits n=w:=by unfold Db;constructor;intro h;split at h;rename_i u hu;split at h;rename_i he;cases h;exact⟨HZ hu,he⟩;cases h;cases h;rintro⟨h1,h2⟩;subst h2;rw[M0 n h1];simp
theorem IQ{w:Wd}(h:Db w=some n):n<4294967296:=((IC w n).1 h).1
theorem vG(h:n<4294967296):Db (decDigits n)=some n:=(IC _ n).2 ⟨h,rfl⟩
theorem EQ{a b c:Nat}{op:Wd}(ha:a<4294967296)(hb:b<4294967296)(h:Tp a op b=some c):c<4294967296:=by
 unfold Tp at h;split at h;cases h;omega;split at h;cases h;omega;split at h;cases h;exact Nat.mod_lt _ ea;split at h;cases h;exact Nat.xor_lt_two_pow (n:=32) ha hb;split at h;cases h;split <;> decide;split at h;split at h;cases h;cases h;exact Nat.lt_of_le_of_lt (Nat.div_le_self _ _) ha;split at h;split at h;cases h;cases h
 rename_i Wf;have:=Nat.mod_lt a (Nat.pos_of_ne_zero Wf);omega;cases h
def Yv(v:List Wd):Prop:=na v 0=[48]/\(na v 1=[43]∨na v 1=[45]∨na v 1=[94])∨na v 0=[49]/\(na v 1=[42]∨na v 1=[47])
instance(v:List Wd):Decidable (Yv v):=by unfold Yv;infer_instance
def xn(v:List Wd):Prop:=(na v 1=[43]∨na v 1=[42]∨na v 1=[94])/\na v 3=na v 1
instance(v:List Wd):Decidable (xn v):=by unfold xn;infer_instance
def Cy(v:List Wd):Prop:=(Db (na v 0)).isSome=true/\na v 1=[64]/\na v 2=na v 0/\na v 3=[33]
instance(v:List Wd):Decidable (Cy v):=by unfold Cy;infer_instance
def Zz(v:List Wd):Prop:=(mn v 4).isSome=true/\na v 0=[49]/\na v 1=[60]/\na v 2=[49]/\na v 3=[60]
instance(v:List Wd):Decidable (Zz v):=by unfold Zz;infer_instance
def Ey(v:List Wd):Bool:=match Db (na v 0) with
 |some n=>decide (n≠0/\(mn v 1).isSome=true)
 |none=>false
def Oz(v:List Wd):Bool:=match mn v 1 with
 |some l=>decide (na v 0=[48]/\vu l (v.drop 3)=true)
 |none=>false
def KE(v:List Wd):Prop:=0<uk v/\0<zr (v.drop (uk v))
instance(v:List Wd):Decidable (KE v):=by unfold KE;infer_instance
def Fo(v:List Wd):Option Wd:=Mk (na v 0) (na v 2) (na v 1)
def ur(v:List Wd):Option Wd:=Mk (na v 0) (na v 1) (na v 2)
section
variable{v:List Wd}{la:Wd->Bool}
theorem qzb(h:Fo v=some s):Rz v=(3,[s]):=by unfold Rz;unfold Fo at h;rw[h]
theorem mI(h:Fo v=none):Rz v=(0,[]):=by unfold Rz;unfold Fo at h;rw[h]
theorem qsh(h:Yv v):JC v=(2,[]):=zp h
theorem VK(h:¬ Yv v):JC v=(0,[]):=zn h
theorem qrQ(h:xn v)(h2:ur v=some s):bA v=(4,[s,na v 1]):=by unfold bA;unfold ur at h2;unfold xn at h;rw[zp h,h2]
theorem aO(h:¬ xn v∨ur v=none):bA v=(0,[]):=by unfold bA;unfold ur at h;by_cases hc:xn v;rcases h with h|h;exact absurd hc h;unfold xn at hc;rw[zp hc,h];unfold xn at hc;rw[zn hc]
theorem qyP(h:Cy v):jB v=(4,[]):=zp h
theorem AQ(h:¬ Cy v):jB v=(0,[]):=zn h
theorem qvv(h:Zz v):yB v=(6,[na v 4,na v 5]):=zp h
theorem qW(h:¬ Zz v):yB v=(0,[]):=zn h
theorem qxp(h:Ey v=true):Wz v=(3,[]):=by
 unfold Ey at h;unfold Wz;split at h
 ·rename_i n hn
  try rw[hn]
  exact zp (qg h)
 cases h
theorem TZ(h:Ey v=false):Wz v=(0,[]):=by
 unfold Ey at h;unfold Wz;split at h
 ·rename_i n hn
  try rw[hn]
  exact zn (of_decide_eq_false h)
 rename_i hn;first|rw[hn]|rfl
theorem qAe(h:Oz v=true):Lz v=(3,[]):=by
 unfold Oz at h;unfold Lz;split at h
 ·rename_i n hn
  try rw[hn]
  exact zp (qg h)
 cases h
theorem qu3(h:Oz v=false):Lz v=(0,[]):=by
 unfold Oz at h;unfold Lz;split at h
 ·rename_i n hn
  try rw[hn]
  exact zn (of_decide_eq_false h)
 rename_i hn;first|rw[hn]|rfl
theorem qzD(h:KE v):nB v=(uk v+zr (v.drop (uk v)),v.take (uk v)):=zp h
theorem qzX(h:¬ KE v):nB v=(0,[]):=zn h
theorem SU(h:Fo v=some s):Se la v=(3,[s]):=by unfold Se;rw[qzb h];try rfl
theorem ZU(h1:Fo v=none)(h:Yv v):Se la v=(2,[]):=by unfold Se;rw[mI h1,qsh h];try rfl
theorem VU(h1:Fo v=none)(h2:¬ Yv v)(h:xn v)(h':ur v=some s):Se la v=(4,[s,na v 1]):=by unfold Se;rw[mI h1,VK h2,qrQ h h'];try rfl
theorem LU(h1:Fo v=none)(h2:¬ Yv v)(h3:¬ xn v∨ur v=none)(h:Cy v):Se la v=(4,[]):=by unfold Se;rw[mI h1,VK h2,aO h3,qyP h];try rfl
theorem NU(h1:Fo v=none)(h2:¬ Yv v)(h3:¬ xn v∨ur v=none)(h4:¬ Cy v)(h:Zz v):Se la v=(6,[na v 4,na v 5]):=by unfold Se;rw[mI h1,VK h2,aO h3,AQ h4,qvv h];try rfl
theorem QU(h1:Fo v=none)(h2:¬ Yv v)(h3:¬ xn v∨ur v=none)(h4:¬ Cy v)(h5:¬ Zz v)(h:Ey v=true):Se la v=(3,[]):=by unfold Se;rw[mI h1,VK h2,aO h3,AQ h4,qW h5,qxp h];try rfl
theorem UU(h1:Fo v=none)(h2:¬ Yv v)(h3:¬ xn v∨ur v=none)(h4:¬ Cy v)(h5:¬ Zz v)(h6:Ey v=false)(h:Oz v=true):Se la v=(3,[]):=by unfold Se;rw[mI h1,VK h2,aO h3,AQ h4,qW h5,TZ h6,qAe h];try rfl
theorem PU(h1:Fo v=none)(h2:¬ Yv v)(h3:¬ xn v∨ur v=none)(h4:¬ Cy v)(h5:¬ Zz v)(h6:Ey v=false)(h7:Oz v=false)(h:KE v):Se la v=(uk v+zr (v.drop (uk v)),v.take (uk v)):=by
 unfold Se;have h0:uk v+zr (v.drop (uk v))≠0:=by have:=h.1;omega
 rw[mI h1,VK h2,aO h3,AQ h4,qW h5,TZ h6,qu3 h7,qzD h];simp only[ne_eq,not_true_eq_false,if_false,h0,not_false_eq_true,if_true]
theorem YU(h1:Fo v=none)(h2:¬ Yv v)(h3:¬ xn v∨ur v=none)(h4:¬ Cy v)(h5:¬ Zz v)(h6:Ey v=false)(h7:Oz v=false)(h8:¬ KE v):Se la v=Xv la v:=by unfold Se;rw[mI h1,VK h2,aO h3,AQ h4,qW h5,TZ h6,qu3 h7,qzX h8];try rfl
end
def Fg(c:UInt8):List UInt8->List (List UInt8)
 |[]=>[[]]
 |d::r=>if d=c then []::Fg c r else match Fg c r with
  |p::ps=>(d::p)::ps
  |[]=>[[d]]
theorem zW(c:UInt8):∀ s,∃ p ps,Fg c s=p::ps
 |[]=>⟨_,_,rfl⟩
 |d::r=>by obtain⟨p,ps,h⟩:=zW c r;rw[Fg,h];split;exact⟨_,_,rfl⟩;exact⟨_,_,rfl⟩
theorem oR(c:UInt8)(r:List UInt8):Fg c (c::r)=[]::Fg c r:=by rw[Fg,zp rfl]
theorem QW{d:UInt8}(h:d≠c)(r:List UInt8):∃ p ps,Fg c r=p::ps/\Fg c (d::r)=(d::p)::ps:=by obtain⟨p,ps,hp⟩:=zW c r;exact⟨p,ps,hp,by rw[Fg,zn h,hp]⟩
theorem PN{c:UInt8}:∀ {s:List UInt8},c ∉ s->Fg c s=[s]
 |[],_=>rfl
 |d::r,h=>by have hd:d≠c:=λe=>h (by rw[e];exact mem_cons_self ..);have hr:c ∉ r:=λe=>h (Oc _ e);rw[Fg,zn hd,PN hr]
theorem T3{c:UInt8}:∀ {a b:List UInt8},c ∉ a->Fg c (a++c::b)=a::Fg c b
 |[],b,_=>oR c b
 |d::a,b,h=>by have hd:d≠c:=λe=>h (by rw[e];exact mem_cons_self ..);have ha:c ∉ a:=λe=>h (Oc _ e);rw[cons_append,Fg,zn hd,T3 ha]
theorem DW{c:UInt8}:∀ {s:List UInt8},c ∉ s->index s [c] = -1
 |[],_=>rfl
 |d::r,h=>by
  have hd:¬ c=d:=λe=>h (by rw[e];exact mem_cons_self ..);have hr:c ∉ r:=λe=>h (Oc _ e);have hp:([c]:List UInt8).isPrefixOf (d::r)=false:=by simp[List.isPrefixOf,hd]
  rw[index,hp,DW hr];try rfl
theorem MW{c:UInt8}:∀ {a b:List UInt8},c ∉ a->index (a++c::b) [c]=(a.length:Int)
 |[],b,_=>by
  have hp:([c]:List UInt8).isPrefixOf (c::b)=true:=by simp[List.isPrefixOf]
  rw[nil_append,index,hp];try rfl
 |d::a,b,h=>by
  have hd:¬ c=d:=λe=>h (by rw[e];exact mem_cons_self ..);have ha:c ∉ a:=λe=>h (Oc _ e);have hp:([c]:List UInt8).isPrefixOf (d::(a++c::b))=false:=by simp[List.isPrefixOf,hd]
  rw[cons_append,index,hp,MW ha,zn ea,zn (by
   intro h;have:=eq_of_beq h;omega)]
  simp
theorem O2{s:List UInt8}(h:c∈s):∃ a b,s=a++c::b/\c ∉ a:=List.eq_append_cons_of_mem h
theorem qyW(c:UInt8)(s:List UInt8):(cut s [c]).1=s.takeWhile (λd=>decide (d≠c)):=by
 by_cases h:c∈s;obtain⟨a,b,rfl,ha⟩:=O2 h;have h1:∀ x∈a,decide (x≠c)=true:=λx hx=>by simp only[Rg];rintro rfl;exact ha hx
 rw[cut,MW ha,zp (by omega),List.takeWhile_append_of_pos h1,takeWhile_cons_of_neg (by simp)];simp;have h1:∀ x∈s,decide (x≠c)=true:=λx hx=>by simp only[Rg];rintro rfl;exact h hx
 rw[cut,DW h,zn ea];have:=List.takeWhile_append_of_pos (l₂:=[]) h1;simpa using this.symm
theorem qhr(c:UInt8):∀ (f:Nat) (s:List UInt8),s.length<f->countFrom [c] f s=s.count c
 |0,s,h=>by omega
 |f+1,s,h=>by
  rw[countFrom];by_cases hc:c∈s
  ·obtain⟨a,b,rfl,ha⟩:=O2 hc
   rw[MW ha,zn (by
    intro h;have:=eq_of_beq h;omega)]
   have hd:(a++c::b).drop ((a.length:Int).toNat+[c].length)=b:=by rw[show(a.length:Int).toNat+[c].length=a.length+1 by simp];rw[<-List.drop_drop,List.drop_left];try rfl
   rw[hd,qhr c f b (by simp only[Ga,Ma] at h;omega)];rw[count_append,List.count_cons_self,List.count_eq_zero.2 ha];omega
  rw[DW hc,zp ea,List.count_eq_zero.2 hc]
theorem qln(c:UInt8):∀ (k:Nat) (s:List UInt8),s.count c<=k->splitK [c] 0 k s=Fg c s
 |0,s,h=>by have hc:c ∉ s:=List.count_eq_zero.1 ga;rw[splitK,PN hc]
 |k+1,s,h=>by
  rw[splitK];by_cases hc:c∈s
  ·obtain⟨a,b,rfl,ha⟩:=O2 hc
   rw[MW ha,zn (by
    intro h;have:=eq_of_beq h;omega),T3 ha]
   have hd:(a++c::b).drop ((a.length:Int).toNat+[c].length)=b:=by rw[show(a.length:Int).toNat+[c].length=a.length+1 by simp];rw[<-List.drop_drop,List.drop_left];try rfl
   rw[hd,show(a.length:Int).toNat+0=a.length by simp,List.take_left,qln c k b (by
    rw[count_append,List.count_cons_self] at h;omega)]
  rw[DW hc,zp ea,PN hc]
theorem qsy(c:UInt8)(s:List UInt8):split s [c]=Fg c s:=by rw[split,count,qln c _ s (by rw[qhr c _ s (by omega)];exact Pb _)]
def full(l:List (List UInt8)):List Wd:=l.filter λw=>decide (w≠[])
def wu(s:List UInt8):List Wd:=full (Fg 32 (s.takeWhile λd=>decide (d≠35)))
def vk(s:List UInt8):List Wd:=(Fg 10 s).flatMap wu
def Ss(cur:List UInt8):List Wd:=if cur=[] then [] else [cur]
def iB:List UInt8->Bool->List UInt8->List Wd
 |cur,_,[]=>Ss cur
 |cur,Fv,c::r=>
  if c=10 then Ss cur++iB [] false r
  else if Fv=true then iB cur true r
  else if c=35 then Ss cur++iB [] true r
  else if c=32 then Ss cur++iB [] false r
  else iB (cur++[c]) false r
def Dy(cur:List UInt8)(Fv:Bool)(l:List UInt8):List Wd:=if Fv=true then Ss cur else wu (cur++l)
theorem qw7(a b:List (List UInt8)):full (a++b)=full a++full b:=List.filter_append ..
theorem RZ(a:List UInt8):full [a]=Ss a:=by unfold full Ss;by_cases h:a=[] <;> simp[h]
def pr(cur:List UInt8):Prop:=∀ c∈cur,c≠10/\c≠32/\c≠35
theorem qsO(h:pr cur)(l:List UInt8):wu (cur++35::l)=Ss cur:=by
 have h1:∀ x∈cur,decide (x≠35)=true:=λx hx=>by simp only[Rg];exact(h x hx).2.2
 have h2:(32:UInt8) ∉ cur:=λhx=>(h 32 hx).2.1 rfl;unfold wu;rw[List.takeWhile_append_of_pos h1,takeWhile_cons_of_neg (by simp),ue,PN h2,RZ]
theorem z1(h:pr cur):wu cur=Ss cur:=by
 have h1:∀ x∈cur,decide (x≠35)=true:=λx hx=>by simp only[Rg];exact(h x hx).2.2
 have h2:(32:UInt8) ∉ cur:=λhx=>(h 32 hx).2.1 rfl;have h3:=List.takeWhile_append_of_pos (l₂:=[]) h1;rw[ue,List.takeWhile_nil,ue] at h3;unfold wu;rw[h3,PN h2,RZ]
theorem qk7(h:pr cur)(l:List UInt8):wu (cur++32::l)=Ss cur++wu l:=by
 have h1:∀ x∈cur,decide (x≠35)=true:=λx hx=>by simp only[Rg];exact(h x hx).2.2
 have h2:(32:UInt8) ∉ cur:=λhx=>(h 32 hx).2.1 rfl;unfold wu;rw[List.takeWhile_append_of_pos h1,takeWhile_cons_of_pos ea,T3 h2,<-List.singleton_append,qw7,RZ]
theorem nN:∀ (s cur:List UInt8) (Fv:Bool) (p:List UInt8) (ps:List (List UInt8)),pr cur->(Fv=true->cur=[])->Fg 10 s=p::ps->iB cur Fv s=Dy cur Fv p++ps.flatMap wu
 |[],cur,Fv,p,ps,hc,mT,hp=>by
  cases hp;rw[iB,Dy];cases Fv with
  |true=>simp
  |false=>simp[z1 hc]
 |c::r,cur,Fv,p,ps,hc,mT,hp=>by
  obtain⟨q,qs,hq⟩:=zW 10 r;rw[iB];by_cases fw:c=10;subst fw;rw[oR,hq] at hp;cases hp;rw[zp rfl,nN r [] false q qs (λx hx=>by cases hx) (by simp) hq];have:Dy cur Fv []=Ss cur:=by
   unfold Dy;cases Fv with
   |true=>rfl
   |false=>rw[zn ea,ue,z1 hc]
  rw[this];simp[Dy];clear hq;obtain⟨q,qs,hq,jr⟩:=QW fw r;rw[jr] at hp;cases hp;rw[zn fw];cases Fv with
  |true=>obtain rfl:=mT rfl;rw[zp rfl,nN r [] true q ps (λx hx=>by cases hx) (λ_=>rfl) hq];simp[Dy]
  |false=>
   rw[zn ea];by_cases D8:c=35;subst D8;rw[zp rfl,nN r [] true q ps (λx hx=>by cases hx) (λ_=>rfl) hq];have:Dy cur false (35::q)=Ss cur:=by unfold Dy;rw[zn ea,qsO hc]
   rw[this];simp[Dy,Ss];rw[zn D8];by_cases E8:c=32;subst E8;rw[zp rfl,nN r [] false q ps (λx hx=>by cases hx) (by simp) hq];have:Dy cur false (32::q)=Ss cur++wu q:=by unfold Dy;rw[zn ea,qk7 hc]
   rw[this,Yc];simp[Dy];rw[zn E8,nN r (cur++[c]) false q ps (λx hx=>by
    rcases xj hx with h|h;exact hc x h;obtain rfl:=aj h;exact⟨fw,E8,D8⟩) (by simp) hq]
   simp[Dy]
theorem qrr(s:List UInt8):iB [] false s=vk s:=by obtain⟨p,ps,hp⟩:=zW 10 s;rw[nN s [] false p ps (λx hx=>by cases hx) (by simp) hp];unfold vk;rw[hp];simp[Dy]
