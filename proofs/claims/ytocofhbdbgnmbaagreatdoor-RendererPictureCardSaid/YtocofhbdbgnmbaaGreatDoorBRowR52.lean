/- Texts joined: GlStr, GlBytes, GlRows, GlMut, GlGrow, Types, PeepSpec, PeepWords, RenSpec, RenLaw, ParTok, RenLaw2. -/
import Derived.Lib.Builder
import Derived.Lib.AppendStr
import Derived.Test.YtocofhbdbgnmbaaGreatDoorProg
import Derived.Lib.ParseIntB
import Derived.Lib.ItoaNum
import Derived.Lib.Split
import Derived.Lib.AtoiAll
import Derived.Lib.Join
import Derived.Test.YtocofhbdbgnmbaaGreatDoorBRowR51
set_option linter.unusedVariables false
set_option linter.unusedSimpArgs false
namespace Go.GL
open Go.RowKit
section
variable {C:Ctx} {e:Env} {H:Heap} {x y:Operand} {dst:Option Nat} {ty:TypeId} {pos:String} {aft:Array Edge} {g:Option (Nat×Bool)} {K:LV→Heap→Prop} {X:List PanicEntry→Heap→Prop}
def byts (l:List UInt8):List LV:=l.map fun b=>int .u8 b.toNat
theorem byts_len (l:List UInt8):(byts l).length=l.length:=List.length_map _
theorem byts_app (l m:List UInt8):byts (l++m)=byts l++byts m:=List.map_append
theorem byts_size (l:List UInt8):∀ v∈byts l,v.cells.length=1:=by
 intro v hv
 obtain ⟨b,_,rfl⟩:=List.mem_map.1 hv
 rfl
theorem byts_flat (l:List UInt8):(byts l).flatMap LV.cells=byts l:=by
 induction l with
 |nil=>rfl
 |cons b l ih=>
  have h:byts (b::l)=int .u8 b.toNat::byts l:=rfl
  rw[h,List.flatMap_cons,ih]
  rfl
def bytV (l:List UInt8):List Value:=l.map fun b=>.int .u8 b.toNat
theorem byts_rep {w:World} {L:Live}:∀ l:List UInt8,RepL w L (byts l) (bytV l)
 |[]=>by simp[byts,bytV,RepL]
 |b::l=>by
  show RepL w L (int .u8 b.toNat::byts l) (.int .u8 b.toNat::bytV l)
  simp only[RepL]
  exact ⟨_,_,rfl,rep_atom,byts_rep l⟩
theorem bytV_flat (l:List UInt8):∀ v∈bytV l,(∀ cs,v≠Value.agg cs)∧(∀ cs,v≠Value.tuple cs):=by
 intro v hv
 obtain ⟨b,_,rfl⟩:=List.mem_map.1 hv
 exact And.intro (fun _ h=>by cases h) (fun _ h=>by cases h)
theorem first_str {P:Program} (l:List UInt8) (w':World):(Builtin.firstCells 1 l.length (.string ⟨l.toArray⟩)).run P w'=.ok (bytV l).toArray w':=by
 have:=Go.Lib.run_firstCells_string (P:=P) w' 1 ⟨l.toArray⟩
 rw[size_mk] at this
 rw[this]
 rfl
theorem S.appS {sT xT el bytes:Nat} [ht:TSlice C.P sT el 1] [hr:TRow C.P el 1 bytes] [hx2:TStr C.P xT] {v:LV} {l m:List UInt8} {F:Heap}
  (hx:e.ev x=v) (ha:Acc 1 v (byts l) H F) (hy:e.ev y=str m) (hroom:(l.length+m.length) * bytes≤140737488355328)
  (hk:∀ v' H',Acc 1 v' (byts (l++m)) H' F→K v' H'):LStep C ⟨dst,.call { callee:=.builtin .append,args:=#[x,y],argTypes:=#[sT,xT] },ty,pos,aft,g⟩ e H K X:=by
 have h0:∀ (cs:Array Bool) (args:Array Value),builtin .append #[sT,xT] ty cs args=(do Pure.pure (.value (←Builtin.append_ #[sT,xT] ty args))):=fun _ _=>rfl
 generalize he:byts l=es at ha
 have hel:es.length=l.length:=by rw[←he,byts_len]
 cases ha with
 |nil=>
  have hl:l=[]:=List.eq_nil_of_length_eq_zero (by rw[←hel];rfl)
  subst hl
  by_cases hne:m=[]
  ·subst hne
   intro ρ w L h hH
   have hr:(Builtin.append_ #[sT,xT] ty #[.slice none 0 0,.string ⟨#[]⟩]).run C.P w=.ok (.slice none 0 0) w:=by
    obtain ⟨i,hi,his⟩:=ht.size
    have hf:=first_str (P:=C.P) [] w
    simp only[List.length_nil] at hf
    simp[Builtin.append_,run_underlying' ht.und,run_underlying' hx2.und,sizeOf,typeInfo,hi,Builtin.lenOf,Builtin.firstCells,show (ByteArray.mk #[]).size=0 from rfl,show ((ByteArray.mk #[]).extract 0 0).data=#[] from rfl]
   rw[execOp_builtin',h0]
   simp only[List.map_toArray,List.map_cons,List.map_nil,Sem.run_bind,atom_of h hx,atom_of h hy,hr,Result.andThen_ok,Sem.run_pure]
   exact ⟨_,H,L,Fr.refl _ _ _,hH,rep_atom,hk _ _ Acc.nil⟩
  ·refine LStep.at0 fun ρ w L h hH=>?_
   have hpos:0<m.length:=List.length_pos_iff.2 hne
   obtain ⟨cap',rest,r1,r2,r3⟩:=run_append_new (ty:=ty) (P:=C.P) (w:=w) (sT:=sT) (xT:=xT) (a:=none) (len:=0) (cap:=0) (n:=m.length) (xv:=.string ⟨m.toArray⟩) (old:=[]) (new:=bytV m) (.inl hx2.und) (fun w'=>by simp[Builtin.lenOf,size_mk]) (fun w' _=>first_str m w')
    (fun w' _=>by simp[Builtin.firstCells]) (by simpa using hroom) zo
   rw[execOp_builtin',h0]
   simp only[List.map_toArray,List.map_cons,List.map_nil,Sem.run_bind,atom_of h hx,atom_of h hy,r3,Result.andThen_ok,Sem.run_pure,List.nil_append,Nat.zero_add]
   obtain ⟨lv,H',L',g1,g2,g3,g4⟩:=left_newRowC (K:=fun lv H'=>K lv (H'++H)) (t:=el) (s:=1) (es:=byts m) (xs:=bytV m) (cap:=cap') (rest:=rest) hH.drew (by rw[byts_flat];exact byts_rep m) (byts_size m) (by rw[byts_len];omega) (by
    rw[r2,byts_len]
    omega) (fun b=>hk _ _ Acc.row)
   rw[byts_len] at g3
   exact ⟨lv,H',L',g1.of_drew,g2,g3,g4⟩
 |row=>
  rename_i b cap
  refine LStep.at1 pH fun ρ w L h hH=>?_
  have hsv:=h x
  rw[hx] at hsv
  have hxv:ρ x=.slice (some ⟨b,0,none⟩) es.length cap:=by
   have h':=hsv
   simp only[Rep] at h'
   exact h'.1
  rw[hxv] at hsv
  obtain ⟨v,w',r1,r2⟩:=left_append (ty:=ty) (K:=fun lv H'=>K lv (H'++F)) (sT:=sT) (xT:=xT) (.inl hx2.und) hH hsv (xv:=.string ⟨m.toArray⟩) (ms:=byts m) (new:=bytV m) (fun w'=>by rw[byts_len];simp[Builtin.lenOf,size_mk]) (fun w' _=>by rw[byts_len];exact first_str m w')
   (by rw[byts_flat];exact byts_rep m) (byts_size m) (bytV_flat m) (by rw[hel,byts_len];exact hroom) (fun b' cap'=>hk _ _ (by rw[byts_app,he];exact Acc.row))
  rw[execOp_builtin',h0]
  simp only[List.map_toArray,List.map_cons,List.map_nil,Sem.run_bind,hxv,atom_of h hy,r1,Result.andThen_ok,Sem.run_pure]
  exact r2
/-! ### A buffer whose cells are all known: it can be frozen -/
theorem repL_atoms_eq {w:World} {L:Live}:∀ {zs xs:List Value},RepL w L (zs.map .atom) xs→xs=zs
 |[],_,h=>by simpa only[List.map_nil,RepL] using h
 |z::zs,xs,h=>by
  simp only[List.map_cons,RepL] at h
  obtain ⟨y,ys,rfl,h1,h2⟩:=h
  simp only[Rep] at h1
  rw[h1,repL_atoms_eq h2]
inductive BRow (el:TypeId):Value→List UInt8→Heap→Prop
 |nil:BRow el (.slice none 0 0) [] []
 |row {b:Nat} {l:List UInt8} {xs:List Value} (h0:l≠[]) (h1:l.length≤xs.length) (h2:xs.take l.length=bytV l):BRow el (.slice (some ⟨b,0,none⟩) l.length xs.length) l [(b,.cells el (xs.map .atom))]
theorem bytV_len (l:List UInt8):(bytV l).length=l.length:=List.length_map _
theorem bytV_app (l m:List UInt8):bytV (l++m)=bytV l++bytV m:=List.map_append
theorem left_newB {w:World} {L:Live} (hH:RelH C w L []) {el:TypeId} {l:List UInt8} {xs:List Value} (h0:l≠[]) (h1:l.length≤xs.length) (h2:xs.take l.length=bytV l) (hk:∀ v' H',BRow el v' l H'→K (.atom v') H') :
  Left C w L [] (World.push w (.cells xs.toArray el)) (.slice (some ⟨w.heap.size,0,none⟩) l.length xs.length) K:=by
 have hx:=ext_push hH.wf (.cells xs.toArray el) 0
 have:=fr_push hH (.cells xs.toArray el) 0 [(w.heap.size,.cells el (xs.map .atom))] (fun p hp=>by
  simp only[List.mem_singleton] at hp
  subst hp
  exact ⟨rfl,by simp[Live.upd],xs,heap_push_self,repL_atoms xs⟩) (by simp)
 exact ⟨.atom _,_,_,this.1,this.2,rep_atom,hk _ _ (BRow.row h0 h1 h2)⟩
theorem LStep.appB {sT xT el bytes:Nat} [ht:TSlice C.P sT el 1] [hr:TRow C.P el 1 bytes] [hx2:TStr C.P xT] {v:Value} {l m:List UInt8}
  (hx:e.ev x=.atom v) (ha:BRow el v l H) (hy:e.ev y=str m) (hroom:(l.length+m.length) * bytes≤140737488355328)
  (hk:∀ v' H',BRow el v' (l++m) H'→K (.atom v') H'):LStep C ⟨dst,.call { callee:=.builtin .append,args:=#[x,y],argTypes:=#[sT,xT] },ty,pos,aft,g⟩ e H K X:=by
 have h0:∀ (cs:Array Bool) (args:Array Value),builtin .append #[sT,xT] ty cs args=(do Pure.pure (.value (←Builtin.append_ #[sT,xT] ty args))):=fun _ _=>rfl
 have hlen:∀ w':World,(Builtin.lenOf (.string ⟨m.toArray⟩)).run C.P w'=.ok m.length w':=fun w'=>by simp[Builtin.lenOf,size_mk]
 cases ha with
 |nil=>
  by_cases hne:m=[]
  ·subst hne
   intro ρ w L h hH
   have hr:(Builtin.append_ #[sT,xT] ty #[.slice none 0 0,.string ⟨#[]⟩]).run C.P w=.ok (.slice none 0 0) w:=by
    obtain ⟨i,hi,his⟩:=ht.size
    simp[Builtin.append_,run_underlying' ht.und,run_underlying' hx2.und,sizeOf,typeInfo,hi,Builtin.lenOf,Builtin.firstCells,show (ByteArray.mk #[]).size=0 from rfl,show ((ByteArray.mk #[]).extract 0 0).data=#[] from rfl]
   rw[execOp_builtin',h0]
   simp only[List.map_toArray,List.map_cons,List.map_nil,Sem.run_bind,atom_of h hx,atom_of h hy,hr,Result.andThen_ok,Sem.run_pure]
   exact ⟨_,[],L,Fr.refl _ _ _,hH,rep_atom,hk _ _ BRow.nil⟩
  ·intro ρ w L h hH
   have hpos:0<m.length:=List.length_pos_iff.2 hne
   obtain ⟨cap',rest,r1,r2,r3⟩:=run_append_new (ty:=ty) (P:=C.P) (w:=w) (sT:=sT) (xT:=xT) (a:=none) (len:=0) (cap:=0) (n:=m.length) (xv:=.string ⟨m.toArray⟩) (old:=[]) (new:=bytV m) (.inl hx2.und) hlen (fun w' _=>first_str m w')
    (fun w' _=>by simp[Builtin.firstCells]) (by simpa using hroom) zo
   rw[execOp_builtin',h0]
   simp only[List.map_toArray,List.map_cons,List.map_nil,Sem.run_bind,atom_of h hx,atom_of h hy,r3,Result.andThen_ok,Sem.run_pure,List.nil_append,Nat.zero_add]
   have hcl:(bytV m++rest).length=cap':=by rw[List.length_append,r2,bytV_len];omega
   obtain ⟨lv,H',L',g1,g2,g3,g4⟩:=left_newB (K:=K) (el:=el) (l:=m) (xs:=bytV m++rest) hH.drew hne (by rw[hcl];omega) (by rw[List.take_left' (bytV_len m)]) (fun v' H' h'=>hk v' H' h')
   rw[hcl] at g3
   exact ⟨lv,H',L',g1.of_drew,g2,g3,g4⟩
 |row hne h1 h2=>
  rename_i b xs
  intro ρ w L h hH
  obtain ⟨hb0,hbs,hl,zs,hz1,hz2⟩:=hH.objs _ (List.mem_singleton.2 rfl)
  have hz:=repL_atoms_eq hz2
  subst hz
  simp only at hb0 hbs hl hz1
  rw[execOp_builtin',h0]
  simp only[List.map_toArray,List.map_cons,List.map_nil,Sem.run_bind,atom_of h hx,atom_of h hy]
  by_cases hc:l.length+m.length≤zs.length
  ·have hrun:=run_append_in (ty:=ty) (P:=C.P) (w:=w) (sT:=sT) (xT:=xT) (s:=1) (a:=some ⟨b,0,none⟩) (len:=l.length) (cap:=zs.length) (n:=m.length) (xv:=.string ⟨m.toArray⟩) (new:=bytV m) (.inl hx2.und) hlen (fun w' _=>first_str m w') hc
   obtain ⟨w',r1,r2,r3,r4,r5,r6,r7⟩:=storeCells_run (P:=C.P) (b:=b) (off:=0+l.length * 1) (t:=el) (fr:=(0,0)) (bytV m) 0 w zs hz1 (by rw[bytV_len];omega) (fun j _ _=>by simp) (bytV_flat m)
   rw[hrun]
   simp only[add_mk,r1,Result.andThen_ok,Sem.run_pure]
   have hx':(zs.take (0+l.length * 1+0)++bytV m++zs.drop (0+l.length * 1+0+(bytV m).length)).length=zs.length:=by
    simp only[List.length_append,List.length_take,List.length_drop,bytV_len]
    omega
   have hfin:=left_write (v:=.slice (some ⟨b,0,none⟩) (l.length+m.length) zs.length) (lv:=.atom (.slice (some ⟨b,0,none⟩) (l.length+m.length) zs.length)) (K:=K) (cs':=(zs.take (0+l.length * 1+0)++bytV m++zs.drop (0+l.length * 1+0+(bytV m).length)).map .atom) hH r2 r3 r4 r5 r6 r7 (by rw[hx',List.length_map]) (repL_atoms _) rep_atom (by
    have hb:BRow el (.slice (some ⟨b,0,none⟩) (l++m).length (zs.take (0+l.length * 1+0)++bytV m++zs.drop (0+l.length * 1+0+(bytV m).length)).length) (l++m) _:=BRow.row (b:=b) (el:=el) (by simp[hne]) (by rw[hx',List.length_append];exact hc) (by
     have he:0+l.length * 1+0=l.length:=by omega
     rw[he,h2,←bytV_app,List.take_left' (bytV_len _)])
    rw[hx',List.length_append] at hb
    exact hk _ _ hb)
   exact hfin
  ·have hold:∀ w':World,w'.heap=w.heap→(Builtin.firstCells 1 l.length (.slice (some ⟨b,0,none⟩) l.length zs.length)).run C.P w'=.ok (bytV l).toArray w':=fun w' hw=>by
    have:=loadCellsFrom_run (P:=C.P) (w:=w') (b:=b) (off:=0) l.length 0 #[] (bytV l) (bytV_len l) (fun j x' hj=>by
     have hj':zs[j]? = some x':=by
      rw[←h2,List.getElem?_take] at hj
      split at hj
      ·exact hj
      ·cases hj
     simp[World.cell?,hw,hz1,hj'])
    simp only[Builtin.firstCells,loadCells,Nat.mul_one,this]
    simp
   obtain ⟨cap',rest,r1,r2,r3⟩:=run_append_new (ty:=ty) (P:=C.P) (w:=w) (sT:=sT) (xT:=xT) (a:=some ⟨b,0,none⟩) (len:=l.length) (cap:=zs.length) (n:=m.length) (xv:=.string ⟨m.toArray⟩) (old:=bytV l) (new:=bytV m) (.inl hx2.und) hlen (fun w' _=>first_str m w') hold hroom zo
   rw[r3]
   simp only[Result.andThen_ok,Sem.run_pure]
   have hcl:(bytV l++bytV m++rest).length=cap':=by rw[List.length_append,List.length_append,r2,bytV_len,bytV_len];omega
   have hH0:RelH C w L []:=hH.sub (List.nil_sublist _)
   obtain ⟨lv,H',L',g1,g2,g3,g4⟩:=left_newB (K:=K) (el:=el) (l:=l++m) (xs:=bytV l++bytV m++rest) hH0.drew (by simp[hne]) (by rw[hcl,List.length_append];omega) (by rw[←bytV_app,List.take_left' (bytV_len _)]) (fun v' H' h'=>hk v' H' h')
   rw[hcl,List.length_append] at g3
   exact ⟨lv,H',L',g1.of_drew.wide (by simp),g2,g3,g4⟩
theorem S.appB1 {sT xT el bytes:Nat} [ht:TSlice C.P sT el 1] [hr:TRow C.P el 1 bytes] [hx2:TStr C.P xT] {v:Value} {l m:List UInt8} {H1:Heap} {q:Nat×LObj}
  (hx:e.ev x=.atom v) (ha:BRow el v l H1) (hy:e.ev y=str m) (hroom:(l.length+m.length) * bytes≤140737488355328)
  (hk:∀ v' H',BRow el v' (l++m) H'→K (.atom v') (q::H')):LStep C ⟨dst,.call { callee:=.builtin .append,args:=#[x,y],argTypes:=#[sT,xT] },ty,pos,aft,g⟩ e (q::H1) K X:=by
 refine LStep.conseq (K:=fun lv H'=>∃ v' H2,lv=.atom v'∧H'=H2++[q]∧BRow el v' (l++m) H2) (LStep.frame (List.perm_append_singleton _ _).symm (LStep.appB hx ha hy hroom fun v' H' h=>⟨v',H',rfl,rfl,h⟩)) ?_
 rintro lv H' ⟨v',H2,rfl,rfl,h⟩
 exact ⟨_,[q]++H2,LV.Sub.refl _,⟨[],by simp⟩,hk _ _ h⟩
end
end Go.GL
namespace Go.GL
open Go.RowKit
section
variable {C:Ctx} {e:Env} {H:Heap} {x y:Operand} {dst:Option Nat} {ty:TypeId} {pos:String} {aft:Array Edge} {g:Option (Nat×Bool)} {K:LV→Heap→Prop} {X:List PanicEntry→Heap→Prop}
theorem LStep.appBL {sT xT el bytes:Nat} [ht:TSlice C.P sT el 1] [hr:TRow C.P el 1 bytes] {e2:Nat} [hx2:TSlice C.P xT e2 1] {v:Value} {l m:List UInt8}
  (hx:e.ev x=.atom v) (ha:BRow el v l H) (hy:GL.elems (e.ev y)=some (byts m)) (hm0:m≠[]) (hroom:(l.length+m.length) * bytes≤140737488355328)
  (hk:∀ v' H',BRow el v' (l++m) H'→K (.atom v') H'):LStep C ⟨dst,.call { callee:=.builtin .append,args:=#[x,y],argTypes:=#[sT,xT] },ty,pos,aft,g⟩ e H K X:=by
 have h0:∀ (cs:Array Bool) (args:Array Value),builtin .append #[sT,xT] ty cs args=(do Pure.pure (.value (←Builtin.append_ #[sT,xT] ty args))):=fun _ _=>rfl
 cases ha with
 |nil=>
  by_cases hne:m=[]
  ·subst hne
   exact absurd rfl hm0
  ·intro ρ w L h hH
   have hpos:0<m.length:=List.length_pos_iff.2 hne
   obtain ⟨ay,cy,xs0,hyv,hyc,hyr,hyl,hyf⟩:=slice_cells (s:=1) (h y) hy (byts_size m)
   rw[byts_flat] at hyr
   have hyx:xs0=bytV m:=repL_atoms_eq (zs:=bytV m) (by rw[show (bytV m).map LV.atom=byts m from by simp[bytV,byts,List.map_map,Function.comp_def]];exact hyr)
   subst hyx
   rw[byts_len] at hyv hyc hyf
   rw[hyv] at hyf
   have hlen:∀ w':World,(Builtin.lenOf (.slice ay m.length cy)).run C.P w'=.ok m.length w':=fun w'=>by simp[Builtin.lenOf]
   obtain ⟨cap',rest,r1,r2,r3⟩:=run_append_new (ty:=ty) (P:=C.P) (w:=w) (sT:=sT) (xT:=xT) (a:=none) (len:=0) (cap:=0) (n:=m.length) (xv:=.slice ay m.length cy) (old:=[]) (new:=bytV m) (.inr ⟨_,hx2.und⟩) hlen (fun w' hw=>hyf C.P w' hw)
    (fun w' _=>by simp[Builtin.firstCells]) (by simpa using hroom) zo
   rw[execOp_builtin',h0]
   simp only[List.map_toArray,List.map_cons,List.map_nil,Sem.run_bind,atom_of h hx,hyv,r3,Result.andThen_ok,Sem.run_pure,List.nil_append,Nat.zero_add]
   have hcl:(bytV m++rest).length=cap':=by rw[List.length_append,r2,bytV_len];omega
   obtain ⟨lv,H',L',g1,g2,g3,g4⟩:=left_newB (K:=K) (el:=el) (l:=m) (xs:=bytV m++rest) hH.drew hne (by rw[hcl];omega) (by rw[List.take_left' (bytV_len m)]) (fun v' H' h'=>hk v' H' h')
   rw[hcl] at g3
   exact ⟨lv,H',L',g1.of_drew,g2,g3,g4⟩
 |row hne h1 h2=>
  rename_i b xs
  intro ρ w L h hH
  obtain ⟨hb0,hbs,hl,zs,hz1,hz2⟩:=hH.objs _ (List.mem_singleton.2 rfl)
  have hz:=repL_atoms_eq hz2
  subst hz
  simp only at hb0 hbs hl hz1
  obtain ⟨ay,cy,xs0,hyv,hyc,hyr,hyl,hyf⟩:=slice_cells (s:=1) (h y) hy (byts_size m)
  rw[byts_flat] at hyr
  have hyx:xs0=bytV m:=repL_atoms_eq (zs:=bytV m) (by rw[show (bytV m).map LV.atom=byts m from by simp[bytV,byts,List.map_map,Function.comp_def]];exact hyr)
  subst hyx
  rw[byts_len] at hyv hyc hyf
  rw[hyv] at hyf
  have hlen:∀ w':World,(Builtin.lenOf (.slice ay m.length cy)).run C.P w'=.ok m.length w':=fun w'=>by simp[Builtin.lenOf]
  rw[execOp_builtin',h0]
  simp only[List.map_toArray,List.map_cons,List.map_nil,Sem.run_bind,atom_of h hx,hyv]
  by_cases hc:l.length+m.length≤zs.length
  ·have hrun:=run_append_in (ty:=ty) (P:=C.P) (w:=w) (sT:=sT) (xT:=xT) (s:=1) (a:=some ⟨b,0,none⟩) (len:=l.length) (cap:=zs.length) (n:=m.length) (xv:=.slice ay m.length cy) (new:=bytV m) (.inr ⟨_,hx2.und⟩) hlen (fun w' hw=>hyf C.P w' hw) hc
   obtain ⟨w',r1,r2,r3,r4,r5,r6,r7⟩:=storeCells_run (P:=C.P) (b:=b) (off:=0+l.length * 1) (t:=el) (fr:=(0,0)) (bytV m) 0 w zs hz1 (by rw[bytV_len];omega) (fun j _ _=>by simp) (bytV_flat m)
   rw[hrun]
   simp only[add_mk,r1,Result.andThen_ok,Sem.run_pure]
   have hx':(zs.take (0+l.length * 1+0)++bytV m++zs.drop (0+l.length * 1+0+(bytV m).length)).length=zs.length:=by
    simp only[List.length_append,List.length_take,List.length_drop,bytV_len]
    omega
   have hfin:=left_write (v:=.slice (some ⟨b,0,none⟩) (l.length+m.length) zs.length) (lv:=.atom (.slice (some ⟨b,0,none⟩) (l.length+m.length) zs.length)) (K:=K) (cs':=(zs.take (0+l.length * 1+0)++bytV m++zs.drop (0+l.length * 1+0+(bytV m).length)).map .atom) hH r2 r3 r4 r5 r6 r7 (by rw[hx',List.length_map]) (repL_atoms _) rep_atom (by
    have hb:BRow el (.slice (some ⟨b,0,none⟩) (l++m).length (zs.take (0+l.length * 1+0)++bytV m++zs.drop (0+l.length * 1+0+(bytV m).length)).length) (l++m) _:=BRow.row (b:=b) (el:=el) (by simp[hne]) (by rw[hx',List.length_append];exact hc) (by
     have he:0+l.length * 1+0=l.length:=by omega
     rw[he,h2,←bytV_app,List.take_left' (bytV_len _)])
    rw[hx',List.length_append] at hb
    exact hk _ _ hb)
   exact hfin
  ·have hold:∀ w':World,w'.heap=w.heap→(Builtin.firstCells 1 l.length (.slice (some ⟨b,0,none⟩) l.length zs.length)).run C.P w'=.ok (bytV l).toArray w':=fun w' hw=>by
    have:=loadCellsFrom_run (P:=C.P) (w:=w') (b:=b) (off:=0) l.length 0 #[] (bytV l) (bytV_len l) (fun j x' hj=>by
     have hj':zs[j]? = some x':=by
      rw[←h2,List.getElem?_take] at hj
      split at hj
      ·exact hj
      ·cases hj
     simp[World.cell?,hw,hz1,hj'])
    simp only[Builtin.firstCells,loadCells,Nat.mul_one,this]
    simp
   obtain ⟨cap',rest,r1,r2,r3⟩:=run_append_new (ty:=ty) (P:=C.P) (w:=w) (sT:=sT) (xT:=xT) (a:=some ⟨b,0,none⟩) (len:=l.length) (cap:=zs.length) (n:=m.length) (xv:=.slice ay m.length cy) (old:=bytV l) (new:=bytV m) (.inr ⟨_,hx2.und⟩) hlen (fun w' hw=>hyf C.P w' hw) hold hroom zo
   rw[r3]
   simp only[Result.andThen_ok,Sem.run_pure]
   have hcl:(bytV l++bytV m++rest).length=cap':=by rw[List.length_append,List.length_append,r2,bytV_len,bytV_len];omega
   have hH0:RelH C w L []:=hH.sub (List.nil_sublist _)
   obtain ⟨lv,H',L',g1,g2,g3,g4⟩:=left_newB (K:=K) (el:=el) (l:=l++m) (xs:=bytV l++bytV m++rest) hH0.drew (by simp[hne]) (by rw[hcl,List.length_append];omega) (by rw[←bytV_app,List.take_left' (bytV_len _)]) (fun v' H' h'=>hk v' H' h')
   rw[hcl,List.length_append] at g3
   exact ⟨lv,H',L',g1.of_drew.wide (by simp),g2,g3,g4⟩
theorem S.appBL1 {sT xT el bytes:Nat} [ht:TSlice C.P sT el 1] [hr:TRow C.P el 1 bytes] {e2:Nat} [hx2:TSlice C.P xT e2 1] {v:Value} {l m:List UInt8} {H1:Heap} {q:Nat×LObj}
  (hx:e.ev x=.atom v) (ha:BRow el v l H1) (hy:GL.elems (e.ev y)=some (byts m)) (hm0:m≠[]) (hroom:(l.length+m.length) * bytes≤140737488355328)
  (hk:∀ v' H',BRow el v' (l++m) H'→K (.atom v') (q::H')):LStep C ⟨dst,.call { callee:=.builtin .append,args:=#[x,y],argTypes:=#[sT,xT] },ty,pos,aft,g⟩ e (q::H1) K X:=by
 refine LStep.conseq (K:=fun lv H'=>∃ v' H2,lv=.atom v'∧H'=H2++[q]∧BRow el v' (l++m) H2) (LStep.frame (List.perm_append_singleton _ _).symm (LStep.appBL hx ha hy hm0 hroom fun v' H' h=>⟨v',H',rfl,rfl,h⟩)) ?_
 rintro lv H' ⟨v',H2,rfl,rfl,h⟩
 exact ⟨_,[q]++H2,LV.Sub.refl _,⟨[],by simp⟩,hk _ _ h⟩
theorem Pure.blen {t el el2 s:Nat} [TSlice C.P t el2 s] {v:Value} {l:List UInt8} {Hv:Heap} (hx:e.ev x=.atom v) (ha:BRow el v l Hv):Pure C ⟨dst,.call { callee:=.builtin .len,args:=#[x],argTypes:=#[t] },ty,pos,aft,g⟩ e H (int .i64 l.length):=
 .of_any fun ρ _ _ h=>⟨_,rep_atom,fun w'=>by
  have hu:=run_underlying' (P:=C.P) (TSlice.und (t:=t)) w'
  rw[execOp_builtin',builtin_len']
  cases ha <;> simp[Builtin.len_,hu,goInt,atom_of h hx]⟩
end
end Go.GL
namespace Go.GL
open Go.RowKit
section
variable {C:Ctx} {e:Env} {H:Heap} {dst:Option Nat} {ty:TypeId} {pos:String} {aft:Array Edge} {g:Option (Nat×Bool)} {K:LV→Heap→Prop} {X:List PanicEntry→Heap→Prop} {x y:Operand}
theorem Pure.indexRow {t el s:Nat} [ht:TSlice C.P t el s] {b off m cap:Nat} {n:Int} {k:IntKind} (hx:e.ev x=.atom (.slice (some ⟨b,off,none⟩) m cap)) (hy:e.ev y=int k n) (h0:0≤n) (hn:n<m) :
  Pure C ⟨dst,.indexAddr t x y,ty,pos,aft,g⟩ e H (ptr b (off+n.toNat * s)):=.of_any fun ρ w L h=>by
 obtain ⟨i,hi,hsz⟩:=ht.size
 refine ⟨_,rep_atom,fun w'=>?_⟩
 have h3:execOp ρ ⟨dst,.indexAddr t x y,ty,pos,aft,g⟩=(do Pure.pure (.value (←Instr.indexAt t (ρ x) (ρ y)))):=rfl
 rw[h3,atom_of h hx,atom_of h hy]
 have hc:0≤n∧n<(m:Int):=⟨h0,hn⟩
 simp[Instr.indexAt,asIntOf,run_underlying' ht.und,hc,run_sizeOf' hi,add_mk,hsz]
theorem Pure.rowLen {t el s:Nat} [TSlice C.P t el s] {a:Option Addr} {m cap:Nat} (hx:e.ev x=.atom (.slice a m cap)):Pure C ⟨dst,.call { callee:=.builtin .len,args:=#[x],argTypes:=#[t] },ty,pos,aft,g⟩ e H (int .i64 m):=
 .of_any fun ρ _ _ h=>⟨_,rep_atom,fun w'=>by
  have hu:=run_underlying' (P:=C.P) (TSlice.und (t:=t)) w'
  rw[execOp_builtin',builtin_len']
  simp[Builtin.len_,hu,goInt,atom_of h hx]⟩
end
section shut
variable {C:Ctx} {n:Nat} {Q:Post} {e:Env} {H F:Heap}
end shut
end Go.GL
namespace Go.GL
open Go.RowKit
inductive MRow (el:TypeId) (s:Nat):Value→List LV→Heap→Prop
 |nil:MRow el s (.slice none 0 0) [] []
 |row {b cap:Nat} {es spare:List LV} (hs:∀ v∈es,v.cells.length=s) (hc:es.length≤cap) (hl:es.length * s+spare.length=cap * s) :
   MRow el s (.slice (some ⟨b,0,none⟩) es.length cap) es [(b,.cells el (es.flatMap LV.cells++spare))]
theorem MRow.sizes {el s:Nat} {v:Value} {es:List LV} {H:Heap} (h:MRow el s v es H):∀ v∈es,v.cells.length=s:=by
 cases h with
 |nil=>simp
 |row hs=>exact hs
section
variable {C:Ctx} {e:Env} {H:Heap} {x y:Operand} {dst:Option Nat} {ty:TypeId} {pos:String} {aft:Array Edge} {g:Option (Nat×Bool)} {K:LV→Heap→Prop} {X:List PanicEntry→Heap→Prop}
theorem left_newM {w:World} {L:Live} (hH:RelH C w L []) {el s cap:Nat} {es:List LV} {xs rest:List Value} (hr:RepL w L (es.flatMap LV.cells) xs) (hs:∀ v∈es,v.cells.length=s) (hc:es.length≤cap) (hl:es.length * s+rest.length=cap * s)
  (hk:∀ v' H',MRow el s v' es H'→K (.atom v') H') :
  Left C w L [] (World.push w (.cells (xs++rest).toArray el)) (.slice (some ⟨w.heap.size,0,none⟩) es.length cap) K:=by
 have hx:=ext_push hH.wf (.cells (xs++rest).toArray el) 0
 have:=fr_push hH (.cells (xs++rest).toArray el) 0 [(w.heap.size,.cells el (es.flatMap LV.cells++rest.map .atom))] (fun p hp=>by
  simp only[List.mem_singleton] at hp
  subst hp
  exact ⟨rfl,by simp[Live.upd],xs++rest,heap_push_self,RepL.append (hr.mono hx _ _) (repL_atoms rest)⟩) (by simp)
 exact ⟨.atom _,_,_,this.1,this.2,rep_atom,hk _ _ (MRow.row hs hc (by simpa using hl))⟩
theorem LStep.appM {sT xT el s bytes:Nat} [ht:TSlice C.P sT el s] [hr:TRow C.P el s bytes] {e2 s2:Nat} [hx2:TSlice C.P xT e2 s2] {v:Value} {es ms:List LV}
  (hx:e.ev x=.atom v) (ha:MRow el s v es H) (hy:GL.elems (e.ev y)=some ms) (hms:∀ v∈ms,v.cells.length=s) (hok:(ms.flatMap LV.cells).all cellOk=true) (hroom:(es.length+ms.length) * bytes≤140737488355328)
  (hk:∀ v' H',MRow el s v' (es++ms) H'→K (.atom v') H'):LStep C ⟨dst,.call { callee:=.builtin .append,args:=#[x,y],argTypes:=#[sT,xT] },ty,pos,aft,g⟩ e H K X:=by
 have h0:∀ (cs:Array Bool) (args:Array Value),builtin .append #[sT,xT] ty cs args=(do Pure.pure (.value (←Builtin.append_ #[sT,xT] ty args))):=fun _ _=>rfl
 cases ha with
 |nil=>
  by_cases hne:ms=[]
  ·subst hne
   exact LStep.appendNilNil rfl ⟨e2,hx2.und⟩ hx hy (hk _ _ MRow.nil)
  ·intro ρ w L h hH
   have hpos:0<ms.length:=List.length_pos_iff.2 hne
   obtain ⟨ay,cy,new,hyv,hyc,hyr,hyl,hyf⟩:=slice_cells (s:=s) (h y) hy hms
   rw[hyv] at hyf
   have hlen:∀ w':World,(Builtin.lenOf (.slice ay ms.length cy)).run C.P w'=.ok ms.length w':=fun w'=>by simp[Builtin.lenOf]
   obtain ⟨cap',rest,r1,r2,r3⟩:=run_append_new (ty:=ty) (P:=C.P) (w:=w) (sT:=sT) (xT:=xT) (a:=none) (len:=0) (cap:=0) (n:=ms.length) (xv:=.slice ay ms.length cy) (old:=[]) (new:=new) (.inr ⟨_,hx2.und⟩) hlen (fun w' hw=>hyf C.P w' hw)
    (fun w' _=>by simp[Builtin.firstCells]) (by simpa using hroom) zo
   rw[execOp_builtin',h0]
   simp only[List.map_toArray,List.map_cons,List.map_nil,Sem.run_bind,atom_of h hx,hyv,r3,Result.andThen_ok,Sem.run_pure,List.nil_append,Nat.zero_add]
   obtain ⟨lv,H',L',g1,g2,g3,g4⟩:=left_newM (K:=K) (el:=el) (es:=ms) (cap:=cap') (xs:=new) (rest:=rest) hH.drew (hyr.mono (ext_drew w L) _ _) hms zo (by
    rw[r2,←Nat.add_mul];congr 1;omega) (fun v' H' h'=>hk v' H' h')
   exact ⟨lv,H',L',g1.of_drew,g2,g3,g4⟩
 |row hs hc hl=>
  rename_i b cap spare
  intro ρ w L h hH
  obtain ⟨hb0,hbs,hlb,zs,hz1,hz2⟩:=hH.objs _ (List.mem_singleton.2 rfl)
  simp only at hb0 hbs hlb hz1
  obtain ⟨ay,cy,new,hyv,hyc,hyr,hyl,hyf⟩:=slice_cells (s:=s) (h y) hy hms
  rw[hyv] at hyf
  have hlen:∀ w':World,(Builtin.lenOf (.slice ay ms.length cy)).run C.P w'=.ok ms.length w':=fun w'=>by simp[Builtin.lenOf]
  have hfl:(es.flatMap LV.cells).length=es.length * s:=flat_length hs
  have hzl:zs.length=es.length * s+spare.length:=by rw[hz2.length,List.length_append,hfl]
  have hzt:RepL w L (es.flatMap LV.cells) (zs.take (es.length * s)):=by
   have:=hz2.take (es.length * s)
   rwa [List.take_left' hfl] at this
  rw[execOp_builtin',h0]
  simp only[List.map_toArray,List.map_cons,List.map_nil,Sem.run_bind,atom_of h hx,hyv]
  by_cases hcc:es.length+ms.length≤cap
  ·have hrun:=run_append_in (ty:=ty) (P:=C.P) (w:=w) (sT:=sT) (xT:=xT) (s:=s) (a:=some ⟨b,0,none⟩) (len:=es.length) (cap:=cap) (n:=ms.length) (xv:=.slice ay ms.length cy) (new:=new) (.inr ⟨_,hx2.und⟩) hlen (fun w' hw=>hyf C.P w' hw) hcc
   have hmul:(es.length+ms.length) * s≤cap * s:=Nat.mul_le_mul_right _ hcc
   rw[Nat.add_mul] at hmul
   obtain ⟨w',r1,r2,r3,r4,r5,r6,r7⟩:=storeCells_run (P:=C.P) (b:=b) (off:=0+es.length * s) (t:=el) (fr:=(0,0)) new 0 w zs hz1 zo (fun j _ _=>by simp) (repL_all hyr hok)
   rw[hrun]
   simp only[add_mk,r1,Result.andThen_ok,Sem.run_pure]
   have he:0+es.length * s+0=es.length * s:=by omega
   rw[he] at r7
   have hnl:new.length=ms.length * s:=hyl
   have hdr:RepL w L (spare.drop (ms.length * s)) (zs.drop (es.length * s+new.length)):=by
    have:=hz2.drop (es.length * s+new.length)
    rwa [List.drop_append,List.drop_eq_nil_of_le zo,List.nil_append,hfl,show es.length * s+new.length-es.length * s=ms.length * s by omega] at this
   refine left_write (v:=.slice (some ⟨b,0,none⟩) (es.length+ms.length) cap) (lv:=.atom (.slice (some ⟨b,0,none⟩) (es.length+ms.length) cap)) (K:=K) (cs':=es.flatMap LV.cells++ms.flatMap LV.cells++spare.drop (ms.length * s)) hH r2 r3 r4 r5 r6 r7 ?_ (RepL.append (RepL.append hzt hyr) hdr) rep_atom ?_
   ·simp only[List.length_append,List.length_take,List.length_drop,hfl]
    omega
   ·have hb:MRow el s (.slice (some ⟨b,0,none⟩) (es++ms).length cap) (es++ms) [(b,.cells el ((es++ms).flatMap LV.cells++spare.drop (ms.length * s)))]:=MRow.row (fun v hv=>by
      rcases List.mem_append.1 hv with hv|hv
      ·exact hs v hv
      ·exact hms v hv) (by rw[List.length_append];exact hcc) (by
      rw[List.length_append,List.length_drop,Nat.add_mul]
      omega)
    rw[List.length_append,List.flatMap_append] at hb
    exact hk _ _ hb
  ·have hold:∀ w':World,w'.heap=w.heap→(Builtin.firstCells s es.length (.slice (some ⟨b,0,none⟩) es.length cap)).run C.P w'=.ok (zs.take (es.length * s)).toArray w':=fun w' hw=>by
    have:=loadCellsFrom_run (P:=C.P) (w:=w') (b:=b) (off:=0) (es.length * s) 0 #[] (zs.take (es.length * s)) (by rw[List.length_take];omega) (fun j x' hj=>by
     have hj':zs[j]? = some x':=by
      rw[List.getElem?_take] at hj
      split at hj
      ·exact hj
      ·cases hj
     simp[World.cell?,hw,hz1,hj'])
    simp only[Builtin.firstCells,loadCells,this]
    simp
   obtain ⟨cap',rest,r1,r2,r3⟩:=run_append_new (ty:=ty) (P:=C.P) (w:=w) (sT:=sT) (xT:=xT) (a:=some ⟨b,0,none⟩) (len:=es.length) (cap:=cap) (n:=ms.length) (xv:=.slice ay ms.length cy) (old:=zs.take (es.length * s)) (new:=new) (.inr ⟨_,hx2.und⟩) hlen (fun w' hw=>hyf C.P w' hw) hold hroom zo
   rw[r3]
   simp only[Result.andThen_ok,Sem.run_pure]
   have hH0:RelH C w L []:=hH.sub (List.nil_sublist _)
   obtain ⟨lv,H',L',g1,g2,g3,g4⟩:=left_newM (K:=K) (el:=el) (s:=s) (es:=es++ms) (cap:=cap') (xs:=zs.take (es.length * s)++new) (rest:=rest) hH0.drew (by
     rw[List.flatMap_append]
     exact (RepL.append hzt hyr).mono (ext_drew w L) _ _) (fun v hv=>by
     rcases List.mem_append.1 hv with hv|hv
     ·exact hs v hv
     ·exact hms v hv) (by rw[List.length_append];omega) (by
     rw[r2,List.length_append,←Nat.add_mul];congr 1;omega) (fun v' H' h'=>hk v' H' h')
   rw[List.length_append] at g3
   exact ⟨lv,H',L',g1.of_drew.wide (by simp),g2,g3,g4⟩
theorem S.appM {sT xT el s bytes:Nat} [ht:TSlice C.P sT el s] [hr:TRow C.P el s bytes] {e2 s2:Nat} [hx2:TSlice C.P xT e2 s2] {v:Value} {es ms:List LV} {HM F:Heap}
  (hx:e.ev x=.atom v) (hp:H.Perm (HM++F)) (ha:MRow el s v es HM) (hy:GL.elems (e.ev y)=some ms) (hms:∀ v∈ms,v.cells.length=s) (hok:(ms.flatMap LV.cells).all cellOk=true) (hroom:(es.length+ms.length) * bytes≤140737488355328)
  (hk:∀ v' H',MRow el s v' (es++ms) H'→K (.atom v') (F++H')):LStep C ⟨dst,.call { callee:=.builtin .append,args:=#[x,y],argTypes:=#[sT,xT] },ty,pos,aft,g⟩ e H K X:=by
 refine LStep.conseq (K:=fun lv H'=>∃ v' H2,lv=.atom v'∧H'=H2++F∧MRow el s v' (es++ms) H2) (LStep.frame hp (LStep.appM hx ha hy hms hok hroom fun v' H' h=>⟨v',H',rfl,rfl,h⟩)) ?_
 rintro lv H' ⟨v',H2,rfl,rfl,h⟩
 exact ⟨_,F++H2,LV.Sub.refl _,⟨[],by simpa using List.perm_append_comm⟩,hk _ _ h⟩
theorem Pure.mlen {t el el2 s s2:Nat} [TSlice C.P t el2 s2] {v:Value} {es:List LV} {Hv:Heap} (hx:e.ev x=.atom v) (ha:MRow el s v es Hv):Pure C ⟨dst,.call { callee:=.builtin .len,args:=#[x],argTypes:=#[t] },ty,pos,aft,g⟩ e H (int .i64 es.length):=by
 cases ha with
 |nil=>exact Pure.rowLen (m:=0) hx
 |row=>exact Pure.rowLen hx
end
/-! ### Cells of such a row -/
theorem setL_app (P:List LV):∀ (Q:List LV) (f:Nat) (vs:List LV),setL (P++Q) (P.length+f) vs=P++setL Q f vs:=by
 induction P with
 |nil=>intro Q f vs;simp
 |cons p P ih=>
  intro Q f vs
  have:(p::P).length+f=(P.length+f)+1:=by simp only[List.length_cons];omega
  rw[this]
  show setL (p::(P++Q)) (P.length+f+1) vs=_
  rw[setL,ih]
  rfl
theorem setL_left:∀ (Q R:List LV) (f:Nat) (vs:List LV),f+vs.length≤Q.length→setL (Q++R) f vs=setL Q f vs++R
 |[],R,0,[],_=>by cases R <;> rfl
 |[],R,0,_::_,h=>by simp at h
 |[],R,f+1,_,h=>by simp at h
 |q::Q,R,0,[],_=>rfl
 |q::Q,R,0,v::vs,h=>by
  have ih:=setL_left Q R 0 vs (by simp only[List.length_cons] at h ⊢;omega)
  show v::setL (Q++R) 0 vs=v::(setL Q 0 vs++R)
  rw[ih]
 |q::Q,R,f+1,vs,h=>by
  have ih:=setL_left Q R f vs (by simp only[List.length_cons] at h ⊢;omega)
  cases vs with
  |nil=>show q::setL (Q++R) f []=q::(setL Q f []++R);rw[ih]
  |cons v vs=>show q::setL (Q++R) f (v::vs)=q::(setL Q f (v::vs)++R);rw[ih]
theorem setL_flat {s:Nat} {ls bs:List LV} {a a':LV} {spare vs:List LV} (hs:∀ v∈ls,v.cells.length=s) (f:Nat) (hf:f+vs.length≤a.cells.length) (ha:a'.cells=setL a.cells f vs) :
  setL ((ls++a::bs).flatMap LV.cells++spare) (ls.length * s+f) vs=(ls++a'::bs).flatMap LV.cells++spare:=by
 have h1:(ls.flatMap LV.cells).length=ls.length * s:=flat_length hs
 rw[List.flatMap_append,List.flatMap_cons,List.append_assoc,List.append_assoc,←h1,setL_app,setL_left _ _ _ _ hf,←ha,List.flatMap_append,List.flatMap_cons,List.append_assoc,List.append_assoc]
section
variable {C:Ctx} {e:Env} {H:Heap} {x y:Operand} {dst:Option Nat} {ty:TypeId} {pos:String} {aft:Array Edge} {g:Option (Nat×Bool)} {K:LV→Heap→Prop} {X:List PanicEntry→Heap→Prop}
theorem MRow.addr {el s:Nat} {v:Value} {es:List LV} {HM:Heap} (h:MRow el s v es HM) (hne:es≠[]):∃ b cap spare,v=.slice (some ⟨b,0,none⟩) es.length cap∧HM=[(b,.cells el (es.flatMap LV.cells++spare))]∧es.length≤cap∧es.length * s+spare.length=cap * s:=by
 cases h with
 |nil=>exact absurd rfl hne
 |row hs hc hl=>exact ⟨_,_,_,rfl,rfl,hc,hl⟩
end
/-! ### Settling -/
section settle
variable {C:Ctx} {n:Nat} {Q:Post} {e:Env} {H F:Heap}
theorem row_settle {w:World} {L:Live} {b el s cap:Nat} {es spare:List LV} (hs:∀ v∈es,v.cells.length=s) (hc:es.length≤cap) (hl:es.length * s+spare.length=cap * s) (hp:H.Perm ((b,.cells el (es.flatMap LV.cells++spare))::F)) (hH:RelH C w L H) :
  RelH C w (L.upd b (es.length * s)) ((b,.row (es.length * s))::F)∧Ext w L w (L.upd b (es.length * s))∧Rep w (L.upd b (es.length * s)) (.app b cap s es) (.slice (some ⟨b,0,none⟩) es.length cap):=by
 have hH1:=hH.perm hp
 obtain ⟨hb0,hbs,hlb,xs,hx1,hx2⟩:=hH1.objs _ List.mem_cons_self
 simp only at hb0 hbs hlb hx1 hx2
 have hfl:(es.flatMap LV.cells).length=es.length * s:=flat_length hs
 have hxl:xs.length=cap * s:=by rw[hx2.length,List.length_append,hfl];exact hl
 have hx:Ext w L w (L.upd b (es.length * s)):=⟨Nat.le_refl _,fun _ _=>rfl,fun _ _ _=>rfl,fun c=>by
  unfold Live.upd
  split
  ·rename_i h;subst h;rw[hlb];exact Nat.zero_le _
  ·exact Nat.le_refl _⟩
 have hne:∀ p∈F,p.1≠b:=fun p hp' he=>by
  have:=hH1.nodup
  rw[List.map_cons,List.nodup_cons] at this
  exact this.1 (List.mem_map.2 ⟨p,hp',he⟩)
 have hL:(L.upd b (es.length * s)) b=es.length * s:=by unfold Live.upd;rw[if_pos rfl]
 refine ⟨⟨hH1.base,trivial,hH1.b0,fun c hc=>?_,hH1.nodup,fun p hp'=>?_⟩,hx,?_⟩
 ·unfold Live.upd
  rw[if_neg zo]
  exact hH1.wf c hc
 ·rcases List.mem_cons.1 hp' with rfl|hp'
  ·exact ⟨hb0,hbs,hL,xs.toArray,el,(0,0),hx1,by simp only[List.size_toArray];omega,Nat.zero_le _⟩
  ·obtain ⟨g1,g2,g3⟩:=hH1.objs p (List.mem_cons_of_mem _ hp')
   exact ⟨g1,g2,g3.keep hx rfl (by unfold Live.upd;rw[if_neg (hne p hp')])⟩
 ·simp only[Rep]
  refine ⟨trivial,hc,RepRows.ofC hs ?_,el,xs.length,by simp[World.shape?,hx1],by omega⟩
  have ht:=hx2.take (es.length * s)
  rw[List.take_left' hfl] at ht
  refine RepC.of_cells (ht.mono hx _ _) (by rw[hL,List.length_take];omega) fun j x hj=>?_
  have hj':xs[j]? = some x:=by
   rw[List.getElem?_take] at hj
   split at hj
   ·exact hj
   ·cases hj
  simp only[World.cell?,hx1,Nat.zero_add]
  simpa using hj'
theorem lift_settle {w:World} {L:Live} {b el s cap:Nat} {es spare:List LV} (hs:∀ v∈es,v.cells.length=s) (hc:es.length≤cap) (hl:es.length * s+spare.length=cap * s) (hp:H.Perm ((b,.cells el (es.flatMap LV.cells++spare))::F)) (hH:RelH C w L H)
  {x:Exit} {a:Act} {w':World} (h:lift C n w (L.upd b (es.length * s)) (keys ((b,.row (es.length * s))::F)) Q x a w'):lift C n w L (keys H) Q x a w':=by
 obtain ⟨e',H',L',h1,h2,h3,h4⟩:=h
 have hx:=(row_settle hs hc hl hp hH).2.1
 have hin:∀ c,c∈keys ((b,LObj.row (es.length * s))::F)→c∈keys H:=fun c hc=>by
  have:=((hp.map (·.1)).mem_iff (a:=c)).2 (by simpa using hc)
  exact this
 have hb:b∈keys H:=List.mem_map.2 ⟨_,hp.mem_iff.2 List.mem_cons_self,rfl⟩
 refine ⟨e',H',L',⟨h1.os,h1.tape,h1.output,hx.trans h1.ext,fun c hc hn=>h1.block c hc (fun k=>hn (hin c k)),fun c hc hn=>?_,fun p hp'=>(h1.kin p hp').imp (hin _) id⟩,h2,h3,h4⟩
 rw[h1.lsame c hc (fun k=>hn (hin c k))]
 unfold Live.upd
 rw[if_neg (fun he=>hn (by rw[he];exact hb))]
theorem relE_settle {a:Act} {w:World} {L:Live} {b el s cap d:Nat} {es spare:List LV} (hs:∀ v∈es,v.cells.length=s) (hc:es.length≤cap) (hl:es.length * s+spare.length=cap * s) (hp:H.Perm ((b,.cells el (es.flatMap LV.cells++spare))::F))
  (hd:e.s d=.atom (.slice (some ⟨b,0,none⟩) es.length cap)) (hE:RelE n a e w L) (hH:RelH C w L H):RelE n a (e.upd d (.app b cap s es)) w (L.upd b (es.length * s)):=by
 obtain ⟨_,hx,hr⟩:=row_settle hs hc hl hp hH
 refine ⟨hE.size,hE.ds,fun i=>?_⟩
 have hv:=hE.vals i
 simp only[Env.upd]
 cases hb:Nat.beq i d with
 |false=>exact hv.mono hx _ _
 |true=>
  have hi:=Nat.eq_of_beq_eq_true hb
  subst hi
  rw[hd] at hv
  simp only[Rep] at hv
  rw[hv]
  exact hr
theorem LCode.settle {c:Code} (d:Nat) {el s:Nat} {v:Value} {es:List LV} {HM:Heap} (hm:MRow el s v es HM) (hp:H.Perm (HM++F)) (hd:e.s d=.atom v) (h:∀ v' H',Acc s v' es H' F→LCode C n c Q (e.upd d v') H'):LCode C n c Q e H:=by
 cases hm with
 |nil=>
  have:=h nilSlice F Acc.nil
  rw[Env.upd_self hd] at this
  exact LCode.perm (by simpa using hp) this
 |row hs hc hl=>
  exact fun a w L hE hH=>Go.wp_mono (h _ _ Acc.row a w _ (relE_settle hs hc hl hp hd hE hH) (row_settle hs hc hl hp hH).1) fun _ _ _=>lift_settle hs hc hl hp hH
theorem LOps.settle {ops:Array Oper} {rest:List Oper} (d:Nat) {el s:Nat} {v:Value} {es:List LV} {HM:Heap} (hm:MRow el s v es HM) (hp:H.Perm (HM++F)) (hd:e.s d=.atom v) (h:∀ v' H',Acc s v' es H' F→LOps C n ops Q rest (e.upd d v') H'):LOps C n ops Q rest e H:=by
 cases hm with
 |nil=>
  have:=h nilSlice F Acc.nil
  rw[Env.upd_self hd] at this
  exact LOps.weak (H':=F) ⟨[],by simpa using hp⟩ this
 |row hs hc hl=>
  exact fun a w L hE hH=>wpList_mono (fun _ _ _=>lift_settle hs hc hl hp hH) _ _ _ (h _ _ Acc.row a w _ (relE_settle hs hc hl hp hd hE hH) (row_settle hs hc hl hp hH).1)
theorem relH_subC {w:World} {L:Live} {b ty:Nat} {cs cs':List LV} (hs:SubL cs cs') (hp:H.Perm ((b,.cells ty cs)::F)) (hH:RelH C w L H):RelH C w L ((b,.cells ty cs')::F):=by
 have hH1:=hH.perm hp
 refine ⟨hH1.base,trivial,hH1.b0,hH1.wf,hH1.nodup,fun p hp'=>?_⟩
 rcases List.mem_cons.1 hp' with rfl|hp'
 ·obtain ⟨hb0,hbs,hlb,xs,hx1,hx2⟩:=hH1.objs _ List.mem_cons_self
  exact ⟨hb0,hbs,hlb,xs,hx1,hs.repL hx2⟩
 ·exact hH1.objs p (List.mem_cons_of_mem _ hp')
theorem LOps.subC {ops:Array Oper} {rest:List Oper} {b ty:Nat} {cs cs':List LV} (hs:SubL cs cs') (hp:H.Perm ((b,.cells ty cs)::F)) (h:LOps C n ops Q rest e ((b,.cells ty cs')::F)):LOps C n ops Q rest e H:=fun a w L hE hH=>
 wpList_mono (fun _ _ _=>lift_weak fun c hc=>((hp.map (·.1)).mem_iff (a:=c)).2 (by simpa using hc)) _ _ _ (h a w L hE (relH_subC hs hp hH))
end settle
theorem SubL.refl:∀ l:List LV,SubL l l
 |[]=>trivial
 |a::l=>⟨LV.Sub.refl a,SubL.refl l⟩
theorem SubL.app:∀ {a b c d:List LV},SubL a b→SubL c d→SubL (a++c) (b++d)
 |[],[],_,_,_,h=>h
 |_::_,_::_,_,_,h,k=>⟨h.1,SubL.app h.2 k⟩
 |[],_::_,_,_,h,_=>h.elim
 |_::_,[],_,_,h,_=>h.elim
end Go.GL
namespace Go.GL
open Go.RowKit
section
variable {C:Ctx} {e:Env} {H:Heap} {dst:Option Nat} {ty:TypeId} {pos:String} {aft:Array Edge} {g:Option (Nat×Bool)} {K:LV→Heap→Prop} {X:List PanicEntry→Heap→Prop} {x y:Operand}
theorem Pure.rowSlice {t el s:Nat} [ht:TSlice C.P t el s] {a:Option Addr} {m cap n:Nat} {hi:Operand} {k:IntKind} (hx:e.ev x=.atom (.slice a m cap)) (hh:e.ev hi=int k n) (hn:n≤cap) :
  Pure C ⟨dst,.slice t x none (some hi) none,ty,pos,aft,g⟩ e H (.atom (.slice a n cap)):=.of_any fun ρ w L h=>by
 obtain ⟨ti,hti,hsz⟩:=ht.size
 refine ⟨_,rep_atom,fun w'=>?_⟩
 have hb:=run_sliceBounds (P:=C.P) (w':=w') (len:=m) (cap:=cap) (lo:=none) (hi:=some hi) (i:=0) (j:=n) h true rfl ⟨k,hh⟩ zo zo zo
 have h3:execOp ρ ⟨dst,.slice t x none (some hi) none,ty,pos,aft,g⟩=(do Pure.pure (.value (←Instr.sliceAt t (ρ x) none (some (ρ hi)) none))):=rfl
 rw[h3,atom_of h hx]
 simp only[Option.map_none,Option.map_some] at hb
 simp only[Instr.sliceAt,Instr.slice,Sem.run_bind,run_underlying' (P:=C.P) ht.und w',Result.andThen_ok,Sem.run_pure,hb,run_sizeOf' hti,hsz]
 have ha:∀ a:Addr,a.add 0=a:=fun a=>by
  obtain ⟨b,o,sp⟩:=a
  unfold Addr.add
  cases sp <;> simp
 simp[ha]
end
section opened
variable {C:Ctx} {n:Nat} {Q:Post} {e:Env} {H F:Heap}
end opened
end Go.GL
namespace Go.Proofs.YtocofhbdbgnmbaaGreatDoor
open Go.GL
set_option maxRecDepth 100000
instance:TMixed Tryz.prog:=⟨by kernel_rfl⟩
instance:TSize Tryz.prog 3 1:=.of zk
instance:TOne Tryz.prog 3:=.of zk
instance:TKind Tryz.prog 3 .i64:=.of zk
instance:TZero Tryz.prog 3 [.int .i64 0]:=.of (v:=.int .i64 0) (n:=1) zk rfl rfl
instance:TRow Tryz.prog 3 1 8:=.of zk
instance:TOne Tryz.prog 5:=.of zk
instance:TKind Tryz.prog 5 .u8:=.of zk
instance:TZero Tryz.prog 5 [.int .u8 0]:=.of (v:=.int .u8 0) (n:=1) zk rfl rfl
instance:TRow Tryz.prog 5 1 1:=.of zk
instance:TSize Tryz.prog 9 1:=.of zk
instance:TOne Tryz.prog 9:=.of zk
instance:TStr Tryz.prog 9:=.of zk
instance:TZero Tryz.prog 9 [.string ⟨#[]⟩]:=.of (v:=.string ⟨#[]⟩) (n:=1) zk rfl rfl
instance:TRow Tryz.prog 9 1 16:=.of zk
instance:TOne Tryz.prog 23:=.of zk
instance:TSize Tryz.prog 27 1:=.of zk
instance:TOne Tryz.prog 27:=.of zk
instance:TSlice Tryz.prog 27 5 1:=.of zk
instance:TField Tryz.prog 30 1 1:=.of zk
instance:TZero Tryz.prog 30 [.pointer none,.slice none 0 0]:=.of (v:=.agg #[.pointer none,.slice none 0 0]) (n:=2) zk rfl rfl
instance:TKind Tryz.prog 36 .u32:=.of zk
instance:TSize Tryz.prog 40 1:=.of zk
instance:TOne Tryz.prog 40:=.of zk
instance:TSlice Tryz.prog 40 9 1:=.of zk
instance:TZero Tryz.prog 40 [.slice none 0 0]:=.of (v:=.slice none 0 0) (n:=1) zk rfl rfl
instance:TRow Tryz.prog 40 1 24:=.of zk
instance:TSize Tryz.prog 44 1:=.of zk
instance:TOne Tryz.prog 44:=.of zk
instance:TSlice Tryz.prog 44 49 5:=.of zk
instance:TZero Tryz.prog 44 [.slice none 0 0]:=.of (v:=.slice none 0 0) (n:=1) zk rfl rfl
instance:TSize Tryz.prog 47 1:=.of zk
instance:TOne Tryz.prog 47:=.of zk
instance:TSlice Tryz.prog 47 40 1:=.of zk
instance:TSize Tryz.prog 49 5:=.of zk
instance:TAgg Tryz.prog 49 5:=.of zk
instance:TField Tryz.prog 49 0 0:=.of zk
instance:TField Tryz.prog 49 1 1:=.of zk
instance:TField Tryz.prog 49 2 2:=.of zk
instance:TField Tryz.prog 49 3 3:=.of zk
instance:TField Tryz.prog 49 4 4:=.of zk
instance:TStruct Tryz.prog 49 [(0,1),(1,1),(2,1),(3,1),(4,1)]:=.of zk
instance:TZero Tryz.prog 49 [.int .i64 0,.slice none 0 0,.slice none 0 0,.string ⟨#[]⟩,.int .i64 0]:=.of (v:=.agg #[.int .i64 0,.slice none 0 0,.slice none 0 0,.string ⟨#[]⟩,.int .i64 0]) (n:=5) zk rfl rfl
instance:TRow Tryz.prog 49 5 80:=.of zk
instance:TKind Tryz.prog 64 .u64:=.of zk
instance:TSize Tryz.prog 72 5:=.of zk
instance:TAgg Tryz.prog 72 5:=.of zk
instance:TField Tryz.prog 72 0 0:=.of zk
instance:TField Tryz.prog 72 1 1:=.of zk
instance:TField Tryz.prog 72 2 2:=.of zk
instance:TField Tryz.prog 72 3 3:=.of zk
instance:TField Tryz.prog 72 4 4:=.of zk
instance:TStruct Tryz.prog 72 [(0,1),(1,1),(2,1),(3,1),(4,1)]:=.of zk
instance:TZero Tryz.prog 72 [.int .i64 0,.slice none 0 0,.slice none 0 0,.string ⟨#[]⟩,.int .i64 0]:=.of (v:=.agg #[.int .i64 0,.slice none 0 0,.slice none 0 0,.string ⟨#[]⟩,.int .i64 0]) (n:=5) zk rfl rfl
instance:TSize Tryz.prog 86 6:=.of zk
instance:TAgg Tryz.prog 86 6:=.of zk
instance:TField Tryz.prog 86 0 0:=.of zk
instance:TField Tryz.prog 86 1 5:=.of zk
instance:TStruct Tryz.prog 86 [(0,5),(5,1)]:=.of zk
instance:TZero Tryz.prog 86 [.int .i64 0,.slice none 0 0,.slice none 0 0,.string ⟨#[]⟩,.int .i64 0,.int .i64 0]:=.of (v:=.agg #[.int .i64 0,.slice none 0 0,.slice none 0 0,.string ⟨#[]⟩,.int .i64 0,.int .i64 0]) (n:=6) zk rfl rfl
instance:TSize Tryz.prog 108 1:=.of zk
instance:TOne Tryz.prog 108:=.of zk
instance:TSlice Tryz.prog 108 3 1:=.of zk
instance:TZero Tryz.prog 108 [.slice none 0 0]:=.of (v:=.slice none 0 0) (n:=1) zk rfl rfl
instance:TEnter Tryz.prog 8:=.of zk
instance:TEnter Tryz.prog 9:=.of zk
instance:TEnter Tryz.prog 10:=.of zk
instance:TEnter Tryz.prog 11:=.of zk
instance:TEnter Tryz.prog 12:=.of zk
instance:TEnter Tryz.prog 13:=.of zk
instance:TEnter Tryz.prog 14:=.of zk
instance:TEnter Tryz.prog 15:=.of zk
instance:TEnter Tryz.prog 16:=.of zk
instance:TEnter Tryz.prog 17:=.of zk
instance:TEnter Tryz.prog 18:=.of zk
instance:TEnter Tryz.prog 19:=.of zk
instance:TEnter Tryz.prog 20:=.of zk
instance:TEnter Tryz.prog 21:=.of zk
instance:TEnter Tryz.prog 22:=.of zk
instance:TEnter Tryz.prog 23:=.of zk
instance:TEnter Tryz.prog 24:=.of zk
instance:TEnter Tryz.prog 25:=.of zk
instance:TEnter Tryz.prog 26:=.of zk
instance:TEnter Tryz.prog 27:=.of zk
instance:TEnter Tryz.prog 28:=.of zk
instance:TEnter Tryz.prog 30:=.of zk
instance:TEnter Tryz.prog 33:=.of zk
instance:TEnter Tryz.prog 34:=.of zk
instance:TEnter Tryz.prog 35:=.of zk
instance:TEnter Tryz.prog 36:=.of zk
instance:TEnter Tryz.prog 37:=.of zk
instance:TEnter Tryz.prog 41:=.of zk
instance:TEnter Tryz.prog 42:=.of zk
instance:TEnter Tryz.prog 43:=.of zk
instance:TEnter Tryz.prog 44:=.of zk
instance:TEnter Tryz.prog 45:=.of zk
instance:TEnter Tryz.prog 46:=.of zk
instance:TEnter Tryz.prog 47:=.of zk
instance:TEnter Tryz.prog 48:=.of zk
instance:TEnter Tryz.prog 49:=.of zk
instance:TEnter Tryz.prog 50:=.of zk
instance:TEnter Tryz.prog 51:=.of zk
instance:TEnter Tryz.prog 52:=.of zk
instance:TEnter Tryz.prog 53:=.of zk
instance:TEnter Tryz.prog 54:=.of zk
instance:TEnter Tryz.prog 56:=.of zk
instance:TEnter Tryz.prog 64:=.of zk
instance:TEnter Tryz.prog 65:=.of zk
instance:TEnter Tryz.prog 66:=.of zk
instance:TEnter Tryz.prog 67:=.of zk
instance:TEnter Tryz.prog 68:=.of zk
instance:TEnter Tryz.prog 69:=.of zk
instance:TEnter Tryz.prog 71:=.of zk
instance:TEnter Tryz.prog 72:=.of zk
instance:TEnter Tryz.prog 73:=.of zk
instance:TEnter Tryz.prog 74:=.of zk
instance:TEnter Tryz.prog 75:=.of zk
instance:TEnter Tryz.prog 76:=.of zk
instance:TEnter Tryz.prog 77:=.of zk
instance:TEnter Tryz.prog 78:=.of zk
instance:TEnter Tryz.prog 79:=.of zk
instance:TEnter Tryz.prog 80:=.of zk
instance:TEnter Tryz.prog 81:=.of zk
instance:TEnter Tryz.prog 82:=.of zk
instance:TEnter Tryz.prog 91:=.of zk
instance:TEnter Tryz.prog 92:=.of zk
instance:TEnter Tryz.prog 93:=.of zk
instance:TEnter Tryz.prog 94:=.of zk
instance:TEnter Tryz.prog 95:=.of zk
instance:TEnter Tryz.prog 96:=.of zk
instance:TEnter Tryz.prog 99:=.of zk
instance:TEnter Tryz.prog 100:=.of zk
instance:TEnter Tryz.prog 101:=.of zk
instance:TEnter Tryz.prog 102:=.of zk
instance:TEnter Tryz.prog 103:=.of zk
instance:TEnter Tryz.prog 104:=.of zk
instance:TEnter Tryz.prog 114:=.of zk
instance:TEnter Tryz.prog 126:=.of zk
end Go.Proofs.YtocofhbdbgnmbaaGreatDoor
namespace Go.Stele
abbrev Wd:=List UInt8
/-! ### A rule matches words that are there, and puts fewer in their place -/
end Go.Stele
namespace Go.Stele
open Go.Lib
def pieces (c:UInt8):List UInt8→List (List UInt8)
 |[]=>[[]]
 |d::r=>if d=c then []::pieces c r else match pieces c r with
  |p::ps=>(d::p)::ps
  |[]=>[[d]]
theorem pieces_ne (c:UInt8):∀ s,∃ p ps,pieces c s=p::ps
 |[]=>⟨_,_,rfl⟩
 |d::r=>by
  obtain ⟨p,ps,h⟩:=pieces_ne c r
  rw[pieces,h]
  split
  ·exact ⟨_,_,rfl⟩
  ·exact ⟨_,_,rfl⟩
theorem pieces_hit (c:UInt8) (r:List UInt8):pieces c (c::r)=[]::pieces c r:=by rw[pieces,if_pos rfl]
theorem pieces_miss {c d:UInt8} (h:d≠c) (r:List UInt8):∃ p ps,pieces c r=p::ps∧pieces c (d::r)=(d::p)::ps:=by
 obtain ⟨p,ps,hp⟩:=pieces_ne c r
 exact ⟨p,ps,hp,by rw[pieces,if_neg h,hp]⟩
theorem pieces_one {c:UInt8}:∀ {s:List UInt8},c ∉ s→pieces c s=[s]
 |[],_=>rfl
 |d::r,h=>by
  have hd:d≠c:=fun e=>h (by rw[e];exact List.mem_cons_self ..)
  have hr:c ∉ r:=fun e=>h (List.mem_cons_of_mem _ e)
  rw[pieces,if_neg hd,pieces_one hr]
theorem pieces_cut {c:UInt8}:∀ {a b:List UInt8},c ∉ a→pieces c (a++c::b)=a::pieces c b
 |[],b,_=>pieces_hit c b
 |d::a,b,h=>by
  have hd:d≠c:=fun e=>h (by rw[e];exact List.mem_cons_self ..)
  have ha:c ∉ a:=fun e=>h (List.mem_cons_of_mem _ e)
  rw[List.cons_append,pieces,if_neg hd,pieces_cut ha]
/-! ### The library's words for it -/
theorem index_miss {c:UInt8}:∀ {s:List UInt8},c ∉ s→index s [c] = -1
 |[],_=>rfl
 |d::r,h=>by
  have hd:¬ c=d:=fun e=>h (by rw[e];exact List.mem_cons_self ..)
  have hr:c ∉ r:=fun e=>h (List.mem_cons_of_mem _ e)
  have hp:([c]:List UInt8).isPrefixOf (d::r)=false:=by simp[List.isPrefixOf,hd]
  rw[index,hp,index_miss hr]
  rfl
theorem index_hit {c:UInt8}:∀ {a b:List UInt8},c ∉ a→index (a++c::b) [c]=(a.length:Int)
 |[],b,_=>by
  have hp:([c]:List UInt8).isPrefixOf (c::b)=true:=by simp[List.isPrefixOf]
  rw[List.nil_append,index,hp]
  rfl
 |d::a,b,h=>by
  have hd:¬ c=d:=fun e=>h (by rw[e];exact List.mem_cons_self ..)
  have ha:c ∉ a:=fun e=>h (List.mem_cons_of_mem _ e)
  have hp:([c]:List UInt8).isPrefixOf (d::(a++c::b))=false:=by simp[List.isPrefixOf,hd]
  rw[List.cons_append,index,hp,index_hit ha,if_neg (by decide),if_neg (by
   intro h
   have:=eq_of_beq h
   omega)]
  simp
theorem first_cut {c:UInt8} {s:List UInt8} (h:c∈s):∃ a b,s=a++c::b∧c ∉ a:=List.eq_append_cons_of_mem h
theorem cut_one (c:UInt8) (s:List UInt8):(cut s [c]).1=s.takeWhile (fun d=>decide (d≠c)):=by
 by_cases h:c∈s
 ·obtain ⟨a,b,rfl,ha⟩:=first_cut h
  have h1:∀ x∈a,decide (x≠c)=true:=fun x hx=>by
   simp only[decide_eq_true_eq]
   rintro rfl
   exact ha hx
  rw[cut,index_hit ha,if_pos (by omega),List.takeWhile_append_of_pos h1,List.takeWhile_cons_of_neg (by simp)]
  simp
 ·have h1:∀ x∈s,decide (x≠c)=true:=fun x hx=>by
   simp only[decide_eq_true_eq]
   rintro rfl
   exact h hx
  rw[cut,index_miss h,if_neg (by decide)]
  have:=List.takeWhile_append_of_pos (l₂:=[]) h1
  simpa using this.symm
theorem countFrom_one (c:UInt8):∀ (f:Nat) (s:List UInt8),s.length<f→countFrom [c] f s=s.count c
 |0,s,h=>by omega
 |f+1,s,h=>by
  rw[countFrom]
  by_cases hc:c∈s
  ·obtain ⟨a,b,rfl,ha⟩:=first_cut hc
   rw[index_hit ha,if_neg (by
    intro h
    have:=eq_of_beq h
    omega)]
   have hd:(a++c::b).drop ((a.length:Int).toNat+[c].length)=b:=by
    rw[show (a.length:Int).toNat+[c].length=a.length+1 by simp]
    rw[←List.drop_drop,List.drop_left]
    rfl
   rw[hd,countFrom_one c f b (by simp only[List.length_append,List.length_cons] at h;omega)]
   rw[List.count_append,List.count_cons_self,List.count_eq_zero.2 ha]
   omega
  ·rw[index_miss hc,if_pos (by decide),List.count_eq_zero.2 hc]
theorem splitK_one (c:UInt8):∀ (k:Nat) (s:List UInt8),s.count c≤k→splitK [c] 0 k s=pieces c s
 |0,s,h=>by
  have hc:c ∉ s:=List.count_eq_zero.1 (by omega)
  rw[splitK,pieces_one hc]
 |k+1,s,h=>by
  rw[splitK]
  by_cases hc:c∈s
  ·obtain ⟨a,b,rfl,ha⟩:=first_cut hc
   rw[index_hit ha,if_neg (by
    intro h
    have:=eq_of_beq h
    omega),pieces_cut ha]
   have hd:(a++c::b).drop ((a.length:Int).toNat+[c].length)=b:=by
    rw[show (a.length:Int).toNat+[c].length=a.length+1 by simp]
    rw[←List.drop_drop,List.drop_left]
    rfl
   rw[hd,show (a.length:Int).toNat+0=a.length by simp,List.take_left,splitK_one c k b (by
    rw[List.count_append,List.count_cons_self] at h
    omega)]
  ·rw[index_miss hc,if_pos (by decide),pieces_one hc]
theorem split_one (c:UInt8) (s:List UInt8):split s [c]=pieces c s:=by
 rw[split,count,splitK_one c _ s (by rw[countFrom_one c _ s (by omega)];exact Nat.le_refl _)]
/-! ### Words -/
def full (l:List (List UInt8)):List Wd:=l.filter fun w=>decide (w≠[])
def flush (cur:List UInt8):List Wd:=if cur=[] then [] else [cur]
theorem full_app (a b:List (List UInt8)):full (a++b)=full a++full b:=List.filter_append ..
theorem full_one (a:List UInt8):full [a]=flush a:=by
 unfold full flush
 by_cases h:a=[] <;> simp[h]
end Go.Stele
namespace Go.Stele
open Go.Lib
structure Blk where
 kind:Nat
 words:List Wd
 rows:List (List Wd)
 runs:Wd
 width:Nat
 deriving DecidableEq,Inhabited
def wordsL (s:Wd):List Wd:=full (pieces 32 s)
def trimL (s:Wd):Wd:=s.dropWhile fun c=>decide (c=32)
def trimSp (s:Wd):Wd:=(trimL (trimL s).reverse).reverse
def posW (m:Nat) (w:Wd):Option Nat:=match atoiAll w with
 |.ok v=>if itoa v=w∧1≤v∧v≤m then some v.toNat else none
 |_=>none
def cellsP (s:Wd):Except Nat (List Wd):=
 if s.length<2∨s.getLast? ≠ some 124 then .error 3
 else if 32<(pieces 124 (s.drop 1).dropLast).length then .error 6
 else .ok ((pieces 124 (s.drop 1).dropLast).map trimSp)
def picP (s:Wd):Option (Nat×Wd):=match s.dropWhile fun c=>decide (c≠32) with
 |[]=>none
 |_::runs=>if runs=[]∨32∈runs then none else match posW 200 (s.takeWhile fun c=>decide (c≠32)) with
  |some n=>some (n,runs)
  |none=>none
def okCh (c:UInt8):Bool:=decide (32≤c.toNat) && decide (c.toNat≤126)
def lineP (s:Wd):Except Nat Blk:=
 if s.all okCh=false then .error 3
 else if wordsL s=[] then .ok ⟨0,[],[],[],0⟩
 else if s.head? = some 124 then (match cellsP s with
  |.ok l=>.ok ⟨3,[],[l],[],0⟩
  |.error e=>.error e)
 else if s.take 2=[35,32] then (if (wordsL s).length<2 then .error 3 else .ok ⟨1,(wordsL s).drop 1,[],[],0⟩)
 else if s.take 2=[33,32] then (match picP (s.drop 2) with
  |some (n,r)=>.ok ⟨4,[],[],r,n⟩
  |none=>.error 3)
 else .ok ⟨2,wordsL s,[],[],0⟩
def onLast (f:Blk→Blk):List Blk→List Blk
 |[]=>[]
 |[b]=>[f b]
 |b::r=>b::onLast f r
def emitP (out:List Blk) (op:Nat) (b:Blk):List Blk:=
 if b.kind=0 then out
 else if b.kind=op∧op=3 then onLast (fun a=>{ a with rows:=a.rows++b.rows }) out
 else if b.kind=op∧op=2 then onLast (fun a=>{ a with words:=a.words++b.words }) out
 else out++[b]
def docF:Nat→List Blk→Nat→List Wd→Except (Nat×Nat) (List Blk)
 |_,out,_,[]=>.ok out
 |n,out,op,s::r=>match lineP s with
  |.error e=>.error (n+1,e)
  |.ok b=>docF (n+1) (emitP out op b) b.kind r
def docP (text:Wd):Except (Nat×Nat) (List Blk):=if 20000<text.length then .error (0,6) else docF 0 [] 0 (pieces 10 text)
/-! ### Formatting -/
def fmtRow (row:List Wd):Wd:=124::(row.flatMap fun c=>32::(c++[32,124]))++[10]
def fmtB (b:Blk):Option Wd:=
 if b.kind=1 then some ([35,32]++join b.words [32]++[10])
 else if b.kind=2 then some (join b.words [32]++[10])
 else if b.kind=3 then some (b.rows.flatMap fmtRow)
 else if b.kind=4 then some ([33,32]++itoa b.width++[32]++b.runs++[10])
 else none
def fmtBs:List Blk→Option (List Wd)
 |[]=>some []
 |b::r=>match fmtB b,fmtBs r with
  |some s,some l=>some (s::l)
  |_,_=>none
def fmtP (l:List Blk):Except Nat Wd:=match fmtBs l with
 |none=>.error 10
 |some parts=>if 20000<(join parts [10]).length then .error 6 else match docP (join parts [10]) with
  |.ok bs=>if bs=l then .ok (join parts [10]) else .error 3
  |.error _=>.error 3
/-! ### Paragraphs, headings -/
def partW (w:Nat):Nat→Wd→List Wd
 |0,s=>[s]
 |f+1,s=>if s.length≤w then [s] else s.take w::partW w f (s.drop w)
def partsP (w:Nat) (l:List Wd):List Wd:=l.flatMap fun s=>partW w s.length s
def putW (w:Nat) (p:Wd):List Wd→List Wd
 |[]=>[p]
 |[a]=>if a.length+1+p.length≤w then [a++32::p] else [a,p]
 |a::r=>a::putW w p r
def okWord (s:Wd):Bool:=decide (s≠[]) && s.all fun c=>decide (33≤c.toNat) && decide (c.toNat≤126)
def wrapE (l:List Wd) (w:Int):Nat:=if w<1∨200<w then 2 else if l.all okWord=true then 0 else 1
def wrapP (l:List Wd) (w:Nat):List Wd:=(partsP w l).foldl (fun out p=>putW w p out) []
def longest (l:List Wd):Nat:=l.foldl (fun m s=>max m s.length) 0
def headP (l:List Wd) (w:Nat):List Wd:=if wrapP l w=[] then [] else wrapP l w++[List.replicate (longest (wrapP l w)) 61]
/-! ### Tables -/
def widen:List Nat→List Wd→List Nat
 |ws,[]=>ws
 |[],c::r=>max 1 c.length::widen [] r
 |w::ws,c::r=>max w c.length::widen ws r
def widthsP (rows:List (List Wd)):List Nat:=rows.foldl widen []
def tabCells:List Nat→List Wd→Wd
 |[],_=>[]
 |w::ws,[]=>32::(List.replicate w 32++[32,124])++tabCells ws []
 |w::ws,c::r=>32::(c++List.replicate (w-c.length) 32++[32,124])++tabCells ws r
def tabLine (ws:List Nat) (row:List Wd):Wd:=124::tabCells ws row
def tableP (rows:List (List Wd)):List Wd:=rows.map (tabLine (widthsP rows))
/-! ### Pictures -/
def runsP:Nat→UInt8→Wd→Option (List (Nat×UInt8))
 |0,_,s=>if s=[] then some [] else none
 |f+1,last,s=>if s=[] then some [] else match s.dropWhile fun c=>decide (c≠46∧c≠35) with
  |[]=>none
  |c::r=>match posW 99999 (s.takeWhile fun c=>decide (c≠46∧c≠35)) with
   |none=>none
   |some n=>if c=last then none else match runsP f c r with
    |some l=>some ((n,c)::l)
    |none=>none
def runLen (l:List (Nat×UInt8)):Nat:=(l.map (·.1)).sum
def runCells (l:List (Nat×UInt8)):Wd:=l.flatMap fun p=>List.replicate p.1 p.2
def rowsOf (w:Nat):Nat→Wd→List Wd
 |0,_=>[]
 |n+1,s=>s.take w::rowsOf w n (s.drop w)
def expandP (runs:Wd) (w:Nat):Except Nat (List Wd):=
 if w<1∨200<w then .error 2
 else match runsP runs.length 0 runs with
  |none=>.error 3
  |some l=>if runLen l=0∨runLen l % w≠0 then .error 4
   else if 200<runLen l / w then .error 6
   else .ok (rowsOf w (runLen l / w) (runCells l))
/-! ### Renderings -/
def rowsP (w:Nat) (b:Blk):Except Nat (List Wd):=
 if b.kind=1 then (if b.words.all okWord=true then .ok (headP b.words w) else .error 1)
 else if b.kind=2 then (if b.words.all okWord=true then .ok (wrapP b.words w) else .error 1)
 else if b.kind=3 then .ok (tableP b.rows)
 else expandP b.runs b.width
def textP (rows:List Wd):Wd:=rows.flatMap fun s=>s++[10]
def bodyP (w:Nat):List Blk→Except Nat (List Wd)
 |[]=>.ok []
 |b::r=>match rowsP w b with
  |.error e=>.error e
  |.ok rows=>match bodyP w r with
   |.error e=>.error e
   |.ok l=>.ok (textP rows::l)
def renderP (text:Wd) (w:Int):Except (Nat×Nat) Wd:=
 if w<1∨200<w then .error (0,2)
 else match docP text with
  |.error e=>.error e
  |.ok l=>match bodyP w.toNat l with
   |.error e=>.error (0,e)
   |.ok parts=>if 65536<(join parts [10]).length then .error (0,6) else .ok (join parts [10])
end Go.Stele
namespace Go.Stele
open Go.Lib
def docS:Nat→List Blk→Nat→List Wd→Except (Nat×Nat) (List Blk×Nat)
 |_,out,op,[]=>.ok (out,op)
 |n,out,op,s::r=>match lineP s with
  |.error e=>.error (n+1,e)
  |.ok b=>docS (n+1) (emitP out op b) b.kind r
theorem docF_S:∀ (l:List Wd) (n:Nat) (out:List Blk) (op:Nat),docF n out op l=match docS n out op l with
  |.ok p=>.ok p.1
  |.error e=>.error e
 |[],n,out,op=>rfl
 |s::r,n,out,op=>by
  rw[docF,docS]
  cases lineP s with
  |error e=>rfl
  |ok b=>exact docF_S r _ _ _
theorem docF_ok {l:List Wd} {n:Nat} {out:List Blk} {op:Nat} {o:List Blk}:docF n out op l=.ok o ↔ ∃ k,docS n out op l=.ok (o,k):=by
 rw[docF_S]
 cases h:docS n out op l with
 |error e=>simp
 |ok p=>obtain ⟨o',k⟩:=p;simp
theorem docS_app:∀ (a b:List Wd) (n:Nat) (out:List Blk) (op:Nat),docS n out op (a++b)=match docS n out op a with
  |.ok p=>docS (n+a.length) p.1 p.2 b
  |.error e=>.error e
 |[],b,n,out,op=>rfl
 |s::r,b,n,out,op=>by
  rw[List.cons_append,docS,docS]
  cases lineP s with
  |error e=>rfl
  |ok x=>
   simp only
   rw[docS_app r b,List.length_cons,show n+1+r.length=n+(r.length+1) by omega]
theorem onLast_two {f:Blk→Blk} {a b:Blk} {r:List Blk} (h:r≠[]):onLast f (a::r)=a::onLast f r:=by
 cases r with
 |nil=>exact absurd rfl h
 |cons c r=>rfl
theorem onLast_ne {f:Blk→Blk}:∀ {l:List Blk},l≠[]→onLast f l≠[]
 |[],h=>absurd rfl h
 |[b],_=>by simp[onLast]
 |b::c::r,_=>by simp[onLast]
theorem onLast_app {f:Blk→Blk}:∀ (p:List Blk) {l:List Blk},l≠[]→onLast f (p++l)=p++onLast f l
 |[],l,_=>rfl
 |[b],c::r,_=>rfl
 |[b],[],h=>absurd rfl h
 |b::c::p,l,h=>by
  have:=onLast_app (f:=f) (c::p) h
  rw[List.cons_append] at this
  rw[List.cons_append,List.cons_append,onLast_two (b:=b) (by simp),this]
  rfl
theorem onLast_snoc {f:Blk→Blk} (p:List Blk) (b:Blk):onLast f (p++[b])=p++[f b]:=onLast_app p (by simp)
theorem emit_ne {out:List Blk} {op:Nat} {b:Blk} (h:op≠0→out≠[]) (hb:b.kind≠0):emitP out op b≠[]:=by
 rw[emitP,if_neg hb]
 split
 ·rename_i h1
  exact onLast_ne (h (by omega))
 ·split
  ·rename_i h1
   exact onLast_ne (h (by omega))
  ·simp
theorem emit_app (p:List Blk) {out:List Blk} {op:Nat} {b:Blk} (h:op≠0→out≠[]):emitP (p++out) op b=p++emitP out op b:=by
 unfold emitP
 split
 ·rfl
 ·split
  ·rename_i h1
   exact onLast_app p (h (by omega))
  ·split
   ·rename_i h1
    exact onLast_app p (h (by omega))
   ·simp
theorem docS_pre (p:List Blk):∀ (l:List Wd) (n m:Nat) (out:List Blk) (op:Nat) (o:List Blk) (k:Nat),(op≠0→out≠[])→docS m out op l=.ok (o,k)→docS n (p++out) op l=.ok (p++o,k)
 |[],n,m,out,op,o,k,_,h=>by cases h;rfl
 |s::r,n,m,out,op,o,k,hne,h=>by
  rw[docS] at h ⊢
  cases hs:lineP s with
  |error e=>rw[hs] at h;cases h
  |ok b=>
   rw[hs] at h
   simp only at h ⊢
   rw[emit_app p hne]
   exact docS_pre p r _ _ _ _ _ _ (fun hb=>emit_ne hne hb) h
theorem lineP_nil:lineP []=.ok ⟨0,[],[],[],0⟩:=rfl
theorem pieces_app (c:UInt8) (b:Wd):∀ a:Wd,pieces c (a++c::b)=pieces c a++pieces c b
 |[]=>pieces_hit c b
 |d::a=>by
  have ih:=pieces_app c b a
  by_cases hd:d=c
  ·subst hd
   rw[List.cons_append,pieces_hit,pieces_hit,ih,List.cons_append]
  ·obtain ⟨p,ps,h1,h2⟩:=pieces_miss hd a
   rw[List.cons_append,pieces,if_neg hd,ih,h1,h2]
   rfl
theorem pieces_end (c:UInt8) (a:Wd):pieces c (a++[c])=pieces c a++[[]]:=pieces_app c [] a
theorem doc_join {t s:Wd} {a b:List Blk} (ha:docF 0 [] 0 (pieces 10 (t++[10]))=.ok a) (hb:docF 0 [] 0 (pieces 10 s)=.ok b):docF 0 [] 0 (pieces 10 (t++[10]++10::s))=.ok (a++b):=by
 obtain ⟨k,ha⟩:=docF_ok.1 ha
 obtain ⟨k',hb⟩:=docF_ok.1 hb
 rw[docF_ok]
 rw[pieces_end,docS_app] at ha
 rw[pieces_app,pieces_end,docS_app,docS_app]
 cases h1:docS 0 [] 0 (pieces 10 t) with
 |error e=>rw[h1] at ha;cases ha
 |ok p=>
  rw[h1] at ha
  obtain ⟨o,j⟩:=p
  simp only[docS,lineP_nil,emitP,if_true] at ha ⊢
  cases ha
  have:=docS_pre a (pieces 10 s) (0+(pieces 10 t++[[]]).length) 0 [] 0 b k' (fun h=>absurd rfl h) hb
  rw[List.append_nil] at this
  exact ⟨k',this⟩
theorem join_two (c:Wd) (x y:Wd) (r:List Wd):join (x::y::r) c=x++c++join (y::r) c:=by
 rw[join_cons,join_cons,joinTail,List.map_cons,List.flatten_cons,List.append_assoc,List.append_assoc]
 rfl
theorem docs_join:∀ (bs:List Blk) (ts:List Wd),ts.length=bs.length→(∀ p∈bs.zip ts,docF 0 [] 0 (pieces 10 p.2)=.ok [p.1]∧∃ t,p.2=t++[10])→docF 0 [] 0 (pieces 10 (join ts [10]))=.ok bs
 |[],[],_,_=>rfl
 |[b],[s],_,h=>by
  rw[join_one]
  exact (h (b,s) (by simp)).1
 |b::c::bs,s::u::ts,hl,h=>by
  obtain ⟨h1,t,ht⟩:=h (b,s) (by simp)
  have ih:=docs_join (c::bs) (u::ts) (by simpa using hl) (fun p hp=>h p (by
   rw[List.zip_cons_cons]
   exact List.mem_cons_of_mem _ hp))
  simp only at h1 ht
  subst ht
  rw[join_two]
  have:=doc_join h1 ih
  simpa using this
 |[],_::_,hl,_=>by simp at hl
 |_::_,[],hl,_=>by simp at hl
 |[_],_::_::_,hl,_=>by simp at hl
 |_::_::_,[_],hl,_=>by simp at hl
/-! ### What the blocks of a document are like -/
def GoodB (b:Blk):Prop:=
 (b.kind=1∧b.words≠[]∧b.words.all okWord=true)∨(b.kind=2∧b.words≠[]∧b.words.all okWord=true)∨(b.kind=3∧b.rows≠[])∨(b.kind=4∧1≤b.width∧b.width≤200∧b.runs≠[])
def GoodL (b:Blk):Prop:=b.kind=0∨GoodB b
theorem full_mem {l:List Wd} {w:Wd} (h:w∈full l):w∈l∧w≠[]:=by
 unfold full at h
 rw[List.mem_filter] at h
 exact ⟨h.1,by simpa using h.2⟩
theorem pieces_mem {c:UInt8}:∀ {s:Wd} {p:Wd},p∈pieces c s→c ∉ p∧∀ x∈p,x∈s
 |[],p,h=>by
  rw[pieces,List.mem_singleton] at h
  subst h
  simp
 |d::r,p,h=>by
  by_cases hd:d=c
  ·subst hd
   rw[pieces_hit,List.mem_cons] at h
   rcases h with rfl|h
   ·simp
   ·obtain ⟨h1,h2⟩:=pieces_mem h
    exact ⟨h1,fun x hx=>List.mem_cons_of_mem _ (h2 x hx)⟩
  ·obtain ⟨q,qs,h1,h2⟩:=pieces_miss hd r
   rw[h2,List.mem_cons] at h
   rcases h with rfl|h
   ·obtain ⟨h3,h4⟩:=pieces_mem (show q∈pieces c r by rw[h1];exact List.mem_cons_self)
    refine ⟨fun hc=>?_,fun x hx=>?_⟩
    ·rcases List.mem_cons.1 hc with rfl|hc
     ·exact hd rfl
     ·exact h3 hc
    ·rcases List.mem_cons.1 hx with rfl|hx
     ·exact List.mem_cons_self
     ·exact List.mem_cons_of_mem _ (h4 x hx)
   ·obtain ⟨h3,h4⟩:=pieces_mem (show p∈pieces c r by rw[h1];exact List.mem_cons_of_mem _ h)
    exact ⟨h3,fun x hx=>List.mem_cons_of_mem _ (h4 x hx)⟩
theorem okWord_of {s w:Wd} (hs:s.all okCh=true) (hw:w∈wordsL s):okWord w=true:=by
 obtain ⟨h1,h2⟩:=full_mem hw
 obtain ⟨h3,h4⟩:=pieces_mem h1
 unfold okWord
 simp only[Bool.and_eq_true,decide_eq_true_eq,List.all_eq_true]
 refine ⟨h2,fun c hc=>?_⟩
 have h5:=(List.all_eq_true.1 hs) c (h4 c hc)
 unfold okCh at h5
 simp only[Bool.and_eq_true,decide_eq_true_eq] at h5
 have h6:c.toNat≠32:=fun he=>h3 (by
  have:c=32:=UInt8.toNat.inj he
  rwa [this] at hc)
 omega
theorem words_ok {s:Wd} (hs:s.all okCh=true):(wordsL s).all okWord=true:=List.all_eq_true.2 fun _ hw=>okWord_of hs hw
theorem posW_le {m:Nat} {w:Wd} {n:Nat} (h:posW m w=some n):1≤n∧n≤m∧itoa n=w:=by
 unfold posW at h
 split at h
 ·rename_i v hv
  split at h
  ·rename_i hc
   cases h
   have h1:((v.toNat:Nat):Int)=v:=Int.toNat_of_nonneg (by omega)
   exact ⟨by omega,by omega,by rw[h1];exact hc.1⟩
  ·cases h
 ·cases h
theorem picP_good {s:Wd} {n:Nat} {r:Wd} (h:picP s=some (n,r)):1≤n∧n≤200∧r≠[]∧s=itoa n++32::r:=by
 unfold picP at h
 split at h
 ·cases h
 ·rename_i c runs hd
  split at h
  ·cases h
  ·rename_i hr
   split at h
   ·rename_i k hk
    cases h
    obtain ⟨h1,h2,h3⟩:=posW_le hk
    refine ⟨h1,h2,fun h=>hr (.inl h),?_⟩
    have hc:c=32:=by
     have:=List.head?_dropWhile_not (fun c=>decide (c≠(32:UInt8))) s
     rw[hd] at this
     simpa using this
    have:=List.takeWhile_append_dropWhile (p:=fun c=>decide (c≠(32:UInt8))) (l:=s)
    rw[hd,hc,←h3] at this
    exact this.symm
   ·cases h
theorem drop_ne {l:List Wd} (h:¬ l.length<2):l.drop 1≠[]:=by
 intro h1
 have:=congrArg List.length h1
 simp only[List.length_drop,List.length_nil] at this
 omega
theorem lineP_good {s:Wd} {b:Blk} (h:lineP s=.ok b):GoodL b:=by
 unfold lineP at h
 split at h
 ·cases h
 ·rename_i hs
  have hs:s.all okCh=true:=by simpa using hs
  have hall:=words_ok hs
  split at h
  ·cases h;exact .inl rfl
  ·rename_i hw
   split at h
   ·split at h
    ·cases h;exact .inr (.inr (.inr (.inl ⟨rfl,by simp⟩)))
    ·cases h
   ·split at h
    ·split at h
     ·cases h
     ·rename_i h2
      cases h
      exact .inr (.inl ⟨rfl,drop_ne h2,List.all_eq_true.2 fun x hx=>List.all_eq_true.1 hall x (List.mem_of_mem_drop hx)⟩)
    ·split at h
     ·split at h
      ·rename_i n r hp
       cases h
       obtain ⟨h1,h2,h3,_⟩:=picP_good hp
       exact .inr (.inr (.inr (.inr ⟨rfl,h1,h2,h3⟩)))
      ·cases h
     ·cases h
      exact .inr (.inr (.inl ⟨rfl,hw,hall⟩))
theorem onLast_all {P:Blk→Prop} {f:Blk→Blk} (hf:∀ b,P b→P (f b)):∀ {l:List Blk},(∀ b∈l,P b)→∀ b∈onLast f l,P b
 |[],_,b,h=>by cases h
 |[a],h0,b,h=>by
  rw[onLast,List.mem_singleton] at h
  subst h
  exact hf a (h0 a (by simp))
 |a::c::r,h0,b,h=>by
  rw[onLast_two (b:=a) (by simp),List.mem_cons] at h
  rcases h with rfl|h
  ·exact h0 _ (by simp)
  ·exact onLast_all hf (fun x hx=>h0 x (List.mem_cons_of_mem _ hx)) b h
theorem emit_good {out:List Blk} {op:Nat} {b:Blk} (ho:∀ x∈out,GoodB x) (hb:GoodL b):∀ x∈emitP out op b,GoodB x:=by
 unfold emitP
 split
 ·exact ho
 ·rename_i h0
  have hb:GoodB b:=hb.resolve_left h0
  split
  ·refine onLast_all (fun a ha=>?_) ho
   rcases ha with h|h|h|h
   ·exact .inl h
   ·exact .inr (.inl h)
   ·exact .inr (.inr (.inl ⟨h.1,by simp[h.2]⟩))
   ·exact .inr (.inr (.inr h))
  ·split
   ·rename_i h2
    have h3:b.words.all okWord=true:=by
     rcases hb with h|h|h|h
     ·omega
     ·exact h.2.2
     ·omega
     ·omega
    refine onLast_all (fun a ha=>?_) ho
    rcases ha with h|h|h|h
    ·exact .inl ⟨h.1,by simp[h.2.1],by rw[List.all_append,h.2.2,h3];rfl⟩
    ·exact .inr (.inl ⟨h.1,by simp[h.2.1],by rw[List.all_append,h.2.2,h3];rfl⟩)
    ·exact .inr (.inr (.inl h))
    ·exact .inr (.inr (.inr h))
   ·intro x hx
    rcases List.mem_append.1 hx with h|h
    ·exact ho x h
    ·rw[List.mem_singleton.1 h];exact hb
theorem docS_good:∀ (l:List Wd) (n:Nat) (out:List Blk) (op:Nat) (o:List Blk) (k:Nat),(∀ x∈out,GoodB x)→docS n out op l=.ok (o,k)→∀ x∈o,GoodB x
 |[],n,out,op,o,k,ho,h=>by cases h;exact ho
 |s::r,n,out,op,o,k,ho,h=>by
  rw[docS] at h
  cases hs:lineP s with
  |error e=>rw[hs] at h;cases h
  |ok b=>
   rw[hs] at h
   exact docS_good r _ _ _ _ _ (emit_good ho (lineP_good hs)) h
theorem docP_ok {t:Wd} {l:List Blk}:docP t=.ok l ↔ t.length≤20000∧docF 0 [] 0 (pieces 10 t)=.ok l:=by
 unfold docP
 split
 ·constructor
  ·intro h;cases h
  ·intro h;omega
 ·constructor
  ·intro h;exact ⟨by omega,h⟩
  ·intro h;exact h.2
theorem docP_good {t:Wd} {l:List Blk} (h:docP t=.ok l):∀ b∈l,GoodB b:=by
 obtain ⟨_,h⟩:=docP_ok.1 h
 obtain ⟨k,h⟩:=docF_ok.1 h
 exact docS_good _ _ _ _ _ _ (by simp) h
/-! ### Sizes -/
def bw (b:Blk):Nat:=(b.words.map fun w=>w.length+1).sum+(b.rows.map fun r=>(r.map fun c=>c.length+3).sum+2).sum+3 * b.runs.length+6
def bws (l:List Blk):Nat:=(l.map bw).sum
theorem bws_app (a b:List Blk):bws (a++b)=bws a+bws b:=by simp[bws]
theorem pieces_len (c:UInt8):∀ s:Wd,((pieces c s).map fun w=>w.length+1).sum=s.length+1
 |[]=>rfl
 |d::r=>by
  by_cases hd:d=c
  ·subst hd
   rw[pieces_hit,List.map_cons,List.sum_cons,pieces_len,List.length_cons,List.length_nil]
   omega
  ·obtain ⟨p,ps,h1,h2⟩:=pieces_miss hd r
   have:=pieces_len c r
   rw[h1,List.map_cons,List.sum_cons] at this
   rw[h2,List.map_cons,List.sum_cons,List.length_cons,List.length_cons]
   omega
theorem full_len:∀ l:List Wd,((full l).map fun w=>w.length+1).sum≤(l.map fun w=>w.length+1).sum
 |[]=>Nat.le_refl _
 |w::l=>by
  have ih:=full_len l
  unfold full at ih ⊢
  rw[List.filter_cons]
  split
  ·simp only[List.map_cons,List.sum_cons];omega
  ·simp only[List.map_cons,List.sum_cons];omega
theorem words_len (s:Wd):((wordsL s).map fun w=>w.length+1).sum≤s.length+1:=by
 have:=full_len (pieces 32 s)
 rw[pieces_len] at this
 exact this
theorem drop_len (l:List Wd):((l.drop 1).map fun w=>w.length+1).sum≤(l.map fun w=>w.length+1).sum:=by
 cases l with
 |nil=>simp
 |cons a l=>simp
theorem trimL_len (s:Wd):(trimL s).length≤s.length:=by
 unfold trimL
 exact (List.dropWhile_sublist _).length_le
theorem trimSp_len (s:Wd):(trimSp s).length≤s.length:=by
 unfold trimSp
 have h1:=trimL_len s
 have h2:=trimL_len (trimL s).reverse
 simp only[List.length_reverse] at h2 ⊢
 omega
theorem cells_len:∀ l:List Wd,((l.map trimSp).map fun c=>c.length+3).sum≤3 * (l.map fun w=>w.length+1).sum
 |[]=>Nat.le_refl _
 |w::l=>by
  have ih:=cells_len l
  have:=trimSp_len w
  simp only[List.map_cons,List.sum_cons]
  omega
theorem lineP_bw {s:Wd} {b:Blk} (h:lineP s=.ok b) (h0:b.kind≠0):bw b≤4 * (s.length+1):=by
 unfold lineP at h
 have hw:=words_len s
 split at h
 ·cases h
 ·split at h
  ·cases h;exact absurd rfl h0
  ·rename_i hne
   have hs:1≤s.length:=by
    cases s with
    |nil=>exact absurd rfl hne
    |cons=>simp
   split at h
   ·rename_i hh
    split at h
    ·rename_i l hl
     cases h
     unfold cellsP at hl
     split at hl
     ·cases hl
     ·rename_i h2
      split at hl
      ·cases hl
      ·cases hl
       have h3:=cells_len (pieces 124 (s.drop 1).dropLast)
       rw[pieces_len,List.length_dropLast,List.length_drop] at h3
       simp only[bw,List.map_nil,List.sum_nil,List.map_cons,List.sum_cons,List.length_nil]
       omega
    ·cases h
   ·split at h
    ·rename_i h2
     split at h
     ·cases h
     ·cases h
      have h3:=drop_len (wordsL s)
      have h4:2≤s.length:=by
       have:=congrArg List.length h2
       simp only[List.length_take,List.length_cons,List.length_nil] at this
       omega
      simp only[bw,List.map_nil,List.sum_nil,List.length_nil]
      omega
    ·split at h
     ·split at h
      ·rename_i n r hp
       cases h
       obtain ⟨_,_,_,h4⟩:=picP_good hp
       have h5:=congrArg List.length h4
       simp only[List.length_drop,List.length_append,List.length_cons] at h5
       simp only[bw,List.map_nil,List.sum_nil]
       omega
      ·cases h
     ·cases h
      simp only[bw,List.map_nil,List.sum_nil,List.length_nil]
      omega
theorem onLast_bws {f:Blk→Blk} {k:Nat} (hf:∀ b,bw (f b)≤bw b+k):∀ l:List Blk,bws (onLast f l)≤bws l+k
 |[]=>by simp[onLast,bws]
 |[a]=>by
  have:=hf a
  simpa [onLast,bws] using this
 |a::c::r=>by
  have:=onLast_bws hf (c::r)
  rw[onLast_two (b:=a) (by simp)]
  simp only[bws,List.map_cons,List.sum_cons] at this ⊢
  omega
theorem emit_bws {out:List Blk} {op:Nat} {b:Blk} {k:Nat} (hb:b.kind≠0→bw b≤k):bws (emitP out op b)≤bws out+k:=by
 unfold emitP
 split
 ·omega
 ·rename_i h0
  have hb:=hb h0
  split
  ·refine onLast_bws (fun a=>?_) out
   simp only[bw,List.map_append,List.sum_append] at hb ⊢
   omega
  ·split
   ·refine onLast_bws (fun a=>?_) out
    simp only[bw,List.map_append,List.sum_append] at hb ⊢
    omega
   ·rw[bws_app]
    simp only[bws,List.map_cons,List.sum_cons,List.map_nil,List.sum_nil]
    omega
theorem docS_bws:∀ (l:List Wd) (n:Nat) (out:List Blk) (op:Nat) (o:List Blk) (k:Nat),docS n out op l=.ok (o,k)→bws o≤bws out+4 * (l.map fun w=>w.length+1).sum
 |[],n,out,op,o,k,h=>by cases h;simp
 |s::r,n,out,op,o,k,h=>by
  rw[docS] at h
  cases hs:lineP s with
  |error e=>rw[hs] at h;cases h
  |ok b=>
   rw[hs] at h
   have h1:=docS_bws r _ _ _ _ _ h
   have h2:bws (emitP out op b)≤bws out+4 * (s.length+1):=emit_bws (lineP_bw hs)
   simp only[List.map_cons,List.sum_cons]
   omega
theorem docP_bws {t:Wd} {l:List Blk} (h:docP t=.ok l):bws l≤4 * (t.length+1):=by
 obtain ⟨_,h⟩:=docP_ok.1 h
 obtain ⟨k,h⟩:=docF_ok.1 h
 have:=docS_bws _ _ _ _ _ _ h
 rw[pieces_len] at this
 simpa [bws] using this
end Go.Stele
namespace Go.Stele
open Go.Lib
theorem digit_toNat {d:Nat} (h:d<10):(UInt8.ofNat (48+d)).toNat=48+d:=by
 rw[UInt8.toNat_ofNat']
 omega
theorem decDigits_ne (u:Nat):decDigits u≠[]:=by
 rw[decDigits]
 split <;> simp
theorem nDigits_le:∀ (k u:Nat),u<10 ^ (k+1)→nDigits u≤k+1
 |0,u,h=>by rw[nDigits_small (by simpa using h)];omega
 |k+1,u,h=>by
  by_cases hu:u<10
  ·rw[nDigits_small hu];omega
  ·rw[nDigits_big hu]
   have:=nDigits_le k (u / 10) (by rw[Nat.pow_succ] at h;omega)
   omega
end Go.Stele
namespace Go.Stele
open Go.Lib
/-! ### Numbers in their shortest form -/
theorem itoa_nat (n:Nat):itoa (n:Int)=decDigits n:=by
 unfold itoa
 rw[if_neg (by omega)]
 rfl
theorem pu10_append:∀ (l r:Wd) (acc u:Nat),parseUint10 acc l=.ok u→parseUint10 acc (l++r)=parseUint10 u r
 |[],r,acc,u,h=>by
  rw[parseUint10] at h
  cases h
  rfl
 |c::l,r,acc,u,h=>by
  rw[parseUint10] at h
  rw[List.cons_append,parseUint10]
  split at h
  ·rename_i hc
   rw[if_pos hc]
   split at h
   ·cases h
   ·rename_i h1
    rw[if_neg h1]
    split at h
    ·cases h
    ·rename_i h2
     rw[if_neg h2]
     exact pu10_append l r _ u h
  ·cases h
theorem pu10_dec (u:Nat) (hu:u≤99999):parseUint10 0 (decDigits u)=.ok u:=by
 induction u using Nat.strongRecOn with
 |_ u ih=>
  have one:∀ a d,d<10→a * 10+d≤99999→parseUint10 a [UInt8.ofNat (48+d)]=.ok (a * 10+d):=fun a d hd ha=>by
   rw[parseUint10,digit_toNat hd,if_pos (by omega),if_neg (by omega),if_neg (by omega),parseUint10]
   congr 1
   omega
  rw[decDigits]
  split
  ·have:=one 0 u (by assumption) (by omega)
   simpa using this
  ·rw[pu10_append _ _ 0 (u / 10) (ih (u / 10) (by omega) (by omega)),one _ _ (by omega) (by omega)]
   congr 1
   omega
theorem dec_digit (u:Nat):∀ c∈decDigits u,48≤c.toNat∧c.toNat≤57:=by
 induction u using Nat.strongRecOn with
 |_ u ih=>
  intro c hc
  rw[decDigits] at hc
  split at hc
  ·rw[List.mem_singleton] at hc
   rw[hc,digit_toNat (by assumption)]
   omega
  ·rcases List.mem_append.1 hc with h|h
   ·exact ih (u / 10) (by omega) c h
   ·rw[List.mem_singleton] at h
    rw[h,digit_toNat (by omega)]
    omega
theorem atoi_dec (u:Nat) (hu:u≤99999):atoiAll (decDigits u)=.ok (u:Int):=by
 have h1:=pu10_dec u hu
 have h2:=dec_digit u
 have h3:=decDigits_ne u
 cases hd:decDigits u with
 |nil=>exact absurd hd h3
 |cons c r=>
  rw[hd] at h1 h2
  have hc:=h2 c (by simp)
  unfold atoiAll
  simp only
  rw[if_neg (by omega),parseMag,if_neg (by simp),h1]
  simp only
  rw[if_neg (by omega),if_neg (by omega)]
  have:¬ c.toNat=45:=by omega
  simp[this]
theorem posW_iff {m:Nat} (hm:m≤99999) (w:Wd) (n:Nat):posW m w=some n ↔ 1≤n∧n≤m∧decDigits n=w:=by
 constructor
 ·intro h
  obtain ⟨h1,h2,h3⟩:=posW_le h
  exact ⟨h1,h2,by rw[←itoa_nat];exact h3⟩
 ·rintro ⟨h1,h2,rfl⟩
  unfold posW
  rw[atoi_dec n (by omega)]
  simp only
  rw[if_pos ⟨itoa_nat n,by omega,by omega⟩]
  rfl
theorem dec3 {n:Nat} (h:n≤200):(decDigits n).length≤3:=by
 rw[decDigits_length]
 exact nDigits_le 2 n (by omega)
/-! ### Formatting -/
theorem join_sum (c:UInt8):∀ l:List Wd,l≠[]→(join l [c]).length+1=(l.map fun w=>w.length+1).sum
 |[],h=>absurd rfl h
 |[a],_=>by rw[join_one];simp
 |a::b::r,_=>by
  have ih:=join_sum c (b::r) (by simp)
  rw[join_two,List.length_append,List.length_append,List.map_cons,List.sum_cons,←ih]
  simp only[List.length_cons,List.length_nil]
  omega
theorem row_len (r:List Wd):(fmtRow r).length=(r.map fun c=>c.length+3).sum+2:=by
 unfold fmtRow
 rw[List.length_append,List.length_cons,List.length_flatMap]
 have:(fun c:Wd=>(32::(c++[32,124])).length)=fun c=>c.length+3:=by
  funext c
  simp
 rw[this]
 simp
theorem fmtB_some {b:Blk} (h:GoodB b):∃ s,fmtB b=some s∧s.length+1≤bw b∧∃ t,s=t++[10]:=by
 unfold fmtB
 rcases h with ⟨h1,h2,_⟩|⟨h1,h2,_⟩|⟨h1,h2⟩|⟨h1,h2,h3,h4⟩
 ·refine ⟨_,if_pos h1,?_,_,rfl⟩
  have:=join_sum 32 b.words h2
  simp only[bw,List.length_append,List.length_cons,List.length_nil]
  omega
 ·refine ⟨_,by rw[if_neg (by omega),if_pos h1],?_,_,rfl⟩
  have:=join_sum 32 b.words h2
  simp only[bw,List.length_append,List.length_cons,List.length_nil]
  omega
 ·refine ⟨_,by rw[if_neg (by omega),if_neg (by omega),if_pos h1],?_,?_⟩
  ·rw[List.length_flatMap,bw]
   have:(fun a:List Wd=>(fmtRow a).length)=fun r=>(r.map fun c=>c.length+3).sum+2:=funext row_len
   rw[this]
   omega
  ·have:=List.dropLast_concat_getLast h2
   rw[←this,List.flatMap_append]
   refine ⟨b.rows.dropLast.flatMap fmtRow++(124::((b.rows.getLast h2).flatMap fun c=>32::(c++[32,124]))),?_⟩
   simp[fmtRow]
 ·refine ⟨_,by rw[if_neg (by omega),if_neg (by omega),if_neg (by omega),if_pos h1],?_,_,rfl⟩
  have:=dec3 h3
  have:=List.length_pos_iff.2 h4
  rw[itoa_nat]
  simp only[bw,List.length_append,List.length_cons,List.length_nil]
  omega
theorem fmtBs_some:∀ l:List Blk,(∀ b∈l,GoodB b)→∃ ts,fmtBs l=some ts∧ts.length=l.length∧(∀ p∈l.zip ts,fmtB p.1=some p.2)∧(ts.map fun w=>w.length+1).sum≤bws l
 |[],_=>⟨[],rfl,rfl,by simp,by simp⟩
 |b::r,h=>by
  obtain ⟨s,h1,h2,_⟩:=fmtB_some (h b (by simp))
  obtain ⟨ts,h3,h4,h5,h6⟩:=fmtBs_some r fun x hx=>h x (List.mem_cons_of_mem _ hx)
  refine ⟨s::ts,by rw[fmtBs,h1,h3],by simp[h4],fun p hp=>?_,?_⟩
  ·rw[List.zip_cons_cons,List.mem_cons] at hp
   rcases hp with rfl|hp
   ·exact h1
   ·exact h5 p hp
  ·simp only[bws,List.map_cons,List.sum_cons] at h6 ⊢
   omega
theorem join_le (c:UInt8) (l:List Wd):(join l [c]).length≤(l.map fun w=>w.length+1).sum:=by
 by_cases h:l=[]
 ·subst h;simp[join_nil]
 ·have:=join_sum c l h
  omega
theorem fmtP_ok {l:List Blk} {t:Wd} (h:fmtP l=.ok t):∃ ts,fmtBs l=some ts∧t=join ts [10]∧docP t=.ok l:=by
 unfold fmtP at h
 split at h
 ·cases h
 ·rename_i parts hp
  split at h
  ·cases h
  ·split at h
   ·rename_i bs hb
    split at h
    ·rename_i he
     cases h
     exact ⟨parts,hp,rfl,by rw[hb,he]⟩
    ·cases h
   ·cases h
theorem fmtP_one {l:List Blk} {text:Wd} (hl:text.length≤1000) (h:docP text=.ok l) {b:Blk} (hb:b∈l):fmtP [b]=.error 3∨∃ t,fmtP [b]=.ok t∧docP t=.ok [b]∧fmtB b=some t:=by
 have hg:=docP_good h b hb
 obtain ⟨s,h1,h2,_⟩:=fmtB_some hg
 have h3:=docP_bws h
 have h4:bw b≤bws l:=by
  obtain ⟨x,y,rfl⟩:=List.append_of_mem hb
  rw[bws_app]
  simp only[bws,List.map_cons,List.sum_cons]
  omega
 unfold fmtP
 simp only[fmtBs,h1,join_one]
 rw[if_neg (by omega)]
 cases hd:docP s with
 |error e=>exact .inl rfl
 |ok bs=>
  simp only
  by_cases hbs:bs=[b]
  ·rw[if_pos hbs]
   exact .inr ⟨s,rfl,by rw[hd,hbs],rfl⟩
  ·rw[if_neg hbs]
   exact .inl rfl
theorem fmtP_all {l:List Blk} {text:Wd} (hl:text.length≤1000) (h:docP text=.ok l) (ha:∀ b∈l,∃ t,fmtP [b]=.ok t):∃ t,fmtP l=.ok t∧docP t=.ok l:=by
 obtain ⟨ts,h1,h2,h3,h4⟩:=fmtBs_some l (docP_good h)
 have h5:=docP_bws h
 have h6:=join_le 10 ts
 have h7:docF 0 [] 0 (pieces 10 (join ts [10]))=.ok l:=docs_join l ts h2 fun p hp=>by
  have hm:p.1∈l:=(List.of_mem_zip hp).1
  have hf:=h3 p hp
  obtain ⟨t,ht⟩:=ha p.1 hm
  obtain ⟨ts',k1,k2,k3⟩:=fmtP_ok ht
  simp only[fmtBs,hf] at k1
  cases k1
  rw[join_one] at k2
  subst k2
  obtain ⟨s,k4,_,k5⟩:=fmtB_some (docP_good h p.1 hm)
  rw[hf] at k4
  cases k4
  exact ⟨(docP_ok.1 k3).2,k5⟩
 have h8:docP (join ts [10])=.ok l:=docP_ok.2 ⟨by omega,h7⟩
 refine ⟨join ts [10],?_,h8⟩
 unfold fmtP
 rw[h1]
 simp only[h8]
 rw[if_neg (by omega),if_pos trivial]
/-! ### Renderings -/
theorem put_ne (w:Nat) (p:Wd):∀ l:List Wd,putW w p l≠[]
 |[]=>by simp[putW]
 |[a]=>by rw[putW];split <;> simp
 |a::b::r=>by simp[putW]
theorem partW_ne (w:Nat):∀ (f:Nat) (s:Wd),partW w f s≠[]
 |0,s=>by simp[partW]
 |f+1,s=>by rw[partW];split <;> simp
theorem foldl_put_ne (w:Nat):∀ (ps out:List Wd),(ps≠[]∨out≠[])→ps.foldl (fun out p=>putW w p out) out≠[]
 |[],out,h=>by simpa using h
 |p::ps,out,_=>by
  rw[List.foldl_cons]
  exact foldl_put_ne w ps _ (.inr (put_ne w p out))
theorem parts_ne {w:Nat} {l:List Wd} (h:l≠[]):partsP w l≠[]:=by
 cases l with
 |nil=>exact absurd rfl h
 |cons a r=>
  unfold partsP
  rw[List.flatMap_cons]
  intro h1
  exact partW_ne _ _ _ (List.append_eq_nil_iff.1 h1).1
theorem wrap_ne {w:Nat} {l:List Wd} (h:l≠[]):wrapP l w≠[]:=foldl_put_ne w _ _ (.inl (parts_ne h))
theorem rowsOf_len (w:Nat):∀ (n:Nat) (s:Wd),(rowsOf w n s).length=n
 |0,_=>rfl
 |n+1,s=>by rw[rowsOf,List.length_cons,rowsOf_len w n]
theorem rows_ne {w:Nat} {b:Blk} (hg:GoodB b) {rows:List Wd} (h:rowsP w b=.ok rows):rows≠[]:=by
 unfold rowsP at h
 rcases hg with ⟨h1,h2,h3⟩|⟨h1,h2,h3⟩|⟨h1,h2⟩|⟨h1,h2,h3,_⟩
 ·rw[if_pos h1,if_pos h3] at h
  cases h
  unfold headP
  rw[if_neg (wrap_ne h2)]
  simp
 ·rw[if_neg (by omega),if_pos h1,if_pos h3] at h
  cases h
  exact wrap_ne h2
 ·rw[if_neg (by omega),if_neg (by omega),if_pos h1] at h
  cases h
  unfold tableP
  simpa using h2
 ·rw[if_neg (by omega),if_neg (by omega),if_neg (by omega)] at h
  unfold expandP at h
  split at h
  ·cases h
  ·split at h
   ·cases h
   ·rename_i l _
    split at h
    ·cases h
    ·split at h
     ·cases h
     ·rename_i hl _
      cases h
      intro h0
      have:=congrArg List.length h0
      rw[rowsOf_len,List.length_nil] at this
      have h4:=Nat.div_add_mod (runLen l) b.width
      rw[this] at h4
      omega
theorem text_ne {rows:List Wd} (h:rows≠[]):textP rows≠[]:=by
 cases rows with
 |nil=>exact absurd rfl h
 |cons a r=>simp[textP]
theorem bodyP_ok {w:Nat}:∀ {l:List Blk} {parts:List Wd},bodyP w l=.ok parts→parts.length=l.length∧∀ (i:Nat) (b:Blk),l[i]? = some b→∃ rows,rowsP w b=.ok rows∧parts[i]? = some (textP rows)
 |[],parts,h=>by
  cases h
  exact ⟨rfl,fun i b hb=>by simp at hb⟩
 |b::r,parts,h=>by
  rw[bodyP] at h
  cases hr:rowsP w b with
  |error e=>rw[hr] at h;cases h
  |ok rows=>
   rw[hr] at h
   simp only at h
   cases hb:bodyP w r with
   |error e=>rw[hb] at h;cases h
   |ok l=>
    rw[hb] at h
    cases h
    obtain ⟨h1,h2⟩:=bodyP_ok hb
    refine ⟨by simp[h1],fun i c hc=>?_⟩
    cases i with
    |zero=>
     simp at hc
     subst hc
     exact ⟨rows,hr,rfl⟩
    |succ i=>exact h2 i c (by simpa using hc)
theorem renderP_ok {text s:Wd} {w:Nat} (hw:1≤w∧w≤200):renderP text w=.ok s ↔ ∃ l parts,docP text=.ok l∧bodyP w l=.ok parts∧(join parts [10]).length≤65536∧s=join parts [10]:=by
 unfold renderP
 rw[if_neg (by omega)]
 cases hd:docP text with
 |error e=>simp
 |ok l=>
  simp only[Int.toNat_natCast]
  cases hb:bodyP w l with
  |error e=>
   constructor
   ·intro h;cases h
   ·rintro ⟨l',parts',h1,h2,_⟩
    cases h1
    rw[hb] at h2
    cases h2
  |ok parts=>
   simp only
   constructor
   ·intro h
    split at h
    ·cases h
    ·cases h
     exact ⟨l,parts,rfl,hb,by omega,rfl⟩
   ·rintro ⟨l',parts',h1,h2,h3,h4⟩
    cases h1
    rw[hb] at h2
    cases h2
    rw[if_neg (by omega),h4]
theorem join_part {c:UInt8}:∀ {l:List Wd} {i:Nat} {p:Wd},l[i]? = some p→p.length≤(join l [c]).length
 |[],i,p,h=>by simp at h
 |[a],i,p,h=>by
  cases i with
  |zero=>simp at h;subst h;rw[join_one];exact Nat.le_refl _
  |succ i=>simp at h
 |a::b::r,i,p,h=>by
  rw[join_two,List.length_append,List.length_append]
  cases i with
  |zero=>simp at h;subst h;omega
  |succ i=>
   have:=join_part (c:=c) (l:=b::r) (i:=i) (p:=p) (by simpa using h)
   omega
theorem blocks_law {text s:Wd} {w:Nat} (hw:1≤w∧w≤200) (hl:text.length≤1000) (h:renderP text w=.ok s) :
  ∃ l parts,docP text=.ok l∧parts.length=l.length∧s=join parts [10] ∧
   (∀ (i:Nat) (b:Blk),l[i]? = some b→∃ p,parts[i]? = some p∧(fmtP [b]=.error 3∨∃ t,fmtP [b]=.ok t∧renderP t w=.ok p∧p≠[])) ∧
   ((∀ b∈l,∃ t,fmtP [b]=.ok t)→∃ t,fmtP l=.ok t∧renderP t w=.ok s):=by
 obtain ⟨l,parts,h1,h2,h3,h4⟩:=(renderP_ok hw).1 h
 obtain ⟨h5,h6⟩:=bodyP_ok h2
 refine ⟨l,parts,h1,h5,h4,fun i b hb=>?_,fun ha=>?_⟩
 ·obtain ⟨rows,h7,h8⟩:=h6 i b hb
  have hm:b∈l:=List.mem_of_getElem? hb
  refine ⟨_,h8,(fmtP_one hl h1 hm).imp id ?_⟩
  rintro ⟨t,k1,k2,_⟩
  have h9:=join_part (c:=10) h8
  refine ⟨t,k1,(renderP_ok hw).2 ⟨[b],[textP rows],k2,by simp only[bodyP,h7],?_,?_⟩,text_ne (rows_ne (docP_good h1 b hm) h7)⟩
  ·rw[join_one];omega
  ·rw[join_one]
 ·obtain ⟨t,k1,k2⟩:=fmtP_all hl h1 ha
  exact ⟨t,k1,(renderP_ok hw).2 ⟨l,parts,k2,h2,h3,h4⟩⟩
end Go.Stele
