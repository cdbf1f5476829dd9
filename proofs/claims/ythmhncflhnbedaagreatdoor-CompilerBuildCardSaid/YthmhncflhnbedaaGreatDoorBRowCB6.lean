/- Texts joined: ChkW7, GlStr, InpY1, ChkW8, ChkW9, ChkW10, Lex5, Lex6, ParP1, ParP2. -/
import Derived.Lib.Builder
import Derived.Lib.AppendStr
import Derived.Deep.WholeRow
import Derived.KernelRfl
import Derived.Test.YthmhncflhnbedaaGreatDoorBRowCB3
import Derived.Test.YthmhncflhnbedaaGreatDoorBRowCB4
import Derived.Test.YthmhncflhnbedaaGreatDoorBRowCB5
set_option linter.unusedVariables false
set_option linter.unusedSimpArgs false
set_option maxRecDepth 100000
set_option maxHeartbeats 4000000
namespace Go.Proofs.YthmhncflhnbedaaGreatDoor.Chk
open Go.GL Go.RowKit Go.Stele
theorem form_1 {name:List UInt8} {index value:List Ex} {thn els:List Sm}:qbz (.mk 1 name index value thn els)=((!decide (name=[])) && decide (((index.map encE).length:Int)=0) && decide (((value.map encE).length:Int)=1) && decide (((thn.map encS).length:Int)=0) && decide (((els.map encS).length:Int)=0)):=by
 rw[Bool.eq_iff_iff];simp only[qbz,zBa,zDe,Bool.not_eq_true',decide_eq_false_iff_not,zLm];constructor
 ·exact zT18
 ·exact zT22
theorem form_2 {name:List UInt8} {index value:List Ex} {thn els:List Sm}:qbz (.mk 2 name index value thn els)=((!decide (name=[])) && decide (((index.map encE).length:Int)=1) && decide (((value.map encE).length:Int)=1) && decide (((thn.map encS).length:Int)=0) && decide (((els.map encS).length:Int)=0)):=by
 rw[Bool.eq_iff_iff];simp only[qbz,zBa,zDe,Bool.not_eq_true',decide_eq_false_iff_not,zLm];constructor
 ·exact zT18
 ·exact zT22
theorem form_3 {name:List UInt8} {index value:List Ex} {thn els:List Sm}:qbz (.mk 3 name index value thn els)=((!!decide (name=[])) && decide (((index.map encE).length:Int)=0) && decide (((value.map encE).length:Int)=1)):=by
 rw[Bool.eq_iff_iff];simp only[qbz,zBa,zDe,Bool.not_eq_true',decide_eq_false_iff_not,zLm];constructor
 ·intro h;have h':_:=zt h;obtain ⟨a1,a2,a3⟩:=h';exact ⟨⟨by simpa using a1,by omega⟩,by omega⟩
 ·rintro ⟨⟨a1,a2⟩,a3⟩;exact decide_eq_true ⟨by simpa using a1,by omega,by omega⟩
theorem form_4 {name:List UInt8} {index value:List Ex} {thn els:List Sm}:qbz (.mk 4 name index value thn els)=((!!decide (name=[])) && decide (((index.map encE).length:Int)=0) && decide (((value.map encE).length:Int)=1) && decide (((els.map encS).length:Int)=0)):=by
 rw[Bool.eq_iff_iff];simp only[qbz,zBa,zDe,Bool.not_eq_true',decide_eq_false_iff_not,zLm];constructor
 ·intro h;have h':_:=zt h;obtain ⟨a1,a2,a3,a4⟩:=h';exact ⟨⟨⟨by simpa using a1,by omega⟩,by omega⟩,by omega⟩
 ·rintro ⟨⟨⟨a1,a2⟩,a3⟩,a4⟩;exact decide_eq_true ⟨by simpa using a1,by omega,by omega,by omega⟩
theorem form_5 {name:List UInt8} {index value:List Ex} {thn els:List Sm}:qbz (.mk 5 name index value thn els)=((!!decide (name=[])) && decide (((index.map encE).length:Int)=0) && decide (((value.map encE).length:Int)=1) && decide (((thn.map encS).length:Int)=0) && decide (((els.map encS).length:Int)=0)):=by
 rw[Bool.eq_iff_iff];simp only[qbz,zBa,zDe,Bool.not_eq_true',decide_eq_false_iff_not,zLm];constructor
 ·exact zT18
 ·exact zT22
theorem form_6 {name:List UInt8} {index value:List Ex} {thn els:List Sm}:qbz (.mk 6 name index value thn els)=((!!decide (name=[])) && decide (((index.map encE).length:Int)=0) && decide (((value.map encE).length:Int)=1) && decide (((thn.map encS).length:Int)=0) && decide (((els.map encS).length:Int)=0) && decide (exOp (value.headD default)=[99,97,108,108])):=by
 rw[Bool.eq_iff_iff];simp only[qbz,zBa,zDe,Bool.not_eq_true',decide_eq_false_iff_not,zLm];constructor
 ·intro h;have h':_:=zt h;obtain ⟨a1,a2,a3,a4,a5,a6⟩:=h';exact ⟨⟨⟨⟨⟨by simpa using a1,by omega⟩,by omega⟩,by omega⟩,by omega⟩,a6⟩
 ·rintro ⟨⟨⟨⟨⟨a1,a2⟩,a3⟩,a4⟩,a5⟩,a6⟩;exact decide_eq_true ⟨by simpa using a1,by omega,by omega,by omega,by omega,a6⟩
theorem form_7 {name:List UInt8} {index value:List Ex} {thn els:List Sm}:qbz (.mk 7 name index value thn els)=((!!decide (name=[])) && decide (((index.map encE).length:Int)=0) && decide (((value.map encE).length:Int)=0) && decide (((thn.map encS).length:Int)=0) && decide (((els.map encS).length:Int)=0)):=by
 rw[Bool.eq_iff_iff];simp only[qbz,zBa,zDe,Bool.not_eq_true',decide_eq_false_iff_not,zLm];constructor
 ·exact zT18
 ·exact zT22
attribute [local irreducible] LOps qae qag LCalls Go.GL.Pure qaA qaq qah LQ LAny qaF qap LS
section
variable {B0:Nat} {w0:World}
theorem ql9 (s:Sm):LCalls (KC B0 w0) 228 [encS s] [] (Ret (bool (qbz s))):=by
 obtain ⟨kind,name,index,value,thn,els⟩:=s;rw[qbk];refine cI Tryz.func228 rfl (n:=159) rfl rfl rfl ?_;refine gag ?_;refine oS (sB rfl fun b1=>?_) rfl;refine gad ?_;refine zQ85 ?_;refine gab ?_
 by_cases hk1:kind=1
 ·subst hk1;refine oC rfl (fun _=>?_) (fun hc=>by cases hc);rw[form_1];refine gaf ?_;refine oB 28 rfl (fun q1=>?_) (fun q1=>?_);rotate_left
  ·exact zT2
  refine gaq ?_;refine oB 32 rfl (fun q2=>?_) (fun q2=>?_);rotate_left
  ·exact zT1
  refine gaq ?_;refine oB 36 rfl (fun q3=>?_) (fun q3=>?_);rotate_left
  ·exact zT5
  refine gaq ?_;refine oB 40 rfl (fun q4=>?_) (fun q4=>?_);rotate_left
  ·exact zT7
  refine zQ54 ?_;simp only[q1,q2,q3,q4,Bool.true_and];rfl
 refine oC rfl (fun hc=>absurd (zt hc) hk1) (fun _=>?_);refine gay ?_
 by_cases hk2:kind=2
 ·subst hk2;refine oC rfl (fun _=>?_) (fun hc=>by cases hc);rw[form_2];refine gaf ?_;refine oB 47 rfl (fun q1=>?_) (fun q1=>?_);rotate_left
  ·exact zT2
  refine gaq ?_;refine oB 51 rfl (fun q2=>?_) (fun q2=>?_);rotate_left
  ·exact zT1
  refine gaq ?_;refine oB 55 rfl (fun q3=>?_) (fun q3=>?_);rotate_left
  ·exact zT5
  refine gaq ?_;refine oB 59 rfl (fun q4=>?_) (fun q4=>?_);rotate_left
  ·exact zT7
  refine zQ54 ?_;simp only[q1,q2,q3,q4,Bool.true_and];rfl
 refine oC rfl (fun hc=>absurd (zt hc) hk2) (fun _=>?_);refine gay ?_
 by_cases hk3:kind=3
 ·subst hk3;refine oC rfl (fun _=>?_) (fun hc=>by cases hc);rw[form_3];refine gaa ?_;refine oB 67 rfl (fun q1=>?_) (fun q1=>?_);rotate_left
  ·exact zT2
  refine gaq ?_;refine oB 71 rfl (fun q2=>?_) (fun q2=>?_);rotate_left
  ·exact zT1
  refine zQ54 ?_;simp only[q1,q2,Bool.true_and];rfl
 refine oC rfl (fun hc=>absurd (zt hc) hk3) (fun _=>?_);refine gay ?_
 by_cases hk4:kind=4
 ·subst hk4;refine oC rfl (fun _=>?_) (fun hc=>by cases hc);rw[form_4];refine gaa ?_;refine oB 79 rfl (fun q1=>?_) (fun q1=>?_);rotate_left
  ·exact zT2
  refine gaq ?_;refine oB 83 rfl (fun q2=>?_) (fun q2=>?_);rotate_left
  ·exact zT1
  refine gaq ?_;refine oB 87 rfl (fun q3=>?_) (fun q3=>?_);rotate_left
  ·exact zT5
  refine zQ54 ?_;simp only[q1,q2,q3,Bool.true_and];rfl
 refine oC rfl (fun hc=>absurd (zt hc) hk4) (fun _=>?_);refine gay ?_
 by_cases hk5:kind=5
 ·subst hk5;refine oC rfl (fun _=>?_) (fun hc=>by cases hc);rw[form_5];refine gaa ?_;refine oB 95 rfl (fun q1=>?_) (fun q1=>?_);rotate_left
  ·exact zT2
  refine gaq ?_;refine oB 99 rfl (fun q2=>?_) (fun q2=>?_);rotate_left
  ·exact zT1
  refine gaq ?_;refine oB 103 rfl (fun q3=>?_) (fun q3=>?_);rotate_left
  ·exact zT5
  refine gaq ?_;refine oB 107 rfl (fun q4=>?_) (fun q4=>?_);rotate_left
  ·exact zT7
  refine zQ54 ?_;simp only[q1,q2,q3,q4,Bool.true_and];rfl
 refine oC rfl (fun hc=>absurd (zt hc) hk5) (fun _=>?_);refine gay ?_
 by_cases hk6:kind=6
 ·subst hk6;refine oC rfl (fun _=>?_) (fun hc=>by cases hc);rw[form_6];refine gaa ?_;refine oB 115 rfl (fun q1=>?_) (fun q1=>?_);rotate_left
  ·exact zT2
  refine gaq ?_;refine oB 119 rfl (fun q2=>?_) (fun q2=>?_);rotate_left
  ·exact zT1
  refine gaq ?_;refine oB 123 rfl (fun q3=>?_) (fun q3=>?_);rotate_left
  ·exact zT5
  refine gaq ?_;refine oB 127 rfl (fun q4=>?_) (fun q4=>?_);rotate_left
  ·exact zT7
  refine gaq ?_;refine oB 131 rfl (fun q5=>?_) (fun q5=>?_);rotate_left
  ·refine zQ14 ?_;simp only[q1,q2,q3,q4,q5,Bool.false_and,Bool.and_false,Bool.true_and];rfl
  refine gad ?_
  obtain ⟨x0,rfl⟩:∃ x,value=[x]:=by
   have h1:((value.map encE).length:Int)=1:=zt q3;rw[zLm] at h1
   cases value with
   |nil=>simp at h1
   |cons x l=>
    cases l with
    |nil=>exact ⟨x,rfl⟩
    |cons y l=>simp at h1;omega
  first|refine LOps.want rfl rfl ?_|skip
  refine oP (xR (el':=encE x0) (cs:=[_,_,_,_]) rfl rfl zo rfl rfl rfl) rfl ?_;refine gac ?_;refine rR rfl (zra rfl) zhn ⟨?_,rfl⟩;simp only[q1,q2,q3,q4,q5,Bool.true_and];rfl
 refine oC rfl (fun hc=>absurd (zt hc) hk6) (fun _=>?_);refine gay ?_
 by_cases hk7:kind=7
 ·subst hk7;refine oC rfl (fun _=>?_) (fun hc=>by cases hc);rw[form_7];refine gaa ?_;refine oB 143 rfl (fun q1=>?_) (fun q1=>?_);rotate_left
  ·exact zT2
  refine gaq ?_;refine oB 147 rfl (fun q2=>?_) (fun q2=>?_);rotate_left
  ·exact zT1
  refine gaq ?_;refine oB 151 rfl (fun q3=>?_) (fun q3=>?_);rotate_left
  ·exact zT5
  refine gaq ?_;refine oB 155 rfl (fun q4=>?_) (fun q4=>?_);rotate_left
  ·exact zT7
  refine zQ54 ?_;simp only[q1,q2,q3,q4,Bool.true_and];rfl
 refine oC rfl (fun hc=>absurd (zt hc) hk7) (fun _=>?_);refine gaa ?_;refine rR rfl (zra rfl) zhn ⟨?_,rfl⟩
 have hf:qbz (.mk kind name index value thn els)=false:=by
  simp only[qbz];rw[if_neg hk1,if_neg hk2,if_neg hk3,if_neg hk4,if_neg hk5,if_neg hk6,if_neg hk7]
 rw[hf];rfl
end
end Go.Proofs.YthmhncflhnbedaaGreatDoor.Chk
namespace Go.GL
open Go.RowKit
section
variable {C:Ctx} {e:Env} {H:Heap} {x y:Operand} {dst:Option Nat} {ty:TypeId} {pos:String} {aft:Array Edge} {g:Option (Nat×Bool)} {K:LV->Heap->Prop} {X:List PanicEntry->Heap->Prop}
def byts (l:List UInt8):List LV:=l.map fun b=>int .u8 b.toNat
theorem qnp (l:List UInt8):(byts l).length=l.length:=zLm _
theorem qlQ (l:List UInt8):∀ v∈byts l,v.cells.length=1:=by
 intro v hv;obtain ⟨b,_,rfl⟩:=List.mem_map.1 hv;rfl
theorem qlg (l:List UInt8):(byts l).flatMap LV.cells=byts l:=by
 induction l with
 |nil=>rfl
 |cons b l ih=>
  have h:byts (b::l)=int .u8 b.toNat::byts l:=rfl;rw[h,List.flatMap_cons,ih]
  try rfl
def bytV (l:List UInt8):List Value:=l.map fun b=>.int .u8 b.toNat
theorem qkV (l:List UInt8):∀ v∈bytV l,(∀ cs,v≠Value.agg cs)/\(∀ cs,v≠Value.tuple cs):=by
 intro v hv;obtain ⟨b,_,rfl⟩:=List.mem_map.1 hv;exact And.intro (fun _ h=>by cases h) (fun _ h=>by cases h)
theorem qiD {P:Program} (l:List UInt8) (w':World):(Builtin.firstCells 1 l.length (.string ⟨l.toArray⟩)).run P w'=.ok (bytV l).toArray w':=by
 have:=Go.Lib.run_firstCells_string (P:=P) w' 1 ⟨l.toArray⟩;rw[qgQ] at this;rw[this]
 try rfl
/-! ### A buffer whose cells are all known: it can be frozen -/
theorem qcq {w:World} {L:Live}:∀ {zs xs:List Value},RepL w L (zs.map .atom) xs->xs=zs
 |[],_,h=>by simpa only[List.map_nil,RepL] using h
 |z::zs,xs,h=>by
  simp only[zMc,RepL] at h;obtain ⟨y,ys,rfl,h1,h2⟩:=h;simp only[Rep] at h1;rw[h1,qcq h2]
inductive BRow (el:TypeId):Value->List UInt8->Heap->Prop
 |nil:BRow el (.slice none 0 0) [] []
 |row {b:Nat} {l:List UInt8} {xs:List Value} (h0:l≠[]) (h1:l.length<=xs.length) (h2:xs.take l.length=bytV l):BRow el (.slice (some ⟨b,0,none⟩) l.length xs.length) l [(b,.cells el (xs.map .atom))]
theorem qbI (l:List UInt8):(bytV l).length=l.length:=zLm _
theorem qhL (l m:List UInt8):bytV (l++m)=bytV l++bytV m:=zMa
theorem qge {w:World} {L:Live} (hH:RelH C w L []) {el:TypeId} {l:List UInt8} {xs:List Value} (h0:l≠[]) (h1:l.length<=xs.length) (h2:xs.take l.length=bytV l) (hk:∀ v' H',BRow el v' l H'->K (.atom v') H') :
  Left C w L [] (World.push w (.cells xs.toArray el)) (.slice (some ⟨w.heap.size,0,none⟩) l.length xs.length) K:=by
 have hx:=qfI hH.wf (.cells xs.toArray el) 0
 have:=qe3 hH (.cells xs.toArray el) 0 [(w.heap.size,.cells el (xs.map .atom))] (fun p hp=>by
  simp only[List.mem_singleton] at hp;subst hp
  exact ⟨rfl,by simp[Live.upd],xs,qaT,qbh xs⟩) (by simp)
 exact ⟨.atom _,_,_,this.1,this.2,qar,hk _ _ (BRow.row h0 h1 h2)⟩
theorem qag.appB {sT xT el bytes:Nat} [ht:TSlice C.P sT el 1] [hr:TRow C.P el 1 bytes] [hx2:TStr C.P xT] {v:Value} {l m:List UInt8}
  (hx:e.ev x=.atom v) (ha:BRow el v l H) (hy:e.ev y=str m) (hroom:(l.length+m.length) * bytes<=140737488355328)
  (hk:∀ v' H',BRow el v' (l++m) H'->K (.atom v') H'):qag C ⟨dst,.call { callee:=.builtin .append,args:=#[x,y],argTypes:=#[sT,xT] },ty,pos,aft,g⟩ e H K X:=by
 have h0:∀ (cs:Array Bool) (args:Array Value),builtin .append #[sT,xT] ty cs args=(do Pure.pure (.value (<-Builtin.append_ #[sT,xT] ty args))):=fun _ _=>rfl;have hlen:∀ w':World,(Builtin.lenOf (.string ⟨m.toArray⟩)).run C.P w'=.ok m.length w':=fun w'=>by simp[Builtin.lenOf,qgQ]
 cases ha with
 |nil=>
  by_cases hne:m=[]
  ·subst hne;intro ρ w L h hH
   have hr:(Builtin.append_ #[sT,xT] ty #[.slice none 0 0,.string ⟨#[]⟩]).run C.P w=.ok (.slice none 0 0) w:=by
    obtain ⟨i,hi,his⟩:=ht.size;simp[Builtin.append_,qab ht.und,qab hx2.und,sizeOf,typeInfo,hi,Builtin.lenOf,Builtin.firstCells,show (ByteArray.mk #[]).size=0 from rfl,show ((ByteArray.mk #[]).extract 0 0).data=#[] from rfl]
   rw[qaI,h0];simp only[List.map_toArray,zMc,List.map_nil,Sem.run_bind,qam h hx,qam h hy,hr,Result.andThen_ok,Sem.run_pure];exact ⟨_,[],L,Fr.refl _ _ _,hH,qar,hk _ _ BRow.nil⟩
  ·intro ρ w L h hH;have hpos:0<m.length:=List.length_pos_iff.2 hne
   obtain ⟨cap',rest,r1,r2,r3⟩:=qb9 (ty:=ty) (P:=C.P) (w:=w) (sT:=sT) (xT:=xT) (a:=none) (len:=0) (cap:=0) (n:=m.length) (xv:=.string ⟨m.toArray⟩) (old:=[]) (new:=bytV m) (.inl hx2.und) hlen (fun w' _=>qiD m w')
    (fun w' _=>by simp[Builtin.firstCells]) (by simpa using hroom) zo
   rw[qaI,h0];simp only[List.map_toArray,zMc,List.map_nil,Sem.run_bind,qam h hx,qam h hy,r3,Result.andThen_ok,Sem.run_pure,List.nil_append,Nat.zero_add];have hcl:(bytV m++rest).length=cap':=by rw[zLa,r2,qbI];omega
   obtain ⟨lv,H',L',g1,g2,g3,g4⟩:=qge (K:=K) (el:=el) (l:=m) (xs:=bytV m++rest) hH.drew hne (by rw[hcl];omega) (by rw[List.take_left' (qbI m)]) (fun v' H' h'=>hk v' H' h');rw[hcl] at g3
   exact ⟨lv,H',L',g1.of_drew,g2,g3,g4⟩
 |row hne h1 h2=>
  rename_i b xs
  intro ρ w L h hH;obtain ⟨hb0,hbs,hl,zs,hz1,hz2⟩:=hH.objs _ (List.mem_singleton.2 rfl);have hz:=qcq hz2;subst hz;simp only at hb0 hbs hl hz1;rw[qaI,h0];simp only[List.map_toArray,zMc,List.map_nil,Sem.run_bind,qam h hx,qam h hy]
  by_cases hc:l.length+m.length<=zs.length
  ·have hrun:=qeF (ty:=ty) (P:=C.P) (w:=w) (sT:=sT) (xT:=xT) (s:=1) (a:=some ⟨b,0,none⟩) (len:=l.length) (cap:=zs.length) (n:=m.length) (xv:=.string ⟨m.toArray⟩) (new:=bytV m) (.inl hx2.und) hlen (fun w' _=>qiD m w') hc;obtain ⟨w',r1,r2,r3,r4,r5,r6,r7⟩:=qcB (P:=C.P) (b:=b) (off:=0+l.length * 1) (t:=el) (fr:=(0,0)) (bytV m) 0 w zs hz1 (by rw[qbI];omega) (fun j _ _=>by simp) (qkV m);rw[hrun];simp only[add_mk,r1,Result.andThen_ok,Sem.run_pure]
   have hx':(zs.take (0+l.length * 1+0)++bytV m++zs.drop (0+l.length * 1+0+(bytV m).length)).length=zs.length:=by
    simp only[zLa,List.length_take,List.length_drop,qbI];omega
   have hfin:=qfF (v:=.slice (some ⟨b,0,none⟩) (l.length+m.length) zs.length) (lv:=.atom (.slice (some ⟨b,0,none⟩) (l.length+m.length) zs.length)) (K:=K) (cs':=(zs.take (0+l.length * 1+0)++bytV m++zs.drop (0+l.length * 1+0+(bytV m).length)).map .atom) hH r2 r3 r4 r5 r6 r7 (by rw[hx',zLm]) (qbh _) qar (by
    have hb:BRow el (.slice (some ⟨b,0,none⟩) (l++m).length (zs.take (0+l.length * 1+0)++bytV m++zs.drop (0+l.length * 1+0+(bytV m).length)).length) (l++m) _:=BRow.row (b:=b) (el:=el) (by simp[hne]) (by rw[hx',zLa];exact hc) (by
     have he:0+l.length * 1+0=l.length:=by omega
     rw[he,h2,<-qhL,List.take_left' (qbI _)])
    rw[hx',zLa] at hb
    exact hk _ _ hb)
   exact hfin
  ·have hold:∀ w':World,w'.heap=w.heap->(Builtin.firstCells 1 l.length (.slice (some ⟨b,0,none⟩) l.length zs.length)).run C.P w'=.ok (bytV l).toArray w':=fun w' hw=>by
    have:=qb0 (P:=C.P) (w:=w') (b:=b) (off:=0) l.length 0 #[] (bytV l) (qbI l) (fun j x' hj=>by
     have hj':zs[j]? = some x':=by
      rw[<-h2,List.getElem?_take] at hj;split at hj
      ·exact hj
      ·cases hj
     simp[World.cell?,hw,hz1,hj'])
    simp only[Builtin.firstCells,loadCells,Nat.mul_one,this]
    simp
   obtain ⟨cap',rest,r1,r2,r3⟩:=qb9 (ty:=ty) (P:=C.P) (w:=w) (sT:=sT) (xT:=xT) (a:=some ⟨b,0,none⟩) (len:=l.length) (cap:=zs.length) (n:=m.length) (xv:=.string ⟨m.toArray⟩) (old:=bytV l) (new:=bytV m) (.inl hx2.und) hlen (fun w' _=>qiD m w') hold hroom zo;rw[r3];simp only[Result.andThen_ok,Sem.run_pure];have hcl:(bytV l++bytV m++rest).length=cap':=by rw[zLa,zLa,r2,qbI,qbI];omega
   have hH0:RelH C w L []:=hH.sub (List.nil_sublist _);obtain ⟨lv,H',L',g1,g2,g3,g4⟩:=qge (K:=K) (el:=el) (l:=l++m) (xs:=bytV l++bytV m++rest) hH0.drew (by simp[hne]) (by rw[hcl,zLa];omega) (by rw[<-qhL,List.take_left' (qbI _)]) (fun v' H' h'=>hk v' H' h');rw[hcl,zLa] at g3;exact ⟨lv,H',L',g1.of_drew.wide (by simp),g2,g3,g4⟩
theorem S.appB1 {sT xT el bytes:Nat} [ht:TSlice C.P sT el 1] [hr:TRow C.P el 1 bytes] [hx2:TStr C.P xT] {v:Value} {l m:List UInt8} {H1:Heap} {q:Nat×LObj}
  (hx:e.ev x=.atom v) (ha:BRow el v l H1) (hy:e.ev y=str m) (hroom:(l.length+m.length) * bytes<=140737488355328)
  (hk:∀ v' H',BRow el v' (l++m) H'->K (.atom v') (q::H')):qag C ⟨dst,.call { callee:=.builtin .append,args:=#[x,y],argTypes:=#[sT,xT] },ty,pos,aft,g⟩ e (q::H1) K X:=by
 refine qag.conseq (K:=fun lv H'=>∃ v' H2,lv=.atom v'/\H'=H2++[q]/\BRow el v' (l++m) H2) (qag.frame (List.perm_append_singleton _ _).symm (qag.appB hx ha hy hroom fun v' H' h=>⟨v',H',rfl,rfl,h⟩)) ?_;rintro lv H' ⟨v',H2,rfl,rfl,h⟩;exact ⟨_,[q]++H2,vR _,⟨[],by simp⟩,hk _ _ h⟩
end
end Go.GL
namespace Go.Proofs.YthmhncflhnbedaaGreatDoor.Inp
open Go.GL Go.RowKit Go.Stele
theorem swap1 {x:Nat×LObj} {H:Heap}:(x::H).Perm (H++[x]):=zPc (l₁:=[x])
theorem errS_parts {c:CEnv} {kind:Int} {name:List UInt8} {index value:List Ex} {thn els:List Sm} (h:errS c (.mk kind name index value thn els)=0) :
  qbz (.mk kind name index value thn els)=true/\qaZ c value=0/\qaZ c index=0/\(if kind=1 then qbj c name else if kind=2 then qdr c name else 0)=0/\qa7 c thn=0/\qa7 c els=0:=by
 rw[errS] at h;split at h
 ·cases h
 ·rename_i hf
  obtain ⟨h1,h⟩:=qad.1 h;obtain ⟨h2,h⟩:=qad.1 h;obtain ⟨h3,h⟩:=qad.1 h;obtain ⟨h4,h5⟩:=qad.1 h;exact ⟨by simpa using hf,h1,h2,h3,h4,h5⟩
theorem form_value {kind:Int} {name:List UInt8} {index value:List Ex} {thn els:List Sm} (h:qbz (.mk kind name index value thn els)=true) (h7:¬ kind=7):∃ x,value=[x]:=by
 have h1:value.length=1:=by
  simp only[qbz] at h
  repeat' (split at h)
  all_goals first
   |(simp only[zDe] at h;omega)
   |cases h
   |contradiction
 cases value with
 |nil=>cases h1
 |cons x l=>
  cases l with
  |nil=>exact ⟨x,rfl⟩
  |cons y l=>simp at h1
theorem form_index {name:List UInt8} {index value:List Ex} {thn els:List Sm} (h:qbz (.mk 2 name index value thn els)=true):∃ x,index=[x]:=by
 have h1:index.length=1:=by
  simp only[qbz] at h;simp only[show ¬ ((2:Int)=1) by decide,if_false,if_true,zDe] at h;exact h.2.1
 cases index with
 |nil=>cases h1
 |cons x l=>
  cases l with
  |nil=>exact ⟨x,rfl⟩
  |cons y l=>simp at h1
end Go.Proofs.YthmhncflhnbedaaGreatDoor.Inp
namespace Go.Proofs.YthmhncflhnbedaaGreatDoor.Chk
open Go.GL Go.RowKit Go.Stele
theorem qiK {kind:Int} {name:List UInt8} {index value:List Ex} {thn els:List Sm} (h:qbz (.mk kind name index value thn els)=true) (h2:¬ kind=2):index=[]:=by
 have h1:index.length=0:=by
  simp only[qbz] at h
  repeat' (split at h)
  all_goals first
   |(simp only[zDe] at h;omega)
   |cases h
   |contradiction
 exact List.length_eq_zero_iff.1 h1
theorem qfo {kind:Int} {name:List UInt8} {index value:List Ex} {thn els:List Sm} (h:qbz (.mk kind name index value thn els)=true) (h3:¬ kind=3) (h4:¬ kind=4):thn=[]/\els=[]:=by
 have h1:thn.length=0/\els.length=0:=by
  simp only[qbz] at h
  repeat' (split at h)
  all_goals first
   |(simp only[zDe] at h;constructor <;> omega)
   |cases h
   |contradiction
 exact ⟨List.length_eq_zero_iff.1 h1.1,List.length_eq_zero_iff.1 h1.2⟩
theorem qnT {name:List UInt8} {index value:List Ex} {thn els:List Sm} (h:qbz (.mk 7 name index value thn els)=true):value=[]:=by
 have h1:value.length=0:=by
  simp only[qbz] at h
  repeat' (split at h)
  all_goals first
   |(simp only[zDe] at h;omega)
   |cases h
   |contradiction
 exact List.length_eq_zero_iff.1 h1
attribute [local irreducible] LOps qae qag LCalls Go.GL.Pure qaA qaq qah LQ LAny qaF qap LS
section
variable {B0:Nat} {w0:World}
def qsC (B0:Nat) (w0:World) (k:KB) (c:CEnv) (n:Nat):Prop:=∀ (x:Sm) (d:Nat),ndS x<=n->d<=200000000->LCalls (KC B0 w0) 196 [ptr k.cb 0,encS x] (ckH k d) (qgS (errS c x) (iv (qiw c x)) (ckH k (max d (depS c x))))
def qta (B0:Nat) (w0:World) (k:KB) (c:CEnv) (n:Nat):Prop:=∀ (l:List Sm) (d:Nat),ndSs l<=n->d<=200000000->LCalls (KC B0 w0) 157 [ptr k.cb 0,.list (l.map encS)] (ckH k d) (qgS (qa7 c l) (iv (qaW c l)) (ckH k (max d (qcO c l))))
theorem qex {k:KB} {c:CEnv} {B D:Nat} (hB:KnB B D c.funcs) (hD8:D<=100000000) {n:Nat} (hn6:n<=2000000) (ih:qsC B0 w0 k c n):qta B0 w0 k c n:=by
 intro l d hnd hd;have hal:=qcn l;generalize hN:qaW c l=N;generalize hDD:max d (qcO c l)=DD;refine cI Tryz.func157 rfl (n:=21) rfl rfl rfl ?_;refine gaa ?_
 refine oL (fun kk ls H'=>∃ (pre l1:List Sm) (m d1:Nat),l=pre++l1/\kk=l1.length/\ls=[(0,ptr k.cb 0),(5,iv m),(8,.list (l.map encS)),(9,int .i64 ((l.map encS).length:Int)),(10,iv pre.length)]/\H'=ckH k d1/\d1<=200000000/\qa7 c l1=qa7 c l/\max m (qaW c l1)=N/\max d1 (qcO c l1)=DD)
  ⟨l.length,_,_,⟨[],l,0,d,rfl,rfl,rfl,rfl,hd,rfl,by omega,hDD⟩,⟨rfl,rfl,rfl,rfl,rfl,trivial⟩,zhR _⟩ ?_
 rintro kk ls H' ⟨pre,l1,m,d1,hLe,rfl,rfl,rfl,hd1,hE,hM,hD1⟩ j hj
 have hb2:pre.length<=2000000:=by
  have:=congrArg List.length hLe;rw[zLa] at this;omega
 refine gai ?_;refine oC rfl (fun hc=>?_) (fun hc=>?_)
 ·have hlen:=zt hc;rw[zLm,hLe,zLa] at hlen
  obtain ⟨a,l2,rfl⟩:∃ a l2,l1=a::l2:=by
   cases l1 with
   |nil=>simp at hlen
   |cons a l2=>exact ⟨a,l2,rfl⟩
  have ham:ndS a<=n:=by
   have h1:∀ (p:List Sm) (x:Sm) (r:List Sm),ndS x<=ndSs (p++x::r):=fun p=>by
    induction p with
    |nil=>intro x r;show ndS x<=ndSs (x::r);rw[ndSs];omega
    |cons y p ih2=>intro x r;show ndS x<=ndSs (y::(p++x::r));rw[ndSs];have:=ih2 x r;omega
   have:=h1 pre a l2;rw[<-hLe] at this;omega
  rw[qa7] at hE;rw[qaW] at hM;rw[qcO] at hD1;have hda:=qqp B D c hB a;refine gak ?_;refine oP (xR (el':=encS a) (cs:=[_,_,_,_,_,_]) rfl rfl zo (by rw[hLe];exact get_mid encS pre a l2) rfl rfl) rfl ?_;refine gac ?_;refine oS (sA fun b7=>?_) rfl;refine gab ?_;refine oS (sK [_,_] rfl (Inp.swap1) (ih a d1 ham hd1) (fun h0=>?_) (fun nm h0 e' he'=>?_)) rfl
  ·rw[h0] at hE;refine oP (Pure.max2e m (qiw c a) rfl rfl rfl rfl) rfl ?_;refine gaa ?_;exact ⟨l2.length,_,_,Nat.lt_succ_self _,⟨pre++[a],l2,max m (qiw c a),max d1 (depS c a),by rw[hLe];simp,rfl,rfl,rfl,by omega,hE,by omega,by omega⟩,⟨rfl,rfl,rfl,rfl,qaf (by simp),trivial⟩,qc5,hj⟩
  ·refine gah ?_;exact panK (he'.trans hj) (by rw[<-hE];unfold orE;rw[if_pos h0]) h0
 ·have hlen:=zf hc;rw[zLm,hLe,zLa] at hlen
  obtain rfl:l1=[]:=by
   cases l1 with
   |nil=>rfl
   |cons a l2=>simp at hlen;omega
  rw[qaW] at hM;rw[qcO] at hD1;have e1:m=N:=by omega
  have e2:d1=DD:=by omega
  subst e1 e2;refine gaa ?_;exact retK hj (zra rfl) (hE.symm.trans rfl) rfl zhr
theorem qgC {k:KB} {c:CEnv} (hk:KBok k c) {B D:Nat} (hB:KnB B D c.funcs) (hB8:B<=50000000) (hD8:D<=100000000):∀ n:Nat,n<=2000000->qsC B0 w0 k c n
 |0,_=>fun x d h _=>by have:=qkv x;omega
 |n+1,hn6=>by
  have ihs:=qex (B0:=B0) (w0:=w0) hB hD8 (n:=n) zo (qgC hk hB hB8 hD8 n zo);have hX:qql B0 w0 k c n:=qcF hk hB zo hD8 n zo;intro x d hnd hd;obtain ⟨kind,name,index,value,thn,els⟩:=x;rw[ndS] at hnd;generalize hI:errS c (Sm.mk kind name index value thn els)=E;rw[errS] at hI;generalize hN:qiw c (Sm.mk kind name index value thn els)=N;rw[qiw] at hN;generalize hDD:max d (depS c (Sm.mk kind name index value thn els))=DD;rw[depS] at hDD;have hfs:=ql9 (B0:=B0) (w0:=w0) (Sm.mk kind name index value thn els);rw[qbk] at hfs ⊢;refine cI Tryz.func196 rfl (n:=65) rfl rfl rfl ?_;refine gag ?_;refine oS (sB rfl fun b3=>?_) rfl;refine gad ?_;refine cM (A:=Unit) (fun _=>[(0,ptr k.cb 0),(3,ptr b3 0)]) (fun _=>(b3,.cells 179 [int .i64 kind,str name,.list (index.map encE),.list (value.map encE),.list (thn.map encS),.list (els.map encS)])::ckH k d) (fun _=>qbz (Sm.mk kind name index value thn els)=true) ?_ (fun _ hform j hj=>?_)
  ·refine cD (m:=7) rfl [(b3,.cells 179 [int .i64 kind,str name,.list (index.map encE),.list (value.map encE),.list (thn.map encS),.list (els.map encS)]),(k.cb,.cells 109 [.atom (.map (some k.gm)),.atom (.map (some k.vm)),.atom (.map (some k.am)),.atom (.map (some k.fm)),str k.name,.atom (.map (some k.om)),int .i64 (d:Int)])] ?_;refine aT 0 rfl rfl (pG (cs':=[_,_,_,_,_,_]) rfl zm0 rfl rfl) ?_;refine aT 2 rfl rfl (pM (lv:=.atom _) rfl) ?_;refine aT 3 rfl rfl (pN rfl) ?_;refine aT 4 rfl rfl (pF rfl) ?_;refine aT 5 rfl rfl (pL (c:=.atom _) rfl zm1 rfl) ?_;refine aL ?_ (zhP pH zhp);refine lO 1 (lS (H1:=[]) rfl (.inl rfl) rfl zpr (zhP pH zhp) (sF [_] rfl hfs ?_))
   cases hf:qbz (Sm.mk kind name index value thn els) with
   |true=>
    refine lO 6 (lS (H1:=[]) rfl (.inl rfl) rfl zpr (zhP pH zhp) (qag.callK [_,_,_] rfl (qaB true k.name 3 zDd) (fun _=>?_) (fun nm h=>absurd rfl h)));refine qhE ?_
    exact ⟨(),rfl,⟨rfl,rfl,trivial⟩,zhR _,rfl⟩
   |false=>
    rw[hf,if_pos rfl] at hI;refine lO 6 (lS (H1:=[]) rfl (.inl rfl) rfl zpr (zhP pH zhp) (qag.callK [_,_,_] rfl (qaB false k.name 3 zDd) (fun h=>absurd h zDd) (fun nm _ e' he'=>?_)));refine gas ?_;exact panK (he'.trans rfl) (by rw[<-hI];rfl) zDd
  rw[hform,if_neg zDd] at hI;refine gaa ?_
  by_cases h7:kind=7
  ·subst h7;obtain rfl:=qnT hform;obtain rfl:=qiK hform zDd;obtain ⟨rfl,rfl⟩:=qfo hform zDd zDd;refine oC rfl (fun _=>?_) (fun hc=>by cases hc);refine gap ?_
   have e2:d=DD:=by
    rw[<-hDD];simp only[qcg,qcO];omega
   subst e2;exact retK hj (zra rfl) (by rw[<-hI];rfl) (by rw[<-hN];rfl) (zhD zhr)
  refine oC rfl (fun hc=>absurd (zt hc) h7) (fun _=>?_);obtain ⟨x0,rfl⟩:=Inp.form_value hform h7;rw[if_neg h7] at hN
  have hnx:ndE x0<=n:=by
   rw[ndEs,ndEs] at hnd;omega
  have hdx:=qmE B D c hB x0;have hnx0:=qef B D c hB x0
  have hEv:∀ E2,orE (qaZ c [x0]) E2=orE (errE c x0) E2:=fun E2=>by
   rw[qaZ,qaZ];unfold orE
   by_cases h:errE c x0≠0
   ·rw[if_pos h,if_pos h]
   ·rw[if_neg h,if_neg zDd,if_neg h]
  rw[hEv] at hI;rw[show ([x0]:List Ex).headD default=x0 from rfl] at hN
  have hDx:qcg c [x0]=depE c x0:=by
   rw[qcg,qcg];omega
  rw[hDx] at hDD;refine gaa ?_;refine oP (xR (el':=encE x0) (cs:=[_,_,_,_]) rfl rfl zo rfl rfl rfl) rfl ?_;refine gav ?_;refine oS (sK [_,_] rfl (Inp.swap1) (hX x0 d hnx hd) (fun h0=>?_) (fun nm h0 e' he'=>?_)) rfl;rotate_left
  ·refine gas ?_;exact panK (he'.trans hj) (by rw[<-hI];unfold orE;rw[if_pos h0]) h0
  rw[h0,show ∀ E2,orE 0 E2=E2 from fun E2=>rfl] at hI;generalize hd1:max d (depE c x0)=d1;refine LOps.perm (Inp.swap1 (H:=ckH k d1)).symm ?_;refine gaa ?_
  by_cases hk1:kind=1
  ·subst hk1;obtain rfl:=qiK hform zDd;obtain ⟨rfl,rfl⟩:=qfo hform zDd zDd
   have hI4:qbj c name=E:=by
    rw[<-hI];simp only[qaZ,qa7];unfold orE
    by_cases ha:qbj c name=0 <;> simp[ha]
   refine oC rfl (fun _=>?_) (fun hc=>by cases hc);refine gaa ?_;refine oS (sK [_,_] rfl (Inp.swap1) (qb7 hk d1 name) (fun h1=>?_) (fun nm h1 e' he'=>?_)) rfl
   ·rw[hI4] at h1;refine gaa ?_;refine oP (Pure.max2e 2 (qa9 c x0) rfl rfl rfl rfl) rfl ?_;refine gae ?_
    have e2:d1=DD:=by
     rw[<-hDD,<-hd1];simp only[qcg,qcO];omega
    subst e2;refine retK hj (zra rfl) h1 ?_ qc5;rw[<-hN];simp only[qaW];exact qaf (by simp)
   ·refine gah ?_;exact panK (he'.trans hj) hI4.symm h1
  refine oC rfl (fun hc=>absurd (zt hc) hk1) (fun _=>?_);rw[if_neg hk1] at hI;refine gay ?_
  by_cases hk2:kind=2
  ·subst hk2;obtain ⟨i0,rfl⟩:=Inp.form_index hform;obtain ⟨rfl,rfl⟩:=qfo hform zDd zDd
   have hni:ndE i0<=n:=by
    rw[ndEs,ndEs,ndEs,ndEs] at hnd;omega
   have hdi:=qmE B D c hB i0;have hni0:=qef B D c hB i0
   have hI4:orE (errE c i0) (qdr c name)=E:=by
    rw[<-hI];simp only[qaZ,qa7];unfold orE
    by_cases ha:errE c i0=0 <;> by_cases hb:qdr c name=0 <;> simp[ha,hb]
   refine oC rfl (fun _=>?_) (fun hc=>by cases hc);refine gaa ?_;refine oP (xR (el':=encE i0) (cs:=[_,_,_,_]) rfl rfl zo rfl rfl rfl) rfl ?_;refine gav ?_;refine oS (sK [_,_] rfl (Inp.swap1) (hX i0 d1 hni zo) (fun h1=>?_) (fun nm h1 e' he'=>?_)) rfl;rotate_left
   ·refine gah ?_;exact panK (he'.trans hj) (by rw[<-hI4];unfold orE;rw[if_pos h1]) h1
   rw[h1] at hI4;refine LOps.perm (Inp.swap1 (H:=ckH k (max d1 (depE c i0)))).symm ?_;refine gaa ?_;refine oS (sK [_,_] rfl (Inp.swap1) (qem hk (max d1 (depE c i0)) name) (fun h2=>?_) (fun nm h2 e' he'=>?_)) rfl
   ·refine gaa ?_;refine oP (Pure.max2e (qa9 c x0) (2+qa9 c i0) rfl rfl rfl zo) rfl ?_;refine gae ?_
    have e2:max d1 (depE c i0)=DD:=by
     rw[<-hDD,<-hd1];simp only[qcg,qcO];omega
    rw[<-e2];exact retK hj (zra rfl) (hI4.symm.trans h2) (by rw[<-hN];rfl) qc5
   ·refine gah ?_;exact panK (he'.trans hj) hI4.symm h2
  refine oC rfl (fun hc=>absurd (zt hc) hk2) (fun _=>?_);obtain rfl:=qiK hform hk2;rw[if_neg hk2] at hI hN;refine gay ?_
  by_cases hk5:kind=5
  ·subst hk5;obtain ⟨rfl,rfl⟩:=qfo hform zDd zDd;refine oC rfl (fun _=>?_) (fun hc=>by cases hc);refine gaa ?_
   have e2:d1=DD:=by
    rw[<-hDD,<-hd1];simp only[qcg,qcO];omega
   subst e2;exact retK hj (zra rfl) (by rw[<-hI];rfl) (by rw[<-hN];rfl) (zhD zhr)
  refine oC rfl (fun hc=>absurd (zt hc) hk5) (fun _=>?_);rw[if_neg hk5] at hN
  have hI5:orE (qa7 c thn) (qa7 c els)=E:=by
   rw[<-hI];simp only[qaZ];rfl
  refine gay ?_
  by_cases hk3:kind=3
  ·refine oC rfl (fun _=>?_) (fun hc=>absurd hk3 (zf hc));refine gar ?_;refine oC rfl (fun _=>?_) (fun hc=>absurd hk3 (zf hc));refine zQ72 ?_;refine lO 4 (lS (H1:=ckH k d1) rfl (.inl rfl) rfl Inp.swap1 zhr (qag.callK [_,_] rfl (ihs thn d1 (by rw[ndEs,ndEs,ndEs] at hnd;omega) zo) (fun h1=>?_) (fun nm h1 e' he'=>?_)));rotate_left
   ·refine gah ?_;exact panK (he'.trans hj) (by rw[<-hI5];unfold orE;rw[if_pos h1]) h1
   rw[h1] at hI5;have hdt:=qeK B D c hB thn;refine lO 8 (lS (H1:=ckH k (max d1 (qcO c thn))) rfl (.inl rfl) rfl zpr zhr (qag.callK [_,_] rfl (ihs els (max d1 (qcO c thn)) (by rw[ndEs,ndEs,ndEs] at hnd;omega) zo) (fun h2=>?_) (fun nm h2 e' he'=>?_)));rotate_left
   ·refine gah ?_;exact panK (he'.trans hj) hI5.symm h2
   refine zQ74 ?_
   have e2:max (max d1 (qcO c thn)) (qcO c els)=DD:=by
    rw[<-hDD,<-hd1];simp only[qcg];omega
   rw[<-e2];exact retK hj (zra rfl) (hI5.symm.trans h2) (by rw[<-hN];rfl) qc5
  refine oC rfl (fun hc=>absurd (zt hc) hk3) (fun _=>?_);refine gay ?_
  by_cases hk4:kind=4
  ·refine oC rfl (fun _=>?_) (fun hc=>absurd hk4 (zf hc));refine zQ72 ?_;refine lO 4 (lS (H1:=ckH k d1) rfl (.inl rfl) rfl Inp.swap1 zhr (qag.callK [_,_] rfl (ihs thn d1 (by rw[ndEs,ndEs,ndEs] at hnd;omega) zo) (fun h1=>?_) (fun nm h1 e' he'=>?_)));rotate_left
   ·refine gah ?_;exact panK (he'.trans hj) (by rw[<-hI5];unfold orE;rw[if_pos h1]) h1
   rw[h1] at hI5;have hdt:=qeK B D c hB thn;refine lO 8 (lS (H1:=ckH k (max d1 (qcO c thn))) rfl (.inl rfl) rfl zpr zhr (qag.callK [_,_] rfl (ihs els (max d1 (qcO c thn)) (by rw[ndEs,ndEs,ndEs] at hnd;omega) zo) (fun h2=>?_) (fun nm h2 e' he'=>?_)));rotate_left
   ·refine gah ?_;exact panK (he'.trans hj) hI5.symm h2
   refine zQ74 ?_
   have e2:max (max d1 (qcO c thn)) (qcO c els)=DD:=by
    rw[<-hDD,<-hd1];simp only[qcg];omega
   rw[<-e2];exact retK hj (zra rfl) (hI5.symm.trans h2) (by rw[<-hN];rfl) qc5
  refine oC rfl (fun hc=>absurd (zt hc) hk4) (fun _=>?_);obtain ⟨rfl,rfl⟩:=qfo hform hk3 hk4;refine gaa ?_;refine oP (Pure.max2e 2 (qa9 c x0) rfl rfl rfl rfl) rfl ?_;refine gae ?_
  have e2:d1=DD:=by
   rw[<-hDD,<-hd1];simp only[qcg,qcO];omega
  subst e2;refine retK hj (zra rfl) (by rw[<-hI5];rfl) ?_ (zhD zhr);rw[<-hN];simp only[qaW];exact qaf (by simp)
end
end Go.Proofs.YthmhncflhnbedaaGreatDoor.Chk
namespace Go.Proofs.YthmhncflhnbedaaGreatDoor.Chk
open Go.GL Go.RowKit Go.Stele
theorem qoI {X A L:Heap} (h:HSub X L):HSub X (A++L):=
 let ⟨G,hG⟩:=h
 ⟨A++G,(List.Perm.append_left A hG).trans (by
  rw[<-zAs,<-zAs]
  exact zPc.append_right G)⟩
def pgH (k:KB) (o:Value) (d:Nat):Heap:=[(k.cb,.cells 109 [.atom (.map (some k.gm)),.atom (.map (some k.vm)),.atom (.map (some k.am)),.atom (.map (some k.fm)),str k.name,.atom o,int .i64 (d:Int)]),(k.gm,.map (kvs k.G) k.g1),(k.vm,.map (kvs k.V) k.g2),(k.am,.map (kvs k.A) k.g3),(k.fm,.map (kvs k.F) k.g4)]
def qow (err:Int) (P:Heap->Prop) (r:LRes) (H:Heap):Prop:=(err=0/\r=.ret (.tuple [])/\P H)∨(err≠0/\(∃ nm,r=.panic (vio nm err))/\H=[])
section
variable {C:Ctx} {n:Nat} {e:Env} {H:Heap} {dst:Option Nat} {ty:TypeId} {pos:String} {aft:Array Edge} {g:Option (Nat×Bool)} {K:LV->Heap->Prop} {X:List PanicEntry->Heap->Prop}
theorem S.callE {err:Int} {P:Heap->Prop} {H1 F:Heap} {f:FuncId} [TEnter C.P f] (args:List Operand) {ats:Array TypeId} {av:List LV} (has:args.map e.ev=av) (hp:H.Perm (H1++F))
  (hc:LCalls C f av H1 (qow err P)) (hk:∀ H',err=0->P H'->K (.tuple []) (H'++F)) (hx:∀ nm,err≠0->X (vio nm err) F):qag C ⟨dst,.call { callee:=.value (.func f),args:=args.toArray,argTypes:=ats },ty,pos,aft,g⟩ e H K X:=by
 refine S.callH args has hp hc ?_ ?_
 ·rintro v H2 (⟨h1,h2,h3⟩|⟨_,⟨nm,h2⟩,_⟩)
  ·cases h2;exact hk _ h1 h3
  ·cases h2
 ·rintro ch H2 (⟨_,h2,_⟩|⟨h1,⟨nm,h2⟩,rfl⟩)
  ·cases h2
  ·cases h2;exact hx nm h1
theorem qr1 {err:Int} {P:Heap->Prop} {H':Heap} {rs:List ResultVar} {vs:List LV} (hd:e.ds=[]) (h:qbF C n e H rs vs) (he:err=0) (hv:qbv vs=.tuple []) (hH:HSub H' H) (hP:P H'):qah C n rs (qow err P) .normal e H:=
 rO hd h hH (.inl ⟨he,by rw[hv],hP⟩)
theorem panE {err er:Int} {P:Heap->Prop} {rs:List ResultVar} {nm:List UInt8} (hd:e.ds=[]) (he:err=er) (h0:er≠0):qah C n rs (qow err P) (.panic (vio nm er)) e H:=
 qah.panic hd zhn (.inr ⟨by rw[he];exact h0,⟨nm,by rw[he]⟩,rfl⟩)
end
def newE (known:List Nm) (s:Nm):Int:=if isNm s=false then 7 else if s∈known then 8 else 0
theorem qd2 (known:List Nm) (s:Nm) (l:List Nm):qa2 known (s::l)=orE (newE known s) (qa2 (s::known) l):=by
 rw[qa2];unfold newE;split
 ·rfl
 split
 ·rfl
 ·rfl
theorem qg4:∀ (l k k':List Nm),(∀ s,s∈k ↔ s∈k')->qa2 k l=qa2 k' l
 |[],_,_,_=>rfl
 |s::l,k,k',h=>by
  have h2:newE k s=newE k' s:=by
   unfold newE;simp only[h s]
  rw[qd2,qd2,h2,qg4 l (s::k) (s::k') (fun x=>by simp[h x])]
attribute [local irreducible] LOps qae qag LCalls Go.GL.Pure qaA qaq qah LQ LAny qaF qap LS
section
variable {B0:Nat} {w0:World}
theorem qf3 {k:KB} {o:Value} {d:Nat} {known:List Nm} (hG:qdG k.G known) (s:Nm):LCalls (KC B0 w0) 112 [ptr k.cb 0,str s] (pgH k o d)
  (qow (newE known s) (fun H=>∃ g1,H=pgH { k with G:=GL.kvPut k.G s (bool true),g1:=g1 } o d)):=by
 generalize hI:newE known s=E;unfold newE at hI;refine cI Tryz.func112 rfl (n:=22) rfl rfl rfl ?_;refine gaf ?_;refine oS (sF [_] rfl (qiT s) ?_) rfl;refine gax ?_
 cases hn:isNm s with
 |false=>
  rw[if_pos hn] at hI;refine oS (sK (H1:=[]) (F:=pgH k o d) [_,_,_] rfl zpr (qaB false s 7 zDd) (fun h=>absurd h zDd) (fun nm _ e' he'=>?_)) rfl;refine gas ?_
  exact panE (he'.trans rfl) hI.symm zDd
 |true=>
  rw[if_neg (by rw[hn];decide)] at hI;refine oS (sK (H1:=[]) (F:=pgH k o d) [_,_,_] rfl zpr (qaB true s 7 zDd) (fun _=>?_) (fun nm h=>absurd rfl h)) rfl;refine gaa ?_;refine oP (Pure.setHas rfl rfl zm1 hG) rfl ?_;refine oB 13 rfl (fun h1=>?_) (fun h1=>?_)
  ·rw[if_pos (zt h1)] at hI;refine gad ?_;refine oS (sK (H1:=[]) (F:=pgH k o d) [_,_,_] rfl zpr (qaB false s 8 zDd) (fun h=>absurd h zDd) (fun nm _ e' he'=>?_)) rfl;refine gas ?_;exact panE (he'.trans rfl) hI.symm zDd
  ·rw[if_neg (zf h1)] at hI;refine gad ?_;refine oS (sK (H1:=[]) (F:=pgH k o d) [_,_,_] rfl zpr (qaB true s 8 zDd) (fun _=>?_) (fun nm h=>absurd rfl h)) rfl;refine gaa ?_;refine oS (S.kvSet (k:=s) (lv:=bool true) rfl rfl rfl zp1 fun g1=>?_) rfl;refine gam ?_;exact qr1 rfl rN hI.symm rfl ⟨[],by rw[zLz];exact List.Perm.swap _ _ _⟩ ⟨g1,rfl⟩
theorem qeT {vars arrays later:List Nm} {known:List FSum} {k:KB} {o:Value} {d:Nat} (f:FnD) (hG:qdG k.G (vars++arrays++later)) (hV:qdG k.V vars) (hA:qdG k.A arrays) (hF:∀ n,GL.kvGet k.F n=(known.find? fun g=>decide (g.name=n)).map qi9) (hnew:f.name ∉ known.map (·.name))
  {B D:Nat} (hB:KnB B D known) (hB8:B<=50000000) (hD8:D<=100000000) (hnd:ndF f<=2000000) :
  LCalls (KC B0 w0) 114 [ptr k.cb 0,qav f] (pgH k o d)
  (qow (errF vars arrays later known f) (fun H=>∃ nm o' d' F' g4,(∀ n,GL.kvGet F' n=((known++[sumF vars arrays later known f]).find? fun g=>decide (g.name=n)).map qi9)/\H=pgH { k with name:=nm,F:=F',g4:=g4 } o' d')):=by
 have hsm:=qi5 hnd;have hp6:f.params.length<=2000000:=hsm.params;have hl6:f.locals.length<=2000000:=hsm.locals
 have hbn:ndSs f.body<=2000000:=by
  unfold ndF at hnd;omega
 generalize hI:errF vars arrays later known f=E;unfold errF at hI;refine cI Tryz.func114 rfl (n:=82) rfl rfl rfl ?_;refine gag ?_;refine oS (sB rfl fun b3=>?_) rfl;refine gaa ?_;refine oS (S.kvNew fun om=>?_) rfl;refine gab ?_;refine oS (sL (es:=[qea f.params,qea f.locals]) [_,_] rfl (zeC rfl rfl (zeC rfl rfl eN)) rfl rfl rfl ?_) rfl
 refine oS (S.callH (H1:=[]) (F:=_) [_] rfl zpr (qh5 [f.params,f.locals] (by simp) (by
  intro l hl;rcases zMi.1 hl with rfl|hl
  ·exact hp6
  ·rw[List.mem_singleton.1 hl]
   exact hl6)) ?_ (by rintro ch H' ⟨v,h,_⟩;cases h)) rfl
 rintro v2 Ha2 ⟨_,h,hacc2⟩;cases h;have hfl:[f.params,f.locals].flatten=f.params++f.locals:=by simp
 rw[hfl] at hacc2;refine LOps.sub 24 rfl hacc2.sub ?_;refine LOps.weak (H':=(b3,.cells 84 [str f.name,.list (f.params.map str),.list (f.locals.map str),.list (f.body.map encS)])::ckH { k with name:=f.name,om:=om,O:=[],g5:=0 } 1) ?_ ?_
 ·refine qoI ?_
  repeat first
   |exact HSub.nil _
   |refine zhP zb1 ?_
 refine gad ?_
 refine oL (fun kk ls H'=>∃ (pre l1:List Nm) (OO:KV) (gg:Nat),f.params++f.locals=pre++l1/\kk=l1.length/\ls=[(0,ptr k.cb 0),(3,ptr b3 0),(24,.list ((f.params++f.locals).map str)),(25,int .i64 (((f.params++f.locals).map str).length:Int)),(26,iv pre.length)] /\
   H'=(b3,.cells 84 [str f.name,.list (f.params.map str),.list (f.locals.map str),.list (f.body.map encS)])::ckH { k with name:=f.name,om:=om,O:=OO,g5:=gg } 1/\qdG OO pre/\orE (qa2 (pre.reverse++(vars++arrays++later)) l1) (qa7 (envF vars arrays later known f) f.body)=E)
  ⟨_,_,_,⟨[],f.params++f.locals,[],0,rfl,rfl,rfl,rfl,qdG.nil,hI⟩,⟨rfl,rfl,rfl,rfl,rfl,trivial⟩,zhR _⟩ ?_
 rintro kk ls H' ⟨pre,l1,OO,gg,hLe,rfl,rfl,rfl,hO,hE⟩ j hj
 have hb2:pre.length<=4000000:=by
  have:=congrArg List.length hLe;rw[zLa,zLa] at this;omega
 refine gai ?_;refine oC rfl (fun hc=>?_) (fun hc=>?_)
 ·have hlen:=zt hc;rw[zLm,hLe,zLa] at hlen
  obtain ⟨s,l2,rfl⟩:∃ a l2,l1=a::l2:=by
   cases l1 with
   |nil=>simp at hlen
   |cons a l2=>exact ⟨a,l2,rfl⟩
  rw[qd2] at hE;generalize hEn:newE (pre.reverse++(vars++arrays++later)) s=En at hE;unfold newE at hEn;refine gak ?_;refine oP (xR (el':=str s) (cs:=[str s]) rfl rfl zo (by rw[hLe];exact get_mid str pre s l2) rfl rfl) rfl ?_;refine gab ?_;refine oS (sF [_] rfl (qiT s) ?_) rfl;refine gax ?_
  cases hn:isNm s with
  |false=>
   rw[if_pos hn] at hEn;refine oS (sK (H1:=[]) (F:=_) [_,_,_] rfl zpr (qaB false s 7 zDd) (fun h=>absurd h zDd) (fun nm _ e' he'=>?_)) rfl;refine gah ?_
   exact panE (he'.trans hj) (by rw[<-hE,<-hEn];rfl) zDd
  |true=>
   rw[if_neg (by rw[hn];decide)] at hEn;refine oS (sK (H1:=[]) (F:=_) [_,_,_] rfl zpr (qaB true s 7 zDd) (fun _=>?_) (fun nm h=>absurd rfl h)) rfl;refine gab ?_;refine oP (Pure.setHas rfl rfl zm2 hG) rfl ?_;refine oB 39 rfl (fun h1=>?_) (fun h1=>?_)
   ·have hin:s∈pre.reverse++(vars++arrays++later):=List.mem_append_right _ (zt h1);rw[if_pos hin] at hEn;refine gad ?_;refine oS (sK (H1:=[]) (F:=_) [_,_,_] rfl zpr (qaB false s 8 zDd) (fun h=>absurd h zDd) (fun nm _ e' he'=>?_)) rfl;refine gah ?_;exact panE (he'.trans hj) (by rw[<-hE,<-hEn];rfl) zDd
   refine gac ?_;refine oP (Pure.setHas rfl rfl zm6 hO) rfl ?_;refine oB 47 rfl (fun h2=>?_) (fun h2=>?_)
   ·have hin:s∈pre.reverse++(vars++arrays++later):=List.mem_append_left _ (List.mem_reverse.2 (zt h2));rw[if_pos hin] at hEn;refine gad ?_;refine oS (sK (H1:=[]) (F:=_) [_,_,_] rfl zpr (qaB false s 8 zDd) (fun h=>absurd h zDd) (fun nm _ e' he'=>?_)) rfl;refine gah ?_;exact panE (he'.trans hj) (by rw[<-hE,<-hEn];rfl) zDd
   rw[if_neg (fun h=>(List.mem_append.1 h).elim (fun h=>zf h2 (List.mem_reverse.1 h)) (zf h1))] at hEn;subst hEn;refine gad ?_;refine oS (sK (H1:=[]) (F:=_) [_,_,_] rfl zpr (qaB true s 8 zDd) (fun _=>?_) (fun nm h=>absurd rfl h)) rfl;refine gab ?_;refine oS (S.kvSet (k:=s) (lv:=bool true) rfl rfl rfl zp6 fun gg2=>?_) rfl;refine gat ?_
   exact ⟨l2.length,_,_,Nat.lt_succ_self _,⟨pre++[s],l2,GL.kvPut OO s (bool true),gg2,by rw[hLe];simp,rfl,rfl,rfl,hO.add s,by
    rw[<-hE];rw[qg4 l2 ((pre++[s]).reverse++(vars++arrays++later)) (s::(pre.reverse++(vars++arrays++later))) (fun x=>by simp)]
    rfl⟩,⟨rfl,rfl,rfl,rfl,qaf (by simp),trivial⟩,by
    repeat first
     |exact HSub.nil _
     |refine zhP zb1 ?_,hj⟩
 have hlen:=zf hc;rw[zLm,hLe,zLa] at hlen
 obtain rfl:l1=[]:=by
  cases l1 with
  |nil=>rfl
  |cons a l2=>simp at hlen;omega
 rw[zLz] at hLe;rw[<-hLe] at hO;have hE2:qa7 (envF vars arrays later known f) f.body=E:=by rw[<-hE];rfl
 have hkb:KBok { k with name:=f.name,om:=om,O:=OO,g5:=gg } (envF vars arrays later known f):=⟨hG,hV,hA,hO,hF⟩;have hss:=qex (B0:=B0) (w0:=w0) (k:={ k with name:=f.name,om:=om,O:=OO,g5:=gg }) (c:=envF vars arrays later known f) hB hD8 (n:=2000000) (zNr _) (qgC hkb hB hB8 hD8 2000000 (zNr _)) f.body 1 hbn zDd;have hnb:=qfm B D (envF vars arrays later known f) hB f.body;have hdb:=qeK B D (envF vars arrays later known f) hB f.body;refine gaa ?_;refine oS (sK [_,_] rfl (Inp.swap1) hss (fun h0=>?_) (fun nm h0 e' he'=>?_)) rfl;rotate_left
 ·refine gas ?_;exact panE (he'.trans hj) hE2.symm h0
 refine LOps.perm (Inp.swap1 (H:=ckH _ _)).symm ?_;refine ga2 ?_;have hpl:(f.params.map str).length<=2000000:=by rw[zLm];exact hp6
 refine qae.tail 20 zk ?_;refine gac ?_;refine lP (Pure.max3e 2 (f.params.length+1) (qaW (envF vars arrays later known f) f.body) rfl rfl rfl rfl (by rw[zLm];omega) rfl) rfl ?_;refine gac ?_;refine oS (S.kvSet (k:=f.name) (lv:=.agg [int .i64 ((f.params.map str).length:Int),int .i64 (max (max 2 (f.params.length+1)) (qaW (envF vars arrays later known f) f.body):Nat),int .i64 (max 1 (qcO (envF vars arrays later known f) f.body):Nat)]) rfl rfl rfl zp5 fun g4=>?_) rfl;refine gam ?_;refine qr1 hj rN (hE2.symm.trans h0) rfl (H':=pgH { k with name:=f.name,F:=GL.kvPut k.F f.name (.agg [int .i64 ((f.params.map str).length:Int),int .i64 (max (max 2 (f.params.length+1)) (qaW (envF vars arrays later known f) f.body):Nat),int .i64 (max 1 (qcO (envF vars arrays later known f) f.body):Nat)]),g4:=g4 } (.map (some om)) (max 1 (qcO (envF vars arrays later known f) f.body))) ?hs ⟨f.name,_,_,_,g4,fun n=>?kv,rfl⟩
 case hs=>
  repeat first
   |exact HSub.nil _
   |refine zhP zb1 ?_
 case kv=>
  rw[GL.kvGet_put,hF n,List.find?_append]
  by_cases h1:f.name=n
  ·rw[if_pos h1]
   have h2:(known.find? fun g=>decide (g.name=n))=none:=by
    rw[List.find?_eq_none];intro g hg;simp only[zDe];intro h3;exact hnew (by rw[h1,<-h3];exact List.mem_map_of_mem hg)
   rw[h2,Option.none_or]
   have h4:([sumF vars arrays later known f].find? fun g=>decide (g.name=n))=some (sumF vars arrays later known f):=by
    rw[List.find?_cons_of_pos];exact decide_eq_true h1
   rw[h4];show some _=some (qi9 _);unfold qi9 sumF;rw[<-zLm (f:=str)]
  ·rw[if_neg h1]
   have h4:([sumF vars arrays later known f].find? fun g=>decide (g.name=n))=none:=by
    rw[List.find?_eq_none];intro g hg;rw[List.mem_singleton.1 hg];simp only[zDe];exact h1
   rw[h4,Option.or_none]
end
end Go.Proofs.YthmhncflhnbedaaGreatDoor.Chk
namespace Go.Proofs.YthmhncflhnbedaaGreatDoor.Chk
open Go.GL Go.RowKit Go.Stele
def encArG (a:Nm×Int):LV:=.agg [str a.1,int .i64 a.2]
def encPrG (vars:List Nm) (arrays:List (Nm×Int)) (fs:List FnD):LV:=.agg [.list (vars.map str),.list (arrays.map encArG),.list (fs.map qav)]
theorem qdh:∀ (l known:List Nm),qa2 known l=0->l.Nodup/\(∀ s∈l,s ∉ known)/\∀ s∈l,isNm s=true
 |[],known,_=>⟨List.nodup_nil,fun s h=>(List.not_mem_nil h).elim,fun s h=>(List.not_mem_nil h).elim⟩
 |s::l,known,h=>by
  rw[qa2] at h;split at h
  ·cases h
  rename_i h1
  split at h
  ·cases h
  rename_i h2
  obtain ⟨h3,h4,h5⟩:=qdh l _ h;refine ⟨List.nodup_cons.2 ⟨fun hm=>h4 s hm zMs,h3⟩,?_,?_⟩
  ·intro x hx;rcases zMi.1 hx with rfl|hx
   ·exact h2
   ·exact fun hk=>h4 x hx (zMo _ hk)
  ·intro x hx;rcases zMi.1 hx with rfl|hx
   ·simpa using h1
   ·exact h5 x hx
theorem qfw {s:Nm} (h:isNm s=true):s.length<=1000:=by
 unfold isNm at h;simp only[zBa,zDe] at h;omega
theorem orE_ne {a b:Int} (h:a≠0):orE a b=a:=by
 unfold orE;exact if_pos h
theorem qeD:∀ a b:List FnD,ndFs (a++b)=ndFs a+ndFs b
 |[],b=>by rw[List.nil_append,ndFs,Nat.zero_add]
 |x::a,b=>by rw[List.cons_append,ndFs,ndFs,qeD a b];omega
theorem qfM {vars arrays later:List Nm}:∀ (l:List FnD) (known:List FSum),qcf vars arrays later known l=0->∀ f∈l,∃ k,errF vars arrays later k f=0
 |[],_,_,f,h=>(List.not_mem_nil h).elim
 |g::l,known,h,f,hf=>by
  rw[qcf,qad] at h;rcases zMi.1 hf with rfl|hf
  ·exact ⟨known,h.1⟩
  ·exact qfM l _ h.2 f hf
theorem qg3 {vars arrays later:List Nm} {k:List FSum} {f:FnD} (h:errF vars arrays later k f=0):∀ x∈f.params++f.locals,x.length<=1000:=by
 unfold errF at h;rw[qad] at h;intro x hx;exact qfw ((qdh _ _ h.1).2.2 x hx)
theorem qpS {l:List FSum} {m:FSum} (hn:(l.map (·.name)).Nodup) (hm:l.getLast? = some m):(l.find? fun g=>decide (g.name=m.name))=some m:=by
 obtain ⟨ys,rfl⟩:=List.getLast?_eq_some_iff.1 hm;rw[List.find?_append]
 have h1:(ys.find? fun g=>decide (g.name=m.name))=none:=by
  rw[List.find?_eq_none];intro g hg;simp only[zDe];intro h2;rw[zMa] at hn;exact (List.nodup_append.1 hn).2.2 _ (List.mem_map_of_mem hg) _ (List.mem_map_of_mem (List.mem_singleton_self m)) h2
 rw[h1,Option.none_or,List.find?_cons_of_pos];exact decide_eq_true rfl
theorem qdf {vars arrays later:List Nm}:∀ (l:List FnD) (known:List FSum),(qdx vars arrays later known l).map (·.name)=known.map (·.name)++l.map (·.name)
 |[],known=>by rw[qdx];simp
 |f::l,known=>by
  rw[qdx,qdf l];simp[sumF]
theorem qgO {pre l:List Nm} {s:Nm} {FR:Int} (h:qa2 pre (s::l)=FR) (h0:newE pre s=0):qa2 (pre++[s]) l=FR:=by
 rw[<-h,qd2,h0,qg4 l (pre++[s]) (s::pre) (fun x=>by simp[or_comm])];rfl
theorem qim {pre l:List Nm} {s:Nm} {FR RA E:Int} (hI:orE FR RA=E) (h:qa2 pre (s::l)=FR) (h0:newE pre s≠0):E=newE pre s:=by
 rw[<-hI,<-h,qd2,orE_ne (a:=orE _ _) (by rw[orE_ne h0];exact h0),orE_ne h0]
attribute [local irreducible] LOps qae qag LCalls Go.GL.Pure qaA qaq qah LQ LAny qaF qap LS
section
variable {B0:Nat} {w0:World}
theorem qdw {k:KB} {o:Value} {d:Nat} (vars:List Nm) (arrays:List (Nm×Int)) (fs:List FnD) (hk1:k.G=[]) (hk2:k.V=[]) (hk3:k.A=[]) (hk4:k.F=[]) (hv6:vars.length<=2000000) (ha6:arrays.length<=2000000) (har:∀ a∈arrays,-9223372036854775808<=a.2/\a.2<9223372036854775808) (hnd:ndFs fs<=2000000) :
  LCalls (KC B0 w0) 52 [ptr k.cb 0,encPrG vars arrays fs] (pgH k o d) (qow (qb1 vars arrays fs) (fun H=>H=[])):=by
 have hf6:fs.length<=2000000:=zNt (qdF fs) hnd;generalize hI:qb1 vars arrays fs=E;unfold qb1 at hI;generalize hFR:qa2 [] (vars++arrays.map (·.1)++fs.map (·.name))=FR at hI;generalize hSZ:qeu 0 (arrays.map (·.2))=SZ at hI;generalize hFS:qcf vars (arrays.map (·.1)) (fs.map (·.name)) [] fs=FS at hI;generalize hSS:qdx vars (arrays.map (·.1)) (fs.map (·.name)) [] fs=SS at hI;generalize hMN:qhJ vars fs SS=MN at hI;generalize hRA:orE SZ (orE FS MN)=RA at hI;refine cI Tryz.func52 rfl (n:=147) rfl rfl rfl ?_;refine gag ?_;refine oS (sB rfl fun b3=>?_) rfl;refine gaa ?_
 refine oL (fun kk ls H'=>∃ (pre l1:List Nm) (G1 V1:KV) (g1 g2:Nat),vars=pre++l1/\kk=l1.length/\ls=[(0,ptr k.cb 0),(3,ptr b3 0),(18,.list (vars.map str)),(19,int .i64 ((vars.map str).length:Int)),(20,iv pre.length)] /\
   H'=(b3,.cells 34 [.list (vars.map str),.list (arrays.map encArG),.list (fs.map qav)])::pgH { k with G:=G1,g1:=g1,V:=V1,g2:=g2 } o d/\qdG G1 pre/\qdG V1 pre/\qa2 pre (l1++arrays.map (·.1)++fs.map (·.name))=FR)
  ⟨_,_,_,⟨[],vars,k.G,k.V,k.g1,k.g2,rfl,rfl,rfl,rfl,by rw[hk1];exact qdG.nil,by rw[hk2];exact qdG.nil,hFR⟩,⟨rfl,rfl,rfl,rfl,rfl,trivial⟩,zhR _⟩ ?_
 rintro kk ls H' ⟨pre,l1,G1,V1,g1,g2,hLe,rfl,rfl,rfl,hG1,hV1,hE⟩ j hj
 have hb2:pre.length<=2000000:=by
  have:=congrArg List.length hLe;rw[zLa] at this;omega
 refine gai ?_;refine oC rfl (fun hc=>?_) (fun hc=>?_)
 ·have hlen:=zt hc;rw[zLm,hLe,zLa] at hlen
  obtain ⟨s,l2,rfl⟩:∃ a l2,l1=a::l2:=by
   cases l1 with
   |nil=>simp at hlen
   |cons a l2=>exact ⟨a,l2,rfl⟩
  rw[List.cons_append,List.cons_append] at hE;refine gak ?_;refine oP (xR (el':=str s) (cs:=[str s]) rfl rfl zo (by rw[hLe];exact get_mid str pre s l2) rfl rfl) rfl ?_;refine gab ?_;refine oS (S.callE (F:=[_]) [_,_] rfl (Inp.swap1) (qf3 (k:={ k with G:=G1,g1:=g1,V:=V1,g2:=g2 }) (o:=o) (d:=d) hG1 s) (fun H2 h0 hP=>?_) (fun nm h0 e' he'=>?_)) rfl;rotate_left
  ·refine gah ?_;exact panE (he'.trans hj) (qim hI hE h0) h0
  obtain ⟨g1',rfl⟩:=hP;refine LOps.perm (Inp.swap1 (H:=pgH _ _ _)).symm ?_;refine gab ?_;refine oS (S.kvSet (k:=s) (lv:=bool true) rfl rfl rfl zp3 fun g2'=>?_) rfl;refine gat ?_;refine ⟨l2.length,_,_,Nat.lt_succ_self _,⟨pre++[s],l2,GL.kvPut G1 s (bool true),GL.kvPut V1 s (bool true),g1',g2',by rw[hLe];simp,rfl,rfl,rfl,hG1.add s,hV1.add s,qgO hE h0⟩,⟨rfl,rfl,rfl,rfl,qaf (by simp),trivial⟩,?_,hj⟩
  repeat first
   |exact HSub.nil _
   |refine zhP zb1 ?_
 have hlen:=zf hc;rw[zLm,hLe,zLa] at hlen
 obtain rfl:l1=[]:=by
  cases l1 with
  |nil=>rfl
  |cons a l2=>simp at hlen;omega
 rw[zLz] at hLe;subst hLe;rw[List.nil_append] at hE;clear hlen hc hb2;refine gaa ?_
 refine oL (fun kk ls H'=>∃ (pre l1:List (Nm×Int)) (G1 A1:KV) (g1 g3:Nat),arrays=pre++l1/\kk=l1.length/\ls=[(0,ptr k.cb 0),(3,ptr b3 0),(34,.list (arrays.map encArG)),(35,int .i64 ((arrays.map encArG).length:Int)),(36,iv pre.length)] /\
   H'=(b3,.cells 34 [.list (vars.map str),.list (arrays.map encArG),.list (fs.map qav)])::pgH { k with G:=G1,g1:=g1,V:=V1,g2:=g2,A:=A1,g3:=g3 } o d/\qdG G1 (vars++pre.map (·.1))/\qdG A1 (pre.map (·.1))/\qa2 (vars++pre.map (·.1)) (l1.map (·.1)++fs.map (·.name))=FR)
  ⟨_,_,_,⟨[],arrays,G1,k.A,g1,k.g3,rfl,rfl,rfl,rfl,by simpa using hG1,by rw[hk3];exact qdG.nil,by simpa using hE⟩,⟨rfl,rfl,rfl,rfl,rfl,trivial⟩,zhR _⟩ ?_
 clear hG1 hE G1 g1;rintro kk ls H' ⟨pre,l1,G1,A1,g1,g3,hLe,rfl,rfl,rfl,hG1,hA1,hE⟩ j hj2
 have hb2:pre.length<=2000000:=by
  have:=congrArg List.length hLe;rw[zLa] at this;omega
 refine gai ?_;refine oC rfl (fun hc=>?_) (fun hc=>?_)
 ·have hlen:=zt hc;rw[zLm,hLe,zLa] at hlen
  obtain ⟨s,l2,rfl⟩:∃ a l2,l1=a::l2:=by
   cases l1 with
   |nil=>simp at hlen
   |cons a l2=>exact ⟨a,l2,rfl⟩
  rw[zMc,List.cons_append] at hE;refine gak ?_;refine oP (xR (el':=encArG s) (cs:=[str s.1,int .i64 s.2]) rfl rfl zo (by rw[hLe];exact get_mid encArG pre s l2) rfl rfl) rfl ?_;refine gac ?_;refine oS (sA fun b7=>?_) rfl;refine gaa ?_;refine oS (S.callE (F:=[_,_]) [_,_] rfl (zPc (l₁:=[_,_])) (qf3 (k:={ k with G:=G1,g1:=g1,V:=V1,g2:=g2,A:=A1,g3:=g3 }) (o:=o) (d:=d) hG1 s.1) (fun H2 h0 hP=>?_) (fun nm h0 e' he'=>?_)) rfl;rotate_left
  ·refine gah ?_;exact panE (he'.trans (hj2.trans hj)) (qim hI hE h0) h0
  obtain ⟨g1',rfl⟩:=hP
  refine LOps.weak (H':=[(b7,.cells 79 [str s.1,int .i64 s.2]),(k.cb,.cells 109 [.atom (.map (some k.gm)),.atom (.map (some k.vm)),.atom (.map (some k.am)),.atom (.map (some k.fm)),str k.name,.atom o,int .i64 (d:Int)]),(b3,.cells 34 [.list (vars.map str),.list (arrays.map encArG),.list (fs.map qav)]),
   (k.gm,.map (kvs (GL.kvPut G1 s.1 (bool true))) g1'),(k.vm,.map (kvs V1) g2),(k.am,.map (kvs A1) g3),(k.fm,.map (kvs k.F) k.g4)]) ?_ ?_
  ·repeat first
    |exact HSub.nil _
    |refine zhP zb1 ?_
  refine gam ?_;refine cD (m:=7) rfl [(b7,.cells 79 [str s.1,int .i64 s.2]),(k.cb,.cells 109 [.atom (.map (some k.gm)),.atom (.map (some k.vm)),.atom (.map (some k.am)),.atom (.map (some k.fm)),str k.name,.atom o,int .i64 (d:Int)])] ?_;refine zQ76 ?_;refine aT 3 rfl rfl (pL (c:=.atom _) rfl zm1 rfl) ?_;refine aT 4 rfl rfl (pF rfl) ?_;refine aT 5 rfl rfl (pL (c:=.atom _) rfl zm0 rfl) ?_;refine aL ?_ (zhP pH zhp);refine lO 6 (lS (H1:=[(k.am,.map (kvs A1) g3)]) rfl (.inl rfl) rfl (show Pick _ _ _ from pT zp4) (zhP pH zhp) (S.kvSet (k:=s.1) (lv:=bool true) rfl rfl rfl pH fun g3'=>?_));refine lD zk ?_;refine gat ?_;refine ⟨l2.length,_,_,Nat.lt_succ_self _,⟨pre++[s],l2,GL.kvPut G1 s.1 (bool true),GL.kvPut A1 s.1 (bool true),g1',g3',by rw[hLe];simp,rfl,rfl,rfl,by simpa using hG1.add s.1,by simpa using hA1.add s.1,by simpa using qgO hE h0⟩,⟨rfl,rfl,rfl,rfl,qaf (by simp),trivial⟩,?_,hj2⟩
  repeat first
   |exact HSub.nil _
   |refine zhP zb1 ?_
 have hlen:=zf hc;rw[zLm,hLe,zLa] at hlen
 obtain rfl:l1=[]:=by
  cases l1 with
  |nil=>rfl
  |cons a l2=>simp at hlen;omega
 rw[zLz] at hLe;subst hLe;rw[List.map_nil,List.nil_append] at hE;clear hlen hc hb2;refine gaa ?_
 refine oL (fun kk ls H'=>∃ (pre l1:List FnD) (G1:KV) (g1:Nat),fs=pre++l1/\kk=l1.length/\ls=[(0,ptr k.cb 0),(3,ptr b3 0),(52,.list (fs.map qav)),(53,int .i64 ((fs.map qav).length:Int)),(54,iv pre.length)] /\
   H'=(b3,.cells 34 [.list (vars.map str),.list (arrays.map encArG),.list (fs.map qav)])::pgH { k with G:=G1,g1:=g1,V:=V1,g2:=g2,A:=A1,g3:=g3 } o d/\qdG G1 (vars++arrays.map (·.1)++pre.map (·.name))/\qa2 (vars++arrays.map (·.1)++pre.map (·.name)) (l1.map (·.name))=FR)
  ⟨_,_,_,⟨[],fs,G1,g1,rfl,rfl,rfl,rfl,by simpa using hG1,by simpa using hE⟩,⟨rfl,rfl,rfl,rfl,rfl,trivial⟩,zhR _⟩ ?_
 clear hG1 hE G1 g1;rintro kk ls H' ⟨pre,l1,G1,g1,hLe,rfl,rfl,rfl,hG1,hE⟩ j hj3
 have hb2:pre.length<=2000000:=by
  have:=congrArg List.length hLe;rw[zLa] at this;omega
 refine gai ?_;refine oC rfl (fun hc=>?_) (fun hc=>?_)
 ·have hlen:=zt hc;rw[zLm,hLe,zLa] at hlen
  obtain ⟨s,l2,rfl⟩:∃ a l2,l1=a::l2:=by
   cases l1 with
   |nil=>simp at hlen
   |cons a l2=>exact ⟨a,l2,rfl⟩
  rw[zMc] at hE;refine gak ?_;refine oP (xR (el':=qav s) (cs:=[_,_,_,_]) rfl rfl zo (by rw[hLe];exact get_mid qav pre s l2) rfl rfl) rfl ?_;refine gav ?_;refine oS (sA fun b7=>?_) rfl;refine gab ?_;refine oS (S.callE (F:=[_,_]) [_,_] rfl (zPc (l₁:=[_,_])) (qf3 (k:={ k with G:=G1,g1:=g1,V:=V1,g2:=g2,A:=A1,g3:=g3 }) (o:=o) (d:=d) hG1 s.name) (fun H2 h0 hP=>?_) (fun nm h0 e' he'=>?_)) rfl;rotate_left
  ·refine gah ?_;exact panE (he'.trans (hj3.trans (hj2.trans hj))) (qim hI hE h0) h0
  obtain ⟨g1',rfl⟩:=hP;refine LOps.perm (zPc (l₂:=[_,_])) ?_;refine gat ?_;refine ⟨l2.length,_,_,Nat.lt_succ_self _,⟨pre++[s],l2,GL.kvPut G1 s.name (bool true),g1',by rw[hLe];simp,rfl,rfl,rfl,by simpa using hG1.add s.name,by simpa using qgO hE h0⟩,⟨rfl,rfl,rfl,rfl,qaf (by simp),trivial⟩,zhD zhr,hj3⟩
 have hlen:=zf hc;rw[zLm,hLe,zLa] at hlen
 obtain rfl:l1=[]:=by
  cases l1 with
  |nil=>rfl
  |cons a l2=>simp at hlen;omega
 rw[zLz] at hLe;subst hLe;have hFR0:FR=0:=hE.symm;clear hlen hc hb2 hE;rw[hFR0] at hI;have hnod:=(qdh _ _ (hFR.trans hFR0)).1;have hnmok:=(qdh _ _ (hFR.trans hFR0)).2.2;have hI1:RA=E:=by rw[<-hI];rfl
 rw[<-hRA] at hI1;clear hI hRA hFR;have hPr:0<=(0:Int)/\(0:Int)<=150000:=⟨by decide,by decide⟩;refine gaa ?_
 refine oL (fun kk ls H'=>∃ (pre l1:List (Nm×Int)) (T:Int),arrays=pre++l1/\kk=l1.length/\ls=[(0,ptr k.cb 0),(3,ptr b3 0),(10,int .i64 T),(64,.list (arrays.map encArG)),(65,int .i64 ((arrays.map encArG).length:Int)),(66,iv pre.length)] /\
   H'=(b3,.cells 34 [.list (vars.map str),.list (arrays.map encArG),.list (fs.map qav)])::pgH { k with G:=G1,g1:=g1,V:=V1,g2:=g2,A:=A1,g3:=g3 } o d/\(0<=T/\T<=150000)/\qeu T (l1.map (·.2))=SZ)
  ⟨_,_,_,⟨[],arrays,0,rfl,rfl,rfl,rfl,hPr,hSZ⟩,⟨rfl,rfl,rfl,rfl,rfl,rfl,trivial⟩,zhR _⟩ ?_
 clear hSZ;rintro kk ls H' ⟨pre,l1,T,hLe,rfl,rfl,rfl,⟨hT1,hT2⟩,hE⟩ j hj4
 have hb2:pre.length<=2000000:=by
  have:=congrArg List.length hLe;rw[zLa] at this;omega
 refine gai ?_;refine oC rfl (fun hc=>?_) (fun hc=>?_)
 ·have hlen:=zt hc;rw[zLm,hLe,zLa] at hlen
  obtain ⟨s,l2,rfl⟩:∃ a l2,l1=a::l2:=by
   cases l1 with
   |nil=>simp at hlen
   |cons a l2=>exact ⟨a,l2,rfl⟩
  obtain ⟨hs1,hs2⟩:=har s (by rw[hLe];exact List.mem_append_right _ zMs);rw[zMc,qeu] at hE;refine gak ?_;refine oP (xR (el':=encArG s) (cs:=[str s.1,int .i64 s.2]) rfl rfl zo (by rw[hLe];exact get_mid encArG pre s l2) rfl rfl) rfl ?_;refine gac ?_;refine oS (sA fun b7=>?_) rfl;refine gab ?_;refine oB 72 rfl (fun h1=>?_) (fun h1=>?_);rotate_left
  ·have h2:s.2<=0:=by have:=zf h1;omega
   rw[if_pos h2] at hE;refine oS (sK (H1:=[]) (F:=_) [_,_,_] rfl zpr (qaB false s.1 2 zDd) (fun h=>absurd h zDd) (fun nm _ e' he'=>?_)) rfl;refine gah ?_;exact panE (he'.trans (hj4.trans (hj3.trans (hj2.trans hj)))) (by rw[<-hI1,<-hE];rfl) zDd
  have h2:¬ s.2<=0:=by have:=zt h1;omega
  rw[if_neg h2] at hE;refine oS (sK (H1:=[]) (F:=_) [_,_,_] rfl zpr (qaB true s.1 2 zDd) (fun _=>?_) (fun nm h=>absurd rfl h)) rfl;refine gab ?_;refine oB 80 rfl (fun h3=>?_) (fun h3=>?_);rotate_left
  ·have h4:150000-T<s.2:=by have:=zf h3;omega
   rw[if_pos h4] at hE;refine oS (sK (H1:=[]) (F:=_) [_,_,_] rfl zpr (qaB false s.1 6 zDd) (fun h=>absurd h zDd) (fun nm _ e' he'=>?_)) rfl;refine gah ?_;exact panE (he'.trans (hj4.trans (hj3.trans (hj2.trans hj)))) (by rw[<-hI1,<-hE];rfl) zDd
  have h4:¬ 150000-T<s.2:=by have:=zt h3;omega
  rw[if_neg h4] at hE;refine oS (sK (H1:=[]) (F:=_) [_,_,_] rfl zpr (qaB true s.1 6 zDd) (fun _=>?_) (fun nm h=>absurd rfl h)) rfl;refine gaa ?_;exact ⟨l2.length,_,_,Nat.lt_succ_self _,⟨pre++[s],l2,T+s.2,by rw[hLe];simp,rfl,rfl,rfl,⟨by omega,by omega⟩,hE⟩,⟨rfl,rfl,rfl,rfl,rfl,qaf (by simp),trivial⟩,zhD zhr,hj4⟩
 have hlen:=zf hc;rw[zLm,hLe,zLa] at hlen
 obtain rfl:l1=[]:=by
  cases l1 with
  |nil=>rfl
  |cons a l2=>simp at hlen;omega
 have hSZ0:SZ=0:=by rw[<-hE];rfl
 rw[hSZ0] at hI1;have hI2:orE FS MN=E:=by rw[<-hI1];rfl
 clear hI1 hlen hc hb2 hLe hE;have hnf:(fs.map (·.name)).Nodup:=(List.nodup_append.1 hnod).2.1;have hds:j.ds=[]:=hj4.trans (hj3.trans (hj2.trans hj));clear hj hj2 hj3 hj4;refine gaa ?_
 refine oL (fun kk ls H'=>∃ (pre l1:List FnD) (known:List FSum) (F1:KV) (g4:Nat) (nm:Nm) (o1:Value) (d1:Nat),fs=pre++l1/\kk=l1.length/\ls=[(0,ptr k.cb 0),(3,ptr b3 0),(90,.list (fs.map qav)),(91,int .i64 ((fs.map qav).length:Int)),(92,iv pre.length)] /\
   H'=(b3,.cells 34 [.list (vars.map str),.list (arrays.map encArG),.list (fs.map qav)])::pgH { k with name:=nm,G:=G1,g1:=g1,V:=V1,g2:=g2,A:=A1,g3:=g3,F:=F1,g4:=g4 } o1 d1/\(∀ n,GL.kvGet F1 n=(known.find? fun g=>decide (g.name=n)).map qi9)/\known.map (·.name)=pre.map (·.name) /\
   qcf vars (arrays.map (·.1)) (fs.map (·.name)) known l1=FS/\qdx vars (arrays.map (·.1)) (fs.map (·.name)) known l1=SS/\KnB (8 * ndFs pre) pre.length known)
  ⟨_,_,_,⟨[],fs,[],k.F,k.g4,k.name,o,d,rfl,rfl,rfl,rfl,fun n=>by rw[hk4];rfl,rfl,hFS,hSS,fun x hx=>(List.not_mem_nil hx).elim⟩,⟨rfl,rfl,rfl,rfl,rfl,trivial⟩,zhR _⟩ ?_
 rintro kk ls H' ⟨pre,l1,known,F1,g4,nm,o1,d1,hLe,rfl,rfl,rfl,hF,hkn,hE,hS,hB⟩ j2 hj2
 have hb2:pre.length<=2000000:=by
  have:=congrArg List.length hLe;rw[zLa] at this;omega
 refine gai ?_;refine oC rfl (fun hc=>?_) (fun hc=>?_)
 ·have hlen:=zt hc;rw[zLm,hLe,zLa] at hlen
  obtain ⟨s,l2,rfl⟩:∃ a l2,l1=a::l2:=by
   cases l1 with
   |nil=>simp at hlen
   |cons a l2=>exact ⟨a,l2,rfl⟩
  have hsz:ndFs pre+ndF s<=2000000:=by
   have:=hnd;rw[hLe,qeD,ndFs] at this;omega
  have hnew:s.name ∉ known.map (·.name):=by
   rw[hkn];have:=hnf;rw[hLe,zMa,zMc] at this;intro hm;exact (List.nodup_append.1 this).2.2 _ hm _ zMs rfl
  rw[qcf] at hE;rw[qdx] at hS;refine gak ?_;refine oP (xR (el':=qav s) (cs:=[_,_,_,_]) rfl rfl zo (by rw[hLe];exact get_mid qav pre s l2) rfl rfl) rfl ?_;refine gav ?_;refine oS (sA fun b7=>?_) rfl;refine gab ?_;refine oS (S.callE (F:=[_,_]) [_,_] rfl (zPc (l₁:=[_,_])) (qeT (vars:=vars) (arrays:=arrays.map (·.1)) (later:=fs.map (·.name)) (known:=known) (k:={ k with name:=nm,G:=G1,g1:=g1,V:=V1,g2:=g2,A:=A1,g3:=g3,F:=F1,g4:=g4 }) (o:=o1) (d:=d1) s hG1 hV1 hA1 hF hnew hB zo zo zo) (fun H2 h0 hP=>?_) (fun nm h0 e' he'=>?_)) rfl;rotate_left
  ·refine gah ?_;exact panE (he'.trans (hj2.trans hds)) (by rw[<-hI2,<-hE,orE_ne (a:=orE _ _) (by rw[orE_ne h0];exact h0),orE_ne h0]) h0
  obtain ⟨nm',o',d',F',g4',hF',rfl⟩:=hP;refine LOps.perm (zPc (l₂:=[_,_])) ?_;refine gat ?_;refine ⟨l2.length,_,_,Nat.lt_succ_self _,⟨pre++[s],l2,known++[sumF vars (arrays.map (·.1)) (fs.map (·.name)) known s],F',g4',nm',o',d',by rw[hLe];simp,rfl,rfl,rfl,hF',?_,by rw[<-hE,h0];rfl,hS,?_⟩,⟨rfl,rfl,rfl,rfl,qaf (by simp),trivial⟩,zhD zhr,hj2⟩
  ·rw[zMa,zMa,hkn];rfl
  ·have h1:=qpu (vars:=vars) (arrays:=arrays.map (·.1)) (later:=fs.map (·.name)) (f:=s) hB;have h2:ndFs (pre++[s])=ndFs pre+ndF s:=by rw[qeD,ndFs,ndFs];rfl
   intro g hg;rw[h2,zLa,List.length_singleton];rcases List.mem_append.1 hg with hg|hg
   ·obtain ⟨a1,a2,a3⟩:=hB g hg;exact ⟨by omega,by omega,by omega⟩
   ·obtain rfl:=List.mem_singleton.1 hg;obtain ⟨a1,a2,a3⟩:=h1;exact ⟨by omega,by omega,by omega⟩
 have hlen:=zf hc;rw[zLm,hLe,zLa] at hlen
 obtain rfl:l1=[]:=by
  cases l1 with
  |nil=>rfl
  |cons a l2=>simp at hlen;omega
 have hFS0:FS=0:=by rw[<-hE];rfl
 have hknS:known=SS:=by rw[<-hS];rfl
 rw[hFS0] at hI2;have hI3:MN=E:=by rw[<-hI2];rfl
 clear hlen hc hb2 hLe hE;subst hknS;have hall:=qfM fs [] (hFS.trans hFS0)
 have hnn:∀ f∈fs,f.name.length<=1000/\∀ x∈f.params++f.locals,x.length<=1000:=fun f hf=>by
  obtain ⟨kk,hk⟩:=hall f hf;exact ⟨qfw (hnmok f.name (List.mem_append_right _ (List.mem_map_of_mem hf))),qg3 hk⟩
 have hsm:∀ f∈fs,SmF f:=fun f hf=>qi5 (zNt (qc8 hf) hnd);have hds2:=hj2.trans hds;unfold qhJ at hMN;refine gab ?_
 cases hfl:fs.getLast? with
 |none=>
  have hf0:fs=[]:=List.getLast?_eq_none_iff.1 hfl;rw[hfl] at hMN;refine oB 105 rfl (fun h=>absurd (zt h) (by rw[hf0];decide)) (fun _=>?_);refine gae ?_;refine oS (sK (H1:=[]) (F:=_) [_,_,_] rfl zpr (qaB false [109,97,105,110] 9 zDd) (fun h=>absurd h zDd) (fun nm _ e' he'=>?_)) rfl;refine gas ?_
  exact panE (he'.trans hds2) (hI3.symm.trans hMN.symm) zDd
 |some f=>
  obtain ⟨ys,hys⟩:=List.getLast?_eq_some_iff.1 hfl;have hln:(fs.map qav).length=ys.length+1:=by rw[zLm,hys,zLa];rfl
  have hl6:(fs.map qav).length<=2000000:=by rw[zLm];exact hf6
  have hn0:(0:Int)<=((fs.map qav).length:Int)-1:=by omega
  have hget:(fs.map qav)[(((fs.map qav).length:Int)-1).toNat]? = some (qav f):=by
   rw[show (((fs.map qav).length:Int)-1).toNat=ys.length by omega,hys,zMa];rw[List.getElem?_append_right (by rw[zLm];exact zNr _),zLm,Nat.sub_self];rfl
  have hnms:known.map (·.name)=fs.map (·.name):=by
   rw[<-hSS,qdf];rfl
  obtain ⟨m,hm⟩:∃ m,known.getLast? = some m:=by
   cases hx:known.getLast? with
   |some m=>exact ⟨m,rfl⟩
   |none=>
    rw[List.getLast?_eq_none_iff.1 hx,hys] at hnms;simp at hnms
  have hmf:m.name=f.name:=by
   have h1:=congrArg List.getLast? hnms;rw[List.getLast?_map,List.getLast?_map,hm,hfl] at h1;exact Option.some.inj h1
  have hfind:=qpS (by rw[hnms];exact hnf) hm;rw[hfl,hm] at hMN
  replace hMN:(if f.name=[109,97,105,110]/\f.params=[] then (if (qat vars fs).length<=8000/\m.need<=200/\m.depth<=60 then 0 else 6) else 9)=MN:=hMN
  rw[hI3] at hMN;refine oB 105 rfl (fun _=>?_) (fun h=>absurd (show ((fs.map qav).length:Int) > 0 by omega) (zf h));refine gac ?_
  first|refine LOps.want rfl rfl ?_|skip
  refine qsK ?_;refine oB 115 rfl (fun h1=>?_) (fun h1=>?_);rotate_left
  ·rw[if_neg (fun h=>zf h1 h.1)] at hMN;refine gae ?_;refine oS (sK (H1:=[]) (F:=_) [_,_,_] rfl zpr (qaB false [109,97,105,110] 9 zDd) (fun h=>absurd h zDd) (fun nm _ e' he'=>?_)) rfl;refine gas ?_;exact panE (he'.trans hds2) hMN.symm zDd
  have hmain:f.name=[109,97,105,110]:=zt h1;refine gac ?_
  first|refine LOps.want rfl rfl ?_|skip
  refine qsK ?_;refine oB 125 rfl (fun h2=>?_) (fun h2=>?_);rotate_left
  ·rw[if_neg (fun h=>zf h2 (by rw[h.2];rfl))] at hMN;refine oS (sK (H1:=[]) (F:=_) [_,_,_] rfl zpr (qaB false [109,97,105,110] 9 zDd) (fun h=>absurd h zDd) (fun nm _ e' he'=>?_)) rfl;refine gas ?_;exact panE (he'.trans hds2) hMN.symm zDd
  have hpar:f.params=[]:=by
   have h3:=zt h2;rw[zLm] at h3;exact List.length_eq_zero_iff.1 zo
  rw[if_pos ⟨hmain,hpar⟩] at hMN;refine oS (sK (H1:=[]) (F:=_) [_,_,_] rfl zpr (qaB true [109,97,105,110] 9 zDd) (fun _=>?_) (fun nm h=>absurd rfl h)) rfl
  have hgF:GL.kvGet F1 [109,97,105,110]=some (qi9 m):=by
   rw[hF,<-hmain,<-hmf,hfind];rfl
  refine gab ?_;refine oP (Pure.kvHit rfl rfl zm5 hgF) rfl ?_;refine oS (sA fun b16=>?_) rfl;refine gab ?_;refine oS (sF [_] rfl (scalars_specG (.list (arrays.map encArG)) hv6 hf6 hsm hnn) ?_) rfl;refine gac ?_;refine oB 136 rfl (fun h3=>?_) (fun h3=>?_);rotate_left
  ·have hbad:¬ ((qat vars fs).length<=8000/\m.need<=200/\m.depth<=60):=fun h=>zf h3 (by rw[zLm];have:=h.1;omega);rw[if_neg hbad] at hMN;refine gae ?_;refine oS (sK (H1:=[]) (F:=_) [_,_,_] rfl zpr (qaB false [109,97,105,110] 6 zDd) (fun h=>absurd h zDd) (fun nm _ e' he'=>?_)) rfl;exact panE (he'.trans hds2) hMN.symm zDd
  have h3':(qat vars fs).length<=8000:=by
   have:=zt h3;rw[zLm] at this;omega
  refine gac ?_;refine oB 141 rfl (fun h4=>?_) (fun h4=>?_);rotate_left
  ·have hbad:¬ ((qat vars fs).length<=8000/\m.need<=200/\m.depth<=60):=fun h=>zf h4 (by have:=h.2.1;omega);rw[if_neg hbad] at hMN;refine gae ?_;refine oS (sK (H1:=[]) (F:=_) [_,_,_] rfl zpr (qaB false [109,97,105,110] 6 zDd) (fun h=>absurd h zDd) (fun nm _ e' he'=>?_)) rfl;exact panE (he'.trans hds2) hMN.symm zDd
  have h4':m.need<=200:=by
   have:=zt h4;omega
  refine gac ?_;refine oB 145 rfl (fun h5=>?_) (fun h5=>?_);rotate_left
  ·have hbad:¬ ((qat vars fs).length<=8000/\m.need<=200/\m.depth<=60):=fun h=>zf h5 (by have:=h.2.2;omega);rw[if_neg hbad] at hMN;refine oS (sK (H1:=[]) (F:=_) [_,_,_] rfl zpr (qaB false [109,97,105,110] 6 zDd) (fun h=>absurd h zDd) (fun nm _ e' he'=>?_)) rfl;exact panE (he'.trans hds2) hMN.symm zDd
  have h5':m.depth<=60:=by
   have:=zt h5;omega
  rw[if_pos ⟨h3',h4',h5'⟩] at hMN;refine oS (sK (H1:=[]) (F:=_) [_,_,_] rfl zpr (qaB true [109,97,105,110] 6 zDd) (fun _=>?_) (fun nm h=>absurd rfl h)) rfl;refine gam ?_;exact qr1 hds2 rN hMN.symm rfl zhn rfl
end
end Go.Proofs.YthmhncflhnbedaaGreatDoor.Chk
namespace Go.Proofs.YthmhncflhnbedaaGreatDoor
open Go.GL Go.RowKit Go.Stele
attribute [local irreducible] LOps qae qag LCalls Go.GL.Pure qaA qaq qah
theorem qhc (M:Nat) (acc:Nat) (l:List UInt8) (h:∀ c∈l,qao c=true):Go.Lib.parseUintM M acc l=.range∨∃ u,Go.Lib.parseUintM M acc l=.ok u:=by
 induction l generalizing acc with
 |nil=>exact .inr ⟨acc,rfl⟩
 |cons c r ih=>
  have hc:=h c List.mem_cons_self;simp only[qao,zBa,zDe,cv] at hc;rw[Go.Lib.parseUintM,if_pos zo];split
  ·exact .inl rfl
  ·split
   ·exact .inl rfl
   ·exact ih _ (fun c hc=>h c (zMo _ hc))
theorem qhG (M:Nat) (acc:Nat) (l:List UInt8) (ha:acc<=M) {u:Nat} (h:Go.Lib.parseUintM M acc l=.ok u):u<=M:=by
 induction l generalizing acc with
 |nil=>simp only[Go.Lib.parseUintM,Go.Lib.NumEnd.ok.injEq] at h;omega
 |cons c r ih=>
  rw[Go.Lib.parseUintM] at h;split at h
  ·split at h
   ·cases h
   ·split at h
    ·cases h
    ·exact ih _ zo h
  ·cases h
theorem qhI (s:List UInt8) (hne:s.takeWhile qao≠[]):Go.Lib.parseUintB 32 (s.takeWhile qao)=.range∨∃ u,u<18446744073709551616/\Go.Lib.parseUintB 32 (s.takeWhile qao)=.ok u:=by
 unfold Go.Lib.parseUintB;rw[if_neg hne]
 have hall:∀ (s:List UInt8),∀ c∈s.takeWhile qao,qao c=true:=fun s c hc=>by
  induction s with
  |nil=>cases hc
  |cons a r ih=>
   by_cases ha:qao a=true
   ·rw[List.takeWhile_cons_of_pos ha] at hc;rcases zMi.1 hc with rfl|hc
    ·exact ha
    ·exact ih hc
   ·rw[List.takeWhile_cons_of_neg ha] at hc;cases hc
 rcases qhc (2 ^ 32-1) 0 (s.takeWhile qao) (hall s) with h|⟨u,h⟩
 ·exact .inl h
 ·have:=qhG _ _ _ zo h;exact .inr ⟨u,by omega,h⟩
instance:TIface Tryz.prog 126:=.of zk
section
variable {B0:Nat} {w0:World}
theorem qmm (hG:GW B0 w0) (s:List UInt8) (hs:s.length<=1000000000) (hne:s.takeWhile qao≠[]):LCalls (KC B0 w0) 96 [str s] [] (Ret (qj0 (qby s))):=by
 refine cI Tryz.func96 rfl (n:=43) rfl rfl rfl ?_;refine gag ?_;refine oS (sA fun b=>?_) rfl;refine gaw ?_;refine oS (sF [_,_] rfl (qhT qao qgW s hs) ?_) rfl;refine gab ?_;refine LOps.cut [(0,str s),(2,ptr b 0),(5,str (s.takeWhile qao)),(28,bool (qc9 s (s.takeWhile qao).length))] ?_ (fun j hj=>?_)
 ·refine oB 17 rfl (fun ht=>?_) (fun ht=>?_)
  ·have hlt:(s.takeWhile qao).length<s.length:=by simpa using ht
   have hw:qc9 s (s.takeWhile qao).length=(qaz s[(s.takeWhile qao).length] || decide (cv s[(s.takeWhile qao).length]=95)):=by
    rw[qc9,List.getElem?_eq_getElem hlt]
   refine gal ?_;refine oP (pI (c:=s[(s.takeWhile qao).length]) rfl rfl zo (by simp)) rfl ?_;refine LOps.want rfl rfl ?_;refine oS (sF [_] rfl (qfZ _) ?_) rfl;refine gal ?_;refine oB 22 rfl (fun hl=>?_) (fun hl=>?_)
   ·refine gad ?_;exact ⟨⟨rfl,rfl,rfl,qai (by rw[hw,hl];rfl),trivial⟩,rfl,rfl⟩
   ·refine gal ?_;refine oP (pI (c:=s[(s.takeWhile qao).length]) rfl rfl zo (by simp)) rfl ?_;refine gad ?_;exact ⟨⟨rfl,rfl,rfl,qai (by rw[hw,hl];rfl),trivial⟩,rfl,rfl⟩
  ·have hge:s.length<=(s.takeWhile qao).length:=by simpa using ht
   refine gac ?_;exact ⟨⟨rfl,rfl,rfl,qai (by rw[qc9,List.getElem?_eq_none hge]),trivial⟩,rfl,rfl⟩
 ·skip
  refine oC rfl (fun hc=>?_) (fun hc=>?_)
  ·refine gab ?_
   exact qac hj (rC (rA rfl zm0 rfl zsr) (rC (zrt rfl) (zra rfl))) (by
    rw[qby,if_pos hc]
    rfl)
  ·refine gau ?_;rcases qhI s hne with hp|⟨u,hu,hp⟩
   ·refine oS (S.fnIf [_,_,_] rfl (qi6 hG (s.takeWhile qao) (zNt (List.takeWhile_prefix qao).length_le hs) hp) ?_) rfl;rintro lv ⟨v,t,p,rfl⟩;refine gab ?_;refine oC rfl (fun hc=>?_) (fun hc=>?_)
    ·refine gab ?_
     exact qac hj (rC (rA rfl zm0 rfl zsr) (rC (zrt rfl) (zra rfl))) (by
      rw[qby,if_neg (by rw[‹qc9 s _=false›];decide),hp]
      rfl)
    ·cases hc
   ·refine oS (sF [_,_,_] rfl (qhs (s.takeWhile qao) (zNt (List.takeWhile_prefix qao).length_le hs) u hp) ?_) rfl;refine gab ?_;refine oC rfl (fun hc=>?_) (fun hc=>?_)
    ·cases hc
    ·refine gau ?_;refine oS (sF [_,_] rfl (qhq hG u hu) ?_) rfl;refine gac ?_
     exact qac hj (rC (rA rfl zm0 rfl zsr) (rC (zrt rfl) (zra rfl))) (by
      rw[qby,if_neg (by rw[‹qc9 s _=false›];decide),hp]
      rfl)
theorem qk0 (hG:GW B0 w0) (s:List UInt8) (hs:s.length<=1000000000):LCalls (KC B0 w0) 99 [str s] [] (Ret (qj0 (qbi s))):=by
 by_cases h3:s.length<3
 ·have hl:qbi s=qa3 3:=by
   match s,h3 with
   |[],_=>rfl
   |[_],_=>rfl
   |[_,_],_=>rfl
  refine cI Tryz.func99 rfl (n:=39) rfl rfl rfl ?_;refine gag ?_;refine oS (sA fun b=>?_) rfl;refine gab ?_;refine oB 8 rfl (fun ht=>?_) (fun ht=>?_)
  ·refine gad ?_;refine oC rfl (fun hc=>?_) (fun hc=>?_)
   ·refine gab ?_;exact qac rfl (rC (rA rfl zm0 rfl zsr) (rC (zrt rfl) (zra rfl))) (by rw[hl];rfl)
   ·cases hc
  ·exact absurd (zf ht) zo
 ·match s,h3 with
  |[],h=>exact absurd (by simp) h
  |[_],h=>exact absurd (by simp) h
  |[_,_],h=>exact absurd (by simp) h
  |x::c1::c2::r,h=>
   refine cI Tryz.func99 rfl (n:=39) rfl rfl rfl ?_;refine gag ?_;refine oS (sA fun b=>?_) rfl;refine gab ?_;refine LOps.cut [(0,str (x::c1::c2::r)),(2,ptr b 0),(32,bool ((!decide (cv c2=39)) || decide (cv c1<32) || decide (126<cv c1) || decide (cv c1=39) || decide (cv c1=92)))] ?_ (fun j hj=>?_)
   ·refine oB 8 rfl (fun ht=>?_) (fun ht0=>?_)
    ·exact absurd (zt ht) (by simp only[zLc];omega)
    ·skip
     refine oP (pI (c:=c2) rfl rfl zDd rfl) rfl ?_;refine gac ?_;refine oB 13 rfl (fun ht=>?_) (fun ht1=>?_)
     ·refine gad ?_;exact ⟨⟨rfl,rfl,qai (by rw[ht];rfl),trivial⟩,rfl,rfl⟩
     ·refine zQ78 ?_;refine gad ?_;refine oB 18 rfl (fun ht=>?_) (fun ht2=>?_)
      ·refine gad ?_;exact ⟨⟨rfl,rfl,qai (by rw[ht1,ht];rfl),trivial⟩,rfl,rfl⟩
      ·refine zQ78 ?_;refine gac ?_;refine oB 23 rfl (fun ht=>?_) (fun ht3=>?_)
       ·refine gad ?_;exact ⟨⟨rfl,rfl,qai (by rw[ht1,ht2,ht];rfl),trivial⟩,rfl,rfl⟩
       ·refine zQ78 ?_;refine gad ?_;refine oB 28 rfl (fun ht=>?_) (fun ht4=>?_)
        ·refine gad ?_;exact ⟨⟨rfl,rfl,qai (by rw[ht1,ht2,ht3,ht];rfl),trivial⟩,rfl,rfl⟩
        ·refine zQ78 ?_;refine gad ?_;exact ⟨⟨rfl,rfl,qai (by rw[ht1,ht2,ht3,ht4];rfl),trivial⟩,rfl,rfl⟩
   ·skip
    refine oC rfl (fun hc=>?_) (fun hc=>?_)
    ·refine gab ?_;exact qac hj (rC (rA rfl zm0 rfl zsr) (rC (zrt rfl) (zra rfl))) (by rw[qbi,if_pos hc];rfl)
    ·refine gau ?_;refine oP (pI (c:=c1) rfl rfl zDd rfl) rfl ?_;refine oP (Pure.cvt rfl) rfl ?_;have hw:IntKind.i64.wrap (c1.toNat:Int)=((c1.toNat:Nat):Int):=qc4 (by have:=c1.toNat_lt;omega);rw[hw];refine oS (sF [_] rfl (qdu hG c1.toNat (by have:=c1.toNat_lt;omega)) ?_) rfl;refine gac ?_;exact qac hj (rC (rA rfl zm0 rfl zsr) (rC (zrt rfl) (zra rfl))) (by rw[qbi,if_neg (by rw[hc];decide)];rfl)
theorem qop (hG:GW B0 w0) (s:List UInt8) (hs:s.length<=1000000000) (hne:s≠[]):LCalls (KC B0 w0) 43 [str s] [] (Ret (qj0 (qan s))):=by
 match s,hne with
 |c::r,_=>
  refine cI Tryz.func43 rfl (n:=49) rfl rfl rfl ?_;refine gag ?_;refine oS (sA fun b=>?_) rfl;refine gaa ?_;refine oP (pI (c:=c) rfl rfl zDd rfl) rfl ?_;refine oS (sF [_] rfl (qgW c) ?_) rfl;refine ga2 ?_;refine oC rfl (fun hc=>?_) (fun hc=>?_)
  ·refine gaf ?_;refine oS (sF [_] rfl (qmm hG (c::r) hs (by rw[List.takeWhile_cons_of_pos hc];simp)) ?_) rfl;refine gac ?_;exact qac rfl (rC (rA rfl zm0 rfl zsr) (rC (zrt rfl) (zra rfl))) (by simp only[qan,hc,if_true];rfl)
  ·refine gaf ?_;refine oP (pI (c:=c) rfl rfl zDd rfl) rfl ?_;refine oS (sF [_] rfl (qfZ c) ?_) rfl;refine ga2 ?_;refine oC rfl (fun hl=>?_) (fun hl=>?_)
   ·refine gaf ?_;refine oS (sF [_] rfl (qoZ (c::r) hs) ?_) rfl;refine gac ?_;exact qac rfl (rC (rA rfl zm0 rfl zsr) (rC (zrt rfl) (zra rfl))) (by simp only[qan,hc,hl,if_true,Bool.false_eq_true,if_false];rfl)
   ·refine gaf ?_;refine oP (pI (c:=c) rfl rfl zDd rfl) rfl ?_;refine gad ?_;refine oC rfl (fun hq=>?_) (fun hq=>?_)
    ·refine gaf ?_;refine oS (sF [_] rfl (qk0 hG (c::r) hs) ?_) rfl;refine gac ?_;exact qac rfl (rC (rA rfl zm0 rfl zsr) (rC (zrt rfl) (zra rfl))) (by simp only[qan,hc,hl,Bool.false_eq_true,if_false];rw[if_pos hq];rfl)
    ·have htok:qan (c::r)=qde (c::r):=by simp only[qan,hc,hl,Bool.false_eq_true,if_false];rw[if_neg (by rw[hq];decide)]
     refine gaa ?_;refine oS (sF [] rfl qoy ?_) rfl;refine gad ?_
     refine oL (fun k ls H=>∃ m:Nat,k=qcL.length-m/\ls=[(0,str (c::r)),(2,ptr b 0),(34,.list (qcL.map str)),(35,int .i64 24),(36,int .i64 m)]/\H=[(b,.cells 96 [int .i64 0,str [],int .i64 0])]/\m<=24/\qcL.find? (fun x=>x.isPrefixOf (c::r))=(qcL.drop m).find? (fun x=>x.isPrefixOf (c::r)))
      ⟨_,_,_,⟨0,rfl,rfl,rfl,by omega,by simp⟩,⟨rfl,rfl,rfl,rfl,rfl,trivial⟩,zhR _⟩ ?_
     rintro k ls H ⟨m,rfl,rfl,rfl,hm,hI⟩ j hj;have h24:qcL.length=24:=rfl;refine gai ?_;refine oC rfl (fun ht=>?_) (fun ht=>?_)
     ·have hlt:m<qcL.length:=by have:=zt ht;omega
      refine gak ?_;refine oP (xR (el':=str qcL[m]) rfl rfl zo (by simp) rfl rfl) rfl ?_;refine gab ?_;refine oS (sF [_,_] rfl (qfT (c::r) qcL[m]) ?_) rfl;refine gam ?_;refine oC rfl (fun hp=>?_) (fun hp=>?_)
      ·refine gab ?_
       exact qac hj (rC (rA rfl zm0 rfl zsr) (rC (zrt rfl) (zra rfl))) (by
        rw[htok,qde,hI,List.drop_eq_getElem_cons hlt,List.find?_cons_of_pos (by simpa using hp)]
        rfl)
      ·refine gaa ?_
       exact ⟨_,_,_,by omega,⟨m+1,rfl,rfl,rfl,by omega,by
        rw[hI,List.drop_eq_getElem_cons hlt,List.find?_cons_of_neg (by rw[hp];decide)]⟩,⟨rfl,rfl,rfl,rfl,qaf zo,trivial⟩,zhR _,hj⟩
     ·have hge:qcL.length<=m:=by have:=zf ht;omega
      refine gab ?_
      exact qac hj (rC (rA rfl zm0 rfl zsr) (rC (zrt rfl) (zra rfl))) (by
       rw[htok,qde,hI,List.drop_eq_nil_of_le hge]
       rfl)
end
end Go.Proofs.YthmhncflhnbedaaGreatDoor
namespace Go.Proofs.YthmhncflhnbedaaGreatDoor
open Go.GL Go.RowKit Go.Stele
attribute [local irreducible] LOps qae qag LCalls Go.GL.Pure qaA qaq qah
def qbU (s:List UInt8):Except (Int×Int) (List Tok):=if 60000<s.length then .error (0,6) else lexP s.length s 1
def qjU:Except (Int×Int) (List Tok)->LV
 |.ok T=>.tuple [.list (T.map qbJ),int .i64 0,int .i64 0]
 |.error (l,e)=>.tuple [.list [],int .i64 l,int .i64 e]
theorem qjP {A B D:Type} (f:A->B) (h:B->D) (r:Except (Int×Int) A):(r.map f).map h=r.map (fun x=>h (f x)):=by cases r <;> rfl
section
variable {B0:Nat} {w0:World}
theorem qou (hG:GW B0 w0) (s:List UInt8):LCalls (KC B0 w0) 14 [str s] [] (Ret (qjU (qbU s))):=by
 refine cI Tryz.func14 rfl (n:=49) rfl rfl rfl ?_;refine gab ?_;refine oC rfl (fun hc=>?_) (fun hc=>?_)
 ·refine gap ?_
  exact qac rfl (rC (rT (v:=qaa) rfl vN) (rC (zrt rfl) (zra rfl))) (by
   rw[qbU,if_pos (by have:=zt hc;omega)]
   rfl)
 ·have hlen:s.length<=60000:=by have:=zf hc;omega
  refine gaa ?_
  refine oL (fun k ls H=>∃ (v:LV) (out:List Tok) (rest:List UInt8) (line:Int) (fuel:Nat),k=rest.length/\ls=[(5,v),(6,int .i64 line),(7,str rest)]/\Acc 3 v (out.map qbJ) H [] /\
    rest.length<=fuel/\0<=line/\line+rest.length<=60001/\out.length+rest.length<=60000/\lexP s.length s 1=(lexP fuel rest line).map (out++·))
   ⟨_,_,_,⟨qaa,[],s,1,s.length,rfl,rfl,Acc.nil,by omega,by omega,by omega,by simp;omega,by cases lexP s.length s 1 <;> rfl⟩,⟨rfl,rfl,rfl,trivial⟩,zhR _⟩ ?_
  rintro k ls H ⟨v,out,rest,line,fuel,rfl,rfl,hacc,hf,hl0,hl1,ho,hI⟩ j hj;refine gab ?_;refine oC rfl (fun hne=>?_) (fun hne=>?_)
  ·have hrest:rest≠[]:=by simpa using hne
   obtain ⟨f,rfl⟩:∃ f,fuel=f+1:=⟨fuel-1,by
    have:0<rest.length:=List.length_pos_iff.2 hrest
    omega⟩
   rw[lexP,if_neg hrest] at hI;have hsk:=qoj rest;refine gaa ?_;refine oS (sF [_] rfl (qpU rest zo) ?_) rfl;refine gaa ?_;refine oC rfl (fun hz=>?_) (fun hz=>?_)
   ·have hz':qa4 rest=0:=by have:=zt hz;omega
    rw[if_pos hz'] at hI;refine gaf ?_;refine oS (sF [_] rfl (qop hG rest zo hrest) ?_) rfl;refine gac ?_;refine oS (sA fun b=>?_) rfl;refine gab ?_;refine oC rfl (fun he=>?_) (fun he=>?_)
    ·have he':(qan rest).2.2≠0:=by simpa using he
     rw[if_pos he'] at hI;refine gaa ?_
     exact qac hj (rC (rT (v:=qaa) rfl vN) (rC (zrt rfl) (zra rfl))) (by
      rw[qbU,if_neg zo,hI]
      rfl)
    ·have he':(qan rest).2.2=0:=by simpa using he
     rw[if_neg (by simpa using he')] at hI;obtain ⟨hs0,hs1⟩:=qdA rest he';refine gab ?_;refine zQ60 ?_;refine qiR ?_;refine LOps.weak (zhD zhr) ?_;refine oS (S.acc rfl hacc rfl (by simp;rfl) rfl (by simp;omega) fun v' H' hacc'=>?_) rfl;refine zQ62 ?_;refine gaw ?_;refine oP (Pure.sslice (i:=0) (j:=(qan rest).2.1) rfl rfl ⟨_,rfl⟩ zo zo zo) rfl ?_;refine oS (sF [_,_] rfl (qhv _) ?_) rfl;have hcnt:(List.drop (Int.toNat 0) (List.take ((qan rest).2.1:Int).toNat rest)).count 10<=(qan rest).2.1:=zNt List.count_le_length (by simp;omega);refine gaa ?_;refine oP (Pure.sslice (i:=(qan rest).2.1) (j:=rest.length) rfl ⟨_,rfl⟩ rfl zo zo zo) rfl ?_;refine gad ?_
     have hacc2:Acc 3 v' ((out++[{ (qan rest).1 with line:=line }]).map qbJ) H' []:=by
      rw[zMa];exact hacc'
     exact ⟨_,_,_,by simp only[List.length_drop];omega,⟨v',out++[{ (qan rest).1 with line:=line }],rest.drop (qan rest).2.1,line+((rest.take (qan rest).2.1).count 10:Nat),f,rfl,rfl,hacc2,
      by simp only[List.length_drop];omega,by omega,by simp only[List.length_drop];simp at hcnt;omega,by simp only[List.length_drop,zLa,List.length_singleton];omega,by
       rw[hI,qjP];congr 1;funext x
       simp⟩,⟨rfl,qaf (by simp),qjz (by simp),trivial⟩,zhR _,hj⟩
   ·have hz':¬ qa4 rest=0:=by have:=zf hz;omega
    rw[if_neg hz'] at hI;refine gau ?_;refine oP (Pure.sslice (i:=0) (j:=qa4 rest) rfl rfl ⟨_,rfl⟩ zo zo zo) rfl ?_;refine oS (sF [_,_] rfl (qhv _) ?_) rfl;have hcnt:(List.drop (Int.toNat 0) (List.take (qa4 rest:Int).toNat rest)).count 10<=qa4 rest:=zNt List.count_le_length (by simp;omega);refine gaa ?_;refine oP (Pure.sslice (i:=qa4 rest) (j:=rest.length) rfl ⟨_,rfl⟩ rfl zo zo zo) rfl ?_;refine gad ?_
    exact ⟨_,_,_,by simp only[List.length_drop];omega,⟨v,out,rest.drop (qa4 rest),line+((rest.take (qa4 rest)).count 10:Nat),f,rfl,rfl,hacc,
      by simp only[List.length_drop];omega,by omega,by simp only[List.length_drop];simp at hcnt;omega,by simp only[List.length_drop];omega,hI⟩,⟨rfl,qaf (by simp),qjz (by simp),trivial⟩,zhR _,hj⟩
  ·have hrest:rest=[]:=by simpa using hne
   refine gaa ?_;refine zQ38 ?_
   exact qac hj (rC (rT (v:=v) rfl hacc.sub) (rC (zrt rfl) (zra rfl))) (by
    rw[qbU,if_neg zo,hI,hrest]
    cases fuel <;> simp[lexP,Except.map,qjU,qbv])
end
end Go.Proofs.YthmhncflhnbedaaGreatDoor
namespace Go.Proofs.YthmhncflhnbedaaGreatDoor
open Go.GL Go.RowKit Go.Stele
attribute [local irreducible] LOps qae qag LCalls Go.GL.Pure qaA qaq qah LQ LAny qaF qap
@[reducible] def srcH (sb:Nat) (T:List Tok) (i op:Nat):Nat×LObj:=(sb,.cells 50 [.list (T.map qbJ),int .i64 i,int .i64 op])
def pan (l e:Int):List PanicEntry:=[{ v:=.iface 46 (.agg #[.int .i64 l,.int .i64 e]),recovered:=false }]
def qdy {A:Type} (sb:Nat) (T:List Tok) (enc:A->LV) (res:Res A) (r:LRes) (H:Heap):Prop:=match res with
 |.ok v i op=>r=.ret (enc v)/\H=[srcH sb T i op]
 |.err l e=>r=.panic (pan l e)/\∃ i op:Nat,H=[srcH sb T i op]
def encU:Unit->LV:=fun _=>.tuple []
theorem qa0 {A:Type} (f:A->LV) (l:List A) (i:Nat) (h:i<l.length):(l.map f)[((i:Nat):Int).toNat]? = some (f l[i]):=by
 rw[Int.toNat_natCast,List.getElem?_map,List.getElem?_eq_getElem h];rfl
section
variable {B0:Nat} {w0:World}
theorem qc7 (sb:Nat) (T:List Tok) (i op:Nat) (xs:List (List UInt8)) (hT:T.length<=100000) (hi:i<=1000000) (hx:xs.length<=1000) :
  LCalls (KC B0 w0) 45 [ptr sb 0,.list (xs.map str)] [srcH sb T i op] (fun r H=>r=.ret (bool (qaE T i xs))/\H=[srcH sb T i op]):=by
 refine cI Tryz.func45 rfl (n:=40) rfl rfl rfl ?_;refine ga0 ?_;refine cC [(0,ptr sb 0),(1,.list (xs.map str)),(15,bool (decide (T.length<=i)))] ?_ (fun j hj=>?_)
 ·refine zQ85 ?_;refine gao ?_;exact ⟨⟨rfl,rfl,qai (by rw[decide_eq_decide];simp),trivial⟩,rfl,rfl⟩
 ·skip
  refine oC rfl (fun hc=>?_) (fun hc=>?_)
  ·refine gap ?_;exact rR hj (zra rfl) zhr ⟨by rw[qaE,List.getElem?_eq_none (zt hc)];rfl,rfl⟩
  ·have hlt:i<T.length:=by have:=zf hc;omega
   refine gad ?_;refine cD (m:=12) rfl [srcH sb T i op] ?_;refine zQ76 ?_;refine aT 3 rfl rfl (pL (c:=.list _) rfl zm0 rfl) ?_;refine aT 4 rfl rfl (pM (lv:=.atom _) rfl) ?_;refine aT 5 rfl rfl (pN rfl) ?_;refine aT 6 rfl rfl (pF rfl) ?_;refine aT 7 rfl rfl (pL (c:=.atom _) rfl zm0 rfl) ?_;refine LAny.take (i:=8) zhr rfl zk zk zk rfl (xR (el':=qbJ T[i]) (cs:=[_,_,_]) rfl rfl zo (qa0 _ _ _ hlt) rfl rfl) ?_;refine aT 9 rfl rfl (pR (cs':=[_,_,_]) rfl rfl rfl) ?_;refine aL ?_ zhr;refine lO 10 (lS (H1:=[]) (F:=[srcH sb T i op]) rfl (.inl rfl) rfl zpr zhr (sA fun b=>?_));refine lO 11 (lS (H1:=[(b,_)]) (F:=[srcH sb T i op]) rfl (.inl rfl) rfl zpr zhr (sS (cs':=[_,_,_]) rfl pH rfl rfl rfl rfl rfl ?_));refine lD zk ?_;refine gaa ?_;have hsp:qaE T i xs=((decide (T[i].kind=3) || decide (T[i].kind=4)) && xs.contains T[i].text):=by rw[qaE,List.getElem?_eq_getElem hlt]
   rw[hsp];refine oB 29 rfl (fun h3=>?_) (fun h3=>?_)
   ·refine gad ?_;refine oS (sF [_,_] rfl (qdC xs T[i].text zo) ?_) rfl;refine gad ?_;exact rR hj (zra rfl) (zhD zhr) ⟨by rw[h3];rfl,rfl⟩
   ·refine gad ?_;refine oB 34 rfl (fun h4=>?_) (fun h4=>?_)
    ·refine gad ?_;refine oS (sF [_,_] rfl (qdC xs T[i].text zo) ?_) rfl;refine gad ?_;exact rR hj (zra rfl) (zhD zhr) ⟨by rw[h3,h4];rfl,rfl⟩
    ·refine gae ?_;exact rR hj (zra rfl) (zhD zhr) ⟨by rw[h3,h4];rfl,rfl⟩
end
end Go.Proofs.YthmhncflhnbedaaGreatDoor
namespace Go.Proofs.YthmhncflhnbedaaGreatDoor
open Go.GL Go.RowKit Go.Stele
section steps
variable {C:Ctx} {e:Env} {H:Heap} {dst:Option Nat} {ty:TypeId} {pos:String} {aft:Array Edge} {g:Option (Nat×Bool)} {K:LV->Heap->Prop} {X:List PanicEntry->Heap->Prop}
theorem sH {f:FuncId} [TEnter C.P f] (args:List Operand) {ats:Array TypeId} {av:List LV} {lv:LV} {p p':Nat×LObj} {F:Heap} (has:args.map e.ev=av) (hp:Pick p H F) (hc:LCalls C f av [p] (fun r H=>r=.ret lv/\H=[p'])) (hk:K lv (p'::F)) :
  qag C ⟨dst,.call { callee:=.value (.func f),args:=args.toArray,argTypes:=ats },ty,pos,aft,g⟩ e H K X:=
 S.call1 args has hp hc (by rintro v H' ⟨h,rfl⟩;cases h;exact hk) (by rintro ch H' ⟨h,_⟩;cases h)
theorem sP {A:Type} {enc:A->LV} {res:Res A} {sb i op:Nat} {T:List Tok} {f:FuncId} [TEnter C.P f] (args:List Operand) {ats:Array TypeId} {av:List LV} {F:Heap} (has:args.map e.ev=av) (hp:Pick (srcH sb T i op) H F)
  (hc:LCalls C f av [srcH sb T i op] (qdy sb T enc res)) (hk:∀ v i' op',res=.ok v i' op'->K (enc v) (srcH sb T i' op'::F)) (hx:∀ l er i' op',res=.err l er->X (pan l er) (srcH sb T i' op'::F)) :
  qag C ⟨dst,.call { callee:=.value (.func f),args:=args.toArray,argTypes:=ats },ty,pos,aft,g⟩ e H K X:=by
 refine S.call1 args has hp hc ?_ ?_
 ·intro v H' h
  cases hr:res with
  |ok u i' op'=>
   rw[hr] at h;obtain ⟨h1,rfl⟩:=h;cases h1
   exact hk _ _ _ hr
  |err l er=>
   rw[hr] at h;obtain ⟨h1,_⟩:=h;cases h1
 ·intro ch H' h
  cases hr:res with
  |ok u i' op'=>
   rw[hr] at h;obtain ⟨h1,_⟩:=h
   cases h1
  |err l er=>
   rw[hr] at h;obtain ⟨h1,i',op',rfl⟩:=h;cases h1;exact hx _ _ _ _ hr
theorem retP {A:Type} {enc:A->LV} {res:Res A} {sb:Nat} {T:List Tok} {n:Nat} {rs:List ResultVar} {vs:List LV} {v:A} {i op:Nat} (hd:e.ds=[]) (h:qbF C n e H rs vs) (hr:res=.ok v i op) (hv:qbv vs=enc v) (hH:HSub [srcH sb T i op] H) :
  qah C n rs (qdy sb T enc res) .ret e H:=rR hd h hH (by rw[hr];exact ⟨by rw[hv],rfl⟩)
theorem qsd {A:Type} {enc:A->LV} {res:Res A} {sb:Nat} {T:List Tok} {n:Nat} {rs:List ResultVar} {vs:List LV} {v:A} {i op:Nat} (hd:e.ds=[]) (h:qbF C n e H rs vs) (hr:res=.ok v i op) (hv:qbv vs=enc v) (hH:HSub [srcH sb T i op] H) :
  qah C n rs (qdy sb T enc res) .normal e H:=rO hd h hH (by rw[hr];exact ⟨by rw[hv],rfl⟩)
theorem panP {A:Type} {enc:A->LV} {res:Res A} {sb:Nat} {T:List Tok} {n:Nat} {rs:List ResultVar} {i op:Nat} {l er:Int} (hd:e.ds=[]) (hr:res=.err l er) (hH:HSub [srcH sb T i op] H) :
  qah C n rs (qdy sb T enc res) (.panic (pan l er)) e H:=qah.panic hd hH (by rw[hr];exact ⟨rfl,i,op,rfl⟩)
end steps
attribute [local irreducible] LOps qae qag LCalls Go.GL.Pure qaA qaq qah LQ LAny qaF qap
section
variable {B0:Nat} {w0:World}
theorem qfe {A:Type} (enc:A->LV) (sb:Nat) (T:List Tok) (i op:Nat) (er:Int) (hT:T.length<=100000) (hi:i<=1000000) :
  LCalls (KC B0 w0) 50 [ptr sb 0,int .i64 er] [srcH sb T i op] (qdy sb T enc (.err (qdJ T i) er)):=by
 have hml:(T.map qbJ).length=T.length:=zLm _;refine cI Tryz.func50 rfl (n:=31) rfl rfl rfl ?_;refine gab ?_;refine cC [(0,ptr sb 0),(1,int .i64 er),(4,int .i64 (qdJ T i))] ?_ (fun j hj=>?_)
 ·refine oC rfl (fun hc=>?_) (fun hc=>?_)
  ·have hpos:0<T.length:=by have:=zt hc;simp at this;omega
   have hmin:min i (T.length-1)<T.length:=by omega
   have hmv:(if ((T.map qbJ).length:Int)-1<(i:Int) then ((T.map qbJ).length:Int)-1 else (i:Int))=((min i (T.length-1):Nat):Int):=by
    rw[zLm];split <;> omega
   refine zQ85 ?_;refine gao ?_;refine qP (xR (n:=((min i (T.length-1):Nat):Int)) (el':=qbJ T[min i (T.length-1)]) (cs:=[_,_,_]) rfl (congrArg (int .i64) hmv) zo (qa0 _ _ _ hmin) rfl rfl) rfl ?_;refine gao ?_;exact ⟨⟨rfl,rfl,qaf (by rw[qdJ,List.getElem?_eq_getElem hmin]),trivial⟩,rfl,rfl⟩
  ·have hz:T=[]:=by
    have:=zf hc;exact List.length_eq_zero_iff.1 zo
   refine gar ?_;exact ⟨⟨rfl,rfl,qaf (by rw[qdJ,hz];rfl),trivial⟩,rfl,rfl⟩
 ·refine gab ?_;refine oS (qag.panic rfl fun e' he'=>?_) rfl;exact panP (he'.trans hj) rfl zhr
theorem qcE (sb:Nat) (T:List Tok) (i op:Nat) (x:List UInt8) (hT:T.length<=100000) (hi:i<=1000000) :
  LCalls (KC B0 w0) 47 [ptr sb 0,str x] [srcH sb T i op] (fun r H=>r=.ret (bool (qaE T i [x]))/\H=[srcH sb T (if qaE T i [x] then i+1 else i) op]):=by
 refine cI Tryz.func47 rfl (n:=17) rfl rfl rfl ?_;refine gaw ?_;refine zQ15 ?_;refine oS (sH [_,_] rfl pH (qc7 sb T i op [x] hT hi (by simp)) ?_) rfl;refine gad ?_;refine oC rfl (fun hc=>?_) (fun hc=>?_)
 ·have h:qaE T i [x]=false:=by simpa using hc
  refine gap ?_;exact rR rfl (zra rfl) zhr ⟨by rw[h];rfl,by rw[h];rfl⟩
 ·have h:qaE T i [x]=true:=by simpa using hc
  refine gab ?_;exact rR rfl (zra rfl) zhr ⟨by rw[h];rfl,by rw[h];rfl⟩
theorem qd4 (sb:Nat) (T:List Tok) (i op:Nat) (x:List UInt8) (hT:T.length<=100000) (hi:i<=1000000) :
  LCalls (KC B0 w0) 106 [ptr sb 0,str x] [srcH sb T i op] (qdy sb T encU (qb6 T x i op)):=by
 refine cI Tryz.func106 rfl (n:=10) rfl rfl rfl ?_;refine gaf ?_;refine oS (sH [_,_] rfl pH (qcE sb T i op x hT hi) ?_) rfl;refine gad ?_;refine oC rfl (fun hc=>?_) (fun hc=>?_)
 ·have h:qaE T i [x]=false:=by simpa using hc
  simp only[h,Bool.false_eq_true,if_false];refine gaf ?_;refine oS (sP [_,_] rfl pH (qfe encU sb T i op 3 hT hi) (fun _ _ _ h=>by cases h) (fun l er i' op' h e' he'=>?_)) rfl;cases h;exact panP (he'.trans rfl) (by rw[qb6,h,if_neg zDd];rfl) zhr
 ·have h:qaE T i [x]=true:=by simpa using hc
  simp only[h,if_true];refine gar ?_;exact qsd rfl rN (by rw[qb6,h,if_pos rfl]) rfl zhr
theorem qd8 (sb:Nat) (T:List Tok) (i op:Nat) (k:Int) (hT:T.length<=100000) (hi:i<=1000000) :
  LCalls (KC B0 w0) 107 [ptr sb 0,int .i64 k] [srcH sb T i op] (qdy sb T str (qbS T k i op)):=by
 have hml:(T.map qbJ).length=T.length:=zLm _;refine cI Tryz.func107 rfl (n:=51) rfl rfl rfl ?_;refine ga0 ?_;refine cC [(0,ptr sb 0),(1,int .i64 k),(29,bool (match T[i]? with|some t=>!decide (t.kind=k)|none=>true))] ?_ (fun j hj=>?_)
 ·refine zQ85 ?_;refine gao ?_;refine LQ.bcase 15 rfl (fun h=>?_) (fun h=>?_)
  ·have hge:T.length<=i:=by have:=zt h;omega
   refine gao ?_;exact ⟨⟨rfl,rfl,qai (by rw[List.getElem?_eq_none hge]),trivial⟩,rfl,rfl⟩
  ·have hlt:i<T.length:=by have:=zf h;omega
   refine zQ34 ?_;refine gao ?_;exact ⟨⟨rfl,rfl,qai (by rw[List.getElem?_eq_getElem hlt]),trivial⟩,rfl,rfl⟩
 ·skip
  refine oC rfl (fun hc=>?_) (fun hc=>?_)
  ·have hs:qbS T k i op=qfU T i:=by
    unfold qbS
    cases hg:T[i]? with
    |none=>rfl
    |some t=>
     rw[hg] at hc;have:¬ t.kind=k:=by simpa using hc
     simp only;rw[if_neg this]
   refine gaf ?_;refine oS (sP [_,_] rfl pH (qfe str sb T i op 3 hT hi) (fun _ _ _ h=>by cases h) (fun l er i' op' h e' he'=>?_)) rfl;cases h;refine gas ?_;exact panP (he'.trans hj) hs zhr
  ·have hlt:i<T.length:=by
    rcases Nat.lt_or_ge i T.length with h|h
    ·exact h
    ·rw[List.getElem?_eq_none h] at hc;cases hc
   rw[List.getElem?_eq_getElem hlt] at hc;have hk:T[i].kind=k:=by simpa using hc
   have hs:qbS T k i op=.ok T[i].text (i+1) op:=by rw[qbS,List.getElem?_eq_getElem hlt];simp only;rw[if_pos hk]
   refine gab ?_;refine cC [(0,ptr sb 0),(4,str T[i].text)] ?_ (fun j2 hj2=>?_)
   ·refine zQ85 ?_;refine gao ?_;refine qP (xR (n:=((i:Nat):Int)) (el':=qbJ T[i]) (cs:=[_,_,_]) rfl (qaf zo) zo (qa0 _ _ _ hlt) rfl rfl) rfl ?_;refine gao ?_;exact ⟨⟨rfl,rfl,trivial⟩,rfl,rfl⟩
   ·refine gae ?_;exact retP (hj2.trans hj) (zra rfl) hs rfl zhr
theorem qcm (sb:Nat) (T:List Tok) (i op:Nat) (x:List UInt8) (hT:T.length<=100000) (hi:i<=1000000) (ho:op<=1000000) :
  LCalls (KC B0 w0) 108 [ptr sb 0,str x] [srcH sb T i op] (qdy sb T encU (qbs T x i op)):=by
 refine cI Tryz.func108 rfl (n:=32) rfl rfl rfl ?_;refine gaf ?_;refine zQ15 ?_;refine oS (sH [_,_] rfl pH (qc7 sb T i op [x] hT hi (by simp)) ?_) rfl;refine gad ?_;refine oC rfl (fun hc=>?_) (fun hc=>?_)
 ·have h:qaE T i [x]=false:=by simpa using hc
  refine gaf ?_;refine oS (sP [_,_] rfl pH (qfe encU sb T i op 3 hT hi) (fun _ _ _ h=>by cases h) (fun l er i' op' h' e' he'=>?_)) rfl;cases h';refine gas ?_;exact panP (he'.trans rfl) (by rw[qbs,h,if_neg zDd];rfl) zhr
 ·have h:qaE T i [x]=true:=by simpa using hc
  refine gab ?_;refine oC rfl (fun hd=>?_) (fun hd=>?_)
  ·have hd':100<=op:=by have:=zt hd;omega
   refine gaf ?_;refine oS (sP [_,_] rfl pH (qfe encU sb T i op 6 hT hi) (fun _ _ _ h=>by cases h) (fun l er i' op' h' e' he'=>?_)) rfl;cases h';refine gas ?_;exact panP (he'.trans rfl) (by rw[qbs,h,if_pos rfl,if_pos hd']) zhr
  ·have hd':¬ 100<=op:=by have:=zf hd;omega
   refine gab ?_;exact qsd rfl rN (by rw[qbs,h,if_pos rfl,if_neg hd']) rfl zhr
theorem qeL (sb:Nat) (T:List Tok) (i op:Nat) (x:List UInt8) (hT:T.length<=100000) (hi:i<=1000000) (ho:op<=1000000) (h1:1<=op) :
  LCalls (KC B0 w0) 110 [ptr sb 0,str x] [srcH sb T i op] (qdy sb T encU (sEnd T x i op)):=by
 refine cI Tryz.func110 rfl (n:=14) rfl rfl rfl ?_;refine gaf ?_;refine oS (sP [_,_] rfl pH (qd4 sb T i op x hT hi) (fun v i' op' h=>?_) (fun l er i' op' h e' he'=>?_)) rfl
 ·have hop:op'=op:=by
   unfold qb6 at h;split at h
   ·cases h;rfl
   ·cases h
  subst hop;refine gab ?_;rw[show ((op':Int)-1)=((op'-1:Nat):Int) by omega];exact qsd rfl rN (by rw[sEnd,h];rfl) rfl zhr
 ·refine gas ?_;exact panP (he'.trans rfl) (by rw[sEnd,h];rfl) zhr
end
end Go.Proofs.YthmhncflhnbedaaGreatDoor
