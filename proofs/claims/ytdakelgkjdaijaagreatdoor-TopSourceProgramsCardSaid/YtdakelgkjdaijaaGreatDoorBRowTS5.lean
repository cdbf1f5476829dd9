/- Texts joined: GlStr, Fmt3, Fmt4, GlSet, GlInts, GlBytes, GlKv, PeepSpec, LexCat, LexJoin, PeepNum, PeepWords, PeepOpt, PeepRef, PeepAsm. -/
import Derived.Lib.Builder
import Derived.Lib.AppendStr
import Derived.Lib.Join
import Derived.Lib.Split
import Derived.Test.YtdakelgkjdaijaaGreatDoorBRowTS2
import Derived.Test.YtdakelgkjdaijaaGreatDoorBRowTS3
import Derived.Test.YtdakelgkjdaijaaGreatDoorBRowTS4
set_option linter.unusedVariables false
set_option linter.unusedSimpArgs false
set_option maxRecDepth 100000
set_option maxHeartbeats 4000000
namespace Go.GL
open Go.RowKit
section
variable {C:Ctx} {e:Env} {H:Heap} {x y:Operand} {dst:Option Nat} {ty:TypeId} {pos:String} {aft:Array Edge} {g:Option (Nat×Bool)} {K:LV->Heap->Prop} {X:List PanicEntry->Heap->Prop}
def byts (l:List UInt8):List LV:=l.map fun b=>int .u8 b.toNat
theorem qgx (l:List UInt8):(byts l).length=l.length:=zLm _
theorem qlH (l m:List UInt8):byts (l++m)=byts l++byts m:=zMa
theorem qlR (l:List UInt8):∀ v∈byts l,v.cells.length=1:=by
 intro v hv;obtain ⟨b,_,rfl⟩:=List.mem_map.1 hv;rfl
theorem qmo (l:List UInt8):(byts l).flatMap LV.cells=byts l:=by
 induction l with
 |nil=>rfl
 |cons b l ih=>
  have h:byts (b::l)=int .u8 b.toNat::byts l:=rfl;rw[h,List.flatMap_cons,ih]
  try rfl
def bytV (l:List UInt8):List Value:=l.map fun b=>.int .u8 b.toNat
theorem qmF (l:List UInt8):∀ v∈bytV l,(∀ cs,v≠Value.agg cs)/\(∀ cs,v≠Value.tuple cs):=by
 intro v hv;obtain ⟨b,_,rfl⟩:=List.mem_map.1 hv;exact And.intro (fun _ h=>by cases h) (fun _ h=>by cases h)
theorem qiA {P:Program} (l:List UInt8) (w':World):(Builtin.firstCells 1 l.length (.string ⟨l.toArray⟩)).run P w'=.ok (bytV l).toArray w':=by
 have:=Go.Lib.run_firstCells_string (P:=P) w' 1 ⟨l.toArray⟩;rw[qhv] at this;rw[this]
 try rfl
/-! ### A buffer whose cells are all known: it can be frozen -/
theorem qcj {w:World} {L:Live}:∀ {zs xs:List Value},RepL w L (zs.map .atom) xs->xs=zs
 |[],_,h=>by simpa only[List.map_nil,RepL] using h
 |z::zs,xs,h=>by
  simp only[zMc,RepL] at h;obtain ⟨y,ys,rfl,h1,h2⟩:=h;simp only[Rep] at h1;rw[h1,qcj h2]
inductive BRow (el:TypeId):Value->List UInt8->Heap->Prop
 |nil:BRow el (.slice none 0 0) [] []
 |row {b:Nat} {l:List UInt8} {xs:List Value} (h0:l≠[]) (h1:l.length<=xs.length) (h2:xs.take l.length=bytV l):BRow el (.slice (some ⟨b,0,none⟩) l.length xs.length) l [(b,.cells el (xs.map .atom))]
theorem qbv (l:List UInt8):(bytV l).length=l.length:=zLm _
theorem qil (l m:List UInt8):bytV (l++m)=bytV l++bytV m:=zMa
theorem qgM {w:World} {L:Live} (hH:RelH C w L []) {el:TypeId} {l:List UInt8} {xs:List Value} (h0:l≠[]) (h1:l.length<=xs.length) (h2:xs.take l.length=bytV l) (hk:∀ v' H',BRow el v' l H'->K (.atom v') H') :
  Left C w L [] (World.push w (.cells xs.toArray el)) (.slice (some ⟨w.heap.size,0,none⟩) l.length xs.length) K:=by
 have hx:=qeg hH.wf (.cells xs.toArray el) 0
 have:=qem hH (.cells xs.toArray el) 0 [(w.heap.size,.cells el (xs.map .atom))] (fun p hp=>by
  simp only[List.mem_singleton] at hp;subst hp
  exact ⟨rfl,by simp[Live.upd],xs,qaI,qaT xs⟩) (by simp)
 exact ⟨.atom _,_,_,this.1,this.2,qah,hk _ _ (BRow.row h0 h1 h2)⟩
theorem qad.appB {sT xT el bytes:Nat} [ht:TSlice C.P sT el 1] [hr:TRow C.P el 1 bytes] [hx2:TStr C.P xT] {v:Value} {l m:List UInt8}
  (hx:e.ev x=.atom v) (ha:BRow el v l H) (hy:e.ev y=str m) (hroom:(l.length+m.length) * bytes<=140737488355328)
  (hk:∀ v' H',BRow el v' (l++m) H'->K (.atom v') H'):qad C ⟨dst,.call { callee:=.builtin .append,args:=#[x,y],argTypes:=#[sT,xT] },ty,pos,aft,g⟩ e H K X:=by
 have h0:∀ (cs:Array Bool) (args:Array Value),builtin .append #[sT,xT] ty cs args=(do Pure.pure (.value (<-Builtin.append_ #[sT,xT] ty args))):=fun _ _=>rfl;have hlen:∀ w':World,(Builtin.lenOf (.string ⟨m.toArray⟩)).run C.P w'=.ok m.length w':=fun w'=>by simp[Builtin.lenOf,qhv]
 cases ha with
 |nil=>
  by_cases hne:m=[]
  ·subst hne;intro ρ w L h hH
   have hr:(Builtin.append_ #[sT,xT] ty #[.slice none 0 0,.string ⟨#[]⟩]).run C.P w=.ok (.slice none 0 0) w:=by
    obtain ⟨i,hi,his⟩:=ht.size;simp[Builtin.append_,qaa ht.und,qaa hx2.und,sizeOf,typeInfo,hi,Builtin.lenOf,Builtin.firstCells,show (ByteArray.mk #[]).size=0 from rfl,show ((ByteArray.mk #[]).extract 0 0).data=#[] from rfl]
   rw[qaC,h0];simp only[List.map_toArray,zMc,List.map_nil,Sem.run_bind,qag h hx,qag h hy,hr,Result.andThen_ok,Sem.run_pure];exact ⟨_,[],L,Fr.refl _ _ _,hH,qah,hk _ _ BRow.nil⟩
  ·intro ρ w L h hH;have hpos:0<m.length:=List.length_pos_iff.2 hne
   obtain ⟨cap',rest,r1,r2,r3⟩:=qbi (ty:=ty) (P:=C.P) (w:=w) (sT:=sT) (xT:=xT) (a:=none) (len:=0) (cap:=0) (n:=m.length) (xv:=.string ⟨m.toArray⟩) (old:=[]) (new:=bytV m) (.inl hx2.und) hlen (fun w' _=>qiA m w')
    (fun w' _=>by simp[Builtin.firstCells]) (by simpa using hroom) zo
   rw[qaC,h0];simp only[List.map_toArray,zMc,List.map_nil,Sem.run_bind,qag h hx,qag h hy,r3,Result.andThen_ok,Sem.run_pure,List.nil_append,Nat.zero_add];have hcl:(bytV m++rest).length=cap':=by rw[zLa,r2,qbv];omega
   obtain ⟨lv,H',L',g1,g2,g3,g4⟩:=qgM (K:=K) (el:=el) (l:=m) (xs:=bytV m++rest) hH.drew hne (by rw[hcl];omega) (by rw[List.take_left' (qbv m)]) (fun v' H' h'=>hk v' H' h');rw[hcl] at g3
   exact ⟨lv,H',L',g1.of_drew,g2,g3,g4⟩
 |row hne h1 h2=>
  rename_i b xs
  intro ρ w L h hH;obtain ⟨hb0,hbs,hl,zs,hz1,hz2⟩:=hH.objs _ (List.mem_singleton.2 rfl);have hz:=qcj hz2;subst hz;simp only at hb0 hbs hl hz1;rw[qaC,h0];simp only[List.map_toArray,zMc,List.map_nil,Sem.run_bind,qag h hx,qag h hy]
  by_cases hc:l.length+m.length<=zs.length
  ·have hrun:=qdK (ty:=ty) (P:=C.P) (w:=w) (sT:=sT) (xT:=xT) (s:=1) (a:=some ⟨b,0,none⟩) (len:=l.length) (cap:=zs.length) (n:=m.length) (xv:=.string ⟨m.toArray⟩) (new:=bytV m) (.inl hx2.und) hlen (fun w' _=>qiA m w') hc;obtain ⟨w',r1,r2,r3,r4,r5,r6,r7⟩:=qbZ (P:=C.P) (b:=b) (off:=0+l.length * 1) (t:=el) (fr:=(0,0)) (bytV m) 0 w zs hz1 (by rw[qbv];omega) (fun j _ _=>by simp) (qmF m);rw[hrun];simp only[add_mk,r1,Result.andThen_ok,Sem.run_pure]
   have hx':(zs.take (0+l.length * 1+0)++bytV m++zs.drop (0+l.length * 1+0+(bytV m).length)).length=zs.length:=by
    simp only[zLa,List.length_take,List.length_drop,qbv];omega
   have hfin:=qev (v:=.slice (some ⟨b,0,none⟩) (l.length+m.length) zs.length) (lv:=.atom (.slice (some ⟨b,0,none⟩) (l.length+m.length) zs.length)) (K:=K) (cs':=(zs.take (0+l.length * 1+0)++bytV m++zs.drop (0+l.length * 1+0+(bytV m).length)).map .atom) hH r2 r3 r4 r5 r6 r7 (by rw[hx',zLm]) (qaT _) qah (by
    have hb:BRow el (.slice (some ⟨b,0,none⟩) (l++m).length (zs.take (0+l.length * 1+0)++bytV m++zs.drop (0+l.length * 1+0+(bytV m).length)).length) (l++m) _:=BRow.row (b:=b) (el:=el) (by simp[hne]) (by rw[hx',zLa];exact hc) (by
     have he:0+l.length * 1+0=l.length:=by omega
     rw[he,h2,<-qil,List.take_left' (qbv _)])
    rw[hx',zLa] at hb
    exact hk _ _ hb)
   exact hfin
  ·have hold:∀ w':World,w'.heap=w.heap->(Builtin.firstCells 1 l.length (.slice (some ⟨b,0,none⟩) l.length zs.length)).run C.P w'=.ok (bytV l).toArray w':=fun w' hw=>by
    have:=qbl (P:=C.P) (w:=w') (b:=b) (off:=0) l.length 0 #[] (bytV l) (qbv l) (fun j x' hj=>by
     have hj':zs[j]? = some x':=by
      rw[<-h2,List.getElem?_take] at hj;split at hj
      ·exact hj
      ·cases hj
     simp[World.cell?,hw,hz1,hj'])
    simp only[Builtin.firstCells,loadCells,Nat.mul_one,this]
    simp
   obtain ⟨cap',rest,r1,r2,r3⟩:=qbi (ty:=ty) (P:=C.P) (w:=w) (sT:=sT) (xT:=xT) (a:=some ⟨b,0,none⟩) (len:=l.length) (cap:=zs.length) (n:=m.length) (xv:=.string ⟨m.toArray⟩) (old:=bytV l) (new:=bytV m) (.inl hx2.und) hlen (fun w' _=>qiA m w') hold hroom zo;rw[r3];simp only[Result.andThen_ok,Sem.run_pure];have hcl:(bytV l++bytV m++rest).length=cap':=by rw[zLa,zLa,r2,qbv,qbv];omega
   have hH0:RelH C w L []:=hH.sub (List.nil_sublist _);obtain ⟨lv,H',L',g1,g2,g3,g4⟩:=qgM (K:=K) (el:=el) (l:=l++m) (xs:=bytV l++bytV m++rest) hH0.drew (by simp[hne]) (by rw[hcl,zLa];omega) (by rw[<-qil,List.take_left' (qbv _)]) (fun v' H' h'=>hk v' H' h');rw[hcl,zLa] at g3;exact ⟨lv,H',L',g1.of_drew.wide (by simp),g2,g3,g4⟩
theorem S.appB1 {sT xT el bytes:Nat} [ht:TSlice C.P sT el 1] [hr:TRow C.P el 1 bytes] [hx2:TStr C.P xT] {v:Value} {l m:List UInt8} {H1:Heap} {q:Nat×LObj}
  (hx:e.ev x=.atom v) (ha:BRow el v l H1) (hy:e.ev y=str m) (hroom:(l.length+m.length) * bytes<=140737488355328)
  (hk:∀ v' H',BRow el v' (l++m) H'->K (.atom v') (q::H')):qad C ⟨dst,.call { callee:=.builtin .append,args:=#[x,y],argTypes:=#[sT,xT] },ty,pos,aft,g⟩ e (q::H1) K X:=by
 refine qad.conseq (K:=fun lv H'=>∃ v' H2,lv=.atom v'/\H'=H2++[q]/\BRow el v' (l++m) H2) (qad.frame (List.perm_append_singleton _ _).symm (qad.appB hx ha hy hroom fun v' H' h=>⟨v',H',rfl,rfl,h⟩)) ?_;rintro lv H' ⟨v',H2,rfl,rfl,h⟩;exact ⟨_,[q]++H2,vR _,⟨[],by simp⟩,hk _ _ h⟩
end
end Go.GL
namespace Go.Proofs.YtdakelgkjdaijaaGreatDoor
open Go.GL Go.RowKit Go.Stele
def BH (b:Nat) (l:List UInt8) (H:Heap):Prop:=∃ p v Hv,(p=LV.atom (.pointer none)∨p=ptr b 0)/\BRow 5 v l Hv/\H=(b,.cells 70 [p,.atom v])::Hv
theorem qsa:Lays.n240 Tryz.prog Tryz.lays156_ren:={ Tryz.lays156 with }
section
variable {B0:Nat} {w0:World}
theorem qf9 (b:Nat) (p v:LV) (hp:p=LV.atom (.pointer none)∨p=ptr b 0):LCalls (KC B0 w0) 61 [ptr b 0] [(b,.cells 70 [p,v])]
  (fun r H'=>(∃ x,r=.ret (.atom x))/\H'=[(b,.cells 70 [ptr b 0,v])]):=fun xs w L hv hH=>by
 simp only[RepL] at hv;obtain ⟨y,ys,rfl,hy,rfl⟩:=hv;simp only[Rep] at hy;subst hy;obtain ⟨hb0,hbs,hl,zs,hx1,hx2⟩:=hH.objs _ (List.mem_singleton.2 rfl);simp only at hb0 hbs hl hx1 hx2;have hz:=hx2;simp only[RepL] at hz;obtain ⟨a,as1,rfl,ha,c,as2,rfl,hc,rfl⟩:=hz;rcases hp with rfl|rfl
 ·simp only[Rep] at ha;subst ha;have h0:w.cell? ⟨b,0,none⟩=some (.pointer none):=by simp[World.cell?,hx1]
  have hsh:w.shape? b=some (70,2):=by simp[World.shape?,hx1]
  have hfz:w.frozen? ⟨b,0,none⟩=false:=Go.Lib.frozen_of_heap hx1 0;refine (Any.Builder_copyCheck_fresh (P:=Tryz.prog) qsa Tryz.Builder_Extra_156.toX72 b w h0 hsh hfz).mono fun e w' he=>?_;obtain ⟨rfl,rfl⟩:=he;refine qev (w:=w) (w':=w.setCell ⟨b,0,none⟩ (.pointer (some ⟨b,0,none⟩))) (xs':=[.pointer (some ⟨b,0,none⟩),c]) (cs':=[ptr b 0,v]) (lv:=.atom (.tuple #[])) hH rfl rfl rfl (by simp[World.setCell]) (fun d hd=>by simp[World.setCell,Array.getElem?_modify,Ne.symm hd]) (by rw[qhY (xs:=[.pointer none,c]) hx1];rfl) rfl ?_ qah ⟨⟨_,rfl⟩,rfl⟩;simp only[RepL] at hx2 ⊢;exact ⟨_,_,rfl,qah,c,[],rfl,hc,rfl⟩
 ·simp only[Rep] at ha;subst ha;have h0:w.cell? ⟨b,0,none⟩=some (.pointer (some ⟨b,0,none⟩)):=by simp[World.cell?,hx1]
  refine (Any.Builder_copyCheck_used (P:=Tryz.prog) qsa Tryz.Builder_Extra_156.toX72 b w h0).mono fun e w' he=>?_;obtain ⟨rfl,rfl⟩:=he;exact ⟨.atom (.tuple #[]),_,L,Fr.refl _ _ _,hH,qah,⟨_,rfl⟩,rfl⟩
attribute [local irreducible] LOps qae qad LCalls Go.GL.Pure qax qaj qac LQ LAny qaE qal
theorem qaD (b:Nat) (l m:List UInt8) (H:Heap) (hB:BH b l H) (hlen:l.length+m.length<=10000000000):LCalls (KC B0 w0) 25 [ptr b 0,str m] H (fun r H'=>(∃ x,r=.ret x)/\BH b (l++m) H'):=by
 obtain ⟨p,v,Hv,hp,hacc,rfl⟩:=hB;refine cI Tryz.func25 rfl (n:=19) rfl rfl rfl ?_;refine gao ?_;refine oS (S.callH (H1:=[(b,_)]) (F:=Hv) [_] rfl zpr (qf9 b p (.atom v) hp) (fun x H' h=>?_) (fun ch H' h=>?_)) rfl
 ·obtain ⟨⟨x',hx'⟩,rfl⟩:=h;cases hx';refine gaa ?_;refine oS (S.appB1 (q:=(b,.cells 70 [ptr b 0,.atom v])) (l:=l) (m:=m) rfl hacc rfl zo fun v' H' hacc'=>?_) rfl;refine gab ?_;have hacc2:=hacc';generalize l++m=lm at hacc' hacc2 ⊢
  cases hacc' with
  |nil=>
   refine gac ?_
   exact rR rfl (rC (zrt rfl) (zra rfl)) zhr ⟨⟨_,rfl⟩,ptr b 0,_,_,.inr rfl,hacc2,rfl⟩
  |row h0 h1 h2=>
   refine gac ?_;exact rR rfl (rC (zrt rfl) (zra rfl)) zhr ⟨⟨_,rfl⟩,ptr b 0,_,_,.inr rfl,hacc2,rfl⟩
 ·obtain ⟨⟨x',hx'⟩,_⟩:=h;cases hx'
end
end Go.Proofs.YtdakelgkjdaijaaGreatDoor
namespace Go.Proofs.YtdakelgkjdaijaaGreatDoor
open Go Go.Shelf Go.RowKit
section
variable {P:Program} {ρ:Ren}
set_option maxHeartbeats 4000000 in
set_option maxRecDepth 100000 in
theorem qgs (L:Lays.n169 P ρ) (X:Builder.Extra P ρ) (b g:Nat) (p:Value) (l:List UInt8) (cur:Array Value) (w:World) (hbk:w.heap[b]? = some (.cells #[p,.slice (some ⟨g,0,none⟩) l.length cur.size] (ρ.t 72) (0,0)))
  (hg:w.heap[g]? = some (.cells cur (ρ.t 5) (0,0))) (h0:l≠[]) (hn:l.length<=cur.size) (hbig:l.length<=9223372036854775807) (hcell:∀ (j:Nat) (x:UInt8),l[j]? = some x->cur[j]? = some (.int .u8 x.toNat)) :
  Calls P (ρ.f 169) #[.pointer (some ⟨b,0,none⟩)] w fun e w'=>e=.returned (.string ⟨l.toArray⟩)/\w'=w.drew.freeze ⟨g,0,none⟩ l.length:=by
 have hl0:l.length≠0:=by simpa using h0
 have c1:w.drew.cell? ⟨b,1,none⟩=some (.slice (some ⟨g,0,none⟩) l.length cur.size):=by
  have:w.drew.heap[b]? = some (.cells #[p,.slice (some ⟨g,0,none⟩) l.length cur.size] (ρ.t 72) (0,0)):=hbk;rw[Lib.cell_of_heap this];rfl
 have hSD:(Builtin.unsafeSliceData_ #[(ρ.t 37)] (ρ.t 127) #[.slice (some ⟨g,0,none⟩) l.length cur.size]).run P w.drew=.ok (.pointer (some ⟨g,0,none⟩)) w.drew:=
  Lib.run_unsafeSliceData_row _ _ _ _ _ _ (by omega)
 have hUS:(Builtin.unsafeString_ #[(ρ.t 127),(ρ.t 3)] (ρ.t 9) #[.pointer (some ⟨g,0,none⟩),.int .i64 l.length]).run P w.drew=.ok (.string ⟨l.toArray⟩) (w.drew.freeze ⟨g,0,none⟩ l.length):=by
  refine Lib.run_unsafeString_row w.drew (ρ.t 127) (ρ.t 3) (ρ.t 9) (ρ.t 5) L.t127 X.cellsByte g cur.size (by have hg':w.drew.heap[g]? = some (.cells cur (ρ.t 5) (0,0)):=hg;simp[World.shape?,hg']) l h0 hn hbig ?_;intro j x hx;have hg':w.drew.heap[g]? = some (.cells cur (ρ.t 5) (0,0)):=hg;have:=hcell j x hx;rw[Go.GL.add_mk];simp[World.cell?,hg',this]
 have mixed:=L.mixed;have t72:=L.t72;have a72:=L.a72;have z72:=L.z72;have v72:=L.v72;have u72:=run_underlying L.t72;have t70:=L.t70;have a70:=L.a70;have z70:=L.z70;have v70:=L.v70;have u70:=run_underlying L.t70;have t37:=L.t37;have a37:=L.a37;have z37:=L.z37;have v37:=L.v37;have u37:=run_underlying L.t37;have t127:=L.t127;have a127:=L.a127;have z127:=L.z127;have v127:=L.v127;have u127:=run_underlying L.t127;have t3:=L.t3;have a3:=L.a3;have z3:=L.z3;have v3:=L.v3;have u3:=run_underlying L.t3;have t9:=L.t9;have a9:=L.a9;have z9:=L.z9;have v9:=L.v9;have u9:=run_underlying L.t9;have t5:=X.t5;have a5:=X.a5;have z5:=X.z5;have v5:=X.v5;have u5:=run_underlying X.t5
 go_enter L.f169,Body.n169_ntmps ρ
 go_wp2
 go_region_o
 all_goals (go_wp2;go_ret;exact ⟨rfl,rfl⟩)
end
open Go.GL Go.Stele
theorem qrE:Lays.n169 Tryz.prog Tryz.lays156_ren:={ Tryz.lays156 with }
section
variable {B0:Nat} {w0:World}
theorem qq4 {C:Ctx} {w:World} {L:Live} {H:Heap} (hH:RelH C w L H) {g n:Nat} (hm:g∈keys H) (hb:C.B0<=g):Fr (keys H) w L (w.drew.freeze ⟨g,0,none⟩ n) L []/\RelH C (w.drew.freeze ⟨g,0,none⟩ n) L []:=by
 have hbl:∀ c,c≠g->(w.drew.freeze ⟨g,0,none⟩ n).heap[c]? = w.heap[c]? := fun c hc=>by
  unfold World.freeze;split
  ·rfl
  ·simp only[Array.getElem?_modify];rw[if_neg (Ne.symm hc)];rfl
 have hsz:(w.drew.freeze ⟨g,0,none⟩ n).heap.size=w.heap.size:=by
  unfold World.freeze;split
  ·rfl
  ·simp
 have hsh:∀ c,(w.drew.freeze ⟨g,0,none⟩ n).shape? c=w.shape? c:=fun c=>by
  by_cases hc:c=g
  ·subst hc;unfold World.freeze;split
   ·rfl
   ·simp only[World.shape?,Array.getElem?_modify,if_true];show (match Option.map _ w.heap[c]? with|some (Obj.cells c e _)=>some (e,c.size)|_=>none)=_
    cases w.heap[c]? with
    |none=>rfl
    |some o=>cases o <;> rfl
  ·exact qbF (hbl c hc)
 have hce:∀ c i,(w.drew.freeze ⟨g,0,none⟩ n).cell? ⟨c,i,none⟩=w.cell? ⟨c,i,none⟩:=fun c i=>by
  by_cases hc:c=g
  ·subst hc;unfold World.freeze;split
   ·rfl
   ·simp only[World.cell?,Array.getElem?_modify,if_true];show (match Option.map _ w.heap[c]? with|some (Obj.cells c e _)=>_|_=>none)=_
    cases w.heap[c]? with
    |none=>rfl
    |some o=>cases o <;> rfl
  ·exact cell_of_heap (hbl c hc) i
 have hos:(w.drew.freeze ⟨g,0,none⟩ n).os=w.os/\(w.drew.freeze ⟨g,0,none⟩ n).tape=w.tape/\(w.drew.freeze ⟨g,0,none⟩ n).output=w.output:=by
  unfold World.freeze;split <;> exact ⟨rfl,rfl,rfl⟩
 exact ⟨⟨hos.1,hos.2.1,hos.2.2,⟨Nat.le_of_eq hsz.symm,fun c _=>hsh c,fun c i _=>hce c i,fun _=>zNr _⟩,fun c _ hc=>hbl c (fun h=>hc (h▸hm)),fun _ _ _=>rfl,by simp⟩,
  ⟨hH.base.trans ⟨hos.1,hos.2.1,hos.2.2,Nat.le_of_eq hsz.symm,fun c hc=>hbl c zo⟩,hH.lbase,by rw[hsz];exact hH.b0,fun c hc=>hH.wf c (by rw[hsz] at hc;exact hc),List.nodup_nil,by simp⟩⟩
theorem qjh (b:Nat) (l:List UInt8) (H:Heap) (hB:BH b l H) (hlen:l.length<=10000000000):LCalls (KC B0 w0) 27 [ptr b 0] H (Ret (str l)):=fun xs w L hv hH=>by
 obtain ⟨p,v,Hv,hp,hacc,rfl⟩:=hB;simp only[RepL] at hv;obtain ⟨y,ys,rfl,hy,rfl⟩:=hv;simp only[Rep] at hy;subst hy;obtain ⟨hb0,hbs,hl,zs,hx1,hx2⟩:=hH.objs _ zMs;simp only at hb0 hbs hl hx1 hx2;simp only[RepL] at hx2;obtain ⟨a,as1,rfl,ha,c,as2,rfl,hc,rfl⟩:=hx2;simp only[Rep] at hc;subst hc
 cases hacc with
 |nil=>
  refine (Any.Builder_String_nil (P:=Tryz.prog) qrE Tryz.Builder_Extra_156 w.heap.size b a w hx1).mono fun e w' he=>?_;obtain ⟨rfl,hb⟩:=he;obtain ⟨h1,h2⟩:=qgX (hH.sub (List.nil_sublist _)) hb
  exact ⟨str [],[],L,h1.wide (by simp),h2,qah,rfl,rfl⟩
 |row h0 h1 h2=>
  rename_i g xs
  obtain ⟨hg0,hgs,hgl,ws,hw1,hw2⟩:=hH.objs _ (zMo _ (List.mem_singleton.2 rfl));simp only at hg0 hgs hgl hw1;have:=qcj hw2;subst this
  have hcell:∀ (j:Nat) (x:UInt8),l[j]? = some x->ws.toArray[j]? = some (Value.int .u8 x.toNat):=fun j x hx=>by
   have hj:(bytV l)[j]? = some (Value.int .u8 x.toNat):=by simp[bytV,hx]
   rw[<-h2,List.getElem?_take] at hj;split at hj
   ·simpa using hj
   ·cases hj
  refine (qgs (P:=Tryz.prog) qrE Tryz.Builder_Extra_156 b g a l ws.toArray w hx1 hw1 h0 (by simpa using h1) zo hcell).mono fun e w' he=>?_;obtain ⟨rfl,rfl⟩:=he;obtain ⟨f1,f2⟩:=qq4 (n:=l.length) hH (g:=g) (by simp) hg0;exact ⟨str l,[],L,f1,f2,qah,rfl,rfl⟩
end
end Go.Proofs.YtdakelgkjdaijaaGreatDoor
namespace Go.GL
open Go.RowKit
structure SetMap (es:Array MapEntry) (p:List UInt8->Bool):Prop where
 keys:∀ e∈es.toList,∃ s:List UInt8,e.key=.string ⟨s.toArray⟩/\e.val=.bool true/\p s=true
 all:∀ s,p s=true->∃ e∈es.toList,e.key=.string ⟨s.toArray⟩
theorem SetMap.nil:SetMap #[] fun _=>false:=⟨fun e he=>by simp at he,fun s h=>by cases h⟩
theorem qdm (a b:List UInt8):((⟨a.toArray⟩:ByteArray) == ⟨b.toArray⟩)=decide (a=b):=by
 show (a.toArray == b.toArray)=_;rw[Bool.eq_iff_iff]
 simp
theorem qhE (k:List UInt8):∀ (es:List MapEntry) (i:Nat),(∀ e∈es,∃ s:List UInt8,e.key=.string ⟨s.toArray⟩/\e.val=.bool true)->(∃ e∈es,e.key=.string ⟨k.toArray⟩) ->
  ∃ (j:Nat) (e:MapEntry),Instr.findNow .string (.string ⟨k.toArray⟩) es i=some (some (i+j,.bool true))/\es[j]? = some e/\e.key=.string ⟨k.toArray⟩
 |[],_,_,h=>by obtain ⟨e,he,_⟩:=h;cases he
 |e::es,i,h,hk=>by
  obtain ⟨s,h1,h2⟩:=h e List.mem_cons_self
  by_cases hs:k=s
  ·refine ⟨0,e,?_,rfl,by rw[h1,hs]⟩;have hb:((⟨k.toArray⟩:ByteArray) == ⟨s.toArray⟩)=true:=by rw[qdm,decide_eq_true hs]
   simp only[Instr.findNow,h1,Instr.sameNow,hb,h2,Nat.add_zero]
  ·have hb:((⟨k.toArray⟩:ByteArray) == ⟨s.toArray⟩)=false:=by rw[qdm,decide_eq_false hs]
   obtain ⟨e',he',hk'⟩:=hk
   have hin:e'∈es:=by
    rcases zMi.1 he' with rfl|h3
    ·rw[h1] at hk';have:s=k:=by simpa using hk'
     exact absurd this.symm hs
    ·exact h3
   obtain ⟨j,e2,g1,g2,g3⟩:=qhE k es (i+1) (fun x hx=>h x (zMo _ hx)) ⟨e',hin,hk'⟩;refine ⟨j+1,e2,?_,g2,g3⟩;simp only[Instr.findNow,h1,Instr.sameNow,hb];rw[g1];congr 3;omega
section
variable {C:Ctx} {e:Env} {H:Heap} {dst:Option Nat} {ty:TypeId} {pos:String} {aft:Array Edge} {g:Option (Nat×Bool)} {K:LV->Heap->Prop} {X:List PanicEntry->Heap->Prop} {x y:Operand}
theorem qbV {w:World} {kt:TypeId} (hkt:C.P.underlying kt=some .string) (b:Bool) (k:ByteArray):(Instr.checkKey b 10000 kt (.string k)).run C.P w=.ok () w:=by
 have hck:Instr.checkKey b 10000 kt (.string k)=Instr.checkKey b (9999+1) kt (.string k):=rfl;rw[hck,Instr.checkKey];simp only[Sem.run_bind,qaa hkt,Result.andThen_ok,Sem.run_pure]
theorem S.setAdd {t kt el:TypeId} (ht:C.P.underlying t=some (.map kt el)) (hkt:C.P.underlying kt=some .string) {b clock:Nat} {es:Array MapEntry} {p:List UInt8->Bool} {F:Heap} {m z:Operand} {k:List UInt8} (hm:e.ev m=.atom (.map (some b))) (hx:e.ev x=str k) (hz:e.ev z=bool true)
  (hp:Pick (b,.obj (.map es clock)) H F) (hs:SetMap es p) (hk:∀ es' clock',SetMap es' (fun s=>p s || decide (s=k))->K (.atom undef) ((b,.obj (.map es' clock'))::F)):qad C ⟨dst,.insert t m x z,ty,pos,aft,g⟩ e H K X:=by
 by_cases hin:p k=true
 ·refine qad.at1 hp fun ρ w L h hH=>?_;obtain ⟨hb0,hbs,hl,hx1,hx2⟩:=hH.objs _ (List.mem_singleton.2 rfl);simp only at hb0 hbs hl hx1 hx2;have h3:execOp ρ ⟨dst,.insert t m x z,ty,pos,aft,g⟩=(do Instr.mapUpdate t (ρ m) (ρ x) (ρ z);Pure.pure .skip):=rfl;obtain ⟨j,e2,g1,g2,g3⟩:=qhE k es.toList 0 (fun e he=>by obtain ⟨s,h1,h2,_⟩:=hs.keys e he;exact ⟨s,h1,h2⟩) (hs.all k hin)
  have hf:(Instr.findKey kt (.string ⟨k.toArray⟩) es.toList).run C.P w=.ok (some (0+j,.bool true)) w:=by
   simp only[Instr.findKey,Sem.run_bind,qaa hkt,Result.andThen_ok,g1,Sem.run_pure]
  have hg:(getObj b).run C.P w=.ok (.map es clock) w:=by simp only[getObj,Sem.run,hx1]
  have hg2:es[j]? = some e2:=by simpa using g2
  have hst:(Instr.keyThatStays (((es[0+j]?).map (·.key)).getD (.string ⟨k.toArray⟩)) (.string ⟨k.toArray⟩)).run C.P w=.ok (.string ⟨k.toArray⟩) w:=by
   rw[Nat.zero_add,hg2];simp only[Option.map_some,Option.getD_some,g3];unfold Instr.keyThatStays;rw[if_pos (by simp only[Instr.sameBits];rw[qdm];simp)]
   try rfl
  rw[h3,qag h hm,qag h hx,qag h hz];simp only[Instr.mapUpdate,Sem.run_bind,qaa ht,Result.andThen_ok,hg,qbV hkt,hf,hst];have hset:∀ o',(setObj b o').run C.P w=.ok () (setW w b o'):=fun o'=>qez hx1 rfl;rw[hset];refine qgI (w':=setW w b _) hH rfl rfl rfl rfl (by simp[setW]) (fun c hc=>qdR hc) (qeu hbs) (fun _=>qah) (hk _ clock ⟨fun e' he'=>?_,fun s hs'=>?_⟩)
  ·rw[Nat.zero_add] at he';obtain ⟨i,hi,rfl⟩:=List.mem_iff_getElem.1 he';simp only[Array.length_toList,Array.size_modify] at hi;rw[Array.getElem_toList,Array.getElem_modify];split
   ·exact ⟨k,rfl,rfl,by simp⟩
   ·obtain ⟨s,h1,h2,h4⟩:=hs.keys es[i] (by simp);exact ⟨s,h1,h2,by simp[h4]⟩
  ·have hps:p s=true:=by
    rcases Bool.or_eq_true_iff.1 hs' with h4|h4
    ·exact h4
    ·rw[zt h4];exact hin
   obtain ⟨e3,h5,h6⟩:=hs.all s hps;obtain ⟨i,hi,rfl⟩:=List.mem_iff_getElem.1 h5;simp only[Array.length_toList] at hi;rw[Array.getElem_toList] at h6;rw[Nat.zero_add]
   by_cases hij:j=i
   ·refine ⟨{ es[i] with key:=.string ⟨k.toArray⟩,val:=.bool true },?_,?_⟩
    ·rw[List.mem_iff_getElem];refine ⟨i,by simpa using hi,?_⟩;rw[Array.getElem_toList,Array.getElem_modify,if_pos hij]
    ·subst hij;rw[Array.getElem?_eq_getElem hi] at hg2;obtain rfl:=Option.some.inj hg2;rw[g3] at h6;exact h6
   ·refine ⟨es[i],?_,h6⟩;rw[List.mem_iff_getElem];refine ⟨i,by simpa using hi,?_⟩;rw[Array.getElem_toList,Array.getElem_modify,if_neg hij]
 ·refine S.insert ht hkt hm hx hz hp (fun e he=>?_) (hk _ _ ⟨fun e' he'=>?_,fun s hs'=>?_⟩)
  ·obtain ⟨s,h1,_,h2⟩:=hs.keys e he;refine ⟨_,h1,?_⟩;rw[qdm];intro h3;rw[zt h3] at hin;exact hin h2
  ·rw[Array.toList_push] at he';rcases List.mem_append.1 he' with h1|h1
   ·obtain ⟨s,h2,h3,h4⟩:=hs.keys e' h1;exact ⟨s,h2,h3,by simp[h4]⟩
   ·obtain rfl:=List.mem_singleton.1 h1;exact ⟨k,rfl,rfl,by simp⟩
  ·rw[Array.toList_push];rcases Bool.or_eq_true_iff.1 hs' with h4|h4
   ·obtain ⟨e,h5,h6⟩:=hs.all s h4;exact ⟨e,List.mem_append_left _ h5,h6⟩
   ·exact ⟨_,List.mem_append_right _ (List.mem_singleton.2 rfl),by rw[zt h4]⟩
theorem Pure.setGet {t kt el:TypeId} (ht:C.P.underlying t=some (.map kt el)) (hkt:C.P.underlying kt=some .string) (hz:∀ w,(zeroValue el).run C.P w=.ok (.bool false) w) {b clock:Nat} {es:Array MapEntry} {p:List UInt8->Bool} {k:List UInt8} (hm:e.ev x=.atom (.map (some b))) (hx:e.ev y=str k)
  (hb:(b,.obj (.map es clock))∈H) (hs:SetMap es p):Pure C ⟨dst,.lookup t x y false,ty,pos,aft,g⟩ e H (bool (p k)):=fun ρ w L h hH=>by
 obtain ⟨_,_,_,hx1,_⟩:=hH.objs _ hb;simp only at hx1;refine ⟨.bool (p k),qah,fun w' ha=>?_⟩;have hw:w'.heap[b]? = some (.map es clock):=(ha.1 _ hb).trans hx1;have h3:execOp ρ ⟨dst,.lookup t x y false,ty,pos,aft,g⟩=(do Pure.pure (.value (<-Instr.lookup t (ρ x) (ρ y) false))):=rfl;have hg:(getObj b).run C.P w'=.ok (.map es clock) w':=by simp only[getObj,Sem.run,hw]
 rw[h3,qag h hm,qag h hx]
 by_cases hin:p k=true
 ·obtain ⟨j,e2,g1,g2,g3⟩:=qhE k es.toList 0 (fun e he=>by obtain ⟨s,h1,h2,_⟩:=hs.keys e he;exact ⟨s,h1,h2⟩) (hs.all k hin)
  have hf:(Instr.findKey kt (.string ⟨k.toArray⟩) es.toList).run C.P w'=.ok (some (0+j,.bool true)) w':=by
   simp only[Instr.findKey,Sem.run_bind,qaa hkt,Result.andThen_ok,g1,Sem.run_pure]
  simp only[Instr.lookup,Sem.run_bind,qaa ht,Result.andThen_ok,hg,Sem.run_pure,qbV hkt,hf,hin];rfl
 ·have hf:(Instr.findKey kt (.string ⟨k.toArray⟩) es.toList).run C.P w'=.ok none w':=by
   have hmiss:=qgi ⟨k.toArray⟩ es.toList 0 fun e he=>by
    obtain ⟨s,h1,_,h2⟩:=hs.keys e he;refine ⟨_,h1,?_⟩;rw[qdm];intro h3;rw[zt h3] at hin;exact hin h2
   simp only[Instr.findKey,Sem.run_bind,qaa hkt,Result.andThen_ok,hmiss,Sem.run_pure]
  have hin':p k=false:=Bool.eq_false_iff.2 hin;simp only[Instr.lookup,Sem.run_bind,qaa ht,Result.andThen_ok,hg,Sem.run_pure,qbV hkt,hf,hz,hin'];rfl
end
end Go.GL
namespace Go.GL
open Go.RowKit
section
variable {C:Ctx} {e:Env} {H:Heap} {dst:Option Nat} {ty:TypeId} {pos:String} {aft:Array Edge} {g:Option (Nat×Bool)} {K:LV->Heap->Prop} {X:List PanicEntry->Heap->Prop} {x y:Operand}
theorem Pure.nilGet {t kt el:TypeId} (ht:C.P.underlying t=some (.map kt el)) (hkt:C.P.underlying kt=some .string) (hz:∀ w,(zeroValue el).run C.P w=.ok (.int .i64 0) w) {k:List UInt8} (hm:e.ev x=.atom (.map none)) (hx:e.ev y=str k):Pure C ⟨dst,.lookup t x y false,ty,pos,aft,g⟩ e H (int .i64 0):=fun ρ w L h hH=>by
 refine ⟨.int .i64 0,qah,fun w' ha=>?_⟩;have h3:execOp ρ ⟨dst,.lookup t x y false,ty,pos,aft,g⟩=(do Pure.pure (.value (<-Instr.lookup t (ρ x) (ρ y) false))):=rfl;rw[h3,qag h hm,qag h hx]
 have hf:(Instr.findKey kt (.string ⟨k.toArray⟩) []).run C.P w'=.ok none w':=by
  simp only[Instr.findKey,Sem.run_bind,qaa hkt,Result.andThen_ok,Instr.findNow,Sem.run_pure]
 simp only[Instr.lookup,Sem.run_bind,qaa ht,Result.andThen_ok,Sem.run_pure,qbV hkt,hf,hz];rfl
end
end Go.GL
namespace Go.GL
open Go.RowKit
section
variable {C:Ctx} {e:Env} {H:Heap} {x y:Operand} {dst:Option Nat} {ty:TypeId} {pos:String} {aft:Array Edge} {g:Option (Nat×Bool)} {K:LV->Heap->Prop} {X:List PanicEntry->Heap->Prop}
theorem qad.appBL {sT xT el bytes:Nat} [ht:TSlice C.P sT el 1] [hr:TRow C.P el 1 bytes] {e2:Nat} [hx2:TSlice C.P xT e2 1] {v:Value} {l m:List UInt8}
  (hx:e.ev x=.atom v) (ha:BRow el v l H) (hy:GL.elems (e.ev y)=some (byts m)) (hm0:m≠[]) (hroom:(l.length+m.length) * bytes<=140737488355328)
  (hk:∀ v' H',BRow el v' (l++m) H'->K (.atom v') H'):qad C ⟨dst,.call { callee:=.builtin .append,args:=#[x,y],argTypes:=#[sT,xT] },ty,pos,aft,g⟩ e H K X:=by
 have h0:∀ (cs:Array Bool) (args:Array Value),builtin .append #[sT,xT] ty cs args=(do Pure.pure (.value (<-Builtin.append_ #[sT,xT] ty args))):=fun _ _=>rfl
 cases ha with
 |nil=>
  by_cases hne:m=[]
  ·subst hne;exact absurd rfl hm0
  ·intro ρ w L h hH;have hpos:0<m.length:=List.length_pos_iff.2 hne;obtain ⟨ay,cy,xs0,hyv,hyc,hyr,hyl,hyf⟩:=qcy (s:=1) (h y) hy (qlR m);rw[qmo] at hyr;have hyx:xs0=bytV m:=qcj (zs:=bytV m) (by rw[show (bytV m).map LV.atom=byts m from by simp[bytV,byts,List.map_map,Function.comp_def]];exact hyr);subst hyx;rw[qgx] at hyv hyc hyf;rw[hyv] at hyf;have hlen:∀ w':World,(Builtin.lenOf (.slice ay m.length cy)).run C.P w'=.ok m.length w':=fun w'=>by simp[Builtin.lenOf]
   obtain ⟨cap',rest,r1,r2,r3⟩:=qbi (ty:=ty) (P:=C.P) (w:=w) (sT:=sT) (xT:=xT) (a:=none) (len:=0) (cap:=0) (n:=m.length) (xv:=.slice ay m.length cy) (old:=[]) (new:=bytV m) (.inr ⟨_,hx2.und⟩) hlen (fun w' hw=>hyf C.P w' hw)
    (fun w' _=>by simp[Builtin.firstCells]) (by simpa using hroom) zo
   rw[qaC,h0];simp only[List.map_toArray,zMc,List.map_nil,Sem.run_bind,qag h hx,hyv,r3,Result.andThen_ok,Sem.run_pure,List.nil_append,Nat.zero_add];have hcl:(bytV m++rest).length=cap':=by rw[zLa,r2,qbv];omega
   obtain ⟨lv,H',L',g1,g2,g3,g4⟩:=qgM (K:=K) (el:=el) (l:=m) (xs:=bytV m++rest) hH.drew hne (by rw[hcl];omega) (by rw[List.take_left' (qbv m)]) (fun v' H' h'=>hk v' H' h');rw[hcl] at g3
   exact ⟨lv,H',L',g1.of_drew,g2,g3,g4⟩
 |row hne h1 h2=>
  rename_i b xs
  intro ρ w L h hH;obtain ⟨hb0,hbs,hl,zs,hz1,hz2⟩:=hH.objs _ (List.mem_singleton.2 rfl);have hz:=qcj hz2;subst hz;simp only at hb0 hbs hl hz1;obtain ⟨ay,cy,xs0,hyv,hyc,hyr,hyl,hyf⟩:=qcy (s:=1) (h y) hy (qlR m);rw[qmo] at hyr;have hyx:xs0=bytV m:=qcj (zs:=bytV m) (by rw[show (bytV m).map LV.atom=byts m from by simp[bytV,byts,List.map_map,Function.comp_def]];exact hyr);subst hyx;rw[qgx] at hyv hyc hyf;rw[hyv] at hyf;have hlen:∀ w':World,(Builtin.lenOf (.slice ay m.length cy)).run C.P w'=.ok m.length w':=fun w'=>by simp[Builtin.lenOf]
  rw[qaC,h0];simp only[List.map_toArray,zMc,List.map_nil,Sem.run_bind,qag h hx,hyv]
  by_cases hc:l.length+m.length<=zs.length
  ·have hrun:=qdK (ty:=ty) (P:=C.P) (w:=w) (sT:=sT) (xT:=xT) (s:=1) (a:=some ⟨b,0,none⟩) (len:=l.length) (cap:=zs.length) (n:=m.length) (xv:=.slice ay m.length cy) (new:=bytV m) (.inr ⟨_,hx2.und⟩) hlen (fun w' hw=>hyf C.P w' hw) hc;obtain ⟨w',r1,r2,r3,r4,r5,r6,r7⟩:=qbZ (P:=C.P) (b:=b) (off:=0+l.length * 1) (t:=el) (fr:=(0,0)) (bytV m) 0 w zs hz1 (by rw[qbv];omega) (fun j _ _=>by simp) (qmF m);rw[hrun];simp only[add_mk,r1,Result.andThen_ok,Sem.run_pure]
   have hx':(zs.take (0+l.length * 1+0)++bytV m++zs.drop (0+l.length * 1+0+(bytV m).length)).length=zs.length:=by
    simp only[zLa,List.length_take,List.length_drop,qbv];omega
   have hfin:=qev (v:=.slice (some ⟨b,0,none⟩) (l.length+m.length) zs.length) (lv:=.atom (.slice (some ⟨b,0,none⟩) (l.length+m.length) zs.length)) (K:=K) (cs':=(zs.take (0+l.length * 1+0)++bytV m++zs.drop (0+l.length * 1+0+(bytV m).length)).map .atom) hH r2 r3 r4 r5 r6 r7 (by rw[hx',zLm]) (qaT _) qah (by
    have hb:BRow el (.slice (some ⟨b,0,none⟩) (l++m).length (zs.take (0+l.length * 1+0)++bytV m++zs.drop (0+l.length * 1+0+(bytV m).length)).length) (l++m) _:=BRow.row (b:=b) (el:=el) (by simp[hne]) (by rw[hx',zLa];exact hc) (by
     have he:0+l.length * 1+0=l.length:=by omega
     rw[he,h2,<-qil,List.take_left' (qbv _)])
    rw[hx',zLa] at hb
    exact hk _ _ hb)
   exact hfin
  ·have hold:∀ w':World,w'.heap=w.heap->(Builtin.firstCells 1 l.length (.slice (some ⟨b,0,none⟩) l.length zs.length)).run C.P w'=.ok (bytV l).toArray w':=fun w' hw=>by
    have:=qbl (P:=C.P) (w:=w') (b:=b) (off:=0) l.length 0 #[] (bytV l) (qbv l) (fun j x' hj=>by
     have hj':zs[j]? = some x':=by
      rw[<-h2,List.getElem?_take] at hj;split at hj
      ·exact hj
      ·cases hj
     simp[World.cell?,hw,hz1,hj'])
    simp only[Builtin.firstCells,loadCells,Nat.mul_one,this]
    simp
   obtain ⟨cap',rest,r1,r2,r3⟩:=qbi (ty:=ty) (P:=C.P) (w:=w) (sT:=sT) (xT:=xT) (a:=some ⟨b,0,none⟩) (len:=l.length) (cap:=zs.length) (n:=m.length) (xv:=.slice ay m.length cy) (old:=bytV l) (new:=bytV m) (.inr ⟨_,hx2.und⟩) hlen (fun w' hw=>hyf C.P w' hw) hold hroom zo;rw[r3];simp only[Result.andThen_ok,Sem.run_pure];have hcl:(bytV l++bytV m++rest).length=cap':=by rw[zLa,zLa,r2,qbv,qbv];omega
   have hH0:RelH C w L []:=hH.sub (List.nil_sublist _);obtain ⟨lv,H',L',g1,g2,g3,g4⟩:=qgM (K:=K) (el:=el) (l:=l++m) (xs:=bytV l++bytV m++rest) hH0.drew (by simp[hne]) (by rw[hcl,zLa];omega) (by rw[<-qil,List.take_left' (qbv _)]) (fun v' H' h'=>hk v' H' h');rw[hcl,zLa] at g3;exact ⟨lv,H',L',g1.of_drew.wide (by simp),g2,g3,g4⟩
theorem S.appBL1 {sT xT el bytes:Nat} [ht:TSlice C.P sT el 1] [hr:TRow C.P el 1 bytes] {e2:Nat} [hx2:TSlice C.P xT e2 1] {v:Value} {l m:List UInt8} {H1:Heap} {q:Nat×LObj}
  (hx:e.ev x=.atom v) (ha:BRow el v l H1) (hy:GL.elems (e.ev y)=some (byts m)) (hm0:m≠[]) (hroom:(l.length+m.length) * bytes<=140737488355328)
  (hk:∀ v' H',BRow el v' (l++m) H'->K (.atom v') (q::H')):qad C ⟨dst,.call { callee:=.builtin .append,args:=#[x,y],argTypes:=#[sT,xT] },ty,pos,aft,g⟩ e (q::H1) K X:=by
 refine qad.conseq (K:=fun lv H'=>∃ v' H2,lv=.atom v'/\H'=H2++[q]/\BRow el v' (l++m) H2) (qad.frame (List.perm_append_singleton _ _).symm (qad.appBL hx ha hy hm0 hroom fun v' H' h=>⟨v',H',rfl,rfl,h⟩)) ?_;rintro lv H' ⟨v',H2,rfl,rfl,h⟩;exact ⟨_,[q]++H2,vR _,⟨[],by simp⟩,hk _ _ h⟩
theorem Pure.blen {t el el2 s:Nat} [TSlice C.P t el2 s] {v:Value} {l:List UInt8} {Hv:Heap} (hx:e.ev x=.atom v) (ha:BRow el v l Hv):Pure C ⟨dst,.call { callee:=.builtin .len,args:=#[x],argTypes:=#[t] },ty,pos,aft,g⟩ e H (int .i64 l.length):=
 .of_any fun ρ _ _ h=>⟨_,qah,fun w'=>by
  have hu:=qaa (P:=C.P) (TSlice.und (t:=t)) w';rw[qaC,qd9]
  cases ha <;> simp[Builtin.len_,hu,goInt,qag h hx]⟩
end
end Go.GL
namespace Go.GL
open Go.RowKit
abbrev KV:=List (List UInt8×LV)
@[reducible] def strV (k:List UInt8):Value:=.string ⟨k.toArray⟩
def kvs (m:KV):List (Value×LV):=m.map fun p=>(strV p.1,p.2)
def kvGet:KV->List UInt8->Option LV
 |[],_=>none
 |p::r,k=>if p.1=k then some p.2 else kvGet r k
def kvPut:KV->List UInt8->LV->KV
 |[],k,v=>[(k,v)]
 |p::r,k,v=>if p.1=k then (k,v)::r else p::kvPut r k v
theorem kvGet_put (k k':List UInt8) (v:LV):∀ m:KV,kvGet (kvPut m k v) k'=if k=k' then some v else kvGet m k'
 |[]=>by simp only[kvPut,kvGet]
 |p::r=>by
  unfold kvPut
  by_cases h:p.1=k
  ·rw[if_pos h]
   by_cases h':k=k'
   ·simp only[kvGet,if_pos h']
   ·simp only[kvGet,if_neg h'];rw[if_neg (by rw[h];exact h')]
  ·rw[if_neg h];simp only[kvGet];rw[kvGet_put k k' v r]
   by_cases h2:p.1=k'
   ·rw[if_pos h2,if_neg (by rw[<-h2];exact fun h3=>h h3.symm)];simp only[if_pos h2]
   ·simp only[if_neg h2]
theorem qna (k:List UInt8):∀ (m:KV) (es:List MapEntry) (i:Nat),es.map (·.key)=(kvs m).map (·.1) ->
  (kvGet m k=none/\(∀ v,kvPut m k v=m++[(k,v)])/\Instr.findNow .string (strV k) es i=some none) ∨
  ∃ (j:Nat) (e:MapEntry) (v:LV),Instr.findNow .string (strV k) es i=some (some (i+j,e.val))/\es[j]? = some e/\m[j]? = some (k,v)/\kvGet m k=some v/\∀ v',kvPut m k v'=m.set j (k,v')
 |[],[],i,_=>.inl ⟨rfl,fun _=>rfl,rfl⟩
 |[],_::_,_,h=>by cases h
 |_::_,[],_,h=>by cases h
 |p::m,e::es,i,h=>by
  have h1:e.key=strV p.1:=by
   have:=(List.cons.inj h).1;exact this
  have h2:es.map (·.key)=(kvs m).map (·.1):=(List.cons.inj h).2
  by_cases hs:p.1=k
  ·right;have hb:((⟨k.toArray⟩:ByteArray) == ⟨p.1.toArray⟩)=true:=by rw[qdm,decide_eq_true hs.symm]
   refine ⟨0,e,p.2,?_,rfl,by rw[<-hs];try rfl,by simp only[kvGet,if_pos hs],fun v'=>by simp only[kvPut,if_pos hs];rfl⟩;simp only[Instr.findNow,h1,Instr.sameNow,hb,Nat.add_zero]
  ·have hb:((⟨k.toArray⟩:ByteArray) == ⟨p.1.toArray⟩)=false:=by rw[qdm,decide_eq_false (fun h3=>hs h3.symm)]
   rcases qna k m es (i+1) h2 with ⟨g1,g2,g3⟩|⟨j,e2,v,g1,g2,g3,g4,g5⟩
   ·left;refine ⟨by simp only[kvGet,if_neg hs];exact g1,fun v=>by simp only[kvPut,if_neg hs,g2];rfl,?_⟩;simp only[Instr.findNow,h1,Instr.sameNow,hb];exact g3
   ·right;refine ⟨j+1,e2,v,?_,g2,g3,by simp only[kvGet,if_neg hs];exact g4,fun v'=>by simp only[kvPut,if_neg hs,g5];rfl⟩;simp only[Instr.findNow,h1,Instr.sameNow,hb];rw[g1];congr 3;omega
theorem RepL.setAt {w:World} {L:Live}:∀ {cs:List LV} {xs:List Value},RepL w L cs xs->∀ (j:Nat) {c:LV} {x:Value},Rep w L c x->RepL w L (cs.set j c) (xs.set j x)
 |[],xs,h,j,c,x,hr=>by
  simp only[RepL] at h;subst h
  simp only[List.set_nil,RepL]
 |d::cs,xs,h,j,c,x,hr=>by
  simp only[RepL] at h;obtain ⟨y,ys,rfl,h1,h2⟩:=h
  cases j with
  |zero=>
   simp only[List.set_cons_zero,RepL]
   exact ⟨x,ys,rfl,hr,h2⟩
  |succ j=>
   simp only[List.set_cons_succ,RepL];exact ⟨y,_,rfl,h1,h2.setAt j hr⟩
section
variable {C:Ctx} {e:Env} {H:Heap} {dst:Option Nat} {ty:TypeId} {pos:String} {aft:Array Edge} {g:Option (Nat×Bool)} {K:LV->Heap->Prop} {X:List PanicEntry->Heap->Prop} {x y:Operand}
theorem qoZ {w w':World} {L:Live} {b clock clock':Nat} {es es':List (Value×LV)} (hH:RelH C w L [(b,.map es clock)]) (h1:w'.os=w.os) (h2:w'.tape=w.tape) (h3:w'.output=w.output)
  (h4:w'.heap.size=w.heap.size) (h5:∀ c,c≠b->w'.heap[c]? = w.heap[c]?) (avs:List MapEntry) (h6:w'.heap[b]? = some (.map avs.toArray clock')) (h7:avs.map (·.key)=es'.map (·.1)) (h8:RepL w L (es'.map (·.2)) (avs.map (·.val)))
  (h9:∀ e∈avs,e.born<clock') (h10:(avs.map (·.born)).Nodup) {v:Value} {lv:LV} (hv:∀ L,Rep w' L lv v) (hk:K lv [(b,.map es' clock')]):Left C w L [(b,.map es clock)] w' v K:=by
 obtain ⟨hb0,hbs,hl,xs,hx1,_⟩:=hH.objs _ (List.mem_singleton.2 rfl);simp only at hb0 hbs hl hx1
 have hx:Ext w L w' L:=by
  refine ⟨by rw[h4];exact zNr _,fun c hc=>?_,fun c i hi=>?_,fun _=>zNr _⟩
  ·by_cases he:c=b
   ·subst he;rw[qdP hx1 rfl];exact qdP h6 rfl
   ·exact qbF (h5 c he)
  ·by_cases he:c=b
   ·subst he;rw[hl] at hi;omega
   ·exact cell_of_heap (h5 c he) i
 refine ⟨lv,[(b,.map es' clock')],L,⟨h1,h2,h3,hx,fun c hc hn=>h5 c (by simpa using hn),fun _ _ _=>rfl,fun p hp=>.inl (by simp only[List.mem_singleton] at hp;subst hp;simp)⟩,
  ⟨?_,hH.lbase,by rw[h4];exact hH.b0,by rw[h4];exact hH.wf,by simp,fun p hp=>?_⟩,hv L,hk⟩
 ·exact hH.base.trans ⟨h1,h2,h3,by rw[h4];exact zNr _,fun c hc=>h5 c zo⟩
 ·simp only[List.mem_singleton] at hp;subst hp;exact ⟨hb0,by rw[h4];exact hbs,hl,avs,h6,h7,RepL.mono hx _ _ h8,h9,h10⟩
theorem S.kvNew {t:TypeId} (hk:∀ b,K (.atom (.map (some b))) ((b,.map (kvs []) 0)::H)):qad C ⟨dst,.makeMap t none,ty,pos,aft,g⟩ e H K X:=by
 refine qad.at0 fun ρ w L _ hH=>?_;have h3:execOp ρ ⟨dst,.makeMap t none,ty,pos,aft,g⟩=(do Pure.pure (.value (<-Instr.makeMap t none))):=rfl;have h4:(Instr.makeMap t none).run C.P w=.ok (.map (some w.heap.size)) (World.push w (.map #[] 0)):=rfl;rw[h3,Sem.run_bind,h4]
 have:=qem hH (.map #[] 0) 0 [(w.heap.size,.map (kvs []) 0)] (fun p hp=>by
  simp only[List.mem_singleton] at hp;subst hp;refine ⟨rfl,by simp[Live.upd],[],qaI,rfl,?_,(fun e he=>by cases he),List.nodup_nil⟩;show RepL _ _ [] []
  simp only[RepL]) (by simp)
 exact ⟨_,_,_,this.1,this.2,qah,hk _⟩
theorem S.kvPut {t kt el:TypeId} (ht:C.P.underlying t=some (.map kt el)) (hkt:C.P.underlying kt=some .string) {b clock:Nat} {m:KV} {F:Heap} {mo z:Operand} {k:List UInt8} {lv:LV} (hm:e.ev mo=.atom (.map (some b))) (hx:e.ev x=str k) (hz:e.ev z=lv)
  (hp:Pick (b,.map (kvs m) clock) H F) (hk:∀ clock',K (.atom undef) ((b,.map (kvs (GL.kvPut m k lv)) clock')::F)):qad C ⟨dst,.mapUpdate t mo x z,ty,pos,aft,g⟩ e H K X:=by
 refine qad.at1 hp fun ρ w L h hH=>?_;obtain ⟨hb0,hbs,hl,avs,hx1,hx2,hx3,hx4,hx5⟩:=hH.objs _ (List.mem_singleton.2 rfl);simp only at hb0 hbs hl hx1 hx2 hx3;have hrz:Rep w L lv (ρ z):=hz▸h z;have h3:execOp ρ ⟨dst,.mapUpdate t mo x z,ty,pos,aft,g⟩=(do Instr.mapUpdate t (ρ mo) (ρ x) (ρ z);Pure.pure .skip):=rfl;have hg:(getObj b).run C.P w=.ok (.map avs.toArray clock) w:=by simp only[getObj,Sem.run,hx1]
 have hset:∀ o',(setObj b o').run C.P w=.ok () (setW w b o'):=fun o'=>qez hx1 rfl;rw[h3,qag h hm,qag h hx];rcases qna k m avs 0 hx2 with ⟨g1,g2,g3⟩|⟨j,e2,v,g1,g2,g3,g4,g5⟩
 ·have hf:(Instr.findKey kt (strV k) avs.toArray.toList).run C.P w=.ok none w:=by
   simp only[Instr.findKey,Sem.run_bind,qaa hkt,Result.andThen_ok,g3,Sem.run_pure]
  simp only[Instr.mapUpdate,Sem.run_bind,qaa ht,Result.andThen_ok,hg,qbV hkt,hf];rw[hset];refine qoZ (w':=setW w b _) hH rfl rfl rfl (by simp[setW]) (fun c hc=>qdR hc) (avs++[⟨strV k,ρ z,clock⟩]) (clock':=clock+1) ((qeu hbs).trans (by simp)) (es':=kvs (GL.kvPut m k lv)) ?_ ?_ ?_ ?_ (fun _=>qah) (hk _)
  ·rw[g2,kvs,zMa,zMa,zMa,<-kvs,hx2]
   try rfl
  ·rw[g2,kvs,zMa,zMa,zMa,<-kvs];refine RepL.append hx3 ?_;simp only[zMc,List.map_nil,RepL];exact ⟨_,_,rfl,hrz,rfl⟩
  ·intro e' he';rcases List.mem_append.1 he' with h1|h1
   ·exact Nat.lt_succ_of_lt (hx4 e' h1)
   ·obtain rfl:=List.mem_singleton.1 h1;exact Nat.lt_succ_self _
  ·rw[zMa,List.nodup_append];refine ⟨hx5,by simp,fun a ha b' hb' he=>?_⟩;obtain ⟨e',h1,rfl⟩:=List.mem_map.1 ha;simp only[zMc,List.map_nil,List.mem_singleton] at hb';have:=hx4 e' h1;omega
 ·have hf:(Instr.findKey kt (strV k) avs.toArray.toList).run C.P w=.ok (some (0+j,e2.val)) w:=by
   simp only[Instr.findKey,Sem.run_bind,qaa hkt,Result.andThen_ok,g1,Sem.run_pure]
  have hkey:e2.key=strV k:=by
   have h1:(avs.map (·.key))[j]? = some e2.key:=by rw[List.getElem?_map,g2];try rfl
   rw[hx2,kvs,List.map_map,List.getElem?_map,g3] at h1;exact (Option.some.inj h1).symm
  have hst:(Instr.keyThatStays (((avs.toArray[0+j]?).map (·.key)).getD (strV k)) (strV k)).run C.P w=.ok (strV k) w:=by
   rw[Nat.zero_add,List.getElem?_toArray,g2];simp only[Option.map_some,Option.getD_some,hkey];unfold Instr.keyThatStays;rw[if_pos (by simp only[Instr.sameBits];rw[qdm];simp)]
   try rfl
  simp only[Instr.mapUpdate,Sem.run_bind,qaa ht,Result.andThen_ok,hg,qbV hkt,hf,hst];rw[hset]
  have hmod:avs.toArray.modify (0+j) (fun e=>{ e with key:=strV k,val:=ρ z })=(avs.set j { e2 with key:=strV k,val:=ρ z }).toArray:=by
   rw[Nat.zero_add];apply Array.ext';simp only[Array.toList_modify];refine List.ext_getElem? fun i=>?_;rw[List.getElem?_modify,List.getElem?_set]
   by_cases hi:j=i
   ·subst hi;have hlt:j<avs.length:=(List.getElem?_eq_some_iff.1 g2).1;rw[if_pos rfl,g2,if_pos hlt];show some _=_
    simp
   ·rw[if_neg hi]
    cases avs[i]? with
    |none=>rfl
    |some a=>
     show some _=_;simp[hi]
  refine qoZ (w':=setW w b _) hH rfl rfl rfl (by simp[setW]) (fun c hc=>qdR hc) (avs.set j { e2 with key:=strV k,val:=ρ z }) ((qeu hbs).trans (by rw[hmod])) (es':=kvs (GL.kvPut m k lv)) ?_ ?_ ?_ ?_ (fun _=>qah) (hk _)
  ·rw[g5,kvs,List.map_set,List.map_set,List.map_set,hx2]
   try rfl
  ·rw[g5,kvs,List.map_set,List.map_set,List.map_set];exact RepL.setAt hx3 j hrz
  ·intro e' he';rcases List.mem_or_eq_of_mem_set he' with h1|h1
   ·exact hx4 e' h1
   ·rw[h1];exact hx4 e2 (List.mem_of_getElem? g2)
  ·rw[List.map_set]
   have:(avs.map (·.born)).set j e2.born=avs.map (·.born):=by
    refine List.ext_getElem? fun i=>?_;rw[List.getElem?_set];split
    ·rename_i h1
     subst h1;split
     ·rw[List.getElem?_map,g2];try rfl
     ·rename_i h2
      rw[List.getElem?_eq_none zo]
    ·rfl
   rw[this];exact hx5
theorem qrt {t kt el:TypeId} (ht:C.P.underlying t=some (.map kt el)) (hkt:C.P.underlying kt=some .string) {zv:Value} {zl:LV} (hz:∀ w,(zeroValue el).run C.P w=.ok zv w) (hzl:∀ w L,Rep w L zl zv) {b clock:Nat} {m:KV} {k:List UInt8} {w:World} {L:Live}
  (hH:RelH C w L H) (hb:(b,.map (kvs m) clock)∈H):∃ v,Rep w L ((kvGet m k).getD zl) v/\∀ w',qeN w L H w'->∀ c,(Instr.lookup t (.map (some b)) (strV k) c).run C.P w'=.ok (if c=true then .tuple #[v,.bool (kvGet m k).isSome] else v) w':=by
 obtain ⟨_,_,_,avs,hx1,hx2,hx3,_⟩:=hH.objs _ hb;simp only at hx1;rcases qna k m avs 0 hx2 with ⟨g1,g2,g3⟩|⟨j,e2,v,g1,g2,g3,g4,g5⟩
 ·refine ⟨zv,by rw[g1];exact hzl w L,fun w' ha c=>?_⟩;have hw:w'.heap[b]? = some (.map avs.toArray clock):=(ha.1 _ hb).trans hx1;have hg:(getObj b).run C.P w'=.ok (.map avs.toArray clock) w':=by simp only[getObj,Sem.run,hw]
  have hf:(Instr.findKey kt (strV k) avs.toArray.toList).run C.P w'=.ok none w':=by
   simp only[Instr.findKey,Sem.run_bind,qaa hkt,Result.andThen_ok,g3,Sem.run_pure]
  simp only[Instr.lookup,Sem.run_bind,qaa ht,Result.andThen_ok,hg,Sem.run_pure,qbV hkt,hf,hz,g1];rfl
 ·refine ⟨e2.val,?_,fun w' ha c=>?_⟩
  ·rw[g4];obtain ⟨x,h1,h2⟩:=hx3.get (i:=j) (c:=v) (by rw[kvs,List.map_map,List.getElem?_map,g3];try rfl);rw[List.getElem?_map,g2] at h1;obtain rfl:=Option.some.inj h1;exact h2
  ·have hw:w'.heap[b]? = some (.map avs.toArray clock):=(ha.1 _ hb).trans hx1;have hg:(getObj b).run C.P w'=.ok (.map avs.toArray clock) w':=by simp only[getObj,Sem.run,hw]
   have hf:(Instr.findKey kt (strV k) avs.toArray.toList).run C.P w'=.ok (some (0+j,e2.val)) w':=by
    simp only[Instr.findKey,Sem.run_bind,qaa hkt,Result.andThen_ok,g1,Sem.run_pure]
   simp only[Instr.lookup,Sem.run_bind,qaa ht,Result.andThen_ok,hg,Sem.run_pure,qbV hkt,hf,g4];rfl
theorem Pure.kvGet {t kt el:TypeId} (ht:C.P.underlying t=some (.map kt el)) (hkt:C.P.underlying kt=some .string) {zv:Value} {zl:LV} (hz:∀ w,(zeroValue el).run C.P w=.ok zv w) (hzl:∀ w L,Rep w L zl zv) {b clock:Nat} {m:KV} {k:List UInt8} (hm:e.ev x=.atom (.map (some b))) (hx:e.ev y=str k)
  (hb:(b,.map (kvs m) clock)∈H):Pure C ⟨dst,.lookup t x y false,ty,pos,aft,g⟩ e H ((GL.kvGet m k).getD zl):=fun ρ w L h hH=>by
 obtain ⟨v,h1,h2⟩:=qrt ht hkt hz hzl (k:=k) hH hb;refine ⟨v,h1,fun w' ha=>?_⟩;have h3:execOp ρ ⟨dst,.lookup t x y false,ty,pos,aft,g⟩=(do Pure.pure (.value (<-Instr.lookup t (ρ x) (ρ y) false))):=rfl;rw[h3,qag h hm,qag h hx,Sem.run_bind,h2 w' ha false]
 try rfl
theorem Pure.kvGet2 {t kt el:TypeId} (ht:C.P.underlying t=some (.map kt el)) (hkt:C.P.underlying kt=some .string) {zv:Value} {zl:LV} (hz:∀ w,(zeroValue el).run C.P w=.ok zv w) (hzl:∀ w L,Rep w L zl zv) {b clock:Nat} {m:KV} {k:List UInt8} (hm:e.ev x=.atom (.map (some b))) (hx:e.ev y=str k)
  (hb:(b,.map (kvs m) clock)∈H):Pure C ⟨dst,.lookup t x y true,ty,pos,aft,g⟩ e H (.tuple [(GL.kvGet m k).getD zl,bool (GL.kvGet m k).isSome]):=fun ρ w L h hH=>by
 obtain ⟨v,h1,h2⟩:=qrt ht hkt hz hzl (k:=k) hH hb;refine ⟨.tuple #[v,.bool (GL.kvGet m k).isSome],?_,fun w' ha=>?_⟩
 ·simp only[Rep];refine ⟨[v,.bool (GL.kvGet m k).isSome],rfl,?_⟩;simp only[RepL];exact ⟨_,_,rfl,h1,_,_,rfl,rfl,rfl⟩
 ·have h3:execOp ρ ⟨dst,.lookup t x y true,ty,pos,aft,g⟩=(do Pure.pure (.value (<-Instr.lookup t (ρ x) (ρ y) true))):=rfl;rw[h3,qag h hm,qag h hx,Sem.run_bind,h2 w' ha true]
  try rfl
end
/-! ### The same, by instances -/
class TMap (P:Program) (t:TypeId) (el:outParam TypeId) (zv:outParam Value) (zl:outParam LV):Prop where
 und:∃ kt,P.underlying t=some (.map kt el)/\P.underlying kt=some .string
 zero:∀ w,(zeroValue el).run P w=.ok zv w
 rep:∀ w L,Rep w L zl zv
theorem qoN (w:World) (L:Live) (zs:List Value):Rep w L (.agg (zs.map .atom)) (.agg zs.toArray):=by
 simp only[Rep];exact ⟨zs,rfl,qaT zs⟩
section
variable {C:Ctx} {e:Env} {H:Heap} {dst:Option Nat} {ty:TypeId} {pos:String} {aft:Array Edge} {g:Option (Nat×Bool)} {K:LV->Heap->Prop} {X:List PanicEntry->Heap->Prop} {x y:Operand}
theorem Pure.kvHit {t el:TypeId} {zv:Value} {zl lv:LV} [h:TMap C.P t el zv zl] {b clock:Nat} {m:KV} {k:List UInt8} (hm:e.ev x=.atom (.map (some b))) (hx:e.ev y=str k) (hb:(b,.map (kvs m) clock)∈H) (hg:GL.kvGet m k=some lv) :
  Pure C ⟨dst,.lookup t x y false,ty,pos,aft,g⟩ e H lv:=by
 obtain ⟨kt,h1,h2⟩:=h.und;have:=Pure.kvGet (dst:=dst) (ty:=ty) (pos:=pos) (aft:=aft) (g:=g) h1 h2 h.zero h.rep hm hx hb
 rwa [hg] at this
theorem Pure.kvMiss {t el:TypeId} {zv:Value} {zl:LV} [h:TMap C.P t el zv zl] {b clock:Nat} {m:KV} {k:List UInt8} (hm:e.ev x=.atom (.map (some b))) (hx:e.ev y=str k) (hb:(b,.map (kvs m) clock)∈H) (hg:GL.kvGet m k=none) :
  Pure C ⟨dst,.lookup t x y false,ty,pos,aft,g⟩ e H zl:=by
 obtain ⟨kt,h1,h2⟩:=h.und;have:=Pure.kvGet (dst:=dst) (ty:=ty) (pos:=pos) (aft:=aft) (g:=g) h1 h2 h.zero h.rep hm hx hb
 rwa [hg] at this
theorem Pure.kvHit2 {t el:TypeId} {zv:Value} {zl lv:LV} [h:TMap C.P t el zv zl] {b clock:Nat} {m:KV} {k:List UInt8} (hm:e.ev x=.atom (.map (some b))) (hx:e.ev y=str k) (hb:(b,.map (kvs m) clock)∈H) (hg:GL.kvGet m k=some lv) :
  Pure C ⟨dst,.lookup t x y true,ty,pos,aft,g⟩ e H (.tuple [lv,bool true]):=by
 obtain ⟨kt,h1,h2⟩:=h.und;have:=Pure.kvGet2 (dst:=dst) (ty:=ty) (pos:=pos) (aft:=aft) (g:=g) h1 h2 h.zero h.rep hm hx hb
 rwa [hg] at this
theorem Pure.kvMiss2 {t el:TypeId} {zv:Value} {zl:LV} [h:TMap C.P t el zv zl] {b clock:Nat} {m:KV} {k:List UInt8} (hm:e.ev x=.atom (.map (some b))) (hx:e.ev y=str k) (hb:(b,.map (kvs m) clock)∈H) (hg:GL.kvGet m k=none) :
  Pure C ⟨dst,.lookup t x y true,ty,pos,aft,g⟩ e H (.tuple [zl,bool false]):=by
 obtain ⟨kt,h1,h2⟩:=h.und;have:=Pure.kvGet2 (dst:=dst) (ty:=ty) (pos:=pos) (aft:=aft) (g:=g) h1 h2 h.zero h.rep hm hx hb
 rwa [hg] at this
theorem S.kvSet {t el:TypeId} {zv:Value} {zl:LV} [h:TMap C.P t el zv zl] {b clock:Nat} {m:KV} {F:Heap} {mo z:Operand} {k:List UInt8} {lv:LV} (hm:e.ev mo=.atom (.map (some b))) (hx:e.ev x=str k) (hz:e.ev z=lv)
  (hp:Pick (b,.map (kvs m) clock) H F) (hk:∀ clock',K (.atom undef) ((b,.map (kvs (GL.kvPut m k lv)) clock')::F)):qad C ⟨dst,.mapUpdate t mo x z,ty,pos,aft,g⟩ e H K X:=by
 obtain ⟨kt,h1,h2⟩:=h.und;exact S.kvPut h1 h2 hm hx hz hp hk
theorem S.kvIns {t el:TypeId} {zv:Value} {zl:LV} [h:TMap C.P t el zv zl] {b clock:Nat} {m:KV} {F:Heap} {mo z:Operand} {k:List UInt8} {lv:LV} (hm:e.ev mo=.atom (.map (some b))) (hx:e.ev x=str k) (hz:e.ev z=lv)
  (hp:Pick (b,.map (kvs m) clock) H F) (hk:∀ clock',K (.atom undef) ((b,.map (kvs (GL.kvPut m k lv)) clock')::F)):qad C ⟨dst,.insert t mo x z,ty,pos,aft,g⟩ e H K X:=
 fun ρ w L h1 h2=>(S.kvSet (dst:=dst) (ty:=ty) (pos:=pos) (aft:=aft) (g:=g) (X:=X) hm hx hz hp hk) ρ w L h1 h2
theorem S.kvInsE {t el:TypeId} {zv:Value} {zl:LV} [h:TMap C.P t el zv zl] {b clock:Nat} {m:KV} {F:Heap} {mo z:Operand} {k:List UInt8} {lv:LV} (m':KV) (hm:e.ev mo=.atom (.map (some b))) (hx:e.ev x=str k) (hz:e.ev z=lv)
  (hp:Pick (b,.map (kvs m) clock) H F) (he:GL.kvPut m k lv=m') (hk:∀ clock',K (.atom undef) ((b,.map (kvs m') clock')::F)):qad C ⟨dst,.insert t mo x z,ty,pos,aft,g⟩ e H K X:=
 S.kvIns hm hx hz hp (he▸hk)
theorem qo0 {A:Type} (key:A->List UInt8) (f:A->LV):∀ {l:List A} {q:A},(l.map key).Nodup->q∈l->GL.kvGet (l.map fun q=>(key q,f q)) (key q)=some (f q)
 |[],q,_,h=>by cases h
 |a::l,q,hn,h=>by
  rw[zMc,List.nodup_cons] at hn;rw[zMc,GL.kvGet];rcases zMi.1 h with rfl|h
  ·rw[if_pos rfl]
  ·rw[if_neg (fun he=>hn.1 (by rw[show key a=key q from he];exact List.mem_map_of_mem h))];exact qo0 key f hn.2 h
theorem qqt {A:Type} (key:A->List UInt8) (f:A->LV) {k:List UInt8}:∀ {l:List A},k ∉ l.map key->GL.kvGet (l.map fun q=>(key q,f q)) k=none
 |[],_=>rfl
 |a::l,h=>by
  rw[zMc,GL.kvGet,if_neg (fun he=>h (by rw[zMc];exact zMi.2 (.inl he.symm)))];exact qqt key f (fun hm=>h (by rw[zMc];exact zMo _ hm))
theorem qjs {k:List UInt8} {v:LV}:∀ {m:KV},k ∉ m.map (·.1)->GL.kvPut m k v=m++[(k,v)]
 |[],_=>rfl
 |p::r,h=>by
  rw[GL.kvPut,if_neg (fun he=>h (by rw[zMc];exact zMi.2 (.inl he.symm))),qjs (fun hm=>h (by rw[zMc];exact zMo _ hm))]
  try rfl
end
end Go.GL
namespace Go.Stele
abbrev Wd:=List UInt8
def numW (w:Wd):Option Nat:=match Go.Lib.parseUintB 32 w with
 |.ok u=>if Go.Lib.decDigits u=w then some u else none
 |_=>none
def qlF (s:Wd):Bool:=match s with
 |[]=>false
 |c::r=>decide (s.length<=40) && qaV c && s.all qaM
def defW (w:Wd):Option Wd:=if w.getLast? = some 58/\qlF w.dropLast=true then some w.dropLast else none
def refW (w:Wd):Option Wd:=match w with
 |[]=>none
 |c::r=>if c=38/\qlF r=true then some r else none
def wdAt (l:List Wd) (i:Nat):Wd:=(l[i]?).getD []
def qe5 (a:Nat) (op:Wd) (b:Nat):Option Nat:=
 if op=[43] then some ((a+b) % 4294967296)
 else if op=[45] then some ((a+4294967296-b) % 4294967296)
 else if op=[42] then some (a * b % 4294967296)
 else if op=[94] then some (a ^^^ b)
 else if op=[60] then some (if a<b then 1 else 0)
 else if op=[47] then (if b=0 then none else some (a / b))
 else if op=[37] then (if b=0 then none else some (a % b))
 else none
def qcn (x op y:Wd):Option Wd:=match numW x,numW y with
 |some a,some b=>match qe5 a op b with
  |some c=>if (Go.Lib.decDigits c).length<=x.length+y.length+1 then some (Go.Lib.decDigits c) else none
  |none=>none
 |_,_=>none
def qeq (v:List Wd) (i:Nat):Option Wd:=match refW (wdAt v i) with
 |some l=>if wdAt v (i+1)=[63] then some l else none
 |none=>none
abbrev qe6:=Nat×List Wd
def qhC (v:List Wd):qe6:=match qcn (wdAt v 0) (wdAt v 2) (wdAt v 1) with
 |some s=>(3,[s])
 |none=>(0,[])
def qcN (v:List Wd):qe6:=
 if wdAt v 0=[48]/\(wdAt v 1=[43]∨wdAt v 1=[45]∨wdAt v 1=[94])∨wdAt v 0=[49]/\(wdAt v 1=[42]∨wdAt v 1=[47]) then (2,[]) else (0,[])
def qcl (v:List Wd):qe6:=
 if (wdAt v 1=[43]∨wdAt v 1=[42]∨wdAt v 1=[94])/\wdAt v 3=wdAt v 1 then
  (match qcn (wdAt v 0) (wdAt v 1) (wdAt v 2) with
  |some s=>(4,[s,wdAt v 1])
  |none=>(0,[]))
 else (0,[])
def qh5 (v:List Wd):qe6:=if (numW (wdAt v 0)).isSome=true/\wdAt v 1=[64]/\wdAt v 2=wdAt v 0/\wdAt v 3=[33] then (4,[]) else (0,[])
def qdq (v:List Wd):qe6:=if (qeq v 4).isSome=true/\wdAt v 0=[49]/\wdAt v 1=[60]/\wdAt v 2=[49]/\wdAt v 3=[60] then (6,[wdAt v 4,wdAt v 5]) else (0,[])
def qey (v:List Wd):qe6:=match numW (wdAt v 0) with
 |some n=>if n≠0/\(qeq v 1).isSome=true then (3,[]) else (0,[])
 |none=>(0,[])
def qlb (l:Wd):List Wd->Bool
 |[]=>false
 |w::r=>match defW w with
  |some d=>decide (d=l) || qlb l r
  |none=>false
def qhp (v:List Wd):qe6:=match qeq v 1 with
 |some l=>if wdAt v 0=[48]/\qlb l (v.drop 3)=true then (3,[]) else (0,[])
 |none=>(0,[])
def qdt (v:List Wd):Nat:=if (qeq v 1).isSome=true/\wdAt v 0=[48] then 3 else if wdAt v 0=[59]∨wdAt v 0=[36] then 1 else 0
def qcd (v:List Wd):Nat:=(v.takeWhile fun w=>(defW w).isNone).length
def qh9 (v:List Wd):qe6:=if 0<qdt v/\0<qcd (v.drop (qdt v)) then (qdt v+qcd (v.drop (qdt v)),v.take (qdt v)) else (0,[])
def qcQ (used:Wd->Bool) (v:List Wd):qe6:=match defW (wdAt v 0) with
 |some l=>if used l=true then (0,[]) else (1,[])
 |none=>(0,[])
def qbE (used:Wd->Bool) (v:List Wd):qe6:=
 if (qhC v).1≠0 then qhC v else if (qcN v).1≠0 then qcN v else if (qcl v).1≠0 then qcl v else if (qh5 v).1≠0 then qh5 v else if (qdq v).1≠0 then qdq v else
 if (qey v).1≠0 then qey v else if (qhp v).1≠0 then qhp v else if (qh9 v).1≠0 then qh9 v else qcQ used v
def qfj (used:Wd->Bool):Nat->List Wd->List Wd
 |0,_=>[]
 |_+1,[]=>[]
 |f+1,w::r=>if (qbE used (w::r)).1=0 then w::qfj used f r else (qbE used (w::r)).2++qfj used f ((w::r).drop (qbE used (w::r)).1)
def qdI (l:List Wd) (s:Wd):Bool:=l.any fun w=>decide (refW w=some s)
def qfb (l:List Wd):List Wd:=qfj (qdI l) l.length l
/-! ### A rule matches words that are there, and puts fewer in their place -/
theorem qen {v:List Wd} {i:Nat} (h:wdAt v i≠[]):i<v.length:=by
 rcases Nat.lt_or_ge i v.length with h1|h1
 ·exact h1
 ·exact absurd (by simp[wdAt,List.getElem?_eq_none h1]) h
theorem qrB {w:Wd} {n:Nat} (h:numW w=some n):w≠[]:=by
 rintro rfl;have:numW []=none:=by decide +kernel
 rw[this] at h;cases h
theorem qeY {v:List Wd} {i:Nat} {l:Wd} (h:qeq v i=some l):i+1<v.length:=by
 unfold qeq at h;split at h
 ·split at h
  ·rename_i h2
   exact qen (by rw[h2];decide)
  ·cases h
 ·cases h
theorem qvG {a b:Nat} {op:Wd} {c:Nat} (h:qe5 a op b=some c):op≠[]:=by
 rintro rfl;have:qe5 a [] b=none:=rfl;rw[this] at h;cases h
theorem qe9 {x op y s:Wd} (h:qcn x op y=some s):x≠[]/\op≠[]/\y≠[]:=by
 unfold qcn at h;split at h
 ·rename_i a b ha hb
  split at h
  ·rename_i c hc
   exact ⟨qrB ha,qvG hc,qrB hb⟩
  ·cases h
 ·cases h
def qfg (v:List Wd) (r:qe6):Prop:=r.1≠0->r.1<=v.length/\r.2.length<r.1
theorem qa8 (v:List Wd):qfg v (0,[]):=fun h=>absurd rfl h
theorem qu7 (v:List Wd):qfg v (qhC v):=by
 unfold qhC;split
 ·rename_i s h
  obtain ⟨_,h2,_⟩:=qe9 h;have:=qen h2;exact fun _=>⟨by simp only;omega,by simp⟩
 ·exact qa8 v
theorem qps (v:List Wd):qfg v (qcN v):=by
 unfold qcN;split
 ·rename_i h
  have:wdAt v 1≠[]:=by
   intro h0;rw[h0] at h;rcases h with ⟨_,h|h|h⟩|⟨_,h|h⟩ <;> cases h
  have:=qen this;exact fun _=>⟨by simp only;omega,by simp⟩
 ·exact qa8 v
theorem qo8 (v:List Wd):qfg v (qcl v):=by
 unfold qcl;split
 ·rename_i h
  split
  ·rename_i s hs
   have h3:wdAt v 3≠[]:=by rw[h.2];exact (qe9 hs).2.1
   have:=qen h3;exact fun _=>⟨by simp only;omega,by simp⟩
  ·exact qa8 v
 ·exact qa8 v
theorem quK (v:List Wd):qfg v (qh5 v):=by
 unfold qh5;split
 ·rename_i h
  have:=qen (v:=v) (i:=3) (by rw[h.2.2.2];decide);exact fun _=>⟨by simp only;omega,by simp⟩
 ·exact qa8 v
theorem qr2 (v:List Wd):qfg v (qdq v):=by
 unfold qdq;split
 ·rename_i h
  obtain ⟨l,hl⟩:=Option.isSome_iff_exists.1 h.1;have:=qeY hl;exact fun _=>⟨by simp only;omega,by simp⟩
 ·exact qa8 v
theorem qtW (v:List Wd):qfg v (qey v):=by
 unfold qey;split
 ·split
  ·rename_i h
   obtain ⟨l,hl⟩:=Option.isSome_iff_exists.1 h.2;have:=qeY hl;exact fun _=>⟨by simp only;omega,by simp⟩
  ·exact qa8 v
 ·exact qa8 v
theorem qvN (v:List Wd):qfg v (qhp v):=by
 unfold qhp;split
 ·rename_i l hl
  split
  ·have:=qeY hl;exact fun _=>⟨by simp only;omega,by simp⟩
  ·exact qa8 v
 ·exact qa8 v
theorem qu5 (v:List Wd):qdt v<=v.length:=by
 unfold qdt;split
 ·rename_i h
  obtain ⟨l,hl⟩:=Option.isSome_iff_exists.1 h.1;have:=qeY hl;omega
 ·split
  ·rename_i h
   have:=qen (v:=v) (i:=0) (by rcases h with h|h <;> rw[h] <;> decide);omega
  ·omega
theorem quV (v:List Wd):qfg v (qh9 v):=by
 unfold qh9;split
 ·rename_i h
  intro _;have h1:=qu5 v;have h2:qcd (v.drop (qdt v))<=(v.drop (qdt v)).length:=(List.takeWhile_prefix _).length_le;rw[List.length_drop] at h2;simp only[List.length_take];omega
 ·exact qa8 v
theorem qqL (used:Wd->Bool) (v:List Wd):qfg v (qcQ used v):=by
 unfold qcQ;split
 ·rename_i l hl
  split
  ·exact qa8 v
  ·have:wdAt v 0≠[]:=by
    intro h0;rw[h0] at hl;cases hl
   have:=qen this;exact fun _=>⟨by simp only;omega,by simp⟩
 ·exact qa8 v
theorem qni (used:Wd->Bool) (v:List Wd):qfg v (qbE used v):=by
 unfold qbE;split
 ·exact qu7 v
 split
 ·exact qps v
 split
 ·exact qo8 v
 split
 ·exact quK v
 split
 ·exact qr2 v
 split
 ·exact qtW v
 split
 ·exact qvN v
 split
 ·exact quV v
 ·exact qqL used v
theorem qjd (used:Wd->Bool):∀ (f:Nat) (l:List Wd),(qfj used f l).length<=l.length
 |0,l=>Nat.zero_le _
 |f+1,[]=>zNr _
 |f+1,w::r=>by
  rw[qfj];split
  ·have:=qjd used f r;simp only[zLc];omega
  ·rename_i h
   obtain ⟨h1,h2⟩:=qni used (w::r) h;have:=qjd used f ((w::r).drop (qbE used (w::r)).1);rw[List.length_drop] at this;rw[zLa];omega
end Go.Stele
namespace Go.Stele
theorem qfS {c:UInt8} (hc:qbt c=true) (b:List UInt8):qaY (c::b)=(b.takeWhile qbt).length+1:=by
 have h47:([47,47]:List UInt8).isPrefixOf (c::b)=false:=by
  cases h:([47,47]:List UInt8).isPrefixOf (c::b) with
  |false=>rfl
  |true=>
   simp only[List.isPrefixOf,zBa,beq_iff_eq] at h;rw[<-h.1] at hc;exact absurd hc zDd
 unfold qaY;rw[h47,if_neg zDd,List.takeWhile_cons_of_pos hc]
 try rfl
theorem qso {s:List UInt8} (h:qaY s=0):([47,47]:List UInt8).isPrefixOf s=false/\s.takeWhile qbt=[]:=by
 unfold qaY at h;split at h
 ·rename_i hp
  obtain ⟨r,rfl⟩:=List.isPrefixOf_iff_prefix.1 hp;rw[List.cons_append,List.takeWhile_cons_of_pos zDd] at h;cases h
 ·rename_i hp
  exact ⟨Bool.eq_false_iff.2 hp,List.eq_nil_of_length_eq_zero h⟩
theorem qiJ:∀ (f g:Nat) (s:List UInt8) (line:Int),s.length<=f->s.length<=g->lexP f s line=lexP g s line
 |0,g,s,line,hf,_=>by
  have:s=[]:=List.eq_nil_of_length_eq_zero (by omega);subst this
  cases g with
  |zero=>rfl
  |succ g=>rw[lexP,lexP,if_pos rfl]
 |f+1,0,s,line,_,hg=>by
  have:s=[]:=List.eq_nil_of_length_eq_zero (by omega);subst this
  rw[lexP,lexP,if_pos rfl]
 |f+1,g+1,s,line,hf,hg=>by
  rw[lexP,lexP]
  by_cases h0:s=[]
  ·rw[if_pos h0,if_pos h0]
  rw[if_neg h0,if_neg h0]
  by_cases hk:qaY s=0
  ·rw[if_pos hk,if_pos hk]
   by_cases he:(qay s).2.2≠0
   ·rw[if_pos he,if_pos he]
   ·rw[if_neg he,if_neg he];obtain ⟨h1,h2⟩:=qgT s (by simpa using he);rw[qiJ f g _ _ (by rw[List.length_drop];omega) (by rw[List.length_drop];omega)]
  ·rw[if_neg hk,if_neg hk];exact qiJ f g _ _ (by rw[List.length_drop];omega) (by rw[List.length_drop];omega)
def qkE (s:List UInt8) (line:Int):Except (Int×Int) (List Tok):=lexP s.length s line
theorem qfT {f:Nat} {s:List UInt8} (h:s.length<=f) (line:Int):lexP f s line=qkE s line:=qiJ _ _ _ _ h (zNr _)
theorem ql3 (line:Int):qkE [] line=.ok []:=rfl
theorem qnX {c:UInt8} (hc:qbt c=true) (b:List UInt8) (line:Int):qkE (c::b) line=qkE b (line+(([c]:List UInt8).count 10:Nat)):=by
 rw[<-qfT (f:=b.length+1) (by simp),lexP,if_neg (by simp),if_neg (by rw[qfS hc];omega),qfS hc,List.drop_succ_cons,List.take_succ_cons,qfT (by rw[List.length_drop];omega)]
 cases b with
 |nil=>simp[ql3]
 |cons d b=>
  by_cases hd:qbt d=true
  ·rw[<-qfT (f:=b.length+1) (s:=d::b) (by simp),lexP,if_neg (by simp),if_neg (by rw[qfS hd];omega),qfS hd,List.takeWhile_cons_of_pos hd,zLc,List.drop_succ_cons,List.take_succ_cons,qfT (by rw[List.length_drop];omega)];congr 1;rw[List.count_cons,List.count_singleton,List.count_cons];omega
  ·rw[List.takeWhile_cons_of_neg hd]
   simp
def kt (t:Tok):Int×List UInt8:=(t.kind,t.text)
end Go.Stele
namespace Go.Stele
open Go.Lib
def qdF (t:Tok):Prop:=t.text.length<=24/\t.text≠[]/\qaY t.text=0/\(10:UInt8) ∉ t.text/\qay t.text=(⟨t.kind,t.text,0⟩,t.text.length,0)
theorem qgU {c:UInt8} {r:List UInt8} (hw:qbt c=false) (h47:c≠47):qaY (c::r)=0:=by
 have h:([47,47]:List UInt8).isPrefixOf (c::r)=false:=by
  cases h:([47,47]:List UInt8).isPrefixOf (c::r) with
  |false=>rfl
  |true=>
   simp only[List.isPrefixOf,zBa,beq_iff_eq] at h;exact absurd h.1.symm h47
 unfold qaY;rw[h,if_neg zDd,List.takeWhile_cons_of_neg (by rw[hw];decide)]
 try rfl
theorem qob {d:Nat} (h:d<10):qaB (UInt8.ofNat (48+d))=true:=by
 have h1:(UInt8.ofNat (48+d)).toNat=48+d:=qi9 h;unfold qaB cv;rw[h1]
 simp
 omega
theorem qfR (u:Nat):∀ c∈decDigits u,qaB c=true:=by
 induction u using Nat.strongRecOn with
 |ind u ih=>
  intro c hc
  by_cases h:u<10
  ·rw[decDigits_one h] at hc;rw[List.mem_singleton.1 hc];exact qob h
  ·rw[decDigits,dif_neg h] at hc;rcases List.mem_append.1 hc with hc|hc
   ·exact ih (u / 10) (by omega) c hc
   ·rw[List.mem_singleton.1 hc];exact qob (by omega)
theorem qnJ {c:UInt8} (h:qaB c=true):qbt c=false/\c≠47:=by
 unfold qaB at h;rw[zBa,zDe,zDe] at h;refine ⟨?_,fun hc=>?_⟩
 ·unfold qbt;simp only[Bool.or_eq_false_iff,decide_eq_false_iff_not];omega
 ·subst hc;exact absurd h.1 zDd
theorem qmd {c:UInt8} (h:qaV c=true):qbt c=false/\c≠47:=by
 unfold qaV at h;rw[zBa,zDe,zDe] at h;refine ⟨?_,fun hc=>?_⟩
 ·unfold qbt;simp only[Bool.or_eq_false_iff,decide_eq_false_iff_not];omega
 ·subst hc;exact absurd h.1 zDd
theorem qnI {p:UInt8->Bool}:∀ {s:List UInt8},(∀ c∈s,p c=true)->s.takeWhile p=s
 |[],_=>rfl
 |c::s,h=>by rw[List.takeWhile_cons_of_pos (h c zMs),qnI fun d hd=>h d (zMo _ hd)]
theorem quv {p:UInt8->Bool}:∀ {s:List UInt8} {c:UInt8},c∈s.takeWhile p->p c=true
 |[],_,h=>by cases h
 |d::s,c,h=>by
  by_cases hd:p d=true
  ·rw[List.takeWhile_cons_of_pos hd] at h;rcases zMi.1 h with rfl|h
   ·exact hd
   ·exact quv h
  ·rw[List.takeWhile_cons_of_neg hd] at h;cases h
theorem qhe {u:Nat} (hu:u<4294967296) (l:Int):qdF ⟨1,decDigits u,l⟩:=by
 have hd:=qfR u;have hne:=qcF u;refine ⟨by have:=qel hu;simp only;omega,hne,?_,fun h=>by have:=hd _ h;exact absurd this zDd,?_⟩
 ·show qaY (decDigits u)=0
  cases hD:decDigits u with
  |nil=>exact absurd hD hne
  |cons c r=>
   have:=qnJ (hd c (by rw[hD];exact List.mem_cons_self ..));exact qgU this.1 this.2
 ·show qay (decDigits u)=(⟨1,decDigits u,0⟩,(decDigits u).length,0)
  have h1:qay (decDigits u)=qb9 (decDigits u):=by
   cases hD:decDigits u with
   |nil=>exact absurd hD hne
   |cons c r=>rw[qay,if_pos (hd c (by rw[hD];exact List.mem_cons_self ..))]
  rw[h1];unfold qb9;rw[qnI hd,qgV u hu,if_neg];unfold qcV;rw[List.getElem?_eq_none (zNr _)];decide
theorem qkk:∀ x∈signs,x.length<=24/\x≠[]/\qaY x=0/\(10:UInt8) ∉ x/\qay x=(⟨4,x,0⟩,x.length,0):=by decide +kernel
theorem qjX (s:List UInt8) (h:(qay s).2.2=0):qdF (qay s).1:=by
 match s with
 |[]=>simp[qay,qbm] at h
 |c::r=>
  simp only[qay] at h ⊢;split at h <;> rename_i hc
  ·rw[if_pos hc];unfold qb9 at h ⊢;split at h
   ·simp[qbm] at h
   ·rename_i hw
    rw[if_neg hw];split at h
    ·rename_i u hu
     exact qhe (qiL hu) 0
    ·simp[qbm] at h
  ·rw[if_neg hc];split at h <;> rename_i hl
   ·rw[if_pos hl];unfold qdZ at h ⊢;split at h
    ·simp[qbm] at h
    ·rename_i hw
     rw[if_neg hw];have hin:qaM c=true:=by simp[qaM,hl]
     have hW:(c::r).takeWhile qaM=c::r.takeWhile qaM:=List.takeWhile_cons_of_pos hin;have hall:∀ d∈(c::r).takeWhile qaM,qaM d=true:=fun d hd=>quv hd;have hww:=qmd hl;refine ⟨by simp only;omega,by simp only;rw[hW];simp,by simp only;rw[hW];exact qgU hww.1 hww.2,fun h10=>absurd (hall _ h10) zDd,?_⟩;simp only
     have h1:qay ((c::r).takeWhile qaM)=qdZ ((c::r).takeWhile qaM):=by
      rw[hW,qay,if_neg hc,if_pos hl]
     rw[h1];unfold qdZ;rw[qnI hall,if_neg hw]
   ·rw[if_neg hl];split at h <;> rename_i hq
    ·rw[if_pos hq];unfold qbO at h ⊢;split at h
     ·split at h
      ·simp[qbm] at h
      ·rename_i hx
       rename_i heq
       rename_i b _ _
       rw[if_neg hx];exact qhe (Nat.lt_trans (UInt8.toNat_lt b) zDd) 0
     ·simp[qbm] at h
    ·rw[if_neg hq];unfold qdo at h ⊢;split at h
     ·rename_i x hx
      exact qkk x (List.mem_of_find?_eq_some hx)
     ·simp[qbm] at h
theorem qf4:∀ (f:Nat) (s:List UInt8) (line:Int) (T:List Tok),lexP f s line=.ok T->∀ t∈T,qdF t
 |0,s,line,T,h=>by
  rw[lexP] at h;cases h
  simp
 |f+1,s,line,T,h=>by
  rw[lexP] at h;split at h
  ·cases h
   simp
  ·split at h
   ·split at h
    ·cases h
    ·rename_i he
     obtain ⟨T',h1,rfl⟩:=quu h;have k2:=qf4 f _ _ _ h1;intro t ht;rcases zMi.1 ht with rfl|ht
     ·exact qjX s (by omega)
     ·exact k2 t ht
   ·exact qf4 f _ _ _ h
end Go.Stele
namespace Go.Stele
open Go.Lib
theorem qsU (w:Wd) (n:Nat):numW w=some n ↔ n<4294967296/\decDigits n=w:=by
 unfold numW;constructor
 ·intro h;split at h
  ·rename_i u hu
   split at h
   ·rename_i he
    cases h;exact ⟨qiL hu,he⟩
   ·cases h
  ·cases h
 ·rintro ⟨h1,h2⟩;subst h2;rw[qgV n h1]
  simp
theorem qk0 {w:Wd} {n:Nat} (h:numW w=some n):n<4294967296:=((qsU w n).1 h).1
theorem qqM {a b c:Nat} {op:Wd} (ha:a<4294967296) (hb:b<4294967296) (h:qe5 a op b=some c):c<4294967296:=by
 unfold qe5 at h;split at h
 ·cases h;omega
 split at h
 ·cases h;omega
 split at h
 ·cases h;exact Nat.mod_lt _ zDd
 split at h
 ·cases h;exact Nat.xor_lt_two_pow (n:=32) ha hb
 split at h
 ·cases h;split <;> decide
 split at h
 ·split at h
  ·cases h
  ·cases h;exact Nat.lt_of_le_of_lt (Nat.div_le_self _ _) ha
 split at h
 ·split at h
  ·cases h
  ·cases h
   rename_i hb0
   have:=Nat.mod_lt a (Nat.pos_of_ne_zero hb0);omega
 ·cases h
end Go.Stele
namespace Go.Stele
/-! ### The rules, one behind the other -/
def qb4 (v:List Wd):Prop:=wdAt v 0=[48]/\(wdAt v 1=[43]∨wdAt v 1=[45]∨wdAt v 1=[94])∨wdAt v 0=[49]/\(wdAt v 1=[42]∨wdAt v 1=[47])
instance (v:List Wd):Decidable (qb4 v):=by unfold qb4;infer_instance
def qa9 (v:List Wd):Prop:=(wdAt v 1=[43]∨wdAt v 1=[42]∨wdAt v 1=[94])/\wdAt v 3=wdAt v 1
instance (v:List Wd):Decidable (qa9 v):=by unfold qa9;infer_instance
def qib (v:List Wd):Prop:=(numW (wdAt v 0)).isSome=true/\wdAt v 1=[64]/\wdAt v 2=wdAt v 0/\wdAt v 3=[33]
instance (v:List Wd):Decidable (qib v):=by unfold qib;infer_instance
def qd2 (v:List Wd):Prop:=(qeq v 4).isSome=true/\wdAt v 0=[49]/\wdAt v 1=[60]/\wdAt v 2=[49]/\wdAt v 3=[60]
instance (v:List Wd):Decidable (qd2 v):=by unfold qd2;infer_instance
def qf6 (v:List Wd):Bool:=match numW (wdAt v 0) with
 |some n=>decide (n≠0/\(qeq v 1).isSome=true)
 |none=>false
def qlI (v:List Wd):Bool:=match qeq v 1 with
 |some l=>decide (wdAt v 0=[48]/\qlb l (v.drop 3)=true)
 |none=>false
def qmn (v:List Wd):Prop:=0<qdt v/\0<qcd (v.drop (qdt v))
instance (v:List Wd):Decidable (qmn v):=by unfold qmn;infer_instance
def qeH (v:List Wd):Option Wd:=qcn (wdAt v 0) (wdAt v 2) (wdAt v 1)
def qbD (v:List Wd):Option Wd:=qcn (wdAt v 0) (wdAt v 1) (wdAt v 2)
section
variable {v:List Wd} {used:Wd->Bool}
theorem quR {s:Wd} (h:qeH v=some s):qhC v=(3,[s]):=by unfold qhC;unfold qeH at h;rw[h]
theorem qfr (h:qeH v=none):qhC v=(0,[]):=by unfold qhC;unfold qeH at h;rw[h]
theorem qpi (h:qb4 v):qcN v=(2,[]):=if_pos h
theorem qc8 (h:¬ qb4 v):qcN v=(0,[]):=if_neg h
theorem qpr {s:Wd} (h:qa9 v) (h2:qbD v=some s):qcl v=(4,[s,wdAt v 1]):=by
 unfold qcl;unfold qbD at h2;unfold qa9 at h;rw[if_pos h,h2]
theorem qdM (h:¬ qa9 v∨qbD v=none):qcl v=(0,[]):=by
 unfold qcl;unfold qbD at h
 by_cases hc:qa9 v
 ·rcases h with h|h
  ·exact absurd hc h
  ·unfold qa9 at hc;rw[if_pos hc,h]
 ·unfold qa9 at hc;rw[if_neg hc]
theorem qu1 (h:qib v):qh5 v=(4,[]):=if_pos h
theorem qjz (h:¬ qib v):qh5 v=(0,[]):=if_neg h
theorem qq7 (h:qd2 v):qdq v=(6,[wdAt v 4,wdAt v 5]):=if_pos h
theorem qgO (h:¬ qd2 v):qdq v=(0,[]):=if_neg h
theorem qsW (h:qf6 v=true):qey v=(3,[]):=by
 unfold qf6 at h;unfold qey;split at h
 ·rename_i n hn
  try rw[hn]
  exact if_pos (of_decide_eq_true h)
 ·cases h
theorem qlL (h:qf6 v=false):qey v=(0,[]):=by
 unfold qf6 at h;unfold qey;split at h
 ·rename_i n hn
  try rw[hn]
  exact if_neg (of_decide_eq_false h)
 ·rename_i hn
  first|rw[hn]|rfl
theorem qu0 (h:qlI v=true):qhp v=(3,[]):=by
 unfold qlI at h;unfold qhp;split at h
 ·rename_i n hn
  try rw[hn]
  exact if_pos (of_decide_eq_true h)
 ·cases h
theorem qsR (h:qlI v=false):qhp v=(0,[]):=by
 unfold qlI at h;unfold qhp;split at h
 ·rename_i n hn
  try rw[hn]
  exact if_neg (of_decide_eq_false h)
 ·rename_i hn
  first|rw[hn]|rfl
theorem qvr (h:qmn v):qh9 v=(qdt v+qcd (v.drop (qdt v)),v.take (qdt v)):=if_pos h
theorem quL (h:¬ qmn v):qh9 v=(0,[]):=if_neg h
theorem qv7 {s:Wd} (h:qeH v=some s):qbE used v=(3,[s]):=by
 unfold qbE;rw[quR h]
 try rfl
theorem qwD (h1:qeH v=none) (h:qb4 v):qbE used v=(2,[]):=by
 unfold qbE;rw[qfr h1,qpi h]
 try rfl
theorem qwX {s:Wd} (h1:qeH v=none) (h2:¬ qb4 v) (h:qa9 v) (h':qbD v=some s):qbE used v=(4,[s,wdAt v 1]):=by
 unfold qbE;rw[qfr h1,qc8 h2,qpr h h']
 try rfl
theorem qwY (h1:qeH v=none) (h2:¬ qb4 v) (h3:¬ qa9 v∨qbD v=none) (h:qib v):qbE used v=(4,[]):=by
 unfold qbE;rw[qfr h1,qc8 h2,qdM h3,qu1 h]
 try rfl
theorem qw3 (h1:qeH v=none) (h2:¬ qb4 v) (h3:¬ qa9 v∨qbD v=none) (h4:¬ qib v) (h:qd2 v):qbE used v=(6,[wdAt v 4,wdAt v 5]):=by
 unfold qbE;rw[qfr h1,qc8 h2,qdM h3,qjz h4,qq7 h]
 try rfl
theorem qwU (h1:qeH v=none) (h2:¬ qb4 v) (h3:¬ qa9 v∨qbD v=none) (h4:¬ qib v) (h5:¬ qd2 v) (h:qf6 v=true):qbE used v=(3,[]):=by
 unfold qbE;rw[qfr h1,qc8 h2,qdM h3,qjz h4,qgO h5,qsW h]
 try rfl
theorem qwb (h1:qeH v=none) (h2:¬ qb4 v) (h3:¬ qa9 v∨qbD v=none) (h4:¬ qib v) (h5:¬ qd2 v) (h6:qf6 v=false) (h:qlI v=true):qbE used v=(3,[]):=by
 unfold qbE;rw[qfr h1,qc8 h2,qdM h3,qjz h4,qgO h5,qlL h6,qu0 h]
 try rfl
theorem qwj (h1:qeH v=none) (h2:¬ qb4 v) (h3:¬ qa9 v∨qbD v=none) (h4:¬ qib v) (h5:¬ qd2 v) (h6:qf6 v=false) (h7:qlI v=false) (h:qmn v):qbE used v=(qdt v+qcd (v.drop (qdt v)),v.take (qdt v)):=by
 unfold qbE;have h0:qdt v+qcd (v.drop (qdt v))≠0:=by have:=h.1;omega
 rw[qfr h1,qc8 h2,qdM h3,qjz h4,qgO h5,qlL h6,qsR h7,qvr h];simp only[ne_eq,not_true_eq_false,if_false,h0,not_false_eq_true,if_true]
theorem qv8 (h1:qeH v=none) (h2:¬ qb4 v) (h3:¬ qa9 v∨qbD v=none) (h4:¬ qib v) (h5:¬ qd2 v) (h6:qf6 v=false) (h7:qlI v=false) (h8:¬ qmn v):qbE used v=qcQ used v:=by
 unfold qbE;rw[qfr h1,qc8 h2,qdM h3,qjz h4,qgO h5,qlL h6,qsR h7,quL h8]
 try rfl
end
end Go.Stele
namespace Go.Stele
open Go.Lib
def qaS (c:UInt8):List UInt8->List (List UInt8)
 |[]=>[[]]
 |d::r=>if d=c then []::qaS c r else match qaS c r with
  |p::ps=>(d::p)::ps
  |[]=>[[d]]
theorem qgH (c:UInt8):∀ s,∃ p ps,qaS c s=p::ps
 |[]=>⟨_,_,rfl⟩
 |d::r=>by
  obtain ⟨p,ps,h⟩:=qgH c r;rw[qaS,h];split
  ·exact ⟨_,_,rfl⟩
  ·exact ⟨_,_,rfl⟩
theorem qew (c:UInt8) (r:List UInt8):qaS c (c::r)=[]::qaS c r:=by rw[qaS,if_pos rfl]
theorem qeZ {c d:UInt8} (h:d≠c) (r:List UInt8):∃ p ps,qaS c r=p::ps/\qaS c (d::r)=(d::p)::ps:=by
 obtain ⟨p,ps,hp⟩:=qgH c r;exact ⟨p,ps,hp,by rw[qaS,if_neg h,hp]⟩
theorem qdO {c:UInt8}:∀ {s:List UInt8},c ∉ s->qaS c s=[s]
 |[],_=>rfl
 |d::r,h=>by
  have hd:d≠c:=fun e=>h (by rw[e];exact List.mem_cons_self ..);have hr:c ∉ r:=fun e=>h (zMo _ e);rw[qaS,if_neg hd,qdO hr]
theorem qht {c:UInt8}:∀ {a b:List UInt8},c ∉ a->qaS c (a++c::b)=a::qaS c b
 |[],b,_=>qew c b
 |d::a,b,h=>by
  have hd:d≠c:=fun e=>h (by rw[e];exact List.mem_cons_self ..);have ha:c ∉ a:=fun e=>h (zMo _ e);rw[List.cons_append,qaS,if_neg hd,qht ha]
/-! ### The library's words for it -/
theorem qfO {c:UInt8}:∀ {s:List UInt8},c ∉ s->index s [c] = -1
 |[],_=>rfl
 |d::r,h=>by
  have hd:¬ c=d:=fun e=>h (by rw[e];exact List.mem_cons_self ..);have hr:c ∉ r:=fun e=>h (zMo _ e);have hp:([c]:List UInt8).isPrefixOf (d::r)=false:=by simp[List.isPrefixOf,hd]
  rw[index,hp,qfO hr]
  try rfl
theorem qg7 {c:UInt8}:∀ {a b:List UInt8},c ∉ a->index (a++c::b) [c]=(a.length:Int)
 |[],b,_=>by
  have hp:([c]:List UInt8).isPrefixOf (c::b)=true:=by simp[List.isPrefixOf]
  rw[List.nil_append,index,hp]
  try rfl
 |d::a,b,h=>by
  have hd:¬ c=d:=fun e=>h (by rw[e];exact List.mem_cons_self ..);have ha:c ∉ a:=fun e=>h (zMo _ e);have hp:([c]:List UInt8).isPrefixOf (d::(a++c::b))=false:=by simp[List.isPrefixOf,hd]
  rw[List.cons_append,index,hp,qg7 ha,if_neg zDd,if_neg (by
   intro h;have:=eq_of_beq h
   omega)]
  simp
theorem qje {c:UInt8} {s:List UInt8} (h:c∈s):∃ a b,s=a++c::b/\c ∉ a:=List.eq_append_cons_of_mem h
theorem qvl (c:UInt8) (s:List UInt8):(cut s [c]).1=s.takeWhile (fun d=>decide (d≠c)):=by
 by_cases h:c∈s
 ·obtain ⟨a,b,rfl,ha⟩:=qje h
  have h1:∀ x∈a,decide (x≠c)=true:=fun x hx=>by
   simp only[zDe];rintro rfl;exact ha hx
  rw[cut,qg7 ha,if_pos (by omega),List.takeWhile_append_of_pos h1,List.takeWhile_cons_of_neg (by simp)]
  simp
 ·have h1:∀ x∈s,decide (x≠c)=true:=fun x hx=>by
   simp only[zDe];rintro rfl;exact h hx
  rw[cut,qfO h,if_neg zDd];have:=List.takeWhile_append_of_pos (l₂:=[]) h1;simpa using this.symm
theorem qhd (c:UInt8):∀ (f:Nat) (s:List UInt8),s.length<f->countFrom [c] f s=s.count c
 |0,s,h=>by omega
 |f+1,s,h=>by
  rw[countFrom]
  by_cases hc:c∈s
  ·obtain ⟨a,b,rfl,ha⟩:=qje hc
   rw[qg7 ha,if_neg (by
    intro h;have:=eq_of_beq h
    omega)]
   have hd:(a++c::b).drop ((a.length:Int).toNat+[c].length)=b:=by
    rw[show (a.length:Int).toNat+[c].length=a.length+1 by simp];rw[<-List.drop_drop,List.drop_left]
    try rfl
   rw[hd,qhd c f b (by simp only[zLa,zLc] at h;omega)];rw[List.count_append,List.count_cons_self,List.count_eq_zero.2 ha];omega
  ·rw[qfO hc,if_pos zDd,List.count_eq_zero.2 hc]
theorem qkr (c:UInt8):∀ (k:Nat) (s:List UInt8),s.count c<=k->splitK [c] 0 k s=qaS c s
 |0,s,h=>by
  have hc:c ∉ s:=List.count_eq_zero.1 (by omega)
  rw[splitK,qdO hc]
 |k+1,s,h=>by
  rw[splitK]
  by_cases hc:c∈s
  ·obtain ⟨a,b,rfl,ha⟩:=qje hc
   rw[qg7 ha,if_neg (by
    intro h;have:=eq_of_beq h
    omega),qht ha]
   have hd:(a++c::b).drop ((a.length:Int).toNat+[c].length)=b:=by
    rw[show (a.length:Int).toNat+[c].length=a.length+1 by simp];rw[<-List.drop_drop,List.drop_left]
    try rfl
   rw[hd,show (a.length:Int).toNat+0=a.length by simp,List.take_left,qkr c k b (by
    rw[List.count_append,List.count_cons_self] at h
    omega)]
  ·rw[qfO hc,if_pos zDd,qdO hc]
theorem qsn (c:UInt8) (s:List UInt8):split s [c]=qaS c s:=by
 rw[split,count,qkr c _ s (by rw[qhd c _ s (by omega)];exact zNr _)]
/-! ### Words -/
def full (l:List (List UInt8)):List Wd:=l.filter fun w=>decide (w≠[])
def qfC (s:List UInt8):List Wd:=full (qaS 32 (s.takeWhile fun d=>decide (d≠35)))
def qbU (s:List UInt8):List Wd:=(qaS 10 s).flatMap qfC
def qeD (cur:List UInt8):List Wd:=if cur=[] then [] else [cur]
def qid:List UInt8->Bool->List UInt8->List Wd
 |cur,_,[]=>qeD cur
 |cur,com,c::r=>
  if c=10 then qeD cur++qid [] false r
  else if com=true then qid cur true r
  else if c=35 then qeD cur++qid [] true r
  else if c=32 then qeD cur++qid [] false r
  else qid (cur++[c]) false r
def qgy (cur:List UInt8) (com:Bool) (l:List UInt8):List Wd:=if com=true then qeD cur else qfC (cur++l)
theorem qtF (a b:List (List UInt8)):full (a++b)=full a++full b:=List.filter_append ..
theorem qk7 (a:List UInt8):full [a]=qeD a:=by
 unfold full qeD
 by_cases h:a=[] <;> simp[h]
def qql (cur:List UInt8):Prop:=∀ c∈cur,c≠10/\c≠32/\c≠35
theorem qqq {cur:List UInt8} (h:qql cur) (l:List UInt8):qfC (cur++35::l)=qeD cur:=by
 have h1:∀ x∈cur,decide (x≠35)=true:=fun x hx=>by simp only[zDe];exact (h x hx).2.2
 have h2:(32:UInt8) ∉ cur:=fun hx=>(h 32 hx).2.1 rfl;unfold qfC;rw[List.takeWhile_append_of_pos h1,List.takeWhile_cons_of_neg (by simp),zLz,qdO h2,qk7]
theorem qlh {cur:List UInt8} (h:qql cur):qfC cur=qeD cur:=by
 have h1:∀ x∈cur,decide (x≠35)=true:=fun x hx=>by simp only[zDe];exact (h x hx).2.2
 have h2:(32:UInt8) ∉ cur:=fun hx=>(h 32 hx).2.1 rfl;have h3:=List.takeWhile_append_of_pos (l₂:=[]) h1;rw[zLz,List.takeWhile_nil,zLz] at h3;unfold qfC;rw[h3,qdO h2,qk7]
theorem qkx {cur:List UInt8} (h:qql cur) (l:List UInt8):qfC (cur++32::l)=qeD cur++qfC l:=by
 have h1:∀ x∈cur,decide (x≠35)=true:=fun x hx=>by simp only[zDe];exact (h x hx).2.2
 have h2:(32:UInt8) ∉ cur:=fun hx=>(h 32 hx).2.1 rfl;unfold qfC;rw[List.takeWhile_append_of_pos h1,List.takeWhile_cons_of_pos zDd,qht h2,<-List.singleton_append,qtF,qk7]
theorem qhi:∀ (s cur:List UInt8) (com:Bool) (p:List UInt8) (ps:List (List UInt8)),qql cur->(com=true->cur=[])->qaS 10 s=p::ps->qid cur com s=qgy cur com p++ps.flatMap qfC
 |[],cur,com,p,ps,hc,hcom,hp=>by
  cases hp;rw[qid,qgy]
  cases com with
  |true=>simp
  |false=>simp[qlh hc]
 |c::r,cur,com,p,ps,hc,hcom,hp=>by
  obtain ⟨q,qs,hq⟩:=qgH 10 r;rw[qid]
  by_cases h10:c=10
  ·subst h10;rw[qew,hq] at hp;cases hp;rw[if_pos rfl,qhi r [] false q qs (fun x hx=>by cases hx) (by simp) hq]
   have:qgy cur com []=qeD cur:=by
    unfold qgy
    cases com with
    |true=>rfl
    |false=>rw[if_neg zDd,zLz,qlh hc]
   rw[this];simp[qgy]
  ·clear hq;obtain ⟨q,qs,hq,hp'⟩:=qeZ h10 r;rw[hp'] at hp;cases hp;rw[if_neg h10]
   cases com with
   |true=>
    obtain rfl:=hcom rfl;rw[if_pos rfl,qhi r [] true q ps (fun x hx=>by cases hx) (fun _=>rfl) hq]
    simp[qgy]
   |false=>
    rw[if_neg zDd]
    by_cases h35:c=35
    ·subst h35;rw[if_pos rfl,qhi r [] true q ps (fun x hx=>by cases hx) (fun _=>rfl) hq];have:qgy cur false (35::q)=qeD cur:=by unfold qgy;rw[if_neg zDd,qqq hc]
     rw[this];simp[qgy,qeD]
    ·rw[if_neg h35]
     by_cases h32:c=32
     ·subst h32;rw[if_pos rfl,qhi r [] false q ps (fun x hx=>by cases hx) (by simp) hq];have:qgy cur false (32::q)=qeD cur++qfC q:=by unfold qgy;rw[if_neg zDd,qkx hc]
      rw[this,zAs];simp[qgy]
     ·rw[if_neg h32,qhi r (cur++[c]) false q ps (fun x hx=>by
       rcases List.mem_append.1 hx with h|h
       ·exact hc x h
       ·obtain rfl:=List.mem_singleton.1 h
        exact ⟨h10,h32,h35⟩) (by simp) hq]
      simp[qgy]
theorem qp7 (s:List UInt8):qid [] false s=qbU s:=by
 obtain ⟨p,ps,hp⟩:=qgH 10 s;rw[qhi s [] false p ps (fun x hx=>by cases hx) (by simp) hp];unfold qbU;rw[hp];simp[qgy]
end Go.Stele
namespace Go.Stele
open Go.Lib
theorem qn8 (used:Wd->Bool):∀ (f:Nat) (l:List Wd),l.length<=f->qfj used f l=l∨(qfj used f l).length<l.length
 |0,l,h=>by
  have:l=[]:=List.eq_nil_of_length_eq_zero (by omega);subst this
  exact .inl rfl
 |f+1,[],_=>.inl rfl
 |f+1,w::r,h=>by
  rw[qfj];split
  ·rcases qn8 used f r (by simp only[zLc] at h;omega) with h1|h1
   ·rw[h1];exact .inl rfl
   ·right;simp only[zLc];omega
  ·rename_i h0
   obtain ⟨h1,h2⟩:=qni used (w::r) h0;have:=qjd used f ((w::r).drop (qbE used (w::r)).1);rw[List.length_drop] at this;right;rw[zLa];omega
theorem qlC (l:List Wd):qfb l=l∨(qfb l).length<l.length:=qn8 _ _ l (zNr _)
def optF:Nat->List Wd->List Wd
 |0,l=>l
 |f+1,l=>if qfb l=l then l else optF f (qfb l)
def optP (l:List Wd):List Wd:=optF l.length l
theorem qma:∀ (f g:Nat) (l:List Wd),l.length<=f->l.length<=g->optF f l=optF g l
 |0,0,_,_,_=>rfl
 |0,g+1,l,h,_=>by
  have:l=[]:=List.eq_nil_of_length_eq_zero (by omega);subst this
  rw[optF,optF,if_pos (by rfl)]
 |f+1,0,l,_,h=>by
  have:l=[]:=List.eq_nil_of_length_eq_zero (by omega);subst this
  rw[optF,optF,if_pos (by rfl)]
 |f+1,g+1,l,h1,h2=>by
  rw[optF,optF];split
  ·rfl
  ·rename_i h
   rcases qlC l with h3|h3
   ·exact absurd h3 h
   ·exact qma f g (qfb l) (by omega) (by omega)
theorem qvF {l:List Wd} (h:qfb l=l):optP l=l:=by
 unfold optP
 cases l with
 |nil=>rfl
 |cons w r=>rw[zLc,optF,if_pos h]
theorem qrx {l:List Wd} (h:qfb l≠l):optP l=optP (qfb l):=by
 rcases qlC l with h3|h3
 ·exact absurd h3 h
 ·have h4:∃ k,l.length=k+1:=⟨l.length-1,by omega⟩;obtain ⟨k,hk⟩:=h4;unfold optP;rw[hk,optF,if_neg h];exact qma _ _ _ (by omega) (zNr _)
/-! ### What holds of all words goes on holding -/
theorem qlB {v:List Wd} {i:Nat} (h:i<v.length):wdAt v i∈v:=by
 unfold wdAt;rw[List.getElem?_eq_getElem h];exact List.getElem_mem h
theorem qki {x op y s:Wd} (h:qcn x op y=some s):∃ c,c<4294967296/\s=decDigits c:=by
 unfold qcn at h;split at h
 ·rename_i a b ha hb
  split at h
  ·rename_i c hc
   split at h
   ·cases h;exact ⟨c,qqM (qk0 ha) (qk0 hb) hc,rfl⟩
   ·cases h
  ·cases h
 ·cases h
theorem qtD {P:Wd->Prop} (hd:∀ n,n<4294967296->P (decDigits n)) (used:Wd->Bool) (v:List Wd) (hv:∀ w∈v,P w):∀ w∈(qbE used v).2,P w:=by
 have none:∀ n:Nat,∀ w∈((n,[]):qe6).2,P w:=fun _ w hw=>by cases hw
 by_cases h1:∃ s,qeH v=some s
 ·obtain ⟨s,h1⟩:=h1;rw[qv7 h1];obtain ⟨c,hc,rfl⟩:=qki h1;intro w hw;rcases List.mem_singleton.1 hw with rfl;exact hd c hc
 have h1:qeH v=Option.none:=by
  cases h:qeH v with
  |none=>rfl
  |some s=>exact absurd ⟨s,h⟩ h1
 by_cases h2:qb4 v
 ·rw[qwD h1 h2];exact none _
 by_cases h3:qa9 v/\∃ s,qbD v=some s
 ·obtain ⟨h3,s,h4⟩:=h3;rw[qwX h1 h2 h3 h4];obtain ⟨c,hc,rfl⟩:=qki h4;have h5:=qen (qe9 h4).2.1;intro w hw;simp only[zMi,List.not_mem_nil,or_false] at hw;rcases hw with rfl|rfl
  ·exact hd c hc
  ·exact hv _ (qlB h5)
 have h3:¬ qa9 v∨qbD v=Option.none:=by
  by_cases hc:qa9 v
  ·right
   cases h:qbD v with
   |none=>rfl
   |some s=>exact absurd ⟨hc,s,h⟩ h3
  ·exact .inl hc
 by_cases h4:qib v
 ·rw[qwY h1 h2 h3 h4];exact none _
 by_cases h5:qd2 v
 ·rw[qw3 h1 h2 h3 h4 h5];obtain ⟨l,hl⟩:=Option.isSome_iff_exists.1 h5.1;have h6:=qeY hl;intro w hw;simp only[zMi,List.not_mem_nil,or_false] at hw;rcases hw with rfl|rfl
  ·exact hv _ (qlB (by omega))
  ·exact hv _ (qlB (by omega))
 cases h6:qf6 v with
 |true=>rw[qwU h1 h2 h3 h4 h5 h6];exact none _
 |false=>
  cases h7:qlI v with
  |true=>rw[qwb h1 h2 h3 h4 h5 h6 h7];exact none _
  |false=>
   by_cases h8:qmn v
   ·rw[qwj h1 h2 h3 h4 h5 h6 h7 h8];exact fun w hw=>hv w (List.mem_of_mem_take hw)
   ·rw[qv8 h1 h2 h3 h4 h5 h6 h7 h8];unfold qcQ;split
    ·split <;> exact none _
    ·exact none _
theorem qjM {P:Wd->Prop} (hd:∀ n,n<4294967296->P (decDigits n)) (used:Wd->Bool):∀ (f:Nat) (l:List Wd),(∀ w∈l,P w)->∀ w∈qfj used f l,P w
 |0,_,_=>fun w hw=>by cases hw
 |f+1,[],_=>fun w hw=>by cases hw
 |f+1,a::r,hl=>by
  rw[qfj];split
  ·intro w hw;rcases zMi.1 hw with rfl|hw
   ·exact hl _ zMs
   ·exact qjM hd used f r (fun x hx=>hl x (zMo _ hx)) w hw
  ·intro w hw;rcases List.mem_append.1 hw with hw|hw
   ·exact qtD hd used (a::r) hl w hw
   ·exact qjM hd used f _ (fun x hx=>hl x (List.mem_of_mem_drop hx)) w hw
/-! ### Words joined and cut qj2 -/
def qfI (w:Wd):Prop:=w≠[]/\qql w
theorem qsE (n:Nat):qfI (decDigits n):=⟨qcF n,fun c hc=>by
 have:=qfR n c hc
 refine ⟨?_,?_,?_⟩ <;> (rintro rfl;exact absurd this zDd)⟩
theorem qhV {c:UInt8} {l:List UInt8}:∀ p∈qaS c l,c ∉ p/\∀ x∈p,x∈l:=by
 induction l with
 |nil=>
  intro p hp;obtain rfl:=List.mem_singleton.1 hp
  exact ⟨by simp,by simp⟩
 |cons d r ih=>
  intro p hp
  by_cases h:d=c
  ·subst h;rw[qew] at hp;rcases zMi.1 hp with rfl|hp
   ·exact ⟨by simp,by simp⟩
   ·exact ⟨(ih p hp).1,fun x hx=>zMo _ ((ih p hp).2 x hx)⟩
  ·obtain ⟨q,qs,h1,h2⟩:=qeZ h r;rw[h2] at hp;rw[h1] at ih;rcases zMi.1 hp with rfl|hp
   ·have:=ih q zMs;refine ⟨fun hm=>?_,fun x hx=>?_⟩
    ·rcases zMi.1 hm with e|hm
     ·exact h e.symm
     ·exact this.1 hm
    ·rcases zMi.1 hx with rfl|hx
     ·exact List.mem_cons_self ..
     ·exact zMo _ (this.2 x hx)
   ·have:=ih p (zMo _ hp);exact ⟨this.1,fun x hx=>zMo _ (this.2 x hx)⟩
theorem qnW {l:List UInt8} (h:(10:UInt8) ∉ l):∀ w∈qfC l,qfI w:=by
 intro w hw;obtain ⟨h1,h2⟩:=List.mem_filter.1 hw;obtain ⟨h3,h4⟩:=qhV w h1;refine ⟨of_decide_eq_true h2,fun c hc=>⟨?_,?_,?_⟩⟩
 ·rintro rfl;exact h ((List.takeWhile_prefix _).subset (h4 _ hc))
 ·rintro rfl;exact h3 hc
 ·rintro rfl
  have:∀ (l:List UInt8),(35:UInt8) ∉ l.takeWhile fun d=>decide (d≠35):=by
   intro l
   induction l with
   |nil=>simp
   |cons d r ih=>
    rw[List.takeWhile_cons];split
    ·rename_i hd
     intro hm;rcases zMi.1 hm with e|hm
     ·rw[<-e] at hd;simp at hd
     ·exact ih hm
    ·simp
  exact this _ (h4 _ hc)
theorem qhW (s:List UInt8):∀ w∈qbU s,qfI w:=by
 intro w hw;obtain ⟨p,hp,hw⟩:=List.mem_flatMap.1 hw;exact qnW (qhV p hp).1 w hw
theorem qiu (x y:Wd) (r:List Wd):join (x::y::r) [32]=x++32::join (y::r) [32]:=by simp[join]
theorem qlZ:∀ (l:List Wd),(∀ w∈l,qfI w)->(10:UInt8) ∉ join l [32]
 |[],_=>by simp[join]
 |[a],h=>by
  rw[join_one]
  exact fun hm=>((h a zMs).2 10 hm).1 rfl
 |a::b::r,h=>by
  rw[qiu];intro hm;rcases List.mem_append.1 hm with hm|hm
  ·exact ((h a zMs).2 10 hm).1 rfl
  ·rcases zMi.1 hm with e|hm
   ·exact absurd e zDd
   ·exact qlZ (b::r) (fun x hx=>h x (zMo _ hx)) hm
theorem qmU:∀ (l:List Wd),(∀ w∈l,qfI w)->qfC (join l [32])=l
 |[],_=>rfl
 |[a],h=>by
  obtain ⟨h1,h2⟩:=h a zMs;rw[join_one,qlh h2]
  simp[qeD,h1]
 |a::b::r,h=>by
  obtain ⟨h1,h2⟩:=h a zMs;rw[qiu,qkx h2,qmU (b::r) fun x hx=>h x (zMo _ hx)];simp[qeD,h1]
theorem qj6 {l:List Wd} (h:∀ w∈l,qfI w):qbU (join l [32])=l:=by
 unfold qbU;rw[qdO (qlZ l h)];simp[qmU l h]
theorem qtP {a b:List Wd} (ha:∀ w∈a,qfI w) (hb:∀ w∈b,qfI w) (h:join a [32]=join b [32]):a=b:=by
 rw[<-qj6 ha,<-qj6 hb,h]
theorem qpY {l:List Wd} (h:∀ w∈l,qfI w):∀ w∈qfb l,qfI w:=qjM (fun n _=>qsE n) _ _ l h
def qdU (s:List UInt8):List UInt8×Int:=if 400000<s.length then ([],6) else (join (optP (qbU s)) [32],0)
/-! ### The text does not grow -/
def tot (l:List Wd):Nat:=(l.map fun w=>w.length+1).sum
theorem qaO (w:Wd) (l:List Wd):tot (w::l)=w.length+1+tot l:=by simp[tot]
theorem qa2:tot []=0:=rfl
theorem qa4 (a b:List Wd):tot (a++b)=tot a+tot b:=by simp[tot]
theorem qmZ (l:List Wd) (n:Nat):tot l=tot (l.take n)+tot (l.drop n):=by rw[<-qa4,List.take_append_drop]
theorem qgY:∀ l:List Wd,(join l [32]).length<=tot l
 |[]=>Nat.zero_le _
 |[a]=>by
  rw[join_one,qaO]
  omega
 |a::b::r=>by
  have:=qgY (b::r);rw[qiu,qaO];simp only[zLa,zLc];omega
theorem qkj {x op y s:Wd} (h:qcn x op y=some s):s.length<=x.length+y.length+1:=by
 unfold qcn at h;split at h
 ·split at h
  ·split at h
   ·rename_i hle
    cases h;exact hle
   ·cases h
  ·cases h
 ·cases h
theorem qt6 (used:Wd->Bool) (v:List Wd):tot (qbE used v).2<=tot (v.take (qbE used v).1):=by
 by_cases h1:∃ s,qeH v=some s
 ·obtain ⟨s,h1⟩:=h1;rw[qv7 h1];have hl:=qkj h1;have hlt:=qen (qe9 h1).2.1
  match v,hlt,hl with
  |a::b::c::r,_,hl=>
   simp only[wdAt,List.getElem?_cons_zero,List.getElem?_cons_succ,Option.getD_some] at hl;simp only[List.take_succ_cons,List.take_zero,qaO,qa2];omega
 have h1:qeH v=Option.none:=by
  cases h:qeH v with
  |none=>rfl
  |some s=>exact absurd ⟨s,h⟩ h1
 by_cases h2:qb4 v
 ·rw[qwD h1 h2];exact Nat.zero_le _
 by_cases h3:qa9 v/\∃ s,qbD v=some s
 ·obtain ⟨h3,s,h4⟩:=h3;rw[qwX h1 h2 h3 h4];have hl:=qkj h4;have h5:wdAt v 3≠[]:=by rw[h3.2];exact (qe9 h4).2.1
  have hlt:=qen h5
  match v,hlt,hl with
  |a::b::c::d::r,_,hl=>
   simp only[wdAt,List.getElem?_cons_zero,List.getElem?_cons_succ,Option.getD_some] at hl ⊢;simp only[List.take_succ_cons,List.take_zero,qaO,qa2];omega
 have h3:¬ qa9 v∨qbD v=Option.none:=by
  by_cases hc:qa9 v
  ·right
   cases h:qbD v with
   |none=>rfl
   |some s=>exact absurd ⟨hc,s,h⟩ h3
  ·exact .inl hc
 by_cases h4:qib v
 ·rw[qwY h1 h2 h3 h4];exact Nat.zero_le _
 by_cases h5:qd2 v
 ·rw[qw3 h1 h2 h3 h4 h5];obtain ⟨l,hl⟩:=Option.isSome_iff_exists.1 h5.1;have h6:=qeY hl
  match v,h6 with
  |a::b::c::d::e::f::r,_=>
   simp only[wdAt,List.getElem?_cons_zero,List.getElem?_cons_succ,Option.getD_some];simp only[List.take_succ_cons,List.take_zero,qaO,qa2];omega
 cases h6:qf6 v with
 |true=>rw[qwU h1 h2 h3 h4 h5 h6];exact Nat.zero_le _
 |false=>
  cases h7:qlI v with
  |true=>rw[qwb h1 h2 h3 h4 h5 h6 h7];exact Nat.zero_le _
  |false=>
   by_cases h8:qmn v
   ·rw[qwj h1 h2 h3 h4 h5 h6 h7 h8];simp only;have:=qmZ (v.take (qdt v+qcd (v.drop (qdt v)))) (qdt v);rw[List.take_take,Nat.min_eq_left (by omega)] at this;omega
   ·rw[qv8 h1 h2 h3 h4 h5 h6 h7 h8];unfold qcQ;split
    ·split <;> exact Nat.zero_le _
    ·exact Nat.zero_le _
theorem qjS (used:Wd->Bool):∀ (f:Nat) (l:List Wd),tot (qfj used f l)<=tot l
 |0,_=>Nat.zero_le _
 |f+1,[]=>zNr _
 |f+1,a::r=>by
  rw[qfj];split
  ·rw[qaO,qaO];have:=qjS used f r;omega
  ·have h1:=qt6 used (a::r);have h2:=qjS used f ((a::r).drop (qbE used (a::r)).1);have h3:=qmZ (a::r) (qbE used (a::r)).1;rw[qa4];omega
theorem qfY:∀ (s cur:List UInt8) (com:Bool),tot (qid cur com s)<=cur.length+s.length+1
 |[],cur,com=>by
  rw[qid];unfold qeD;split
  ·exact Nat.zero_le _
  ·simp[tot]
 |c::r,cur,com=>by
  have hf:tot (qeD cur)<=cur.length+1:=by
   unfold qeD;split
   ·exact Nat.zero_le _
   ·simp[tot]
  rw[qid];simp only[zLc];split
  ·have:=qfY r [] false;rw[qa4];simp only[zLn] at this;omega
  split
  ·have:=qfY r cur true;omega
  split
  ·have:=qfY r [] true;rw[qa4];simp only[zLn] at this;omega
  split
  ·have:=qfY r [] false;rw[qa4];simp only[zLn] at this;omega
  ·have:=qfY r (cur++[c]) false;rw[zLa,List.length_singleton] at this;omega
theorem qjF (s:List UInt8):tot (qbU s)<=s.length+1:=by
 rw[<-qp7];have:=qfY s [] false;simpa using this
end Go.Stele
namespace Go.Stele
open Go.Lib
/-! ### Numbers, digit by digit -/
/-! ### Labels -/
theorem qtf (c:UInt8) (r:List UInt8):qlF (c::r)=(decide ((c::r).length<=40) && qaV c && (c::r).all qaM):=rfl
theorem qtw {s:Wd} (h:qlF s=true):s≠[]:=by
 rintro rfl;cases h
/-! ### The words of assembly, with their lines -/
def qj5:Nat->List (List UInt8)->List (Wd×Nat)
 |_,[]=>[]
 |n,l::r=>(qfC l).map (fun w=>(w,n+1))++qj5 (n+1) r
def qgp (s:List UInt8):List (Wd×Nat):=qj5 0 (qaS 10 s)
theorem qmp:∀ (l:List (List UInt8)) (n:Nat),(qj5 n l).map (·.1)=l.flatMap qfC
 |[],_=>rfl
 |a::r,n=>by
  rw[qj5,zMa,List.map_map,qmp r];simp[Function.comp_def]
theorem qfJ (s:List UInt8):(qgp s).map (·.1)=qbU s:=qmp _ 0
theorem qpP {l:List (List UInt8)} {i:Nat} (h:i<l.length) (n:Nat):qj5 n (l.drop i)=(qfC l[i]).map (fun w=>(w,n+1))++qj5 (n+1) (l.drop (i+1)):=by
 rw[List.drop_eq_getElem_cons h,qj5]
theorem qqn {l:List (List UInt8)} {i:Nat} (h:i<l.length):full (l.drop i)=if l[i]=[] then full (l.drop (i+1)) else l[i]::full (l.drop (i+1)):=by
 rw[List.drop_eq_getElem_cons h];unfold full;rw[List.filter_cons]
 by_cases hc:l[i]=[]
 ·simp[hc]
 ·simp[hc]
theorem qhl (c:UInt8):∀ s,(qaS c s).length<=s.length+1
 |[]=>by simp[qaS]
 |d::r=>by
  have:=qhl c r
  by_cases h:d=c
  ·subst h;rw[qew];simp only[zLc];omega
  ·obtain ⟨p,ps,h1,h2⟩:=qeZ h r;rw[h2];rw[h1] at this;simp only[zLc] at this ⊢;omega
theorem qdc {c:UInt8}:∀ {s p:List UInt8},p∈qaS c s->p.length<=s.length
 |[],p,h=>by
  obtain rfl:=List.mem_singleton.1 h
  exact zNr _
 |d::r,p,h=>by
  by_cases hd:d=c
  ·subst hd;rw[qew] at h;rcases zMi.1 h with rfl|h
   ·exact Nat.zero_le _
   ·have:=qdc h;simp only[zLc];omega
  ·obtain ⟨q,qs,h1,h2⟩:=qeZ hd r;rw[h2] at h;rcases zMi.1 h with rfl|h
   ·have:=qdc (c:=c) (s:=r) (p:=q) (by rw[h1];exact List.mem_cons_self ..);simp only[zLc];omega
   ·have:=qdc (c:=c) (s:=r) (p:=p) (by rw[h1];exact zMo _ h);simp only[zLc];omega
theorem qhG (s:List UInt8):(qbU s).length<=s.length+1:=by
 have h1:=qjF s
 have h2:(qbU s).length<=tot (qbU s):=by
  unfold tot;generalize qbU s=l
  induction l with
  |nil=>exact zNr _
  |cons a l ih=>
   simp only[zLc,zMc,List.sum_cons];omega
 omega
theorem qsg {l:List Wd} {w:Wd} (h:w∈l):w.length+1<=tot l:=by
 induction l with
 |nil=>cases h
 |cons a l ih=>
  rw[qaO];rcases zMi.1 h with rfl|h
  ·omega
  ·have:=ih h;omega
theorem qlm (l:List Wd):l.length<=tot l:=by
 induction l with
 |nil=>exact Nat.zero_le _
 |cons a l ih=>
  rw[qaO,zLc];omega
theorem qsz (l:List Wd):tot (qfb l)<=tot l:=qjS _ _ _
end Go.Stele
namespace Go.Stele
open Go.Lib
def qld:List UInt8:=[43,45,42,47,37,94,60,64,33,63,58,59,44,46,36,48,49,50,51,52,53,54,55,56,57]
def qnR (w:Wd):Bool:=w.all fun c=>qld.contains c
def defs (l:List Wd):List Wd:=l.filterMap defW
def OkW (ds:List Wd) (w:Wd):Prop:=match defW w with
 |some _=>True
 |none=>match refW w with
  |some d=>d∈ds
  |none=>qnR w=true
def AsmOk (l:List Wd):Prop:=(defs l).Nodup/\∀ w∈l,OkW (defs l) w
def qdw (w:Wd):Bool:=match w with
 |[]=>false
 |c::_=>qaB c
def qdC (w:Wd):Bool:=match w.getLast? with
 |some c=>qaB c
 |none=>false
def one (d:Bool):Nat:=if d=true then 1 else 0
def lenW:Bool->List Wd->Nat
 |_,[]=>0
 |d,w::r=>match defW w with
  |some _=>lenW d r
  |none=>match refW w with
   |some _=>one d+6+lenW true r
   |none=>one (d && qdw w)+w.length+lenW (qdC w) r
/-! ### Kinds of words -/
/-! ### Lengths -/
theorem qqi (d:Bool):one d<=1:=by cases d <;> simp[one]
theorem qiB (w:Wd) (l:List Wd):defs (w::l)=(match defW w with|some d=>[d]|none=>[])++defs l:=by
 unfold defs;rw[List.filterMap_cons]
 try cases defW w <;> rfl
theorem qsw {w:Wd} (h:defW w=none) (l:List Wd):defs (w::l)=defs l:=by rw[qiB,h];try rfl
theorem qo2 (a b:List Wd):defs (a++b)=defs a++defs b:=List.filterMap_append
/-! ### A pass -/
end Go.Stele
