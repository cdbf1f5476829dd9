/- Texts joined: RenF, RenG, RenI, RenJ, RenK, RenW, RenL, GlChar. -/
import Derived.Test.YtocofhbdbgnmbaaGreatDoorBRowR51
import Derived.Test.YtocofhbdbgnmbaaGreatDoorBRowR52
import Derived.Test.YtocofhbdbgnmbaaGreatDoorBRowR53
import Derived.Test.YtocofhbdbgnmbaaGreatDoorBRowR54
set_option linter.unusedVariables false
set_option linter.unusedSimpArgs false
namespace Go.GL
theorem flat_last {es:List LV} {cs spare:List LV} {s:Nat} (hs:∀ v∈es,v.cells.length=s) (hc:cs.length=s) {k:Nat} (hk:k<s):((es++[LV.agg cs]).flatMap LV.cells++spare)[es.length * s+k]? = cs[k]? := by
 have h1:(es.flatMap LV.cells).length=es.length * s:=flat_length hs
 have h2:[LV.agg cs].flatMap LV.cells=cs:=by simp[LV.cells]
 rw[List.flatMap_append,h2,List.append_assoc,List.getElem?_append_right zo,h1,show es.length * s+k-es.length * s=k by omega,List.getElem?_append_left zo]
theorem perm3 (A B C D:Heap):((A++(B++C))++D).Perm ((A++(D++B))++C):=by
 rw[List.append_assoc,List.append_assoc A]
 refine List.Perm.append_left A ?_
 rw[List.append_assoc D]
 exact List.perm_append_comm
theorem perm4 (A B C D:Heap):(A++((B++C)++D)).Perm (B++(A++(D++C))):=by
 rw[List.append_assoc]
 exact (List.perm_append_comm_assoc A B (C++D)).trans (List.Perm.append_left B (List.Perm.append_left A List.perm_append_comm))
theorem MRow.flat {el s:Nat} {v:Value} {es:List LV} {H:Heap} (h:MRow el s v es H):(LV.atom v).cells? = some [.atom v]∧cellOk (.atom v)=true:=by
 cases h <;> exact ⟨rfl,rfl⟩
theorem Acc.flat {s:Nat} {v:LV} {es:List LV} {H F:Heap} (h:Acc s v es H F):v.cells? = some [v]∧cellOk v=true:=by
 cases h <;> exact ⟨rfl,rfl⟩
theorem setL_last {es:List LV} {cs cs' spare:List LV} {x:LV} {s k:Nat} (hs:∀ v∈es,v.cells.length=s) (hk:k+1≤cs.length) (hc:setL cs k [x]=cs'):setL ((es++[LV.agg cs]).flatMap LV.cells++spare) (es.length * s+k) [x]=(es++[LV.agg cs']).flatMap LV.cells++spare:=
 setL_flat (bs:=[]) (a:=.agg cs) (a':=.agg cs') hs k hk hc.symm
theorem HSub.app (A B:Heap):HSub A (A++B):=⟨B,List.Perm.refl _⟩
end Go.GL
namespace Go.Proofs.YtocofhbdbgnmbaaGreatDoor
open Go.GL Go.RowKit Go.Stele
set_option maxRecDepth 100000
set_option maxHeartbeats 4000000
attribute [local irreducible] LOps LCode LStep LCalls Go.GL.Pure QThen QBlock RetPost LQ LAny LLate LLateOp
def cellsB (b:Blk):List LV:=[int .i64 b.kind,.list (b.words.map str),.list (b.rows.map fun r=>.list (r.map str)),str b.runs,int .i64 b.width]
def encB (b:Blk):LV:=.agg (cellsB b)
def EncL:List LV→List Blk→Prop
 |[],[]=>True
 |e::es,b::bs=>(∃ cs,e=.agg cs∧cs.length=5∧SubL cs (cellsB b))∧EncL es bs
 |_,_=>False
theorem EncL.len:∀ {es:List LV} {bs:List Blk},EncL es bs→es.length=bs.length
 |[],[],_=>rfl
 |_::_,_::_,h=>by simp[EncL.len h.2]
 |[],_::_,h=>h.elim
 |_::_,[],h=>h.elim
theorem EncL.snoc:∀ {es:List LV} {bs:List Blk} {cs:List LV} {b:Blk},EncL es bs→cs.length=5→SubL cs (cellsB b)→EncL (es++[.agg cs]) (bs++[b])
 |[],[],cs,b,_,h5,h=>⟨⟨cs,rfl,h5,h⟩,trivial⟩
 |_::_,_::_,_,_,h,h5,hs=>⟨h.1,EncL.snoc h.2 h5 hs⟩
 |[],_::_,_,_,h,_,_=>h.elim
 |_::_,[],_,_,h,_,_=>h.elim
theorem EncL.sizes:∀ {es:List LV} {bs:List Blk},EncL es bs→∀ v∈es,v.cells.length=5
 |[],[],_,v,hv=>by cases hv
 |e::es,b::bs,h,v,hv=>by
  rcases List.mem_cons.1 hv with rfl|hv
  ·obtain ⟨⟨cs,rfl,h5,_⟩,_⟩:=h
   exact h5
  ·exact EncL.sizes h.2 v hv
 |[],_::_,h,_,_=>h.elim
 |_::_,[],h,_,_=>h.elim
theorem EncL.sub:∀ {es:List LV} {bs:List Blk},EncL es bs→SubL (es.flatMap LV.cells) ((bs.map encB).flatMap LV.cells)
 |[],[],_=>trivial
 |e::es,b::bs,h=>by
  obtain ⟨⟨cs,rfl,h5,hs⟩,h2⟩:=h
  rw[List.flatMap_cons,List.map_cons,List.flatMap_cons]
  exact SubL.app hs (EncL.sub h2)
 |[],_::_,h=>h.elim
 |_::_,[],h=>h.elim
inductive DocSt:List Blk→Nat→Value→Heap→Prop
 |plain {out:List Blk} {op:Nat} {v:Value} {H:Heap} {es:List LV} (hm:MRow 49 5 v es H) (he:EncL es out) (hop:op≠2∧op≠3):DocSt out op v H
 |words {init:List Blk} {es:List LV} {v:Value} {HM HW:Heap} {w:LV} {ws:List Wd} (hm:MRow 49 5 v (es++[.agg [int .i64 2,w,nilSlice,str [],int .i64 0]]) HM) (he:EncL es init) (ha:Acc 1 w (ws.map str) HW []):DocSt (init++[⟨2,ws,[],[],0⟩]) 2 v (HM++HW)
 |rows {init:List Blk} {es:List LV} {v:Value} {HM HW:Heap} {w:LV} {rs:List (List Wd)} (hm:MRow 49 5 v (es++[.agg [int .i64 3,nilSlice,w,str [],int .i64 0]]) HM) (he:EncL es init) (ha:Acc 1 w (rs.map fun r=>.list (r.map str)) HW []):DocSt (init++[⟨3,[],rs,[],0⟩]) 3 v (HM++HW)
theorem DocSt.view {out:List Blk} {op:Nat} {v:Value} {H:Heap} (h:DocSt out op v H):∃ es HM HW,MRow 49 5 v es HM∧EncL es out∧H=HM++HW:=by
 cases h with
 |plain hm he hop=>exact ⟨_,_,[],hm,he,by simp⟩
 |words hm he ha=>exact ⟨_,_,_,hm,he.snoc rfl ⟨LV.Sub.refl _,ha.sub,LV.Sub.nil,LV.Sub.refl _,LV.Sub.refl _,trivial⟩,rfl⟩
 |rows hm he ha=>exact ⟨_,_,_,hm,he.snoc rfl ⟨LV.Sub.refl _,LV.Sub.nil,ha.sub,LV.Sub.refl _,LV.Sub.refl _,trivial⟩,rfl⟩
theorem rows_len (l:List (List Wd)):∀ v∈l.map fun r=>LV.list (r.map str),v.cells.length=1:=fun v hv=>by
 obtain ⟨r,_,rfl⟩:=List.mem_map.1 hv
 rfl
theorem rows_ok:∀ l:List (List Wd),((l.map fun r=>LV.list (r.map str)).flatMap LV.cells).all cellOk=true
 |[]=>rfl
 |a::l=>by
  rw[List.map_cons,List.flatMap_cons,List.all_append,rows_ok l]
  rfl
theorem fill_w {w:LV} (hwc:w.cells? = some [w]) (k width:Int) (runs:List UInt8):fillL [(0,1),(1,1),(2,1),(3,1),(4,1)] ([Value.int .i64 0,.slice none 0 0,.slice none 0 0,.string ⟨#[]⟩,.int .i64 0].map LV.atom) [(0,int .i64 k),(1,w),(3,str runs),(4,int .i64 width)]=some [int .i64 k,w,nilSlice,str runs,int .i64 width]:=by
 have h1:(int .i64 k).cells? = some [int .i64 k]:=rfl
 have h2:(str runs).cells? = some [str runs]:=rfl
 have h3:(int .i64 width).cells? = some [int .i64 width]:=rfl
 simp[fillL,hwc,h1,h2,h3,setL]
theorem cells_w {w:LV} (hwc:w.cells? = some [w]) (hwo:cellOk w=true) (k width:Int) (runs:List UInt8):(([LV.agg [int .i64 k,w,nilSlice,str runs,int .i64 width]]:List LV).flatMap LV.cells).all cellOk=true:=by
 have h1:cellOk (int .i64 k)=true:=rfl
 have h2:cellOk (str runs)=true:=rfl
 have h3:cellOk (int .i64 width)=true:=rfl
 have h4:cellOk nilSlice=true:=rfl
 simp[LV.cells,hwo,h1,h2,h3,h4]
def RetDoc (p o:Nat) (out:List Blk) (op:Nat) (r:LRes) (H:Heap):Prop:=∃ v HD,r=.ret (.tuple [])∧DocSt out op v HD∧H=(p,.cells 3 [int .i64 op])::(o,.cells 44 [.atom v])::HD
section
variable {B0:Nat} {w0:World}
theorem emit_blank (p o:Nat) (out:List Blk) (op:Nat) (v:Value) (HD:Heap) (hst:DocSt out op v HD) :
  LCalls (KC B0 w0) 33 [.agg [int .i64 0,nilSlice,nilSlice,str [],int .i64 0],ptr p 0,ptr o 0] ((p,.cells 3 [int .i64 op])::(o,.cells 44 [.atom v])::HD) (RetDoc p o out 0):=by
 obtain ⟨es,HM,HW,hm,he,rfl⟩:=hst.view
 refine cI Tryz.func33 rfl (n:=86) rfl rfl rfl ?_
 refine gai ?_
 refine oS (S.box (cs:=[int .i64 0,nilSlice,nilSlice,str [],int .i64 0]) rfl fun b3=>?_) rfl
 refine gaa ?_
 refine oC rfl (fun _=>?_) (fun h=>by cases h)
 refine gaa ?_
 exact RetPost.normal rfl rN (zhP pH (zhD (zhP pH (HSub.app HM HW)))) ⟨v,HM,rfl,DocSt.plain hm he ⟨by decide,by decide⟩,rfl⟩
theorem emit_new (p o:Nat) (out:List Blk) (op:Nat) (v:Value) (HD:Heap) (hst:DocSt out op v HD) (hn:out.length≤1000000) (k:Nat) (hk:k=1∨k=2∨k=4) (hop:¬ (k=op∧op=2)) (w:LV) (ws:List Wd) (hw:w.Sub (.list (ws.map str))) (hwc:w.cells? = some [w]) (hwo:cellOk w=true) (runs:List UInt8) (width:Nat) (HL:Heap) :
  LCalls (KC B0 w0) 33 [.agg [int .i64 k,w,nilSlice,str runs,int .i64 width],ptr p 0,ptr o 0] ((p,.cells 3 [int .i64 op])::(o,.cells 44 [.atom v])::(HD++HL))
   (fun r H=>∃ v' es HM,r=.ret (.tuple [])∧EncL es out∧MRow 49 5 v' (es++[.agg [int .i64 k,w,nilSlice,str runs,int .i64 width]]) HM∧H=(p,.cells 3 [int .i64 k])::(o,.cells 44 [.atom v'])::(HM++HL)):=by
 obtain ⟨es,HM,HW,hm,he,rfl⟩:=hst.view
 have hel:=he.len
 refine cI Tryz.func33 rfl (n:=86) rfl rfl rfl ?_
 refine gai ?_
 refine oS (S.box (cs:=[int .i64 k,w,nilSlice,str runs,int .i64 width]) rfl fun b3=>?_) rfl
 refine gaa ?_
 refine oC rfl (fun h=>absurd (zt h) zo) (fun _=>?_)
 refine gai ?_
 refine LOps.cut [(1,ptr p 0),(2,ptr o 0),(3,ptr b3 0),(22,bool false)] ?_ (fun j1 hj1=>?_)
 ·refine gab ?_
  refine oB 27 rfl (fun h=>?_) (fun h=>?_)
  ·have he1:=zt h
   refine gab ?_
   exact ⟨⟨rfl,rfl,rfl,bool_eq (decide_eq_false zo),trivial⟩,rfl,rfl⟩
  ·refine gab ?_
   exact ⟨⟨rfl,rfl,rfl,rfl,trivial⟩,rfl,rfl⟩
 refine oC rfl (fun h=>by cases h) (fun _=>?_)
 refine gai ?_
 refine LOps.cut [(1,ptr p 0),(2,ptr o 0),(3,ptr b3 0),(47,bool false)] ?_ (fun j2 hj2=>?_)
 ·refine gab ?_
  refine oB 52 rfl (fun h=>?_) (fun h=>?_)
  ·have he1:=zt h
   refine gab ?_
   exact ⟨⟨rfl,rfl,rfl,bool_eq (decide_eq_false (fun h2=>hop ⟨by omega,by omega⟩)),trivial⟩,rfl,rfl⟩
  ·refine gab ?_
   exact ⟨⟨rfl,rfl,rfl,rfl,trivial⟩,rfl,rfl⟩
 refine oC rfl (fun h=>by cases h) (fun _=>?_)
 refine gaa ?_
 refine oC rfl (fun h=>absurd (zt h) zo) (fun _=>?_)
 refine gaa ?_
 refine oP (Pure.loadH (c:=w) rfl zm0 rfl) rfl ?_
 refine gab ?_
 refine oP (Pure.bld _ (cs:=[int .i64 k,w,nilSlice,str runs,int .i64 width]) (fill_w hwc _ _ _)) rfl ?_
 refine oS (S.lit [_] (es:=[.agg [int .i64 k,w,nilSlice,str runs,int .i64 width]]) rfl (eC rfl rfl eN) rfl rfl rfl ?_) rfl
 refine oS (S.appM (F:=[(b3,.cells 72 [int .i64 k,w,nilSlice,str runs,int .i64 width]),(p,.cells 3 [int .i64 op]),(o,.cells 44 [.atom v])]++(HL++HW)) rfl (by exact perm4 [_,_,_] HM HW HL) hm rfl (by simp[LV.cells]) (cells_w hwc hwo _ _ _) (by simp only[List.length_cons,List.length_nil];omega) fun v' H' hm'=>?_) rfl
 refine LOps.weak (H':=(b3,.cells 72 [int .i64 k,w,nilSlice,str runs,int .i64 width])::(p,.cells 3 [int .i64 op])::(o,.cells 44 [.atom v])::(H'++HL)) ⟨HW,perm3 [_,_,_] HL HW H'⟩ ?_
 refine oS (S.store (cs':=[.atom v']) rfl zp2 hm'.flat.1 rfl rfl (by simp[hm'.flat.2]) rfl ?_) rfl
 refine gaa ?_
 exact RetPost.normal (hj2.trans hj1) rN (zhP pH (zhP pH (zhD zhr))) ⟨v',es,H',rfl,he,hm',rfl⟩
theorem emit_row (p o:Nat) (out:List Blk) (op:Nat) (v:Value) (HD:Heap) (hst:DocSt out op v HD) (hn:out.length≤1000000) (hop:op≠3) (l:List Wd) :
  LCalls (KC B0 w0) 33 [.agg [int .i64 3,nilSlice,.list (l.map str),str [],int .i64 0],ptr p 0,ptr o 0] ((p,.cells 3 [int .i64 op])::(o,.cells 44 [.atom v])::HD)
   (RetDoc p o (out++[⟨3,[],[l],[],0⟩]) 3):=by
 obtain ⟨es,HM,HW,hm,he,rfl⟩:=hst.view
 have hel:=he.len
 refine cI Tryz.func33 rfl (n:=86) rfl rfl rfl ?_
 refine gai ?_
 refine oS (S.box (cs:=[int .i64 3,nilSlice,.list (l.map str),str [],int .i64 0]) rfl fun b3=>?_) rfl
 refine gaa ?_
 refine oC rfl (fun h=>by cases h) (fun _=>?_)
 refine gaa ?_
 refine oB 27 rfl (fun h=>absurd (zt h) zo) (fun _=>?_)
 refine gab ?_
 refine oC rfl (fun h=>by cases h) (fun _=>?_)
 refine gaa ?_
 refine oB 52 rfl (fun h=>absurd (zt h) zo) (fun _=>?_)
 refine gab ?_
 refine oC rfl (fun h=>by cases h) (fun _=>?_)
 refine gaa ?_
 refine oC rfl (fun _=>?_) (fun h=>by cases h)
 refine gaa ?_
 refine oS (S.litA [_] (es:=[.list (l.map str)]) rfl (eC rfl rfl eN) rfl rfl rfl fun b4=>?_) rfl
 refine gab ?_
 refine oS (S.lit [_] (es:=[.agg [int .i64 3,nilSlice,.app b4 1 1 [.list (l.map str)],str [],int .i64 0]]) rfl (eC rfl rfl eN) rfl rfl rfl ?_) rfl
 refine oS (S.appM (F:=[(b4,.row (1 * 1)),(b3,.cells 72 [int .i64 3,nilSlice,.list (l.map str),str [],int .i64 0]),(p,.cells 3 [int .i64 op]),(o,.cells 44 [.atom v])]++([]++HW)) rfl (by
  have:=perm4 [(b4,LObj.row (1 * 1)),(b3,.cells 72 [int .i64 3,nilSlice,.list (l.map str),str [],int .i64 0]),(p,.cells 3 [int .i64 op]),(o,.cells 44 [.atom v])] HM HW []
  rwa [List.append_nil] at this) hm rfl (by simp[LV.cells]) rfl (by simp only[List.length_cons,List.length_nil];omega) fun v' H' hm'=>?_) rfl
 refine LOps.weak (H':=(b4,.row (1 * 1))::(b3,.cells 72 [int .i64 3,nilSlice,.list (l.map str),str [],int .i64 0])::(p,.cells 3 [int .i64 op])::(o,.cells 44 [.atom v])::(H'++[])) ⟨HW,perm3 [_,_,_,_] [] HW H'⟩ ?_
 rw[List.append_nil]
 refine oS (S.store (cs':=[.atom v']) rfl zp3 hm'.flat.1 rfl rfl (by simp[hm'.flat.2]) rfl ?_) rfl
 refine gaa ?_
 exact RetPost.normal rfl rN (H':=(p,.cells 3 [int .i64 3])::(o,.cells 44 [.atom v'])::(H'++[(b4,.row (1 * 1))])) (zhP pH (zhP pH ⟨[(b3,.cells 72 [int .i64 3,nilSlice,.list (l.map str),str [],int .i64 0])],by
  rw[List.append_assoc]
  exact (List.perm_append_comm (l₁:=[_,_]) (l₂:=H'))⟩)) ⟨v',_,rfl,DocSt.rows (rs:=[l]) hm' he Acc.row,rfl⟩
theorem emit_words (p o:Nat) (init:List Blk) (es:List LV) (v:Value) (HM HW:Heap) (w:LV) (ws:List Wd) (hm:MRow 49 5 v (es++[.agg [int .i64 2,w,nilSlice,str [],int .i64 0]]) HM) (he:EncL es init) (ha:Acc 1 w (ws.map str) HW []) (hn:init.length≤1000000) (hws:ws.length≤1000000)
  (b2 cap2:Nat) (ms:List Wd) (hms:ms.length≤1000000) (HL:Heap) :
  LCalls (KC B0 w0) 33 [.agg [int .i64 2,.app b2 cap2 1 (ms.map str),nilSlice,str [],int .i64 0],ptr p 0,ptr o 0] ((p,.cells 3 [int .i64 2])::(o,.cells 44 [.atom v])::((HM++HW)++HL))
   (RetDoc p o (init++[⟨2,ws++ms,[],[],0⟩]) 2):=by
 have hel:=he.len
 have hes:=he.sizes
 have hlen:(es++[LV.agg [int .i64 2,w,nilSlice,str [],int .i64 0]]).length=es.length+1:=by simp
 obtain ⟨b,cap,spare,hv,hHM,hc,hcap⟩:=hm.addr (by simp)
 rw[hlen] at hv hc hcap
 subst hv
 subst hHM
 have hfl:((es++[LV.agg [int .i64 2,w,nilSlice,str [],int .i64 0]]).flatMap LV.cells).length=(es.length+1) * 5:=by
  rw[←hlen]
  exact flat_length hm.sizes
 refine cI Tryz.func33 rfl (n:=86) rfl rfl rfl ?_
 refine LCode.weak (H':=(p,.cells 3 [int .i64 2])::(o,.cells 44 [.atom (.slice (some ⟨b,0,none⟩) (es.length+1) cap)])::(b,.cells 49 ((es++[LV.agg [int .i64 2,w,nilSlice,str [],int .i64 0]]).flatMap LV.cells++spare))::HW) ⟨HL,List.Perm.refl _⟩ ?_
 refine gai ?_
 refine oS (S.box (cs:=[int .i64 2,.app b2 cap2 1 (ms.map str),nilSlice,str [],int .i64 0]) rfl fun b3=>?_) rfl
 refine gaa ?_
 refine oC rfl (fun h=>by cases h) (fun _=>?_)
 refine gaa ?_
 refine oC rfl (fun h=>by cases h) (fun _=>?_)
 refine gaa ?_
 refine oC rfl (fun _=>?_) (fun h=>by cases h)
 refine gaa ?_
 refine oP (Pure.rowLen rfl) rfl ?_
 refine gab ?_
 refine oP (Pure.indexRowE (o:=es.length * 5) rfl rfl zo zo zo) rfl ?_
 refine gad ?_
 refine LCode.draw (m:=11) rfl [(b3,.cells 72 [int .i64 2,.app b2 cap2 1 (ms.map str),nilSlice,str [],int .i64 0])] ?_
 refine aT 0 rfl rfl (Pure.mv (lv:=.atom _) rfl) ?_
 refine aT 1 rfl rfl (Pure.mv (lv:=.atom _) rfl) ?_
 refine aT 2 rfl rfl (Pure.nilCheckH rfl) ?_
 refine aT 3 rfl rfl (Pure.fieldH rfl) ?_
 refine aT 5 rfl rfl (Pure.fieldH rfl) ?_
 refine aT 6 rfl rfl (Pure.loadH (c:=.app _ _ _ _) rfl zm0 rfl) ?_
 refine LAny.late ?_ zhp
 refine lO 4 (lH rfl rfl (Pure.loadH (c:=w) rfl zm3 (flat_last hes rfl (by decide))) ?_)
 refine lO 7 (lS (H1:=HW) (F:=[(b3,.cells 72 [int .i64 2,.app b2 cap2 1 (ms.map str),nilSlice,str [],int .i64 0]),(p,.cells 3 [int .i64 2]),(o,.cells 44 [.atom (.slice (some ⟨b,0,none⟩) (es.length+1) cap)]),(b,.cells 49 ((es++[LV.agg [int .i64 2,w,nilSlice,str [],int .i64 0]]).flatMap LV.cells++spare))]) rfl (.inl rfl) rfl (List.perm_append_comm (l₁:=[_,_,_,_]) (l₂:=HW)) zhp (S.acc rfl ha rfl (strs_len ms) (strs_ok ms) (by simp only[List.length_map];omega) fun w' H' ha'=>?_))
 refine LLate.weakH (H':=(b3,.cells 72 [int .i64 2,.app b2 cap2 1 (ms.map str),nilSlice,str [],int .i64 0])::(p,.cells 3 [int .i64 2])::(o,.cells 44 [.atom (.slice (some ⟨b,0,none⟩) (es.length+1) cap)])::(b,.cells 49 ((es++[LV.agg [int .i64 2,w,nilSlice,str [],int .i64 0]]).flatMap LV.cells++spare))::H') ⟨[],by rw[List.append_nil];exact List.perm_append_comm (l₁:=H') (l₂:=[_,_,_,_])⟩ ?_
 refine lO 8 (lH rfl rfl (Pure.nilCheckH rfl) ?_)
 refine lO 9 (lH rfl rfl (Pure.fieldH rfl) ?_)
 refine lO 10 (lS (H1:=[(b,.cells 49 ((es++[LV.agg [int .i64 2,w,nilSlice,str [],int .i64 0]]).flatMap LV.cells++spare))]) (F:=(b3,.cells 72 [int .i64 2,.app b2 cap2 1 (ms.map str),nilSlice,str [],int .i64 0])::(p,.cells 3 [int .i64 2])::(o,.cells 44 [.atom (.slice (some ⟨b,0,none⟩) (es.length+1) cap)])::H') rfl (.inl rfl) rfl (show Pick _ _ _ from pT zp2) zhp (S.store (off:=es.length * 5+1) (cs':=(es++[LV.agg [int .i64 2,w',nilSlice,str [],int .i64 0]]).flatMap LV.cells++spare) rfl pH ha'.flat.1 rfl (Nat.ble_eq_true_of_le (show es.length * 5+1+1≤_ by rw[List.length_append,hfl];omega)) (by simp[ha'.flat.2]) (setL_last hes (show 1+1≤5 by decide) rfl) ?_))
 refine lD zk ?_
 refine gaa ?_
 have hm':MRow 49 5 (.slice (some ⟨b,0,none⟩) (es.length+1) cap) (es++[LV.agg [int .i64 2,w',nilSlice,str [],int .i64 0]]) [(b,.cells 49 ((es++[LV.agg [int .i64 2,w',nilSlice,str [],int .i64 0]]).flatMap LV.cells++spare))]:=by
  have h1:(es++[LV.agg [int .i64 2,w',nilSlice,str [],int .i64 0]]).length=es.length+1:=by simp
  have:=MRow.row (el:=49) (s:=5) (b:=b) (cap:=cap) (es:=es++[LV.agg [int .i64 2,w',nilSlice,str [],int .i64 0]]) (spare:=spare) (fun v hv=>by
   rcases List.mem_append.1 hv with hv|hv
   ·exact hes v hv
   ·rw[List.mem_singleton.1 hv];rfl) (by rw[h1];exact hc) (by rw[h1];exact hcap)
  rwa [h1] at this
 rw[←List.map_append] at ha'
 exact RetPost.normal rfl rN (H':=(p,.cells 3 [int .i64 2])::(o,.cells 44 [.atom (.slice (some ⟨b,0,none⟩) (es.length+1) cap)])::([(b,.cells 49 ((es++[LV.agg [int .i64 2,w',nilSlice,str [],int .i64 0]]).flatMap LV.cells++spare))]++H')) (zhP pH (zhP zp2 (zhP pH (zhD zhr)))) ⟨_,_,rfl,DocSt.words hm' he ha',rfl⟩
theorem emit_rows (p o:Nat) (init:List Blk) (es:List LV) (v:Value) (HM HW:Heap) (w:LV) (rs:List (List Wd)) (hm:MRow 49 5 v (es++[LV.agg [int .i64 3,nilSlice,w,str [],int .i64 0]]) HM) (he:EncL es init) (ha:Acc 1 w (rs.map fun r=>.list (r.map str)) HW []) (hn:init.length≤1000000) (hws:rs.length≤1000000) (l:List Wd) :
  LCalls (KC B0 w0) 33 [.agg [int .i64 3,nilSlice,.list (l.map str),str [],int .i64 0],ptr p 0,ptr o 0] ((p,.cells 3 [int .i64 3])::(o,.cells 44 [.atom v])::(HM++HW))
   (RetDoc p o (init++[⟨3,[],rs++[l],[],0⟩]) 3):=by
 have hel:=he.len
 have hes:=he.sizes
 have hlen:(es++[LV.agg [int .i64 3,nilSlice,w,str [],int .i64 0]]).length=es.length+1:=by simp
 obtain ⟨b,cap,spare,hv,hHM,hc,hcap⟩:=hm.addr (by simp)
 rw[hlen] at hv hc hcap
 subst hv
 subst hHM
 have hfl:((es++[LV.agg [int .i64 3,nilSlice,w,str [],int .i64 0]]).flatMap LV.cells).length=(es.length+1) * 5:=by
  rw[←hlen]
  exact flat_length hm.sizes
 have grown:∀ w':LV,MRow 49 5 (.slice (some ⟨b,0,none⟩) (es.length+1) cap) (es++[LV.agg [int .i64 3,nilSlice,w',str [],int .i64 0]]) [(b,.cells 49 ((es++[LV.agg [int .i64 3,nilSlice,w',str [],int .i64 0]]).flatMap LV.cells++spare))]:=fun w'=>by
  have h1:(es++[LV.agg [int .i64 3,nilSlice,w',str [],int .i64 0]]).length=es.length+1:=by simp
  have:=MRow.row (el:=49) (s:=5) (b:=b) (cap:=cap) (es:=es++[LV.agg [int .i64 3,nilSlice,w',str [],int .i64 0]]) (spare:=spare) (fun v hv=>by
   rcases List.mem_append.1 hv with hv|hv
   ·exact hes v hv
   ·rw[List.mem_singleton.1 hv];rfl) (by rw[h1];exact hc) (by rw[h1];exact hcap)
  rwa [h1] at this
 refine cI Tryz.func33 rfl (n:=86) rfl rfl rfl ?_
 refine LCode.weak (H':=(p,.cells 3 [int .i64 3])::(o,.cells 44 [.atom (.slice (some ⟨b,0,none⟩) (es.length+1) cap)])::(b,.cells 49 ((es++[LV.agg [int .i64 3,nilSlice,w,str [],int .i64 0]]).flatMap LV.cells++spare))::HW) zhr ?_
 refine gai ?_
 refine oS (S.box (cs:=[int .i64 3,nilSlice,.list (l.map str),str [],int .i64 0]) rfl fun b3=>?_) rfl
 refine gaa ?_
 refine oC rfl (fun h=>by cases h) (fun _=>?_)
 refine gaa ?_
 refine oC rfl (fun _=>?_) (fun h=>by cases h)
 refine gaa ?_
 refine oP (Pure.rowLen rfl) rfl ?_
 refine gab ?_
 refine oP (Pure.indexRowE (o:=es.length * 5) rfl rfl zo zo zo) rfl ?_
 refine gad ?_
 refine LCode.draw (m:=12) rfl [(b3,.cells 72 [int .i64 3,nilSlice,.list (l.map str),str [],int .i64 0])] ?_
 refine aT 0 rfl rfl (Pure.mv (lv:=.atom _) rfl) ?_
 refine aT 1 rfl rfl (Pure.mv (lv:=.atom _) rfl) ?_
 refine aT 2 rfl rfl (Pure.nilCheckH rfl) ?_
 refine aT 3 rfl rfl (Pure.fieldH rfl) ?_
 refine aT 5 rfl rfl (Pure.fieldH rfl) ?_
 refine aT 6 rfl rfl (Pure.loadH (c:=.list _) rfl zm0 rfl) ?_
 refine LAny.late ?_ zhp
 refine LLate.two (i:=4) (j:=7) zk (lH rfl rfl (Pure.loadH (c:=w) rfl zm3 (flat_last hes rfl (by decide))) ?_) (lS (H1:=[]) (F:=(b3,.cells 72 [int .i64 3,nilSlice,.list (l.map str),str [],int .i64 0])::(p,.cells 3 [int .i64 3])::(o,.cells 44 [.atom (.slice (some ⟨b,0,none⟩) (es.length+1) cap)])::(b,.cells 49 ((es++[LV.agg [int .i64 3,nilSlice,w,str [],int .i64 0]]).flatMap LV.cells++spare))::HW) rfl (.inl rfl) rfl zpr zhp (S.lit [_] (es:=[.list (l.map str)]) rfl (eC rfl rfl eN) rfl rfl rfl ?_))
 ·refine LLate.weakH (H':=(b3,.cells 72 [int .i64 3,nilSlice,.list (l.map str),str [],int .i64 0])::(p,.cells 3 [int .i64 3])::(o,.cells 44 [.atom (.slice (some ⟨b,0,none⟩) (es.length+1) cap)])::(b,.cells 49 ((es++[LV.agg [int .i64 3,nilSlice,w,str [],int .i64 0]]).flatMap LV.cells++spare))::HW) zhr ?_
  refine lO 7 (lS (H1:=[]) (F:=(b3,.cells 72 [int .i64 3,nilSlice,.list (l.map str),str [],int .i64 0])::(p,.cells 3 [int .i64 3])::(o,.cells 44 [.atom (.slice (some ⟨b,0,none⟩) (es.length+1) cap)])::(b,.cells 49 ((es++[LV.agg [int .i64 3,nilSlice,w,str [],int .i64 0]]).flatMap LV.cells++spare))::HW) rfl (.inl rfl) rfl zpr zhp (S.lit [_] (es:=[.list (l.map str)]) rfl (eC rfl rfl eN) rfl rfl rfl ?_))
  refine LLate.weakH (H':=(b3,.cells 72 [int .i64 3,nilSlice,.list (l.map str),str [],int .i64 0])::(p,.cells 3 [int .i64 3])::(o,.cells 44 [.atom (.slice (some ⟨b,0,none⟩) (es.length+1) cap)])::(b,.cells 49 ((es++[LV.agg [int .i64 3,nilSlice,w,str [],int .i64 0]]).flatMap LV.cells++spare))::HW) zhr ?_
  refine lO 8 (lS (H1:=HW) (F:=[(b3,.cells 72 [int .i64 3,nilSlice,.list (l.map str),str [],int .i64 0]),(p,.cells 3 [int .i64 3]),(o,.cells 44 [.atom (.slice (some ⟨b,0,none⟩) (es.length+1) cap)]),(b,.cells 49 ((es++[LV.agg [int .i64 3,nilSlice,w,str [],int .i64 0]]).flatMap LV.cells++spare))]) rfl (.inl rfl) rfl (List.perm_append_comm (l₁:=[_,_,_,_]) (l₂:=HW)) zhp (S.acc (ms:=[.list (l.map str)]) rfl ha rfl (by simp[LV.cells]) rfl (by simp only[List.length_map,List.length_cons,List.length_nil];omega) fun w' H' ha'=>?_))
  refine LLate.weakH (H':=(b3,.cells 72 [int .i64 3,nilSlice,.list (l.map str),str [],int .i64 0])::(p,.cells 3 [int .i64 3])::(o,.cells 44 [.atom (.slice (some ⟨b,0,none⟩) (es.length+1) cap)])::(b,.cells 49 ((es++[LV.agg [int .i64 3,nilSlice,w,str [],int .i64 0]]).flatMap LV.cells++spare))::H') ⟨[],by rw[List.append_nil];exact List.perm_append_comm (l₁:=H') (l₂:=[_,_,_,_])⟩ ?_
  refine lO 9 (lH rfl rfl (Pure.nilCheckH rfl) ?_)
  refine lO 10 (lH rfl rfl (Pure.fieldH rfl) ?_)
  refine lO 11 (lS (H1:=[(b,.cells 49 ((es++[LV.agg [int .i64 3,nilSlice,w,str [],int .i64 0]]).flatMap LV.cells++spare))]) (F:=(b3,.cells 72 [int .i64 3,nilSlice,.list (l.map str),str [],int .i64 0])::(p,.cells 3 [int .i64 3])::(o,.cells 44 [.atom (.slice (some ⟨b,0,none⟩) (es.length+1) cap)])::H') rfl (.inl rfl) rfl (show Pick _ _ _ from pT zp2) zhp (S.store (off:=es.length * 5+2) (cs':=(es++[LV.agg [int .i64 3,nilSlice,w',str [],int .i64 0]]).flatMap LV.cells++spare) rfl pH ha'.flat.1 rfl (Nat.ble_eq_true_of_le (show es.length * 5+2+1≤_ by rw[List.length_append,hfl];omega)) (by simp[ha'.flat.2]) (setL_last hes (show 2+1≤5 by decide) rfl) ?_))
  refine lD zk ?_
  refine gaa ?_
  have hm':=grown w'
  have e1:(rs.map fun r=>LV.list (r.map str))++[LV.list (l.map str)]=(rs++[l]).map fun r=>LV.list (r.map str):=by rw[List.map_append];rfl
  rw[e1] at ha'
  exact RetPost.normal rfl rN (H':=(p,.cells 3 [int .i64 3])::(o,.cells 44 [.atom (.slice (some ⟨b,0,none⟩) (es.length+1) cap)])::([(b,.cells 49 ((es++[LV.agg [int .i64 3,nilSlice,w',str [],int .i64 0]]).flatMap LV.cells++spare))]++H')) (zhP pH (zhP zp2 (zhP pH (zhD zhr)))) ⟨_,_,rfl,DocSt.rows hm' he ha',rfl⟩
 ·refine LLate.weakH (H':=(b3,.cells 72 [int .i64 3,nilSlice,.list (l.map str),str [],int .i64 0])::(p,.cells 3 [int .i64 3])::(o,.cells 44 [.atom (.slice (some ⟨b,0,none⟩) (es.length+1) cap)])::(b,.cells 49 ((es++[LV.agg [int .i64 3,nilSlice,w,str [],int .i64 0]]).flatMap LV.cells++spare))::HW) zhr ?_
  refine lO 4 (lH rfl rfl (Pure.loadH (c:=w) rfl zm3 (flat_last hes rfl (by decide))) ?_)
  refine lO 8 (lS (H1:=HW) (F:=[(b3,.cells 72 [int .i64 3,nilSlice,.list (l.map str),str [],int .i64 0]),(p,.cells 3 [int .i64 3]),(o,.cells 44 [.atom (.slice (some ⟨b,0,none⟩) (es.length+1) cap)]),(b,.cells 49 ((es++[LV.agg [int .i64 3,nilSlice,w,str [],int .i64 0]]).flatMap LV.cells++spare))]) rfl (.inl rfl) rfl (List.perm_append_comm (l₁:=[_,_,_,_]) (l₂:=HW)) zhp (S.acc (ms:=[.list (l.map str)]) rfl ha rfl (by simp[LV.cells]) rfl (by simp only[List.length_map,List.length_cons,List.length_nil];omega) fun w' H' ha'=>?_))
  refine LLate.weakH (H':=(b3,.cells 72 [int .i64 3,nilSlice,.list (l.map str),str [],int .i64 0])::(p,.cells 3 [int .i64 3])::(o,.cells 44 [.atom (.slice (some ⟨b,0,none⟩) (es.length+1) cap)])::(b,.cells 49 ((es++[LV.agg [int .i64 3,nilSlice,w,str [],int .i64 0]]).flatMap LV.cells++spare))::H') ⟨[],by rw[List.append_nil];exact List.perm_append_comm (l₁:=H') (l₂:=[_,_,_,_])⟩ ?_
  refine lO 9 (lH rfl rfl (Pure.nilCheckH rfl) ?_)
  refine lO 10 (lH rfl rfl (Pure.fieldH rfl) ?_)
  refine lO 11 (lS (H1:=[(b,.cells 49 ((es++[LV.agg [int .i64 3,nilSlice,w,str [],int .i64 0]]).flatMap LV.cells++spare))]) (F:=(b3,.cells 72 [int .i64 3,nilSlice,.list (l.map str),str [],int .i64 0])::(p,.cells 3 [int .i64 3])::(o,.cells 44 [.atom (.slice (some ⟨b,0,none⟩) (es.length+1) cap)])::H') rfl (.inl rfl) rfl (show Pick _ _ _ from pT zp2) zhp (S.store (off:=es.length * 5+2) (cs':=(es++[LV.agg [int .i64 3,nilSlice,w',str [],int .i64 0]]).flatMap LV.cells++spare) rfl pH ha'.flat.1 rfl (Nat.ble_eq_true_of_le (show es.length * 5+2+1≤_ by rw[List.length_append,hfl];omega)) (by simp[ha'.flat.2]) (setL_last hes (show 2+1≤5 by decide) rfl) ?_))
  refine lD zk ?_
  refine gaa ?_
  have hm':=grown w'
  have e1:(rs.map fun r=>LV.list (r.map str))++[LV.list (l.map str)]=(rs++[l]).map fun r=>LV.list (r.map str):=by rw[List.map_append];rfl
  rw[e1] at ha'
  exact RetPost.normal rfl rN (H':=(p,.cells 3 [int .i64 3])::(o,.cells 44 [.atom (.slice (some ⟨b,0,none⟩) (es.length+1) cap)])::([(b,.cells 49 ((es++[LV.agg [int .i64 3,nilSlice,w',str [],int .i64 0]]).flatMap LV.cells++spare))]++H')) (zhP pH (zhP zp2 (zhP pH (zhD zhr)))) ⟨_,_,rfl,DocSt.rows hm' he ha',rfl⟩
end
end Go.Proofs.YtocofhbdbgnmbaaGreatDoor
namespace Go.GL
theorem Env.upd_upd {e:Env} {d:Nat} {a b:LV}:(e.upd d a).upd d b=e.upd d b:=by
 simp only[Env.upd,Env.mk.injEq,and_true]
 funext i
 cases Nat.beq i d <;> rfl
section
variable {C:Ctx} {n:Nat} {Q:Post} {e:Env} {H F:Heap}
theorem LOps.rowOut {ops:Array Oper} {rest:List Oper} (d:Nat) {el s:Nat} {v:Value} {es es':List LV} {HM:Heap} (hm:MRow el s v es HM) (hp:H.Perm (HM++F)) (hd:e.s d=.atom v) (hl:es'.length=es.length) (hs':∀ v∈es',v.cells.length=s) (hsub:SubL (es.flatMap LV.cells) (es'.flatMap LV.cells))
  (h:LOps C n ops Q rest (e.upd d (.list es')) F):LOps C n ops Q rest e H:=by
 cases hm with
 |nil=>
  obtain rfl:es'=[]:=List.length_eq_zero_iff.1 (by simpa using hl)
  refine LOps.weak (H':=F) ⟨[],by simpa using hp⟩ ?_
  exact LOps.sub d hd LV.Sub.nil h
 |row hs hc hcap=>
  rename_i b cap spare
  refine LOps.subC (cs':=es'.flatMap LV.cells++spare) (SubL.app hsub (SubL.refl _)) hp ?_
  have hm':=MRow.row (el:=el) (s:=s) (b:=b) (cap:=cap) (es:=es') (spare:=spare) hs' zo (by rw[hl];exact hcap)
  rw[hl] at hm'
  refine LOps.settle d hm' zpr hd fun v' H' ha=>?_
  refine LOps.weak ha.hsub ?_
  refine LOps.sub d (v:=v') (by simp[Env.upd]) ha.sub ?_
  rw[Env.upd_upd]
  exact h
end
end Go.GL
namespace Go.Proofs.YtocofhbdbgnmbaaGreatDoor
open Go.GL Go.RowKit Go.Stele
set_option maxRecDepth 100000
set_option maxHeartbeats 4000000
attribute [local irreducible] LOps LCode LStep LCalls Go.GL.Pure QThen QBlock RetPost LQ LAny LLate LLateOp
theorem bw_words (b:Blk):b.words.length≤bw b∧b.rows.length≤bw b:=by
 have h1:∀ l:List Wd,l.length≤(l.map fun w=>w.length+1).sum:=by
  intro l
  induction l with
  |nil=>simp
  |cons a l ih=>simp only[List.map_cons,List.sum_cons,List.length_cons];omega
 have h2:∀ l:List (List Wd),l.length≤(l.map fun r=>(r.map fun c=>c.length+3).sum+2).sum:=by
  intro l
  induction l with
  |nil=>simp
  |cons a l ih=>simp only[List.map_cons,List.sum_cons,List.length_cons];omega
 have:=h1 b.words
 have:=h2 b.rows
 unfold bw
 omega
theorem bws_len:∀ l:List Blk,l.length≤bws l
 |[]=>Nat.le_refl _
 |b::l=>by
  have:=bws_len l
  have h:6≤bw b:=by unfold bw;omega
  simp only[bws,List.map_cons,List.sum_cons,List.length_cons] at this ⊢
  omega
theorem setL_zero {zs vs:List LV} (h:vs.length=zs.length):setL zs 0 vs=vs:=by
 rw[setL_eq _ _ _ zo]
 simp[h]
section
variable {B0:Nat} {w0:World}
theorem emit_spec (p o:Nat) (out:List Blk) (op:Nat) (v:Value) (HD:Heap) (b:Blk) (cs:List LV) (HL:Heap) (hst:DocSt out op v HD) (hl:LineSt b cs HL) (hn:bws out≤1000000) (hb:b.words.length≤1000000) :
  LCalls (KC B0 w0) 33 [.agg cs,ptr p 0,ptr o 0] ((p,.cells 3 [int .i64 op])::(o,.cells 44 [.atom v])::(HD++HL)) (RetDoc p o (emitP out op b) b.kind):=by
 have hol:=bws_len out
 cases hl with
 |blank=>
  rw[List.append_nil]
  have:emitP out op ⟨0,[],[],[],0⟩=out:=by unfold emitP;rw[if_pos rfl]
  rw[this]
  exact emit_blank p o out op v HD hst
 |head ws=>
  have:emitP out op ⟨1,ws,[],[],0⟩=out++[⟨1,ws,[],[],0⟩]:=by
   unfold emitP
   rw[if_neg (by simp),if_neg (fun h=>by have:=h.1;have:=h.2;simp only at *;omega),if_neg (fun h=>by have:=h.1;have:=h.2;simp only at *;omega)]
  rw[this]
  refine LCalls.mono (emit_new p o out op v HD hst zo 1 (.inl rfl) zo (.list (ws.map str)) ws zsr rfl rfl [] 0 []) ?_
  rintro r H ⟨v',es,HM,rfl,he,hm,rfl⟩
  rw[List.append_nil]
  exact ⟨v',HM,rfl,DocSt.plain hm (he.snoc rfl ⟨LV.Sub.refl _,LV.Sub.refl _,LV.Sub.nil,LV.Sub.refl _,LV.Sub.refl _,trivial⟩) ⟨(by simp),by simp⟩,rfl⟩
 |para b2 cap ws=>
  by_cases h2:op=2
  ·subst h2
   cases hst with
   |plain hm he hop=>exact absurd rfl hop.1
   |words hm he ha=>
    rename_i init es HM HW w ws0
    have h3:=(bw_words ⟨2,ws0,[],[],0⟩).1
    rw[bws_app] at hn
    simp only[bws,List.map_cons,List.sum_cons,List.map_nil,List.sum_nil] at hn h3
    have:emitP (init++[⟨2,ws0,[],[],0⟩]) 2 ⟨2,ws,[],[],0⟩=init++[⟨2,ws0++ws,[],[],0⟩]:=by
     unfold emitP
     rw[if_neg (by simp),if_neg (by simp),if_pos ⟨rfl,rfl⟩,onLast_snoc]
    rw[this]
    rw[List.length_append] at hol
    exact emit_words p o init es v HM HW w ws0 hm he ha (by have:=bws_len init;unfold bws at this;omega) zo b2 cap ws hb _
  ·have:emitP out op ⟨2,ws,[],[],0⟩=out++[⟨2,ws,[],[],0⟩]:=by
    unfold emitP
    rw[if_neg (by simp),if_neg (fun h=>by have:=h.1;have:=h.2;simp only at *;omega),if_neg (fun h=>by have:=h.1;have:=h.2;simp only at *;omega)]
   rw[this]
   refine LCalls.mono (emit_new p o out op v HD hst zo 2 (.inr (.inl rfl)) zo (.app b2 cap 1 (ws.map str)) ws (LV.Sub.app _ _ _ _) rfl rfl [] 0 _) ?_
   rintro r H ⟨v',es,HM,rfl,he,hm,rfl⟩
   exact ⟨v',_,rfl,DocSt.words hm he Acc.row,rfl⟩
 |row l=>
  rw[List.append_nil]
  by_cases h3:op=3
  ·subst h3
   cases hst with
   |plain hm he hop=>exact absurd rfl hop.2
   |rows hm he ha=>
    rename_i init es HM HW w rs
    have h4:=(bw_words ⟨3,[],rs,[],0⟩).2
    rw[bws_app] at hn
    simp only[bws,List.map_cons,List.sum_cons,List.map_nil,List.sum_nil] at hn h4
    have:emitP (init++[⟨3,[],rs,[],0⟩]) 3 ⟨3,[],[l],[],0⟩=init++[⟨3,[],rs++[l],[],0⟩]:=by
     unfold emitP
     rw[if_neg (by simp),if_pos ⟨rfl,rfl⟩,onLast_snoc]
    rw[this]
    exact emit_rows p o init es v HM HW w rs hm he ha (by have:=bws_len init;unfold bws at this;omega) zo l
  ·have:emitP out op ⟨3,[],[l],[],0⟩=out++[⟨3,[],[l],[],0⟩]:=by
    unfold emitP
    rw[if_neg (by simp),if_neg (fun h=>by have:=h.1;have:=h.2;simp only at *;omega),if_neg (fun h=>by have:=h.1;have:=h.2;simp only at *;omega)]
   rw[this]
   exact emit_row p o out op v HD hst zo h3 l
 |pic n r=>
  have:emitP out op ⟨4,[],[],r,n⟩=out++[⟨4,[],[],r,n⟩]:=by
   unfold emitP
   rw[if_neg (by simp),if_neg (fun h=>by have:=h.1;have:=h.2;simp only at *;omega),if_neg (fun h=>by have:=h.1;have:=h.2;simp only at *;omega)]
  rw[this]
  refine LCalls.mono (emit_new p o out op v HD hst zo 4 (.inr (.inr rfl)) zo nilSlice [] LV.Sub.nil rfl rfl r n []) ?_
  rintro r H ⟨v',es,HM,rfl,he,hm,rfl⟩
  rw[List.append_nil]
  exact ⟨v',HM,rfl,DocSt.plain hm (he.snoc rfl ⟨LV.Sub.refl _,LV.Sub.nil,LV.Sub.nil,LV.Sub.refl _,LV.Sub.refl _,trivial⟩) ⟨(by simp),by simp⟩,rfl⟩
def docLV:Except (Nat×Nat) (List Blk)→LV
 |.ok l=>.tuple [.list (l.map encB),int .i64 0,int .i64 0]
 |.error (n,e)=>.tuple [.list [],int .i64 n,int .i64 e]
theorem parse_spec (hG:GW B0 w0) (text:List UInt8) (hs:text.length≤100000000):LCalls (KC B0 w0) 18 [str text] [] (Ret (docLV (docP text))):=by
 have hcnt:=pieces_cnt 10 text
 have hpl:=pieces_len 10 text
 have hne:pieces 10 text≠[]:=by
  obtain ⟨p,ps,h⟩:=pieces_ne 10 text
  rw[h];simp
 have hpieces:∀ q∈pieces 10 text,q.length≤text.length:=fun q hq=>by
  have:∀ (l:List Wd) (p:Wd),p∈l→p.length+1≤(l.map fun w=>w.length+1).sum:=by
   intro l
   induction l with
   |nil=>intro p hp;cases hp
   |cons a l ih=>
    intro p hp
    rcases List.mem_cons.1 hp with rfl|hp
    ·simp only[List.map_cons,List.sum_cons];omega
    ·have:=ih p hp
     simp only[List.map_cons,List.sum_cons];omega
  have:=this _ q hq
  rw[hpl] at this
  omega
 have hD:docP text=if 20000<text.length then .error (0,6) else docF 0 [] 0 (pieces 10 text):=rfl
 refine cI Tryz.func18 rfl (n:=39) rfl rfl rfl ?_
 refine gaa ?_
 refine oC rfl (fun h=>?_) (fun h=>?_)
 ·have h2:20000<text.length:=by have:=zt h;omega
  refine gaf ?_
  exact retRet rfl (rC (rT (v:=nilSlice) rfl LV.Sub.nil) (rC (zrt rfl) (zra rfl))) (by rw[hD,if_pos h2];rfl)
 ·have h2:¬ 20000<text.length:=by have:=zf h;omega
  rw[if_neg h2,docF_S] at hD
  refine gae ?_
  refine oS (S.alloc fun o=>?_) rfl
  refine gaj ?_
  refine oS (S.alloc fun p=>?_) rfl
  refine gaa ?_
  refine oS (S.call0 [_,_] rfl (split_spec hG text 10 zo) (fun v H' hh=>?_) (by rintro ch H' ⟨v,h,_⟩;cases h)) rfl
  obtain ⟨v,hv,hm⟩:=hh
  cases hv
  refine LOps.settleNe 17 hm (by simpa using hne) zpr rfl fun b cap=>?_
  refine LOps.weak (H':=[(p,.cells 3 [int .i64 0]),(o,.cells 44 [nilSlice])]) (zhD zhr) ?_
  refine LOps.sub 17 (v:=.app b cap 1 ((pieces 10 text).map str)) rfl (LV.Sub.app _ _ _ _) ?_
  generalize hls:pieces 10 text=ls at *
  have hla:(ls.map str).length=ls.length:=List.length_map _
  refine gab ?_
  refine oL (fun k sl H=>∃ (i:Nat) (out:List Blk) (op:Nat) (v:Value) (HD:Heap),i≤ls.length∧k=ls.length-i∧DocSt out op v HD∧docS 0 [] 0 ls=docS i out op (ls.drop i)∧docS 0 [] 0 (ls.take i)=.ok (out,op) ∧
    sl=[(5,ptr o 0),(6,ptr p 0),(7,.atom (.func (.func 33) #[] #[.pointer (some ⟨p,0,none⟩),.pointer (some ⟨o,0,none⟩)])),(17,.list (ls.map str)),(18,int .i64 ls.length),(19,int .i64 i)]∧H=(p,.cells 3 [int .i64 op])::(o,.cells 44 [.atom v])::HD)
   ⟨_,_,_,⟨0,[],0,.slice none 0 0,[],Nat.zero_le _,rfl,DocSt.plain MRow.nil trivial ⟨by decide,by decide⟩,rfl,rfl,rfl,rfl⟩,⟨rfl,rfl,rfl,rfl,int_eq zo,rfl,trivial⟩,HSub.refl _⟩ ?_
  rintro k sl H ⟨i,out,op,v,HD,hi,rfl,hst,hS,hT,rfl,rfl⟩ j1 hj1
  refine gaj ?_
  refine oC rfl (fun hc=>?_) (fun hc=>?_)
  ·have hlt:i<ls.length:=by have:=zt hc;omega
   have hq:=hpieces ls[i] (List.getElem_mem hlt)
   have hbw:bws out≤0+4 * ((ls.take i).map fun w=>w.length+1).sum:=docS_bws _ _ _ _ _ _ hT
   have htk:((ls.take i).map fun w=>w.length+1).sum≤(ls.map fun w=>w.length+1).sum:=by
    conv=>rhs;rw[←List.take_append_drop i ls]
    rw[List.map_append,List.sum_append]
    omega
   have hbw2:bws out≤1000000:=by omega
   rw[List.drop_eq_getElem_cons hlt,docS] at hS
   refine gae ?_
   refine oP (xR (el':=str ls[i]) (cs:=[str ls[i]]) rfl rfl zo (map_get _ _ _ hlt) rfl rfl) rfl ?_
   refine gaa ?_
   refine oS (S.call0 [_] rfl (classify_spec hG ls[i] zo) (fun v' H' hh=>?_) (by rintro ch H' ⟨cs,e,h,_⟩;cases h)) rfl
   obtain ⟨cs,er,hv',h5,hok,hL⟩:=hh
   cases hv'
   refine LOps.perm (H':=(p,.cells 3 [int .i64 op])::(o,.cells 44 [.atom v])::(HD++H')) (List.perm_append_comm (l₁:=H') (l₂:=_::_::HD)) ?_
   refine gab ?_
   refine oS (S.alloc fun b10=>?_) rfl
   refine oS (S.store (cs':=cs) rfl pH rfl h5 rfl hok (setL_zero h5) ?_) rfl
   refine gaa ?_
   refine oC rfl (fun h=>?_) (fun h=>?_)
   ·cases hl:lineP ls[i] with
    |ok x=>
     rw[hl] at hL
     exact absurd hL.1 (zf (not_t h))
    |error x=>
     rw[hl] at hL hS
     obtain ⟨rfl,_⟩:=hL
     refine gaa ?_
     exact retRet hj1 (rC (rT (v:=nilSlice) rfl LV.Sub.nil) (rC (zrt rfl) (zra rfl))) (by rw[hD,hS];rfl)
   ·have he0:er=0:=zt (not_f h)
    cases hl:lineP ls[i] with
    |error x=>
     rw[hl] at hL
     omega
    |ok x=>
     rw[hl] at hL hS
     have hbx:x.words.length≤1000000:=by
      by_cases hx:x.kind=0
      ·have h:=hL.2
       cases h <;> simp_all
      ·have:=lineP_bw hl hx
       have:=(bw_words x).1
       omega
     refine gae ?_
     refine oP (Pure.ldHAgg (cs':=cs) rfl zm0 (by rw[h5];rfl) (by rw[List.drop_zero,List.take_of_length_le zo])) rfl ?_
     refine oS (S.callV (f:=33) (H1:=(p,.cells 3 [int .i64 op])::(o,.cells 44 [.atom v])::(HD++H')) (F:=[(b10,.cells 72 cs)]) [_] rfl rfl (List.perm_append_comm (l₁:=[_]) (l₂:=_::_::(HD++H'))) (emit_spec p o out op v HD x cs H' hst hL.2 hbw2 hbx) (fun v2 H2 hh=>?_) (by rintro ch H2 ⟨v2,h2,h,_⟩;cases h)) rfl
     obtain ⟨v2,HD2,hv2,hst2,rfl⟩:=hh
     cases hv2
     refine gac ?_
     exact ⟨_,_,_,by omega,⟨i+1,_,_,v2,HD2,by omega,rfl,hst2,hS,by
      rw[List.take_succ_eq_append_getElem hlt,docS_app,hT]
      simp only[docS,hl],rfl,rfl⟩,⟨rfl,rfl,rfl,rfl,rfl,int_eq zo,trivial⟩,HSub.app _ _,hj1⟩
  ·have hi':i=ls.length:=by have:=zf hc;omega
   subst hi'
   rw[List.drop_length,docS] at hS
   rw[hS] at hD
   obtain ⟨es,HM,HW,hm2,he,rfl⟩:=hst.view
   repeat (first|refine LOps.nil ?_|refine LCode.seq ?_|refine LCode.region ?_|refine LCode.exit ?_|refine LCode.skip ?_|refine QThen.normal ?_|refine QThen.exit ?_|refine QBlock.hit ?_|refine QBlock.normal ?_)
   refine oP (Pure.loadH (c:=.atom v) rfl zm1 rfl) rfl ?_
   refine LOps.rowOut (es':=out.map encB) (F:=(p,.cells 3 [int .i64 op])::(o,.cells 44 [.atom v])::HW) 38 hm2 (List.perm_append_comm_assoc [_,_] HM HW) rfl (by rw[List.length_map,he.len]) (fun v hv=>by
    obtain ⟨x,_,rfl⟩:=List.mem_map.1 hv
    rfl) he.sub ?_
   refine gab ?_
   exact retRet hj1 (rC (rT (v:=.list _) rfl zsr) (rC (zrt rfl) (zra rfl))) (by rw[hD];rfl)
end
end Go.Proofs.YtocofhbdbgnmbaaGreatDoor
namespace Go.Proofs.YtocofhbdbgnmbaaGreatDoor
open Go.GL Go.RowKit Go.Stele
set_option maxRecDepth 100000
set_option maxHeartbeats 4000000
attribute [local irreducible] LOps LCode LStep LCalls Go.GL.Pure QThen QBlock RetPost LQ LAny LLate LLateOp LCodeR LOpsW RetPostM LIter LYield
def wrapR (l:List Wd) (w:Int):List Wd:=if wrapE l w=0 then wrapP l w.toNat else []
def RetWrap (l:List Wd) (w:Int) (r:LRes) (H:Heap):Prop:=∃ v,r=.ret (.tuple [.atom v,int .i64 (wrapE l w)])∧MRow 9 1 v ((wrapR l w).map str) H
theorem wrapE_zero {l:List Wd} {w:Int} (h:wrapE l w=0):∃ n:Nat,w=n∧1≤n∧n≤200∧l.all okWord=true:=by
 rw[wrapE_eq] at h
 split at h
 ·cases h
 ·split at h
  ·exact ⟨w.toNat,by omega,by omega,by omega,by assumption⟩
  ·cases h
def outQ (w:Nat) (l:List Wd) (q:Nat):List Wd:=((partsP w l).take q).foldl (fun out p=>putW w p out) []
theorem outQ_succ {w:Nat} {l:List Wd} {q:Nat} (h:q<(partsP w l).length):outQ w l (q+1)=putW w (partsP w l)[q] (outQ w l q):=by
 unfold outQ
 rw[List.take_succ_eq_append_getElem h,List.foldl_append]
 rfl
theorem outQ_len {w:Nat} (l:List Wd):∀ q,(outQ w l q).length≤q
 |0=>by simp[outQ]
 |q+1=>by
  have ih:=outQ_len (w:=w) l q
  rcases Nat.lt_or_ge q (partsP w l).length with h|h
  ·rw[outQ_succ h]
   rcases List.eq_nil_or_concat (outQ w l q) with h1|⟨i,a,h1⟩
   ·rw[h1];simp[putW]
   ·rw[List.concat_eq_append] at h1
    rw[h1,put_snoc]
    rw[h1,List.length_append,List.length_cons,List.length_nil] at ih
    split <;> simp <;> omega
  ·have:outQ w l (q+1)=outQ w l q:=by
    unfold outQ
    rw[List.take_of_length_le zo,List.take_of_length_le h]
   rw[this];omega
theorem setL_str {init:List Wd} {a:Wd} {spare:List LV} {x:LV}:setL ((init++[a]).map str++spare) init.length [x]=init.map str++x::spare:=by
 rw[List.map_append,List.append_assoc]
 have:=setL_app (init.map str) ([a].map str++spare) 0 [x]
 rw[List.length_map,Nat.add_zero] at this
 rw[this]
 show _++(x::setL spare 0 [])=_
 have h:setL spare 0 []=spare:=by cases spare <;> rfl
 rw[h]
section
variable {B0:Nat} {w0:World}
theorem wrap_spec (l:List Wd) (w:Int) (hl:l.length≤100000000) (hs:∀ s∈l,s.length≤100000000) (hf:l.flatten.length≤100000000):LCalls (KC B0 w0) 44 [.list (l.map str),int .i64 w] [] (RetWrap l w):=by
 refine LCalls.introN Tryz.func44 rfl (n:=51) rfl rfl rfl ?_
 refine gai ?_
 refine oS (S.box (cs:=[int .i64 w]) rfl fun b3=>?_) rfl
 refine gaa ?_
 refine oS (S.fn [_,_] rfl (pcheck_spec l w hl hs) ?_) rfl
 refine gaa ?_
 refine oC rfl (fun h=>?_) (fun h=>?_)
 ·have he:wrapE l w≠0:=by have:=zf (not_t h);omega
  refine gac ?_
  exact RetPostN.ret0 rfl (rC (zrt rfl) (zra rfl)) zhn ⟨_,rfl,by unfold wrapR;rw[if_neg he];exact MRow.nil⟩
 ·have he:wrapE l w=0:=by have:=zt (not_f h);omega
  obtain ⟨n,rfl,hn1,hn2,hok⟩:=wrapE_zero he
  obtain ⟨pp1,pp2,pp3⟩:=parts_props hn1 l hok
  have hpc:(partsP n l).length≤200000000:=by
   have:∀ q:List Wd,q.length≤len1 q:=by
    intro q
    induction q with
    |nil=>simp
    |cons a q ih=>rw[len1_cons,List.length_cons];omega
   have:=this (partsP n l)
   omega
  refine gae ?_
  refine oS (S.alloc fun b7=>?_) rfl
  refine gaa ?_
  refine oS (S.call0 [_,_] rfl (pieces_spec l n) (fun v H' hh=>?_) (by rintro ch H' ⟨b,c,h,_⟩;cases h)) rfl
  obtain ⟨b,c,hv,rfl⟩:=hh
  cases hv
  refine gad ?_
  refine LCode.rangeFunc (g:=.tmp 18) (ps:=[19]) (caps:=#[.pointer (some ⟨b,0,none⟩),.pointer (some ⟨c,0,none⟩)]) (by rfl) (partsP n l).length (pieceArgs n l) [(b7,.cells 40 [nilSlice]),(b3,.cells 3 [int .i64 n])] [(b,.cells 40 [.list (l.map str)]),(c,.cells 3 [int .i64 n])]
   (List.perm_append_comm (l₁:=[_,_]) (l₂:=[_,_])) (piter_spec b c n l ⟨hn1,hn2⟩ hl hs) (fun k hk=>rfl) (by rfl)
   (fun q Hq=>∃ v HM,MRow 9 1 v ((outQ n l q).map str) HM∧Hq=(b7,.cells 40 [.atom v])::(b3,.cells 3 [int .i64 n])::HM)
   ⟨.slice none 0 0,[],MRow.nil,rfl⟩ ?_ ?_
  ·rintro q Hq hq ⟨v,HM,hm,rfl⟩ j hjd hja y D o oD
   have hj3:j.s 3=ptr b3 0:=hja 3 _ rfl
   have hj7:j.s 7=ptr b7 0:=hja 7 _ rfl
   have hpa:pieceArgs n l q=[str (partsP n l)[q]]:=by
    unfold pieceArgs
    rw[List.getElem?_eq_getElem hq]
    rfl
   obtain ⟨hp1,hp2,_⟩:=pp1 _ (List.getElem_mem hq)
   have hQ:=outQ_succ hq
   have hql:=outQ_len (w:=n) l q
   have hml:((outQ n l q).map str).length=(outQ n l q).length:=List.length_map _
   have hlo:∀ r∈outQ n l q,LineOk n r:=(foldl_props (w:=n) ((partsP n l).take q) (out:=[]) (fun p hp=>pp1 p (List.mem_of_mem_take hp)) (by simp)).1
   generalize (partsP n l)[q]=p at *
   rw[hpa,←Env.slots_self (e:=j) (l:=[(3,ptr b3 0),(7,ptr b7 0)]) (by
    intro p hp
    simp only[List.mem_cons,List.not_mem_nil,or_false] at hp
    rcases hp with rfl|rfl
    ·exact hj3
    ·exact hj7)]
   refine LCodeR.region rfl ?_
   refine gad ?_
   refine ⟨hjd,_,rfl,fun o'=>?_⟩
   refine LCodeR.block ?_
   have hmf:=hm.flat
   rcases List.eq_nil_or_concat (outQ n l q) with h0|⟨init,last,h0⟩
   ·rw[h0] at hm hQ
    refine LCodeR.seq ?_
    refine LCodeR.region rfl ?_
    refine gab ?_
    refine oP (Pure.mlen rfl hm) rfl ?_
    refine oP (Pure.subE (c := -1) rfl rfl rfl zo) rfl ?_
    refine gad ?_
    refine LCodeR.seq ?_
    refine LCodeR.draw (m:=15) rfl [] rfl ?_
    refine aT 0 rfl rfl (Pure.mv (lv:=.atom _) rfl) ?_
    refine aT 1 rfl rfl (Pure.geq rfl rfl) ?_
    refine aT 2 rfl rfl (Pure.mv (lv:=.atom _) rfl) ?_
    refine LAny.takeSkip (i:=3) rfl rfl rfl rfl zk zk zk rfl ?_
    refine LAny.takeSkip (i:=4) rfl rfl rfl rfl zk zk zk rfl ?_
    refine LAny.takeSkip (i:=5) rfl rfl rfl rfl zk zk zk rfl ?_
    refine LAny.takeSkip (i:=6) rfl rfl rfl rfl zk zk zk rfl ?_
    refine LAny.takeSkip (i:=7) rfl rfl rfl rfl zk zk zk rfl ?_
    refine LAny.takeSkip (i:=8) rfl rfl rfl rfl zk zk zk rfl ?_
    refine LAny.takeSkip (i:=9) rfl rfl rfl rfl zk zk zk rfl ?_
    refine LAny.takeSkip (i:=10) rfl rfl rfl rfl zk zk zk rfl ?_
    refine LAny.takeSkip (i:=11) rfl rfl rfl rfl zk zk zk rfl ?_
    refine LAny.takeSkip (i:=12) rfl rfl rfl rfl zk zk zk rfl ?_
    refine LAny.takeSkip (i:=13) rfl rfl rfl rfl zk zk zk rfl ?_
    refine aT 14 rfl rfl (Pure.pickF (lv:=.atom _) rfl rfl) ?_
    refine LAny.late ?_ zhn
    refine lD zk ?_
    refine QThen.normal ?_
    refine LCodeR.cond (t:=false) rfl (fun h=>by cases h) (fun _=>?_)
    refine LCodeR.region rfl ?_
    refine gab ?_
    refine oS (S.lit [_] (es:=[str p]) rfl (eC rfl rfl eN) rfl rfl rfl ?_) rfl
    refine oS (S.appM (F:=[(y,o'),(D,oD),(b7,.cells 40 [.atom v]),(b3,.cells 3 [int .i64 n])]) rfl (by exact List.perm_append_comm (l₁:=[_,_,_,_]) (l₂:=HM)) hm rfl (by simp[LV.cells]) rfl (by simp only[List.length_map,List.length_append,List.length_cons,List.length_nil];omega) fun v' H' hm'=>?_) rfl
    refine LOps.perm (H':=(y,o')::(D,oD)::(b7,.cells 40 [.atom v])::(b3,.cells 3 [int .i64 n])::H') zpr ?_
    refine oS (S.store (cs':=[.atom v']) rfl zp2 hm'.flat.1 rfl rfl (by simp[hm'.flat.2]) rfl ?_) rfl
    refine gah ?_
    exact ⟨_,zhP zp1 (zhP zp1 zhr),v',H',by rw[hQ];simpa [putW] using hm',rfl⟩
   ·rw[List.concat_eq_append] at h0
    rw[h0] at hm hQ hml hql hlo
    rw[put_snoc] at hQ
    obtain ⟨hl1,hl2,_⟩:=hlo last (by simp)
    rw[List.length_append,List.length_cons,List.length_nil] at hml hql
    obtain ⟨bM,cap,spare,rfl,rfl,hcc,hcap⟩:=hm.addr (by simp)
    rw[hml] at hcc hcap hm ⊢
    rw[strs_cells] at hm ⊢
    refine LCodeR.seq ?_
    refine LCodeR.region rfl ?_
    refine gab ?_
    refine oP (Pure.rowLen rfl) rfl ?_
    refine oP (Pure.subE (c:=(init.length:Int)) rfl rfl zo zo) rfl ?_
    refine gad ?_
    refine LCodeR.seq ?_
    refine LCodeR.draw (m:=15) rfl [(y,o'),(D,oD),(b7,.cells 40 [.atom (.slice (some ⟨bM,0,none⟩) (init.length+(0+1)) cap)]),(b3,.cells 3 [int .i64 n]),(bM,.cells 9 ((init++[last]).map str++spare))] rfl ?_
    refine aT 0 rfl rfl (Pure.mv (lv:=.atom _) rfl) ?_
    refine aT 1 rfl rfl (Pure.geqT rfl rfl zo) ?_
    refine aT 2 rfl rfl (Pure.mv (lv:=.atom _) rfl) ?_
    refine LAny.tkW 3 rfl rfl rfl rfl (Pure.loadH (c:=.atom _) rfl zm2 rfl) ?_
    refine LAny.tkW 4 rfl rfl rfl rfl (Pure.mv (lv:=.atom _) rfl) ?_
    refine LAny.tkW 5 rfl rfl rfl rfl (Pure.indexRowE (o:=init.length) rfl rfl zo zo zo) ?_
    refine LAny.tkW 6 rfl rfl rfl rfl (Pure.loadH (c:=str last) rfl zm4 (by
     rw[List.getElem?_append_left (by simp),List.getElem?_map,List.getElem?_append_right (Nat.le_refl _),Nat.sub_self]
     rfl)) ?_
    refine LAny.tkW 7 rfl rfl rfl rfl (Pure.slen rfl) ?_
    refine LAny.tkW 8 rfl rfl rfl rfl (Pure.add rfl rfl zo) ?_
    refine LAny.tkW 9 rfl rfl rfl rfl (Pure.mv (lv:=.atom _) rfl) ?_
    refine LAny.tkW 10 rfl rfl rfl rfl (Pure.slen rfl) ?_
    refine LAny.tkW 11 rfl rfl rfl rfl (Pure.add rfl rfl zo) ?_
    refine LAny.tkW 12 rfl rfl rfl rfl (Pure.loadH (c:=.atom _) rfl zm3 rfl) ?_
    refine LAny.tkW 13 rfl rfl rfl rfl (Pure.leq rfl rfl) ?_
    refine aT 14 rfl rfl (Pure.pickT (lv:=.atom _) rfl rfl) ?_
    refine LAny.late ?_ zhr
    refine lD zk ?_
    refine QThen.normal ?_
    refine LCodeR.cond rfl (fun h=>?_) (fun h=>?_)
    ·have hle:last.length+1+p.length≤n:=by have:=zt h;omega
     rw[if_pos hle] at hQ
     refine LCodeR.region rfl ?_
     refine gab ?_
     refine oP (Pure.indexRowE (o:=init.length) rfl rfl zo zo zo) rfl ?_
     refine oP (Pure.loadH (c:=str last) rfl zm4 (by
      rw[List.getElem?_append_left (by simp),List.getElem?_map,List.getElem?_append_right (Nat.le_refl _),Nat.sub_self]
      rfl)) rfl ?_
     refine gab ?_
     refine oP (Pure.indexRowE (o:=init.length) rfl rfl zo zo zo) rfl ?_
     refine oS (S.store (cs':=init.map str++str (last++([32]++p))::spare) rfl zp4 rfl rfl (Nat.ble_eq_true_of_le (show init.length+1≤_ by simp)) rfl setL_str ?_) rfl
     refine gah ?_
     have hmn:MRow 9 1 (.slice (some ⟨bM,0,none⟩) (init.length+(0+1)) cap) ((init++[last++32::p]).map str) [(bM,.cells 9 ((init++[last++32::p]).map str++spare))]:=MRow.of_cells (strs_len _) (strs_cells _) (by simp) hcc zo
     have e1:(init++[last++32::p]).map str++spare=init.map str++str (last++([32]++p))::spare:=by simp
     rw[e1] at hmn
     exact ⟨_,zhP zp1 (zhP zp1 ⟨[],by rw[List.append_nil];exact (List.perm_append_comm (l₁:=[_]) (l₂:=[_,_]))⟩),_,_,by rw[hQ];exact hmn,rfl⟩
    ·have hle:¬ last.length+1+p.length≤n:=by have:=zf h;omega
     rw[if_neg hle] at hQ
     refine LCodeR.region rfl ?_
     refine gab ?_
     refine oS (S.lit [_] (es:=[str p]) rfl (eC rfl rfl eN) rfl rfl rfl ?_) rfl
     refine oS (S.appM (F:=[(y,o'),(D,oD),(b7,.cells 40 [.atom (.slice (some ⟨bM,0,none⟩) (init.length+(0+1)) cap)]),(b3,.cells 3 [int .i64 n])]) rfl (by exact List.perm_append_comm (l₁:=[_,_,_,_]) (l₂:=[_])) hm rfl (by simp[LV.cells]) rfl (by simp only[List.length_map,List.length_append,List.length_cons,List.length_nil];omega) fun v' H' hm'=>?_) rfl
     refine LOps.perm (H':=(y,o')::(D,oD)::(b7,.cells 40 [.atom (.slice (some ⟨bM,0,none⟩) (init.length+(0+1)) cap)])::(b3,.cells 3 [int .i64 n])::H') zpr ?_
     refine oS (S.store (cs':=[.atom v']) rfl zp2 hm'.flat.1 rfl rfl (by simp[hm'.flat.2]) rfl ?_) rfl
     refine gah ?_
     exact ⟨_,zhP zp1 (zhP zp1 zhr),v',H',by rw[hQ];simpa [putW] using hm',rfl⟩
  ·rintro D H' ⟨v,HM,hm,rfl⟩
   refine gac ?_
   refine oP (Pure.loadH (c:=.atom v) rfl zm1 rfl) rfl ?_
   refine gad ?_
   exact RetPostN.ret1 rfl _ (pH) (rC (zrt rfl) (zra rfl)) ⟨_,by
    show ((b7,.cells 40 [.atom v])::(b3,.cells 3 [int .i64 n])::(HM++_)).Perm _
    exact List.perm_append_comm_assoc [_,_] HM _⟩ ⟨v,by rw[he];rfl,by
    unfold wrapR
    rw[if_pos he]
    have:outQ n l (partsP n l).length=wrapP l n:=by unfold outQ wrapP;rw[List.take_length]
    rw[this] at hm
    exact hm⟩
end
end Go.Proofs.YtocofhbdbgnmbaaGreatDoor
namespace Go.Proofs.YtocofhbdbgnmbaaGreatDoor
open Go.GL Go.RowKit Go.Stele
set_option maxRecDepth 100000
set_option maxHeartbeats 4000000
attribute [local irreducible] LOps LCode LStep LCalls Go.GL.Pure QThen QBlock RetPost LQ LAny LLate LLateOp
def headR (l:List Wd) (w:Int):List Wd:=if wrapE l w=0 then headP l w.toNat else []
def RetHead (l:List Wd) (w:Int) (r:LRes) (H:Heap):Prop:=∃ v,r=.ret (.tuple [.atom v,int .i64 (wrapE l w)])∧MRow 9 1 v ((headR l w).map str) H
theorem longest_snoc (l:List Wd) (s:Wd):longest (l++[s])=max (longest l) s.length:=by unfold longest;rw[List.foldl_append];rfl
theorem longest_le {n:Nat}:∀ l:List Wd,(∀ s∈l,s.length≤n)→longest l≤n:=by
 intro l
 induction h:l.length generalizing l with
 |zero=>
  intro _
  rw[List.length_eq_zero_iff.1 h]
  exact Nat.zero_le _
 |succ k ih=>
  intro hl
  rcases List.eq_nil_or_concat l with rfl|⟨i,a,rfl⟩
  ·simp at h
  ·rw[List.concat_eq_append] at *
   rw[longest_snoc]
   have h1:=ih i (by simpa using h) fun s hs=>hl s (List.mem_append_left _ hs)
   have h2:=hl a (by simp)
   omega
section
variable {B0:Nat} {w0:World}
theorem heading_spec (l:List Wd) (w:Int) (hl:l.length≤100000000) (hs:∀ s∈l,s.length≤100000000) (hf:l.flatten.length≤100000000):LCalls (KC B0 w0) 42 [.list (l.map str),int .i64 w] [] (RetHead l w):=by
 refine cI Tryz.func42 rfl (n:=41) rfl rfl rfl ?_
 refine gac ?_
 refine oS (S.call0 [_,_] rfl (wrap_spec l w hl hs hf) (fun v H' hh=>?_) (by rintro ch H' ⟨v,h,_⟩;cases h)) rfl
 obtain ⟨v,hv,hm⟩:=hh
 cases hv
 rw[List.append_nil]
 refine gaa ?_
 refine oB 19 rfl (fun h=>?_) (fun h=>?_)
 ·have he:wrapE l w≠0:=by have:=zf (not_t h);omega
  refine gah ?_
  refine oC rfl (fun _=>?_) (fun h=>by cases h)
  refine gac ?_
  exact rR rfl (rC (zrt rfl) (zra rfl)) zhn ⟨_,rfl,by unfold headR;rw[if_neg he];exact MRow.nil⟩
 ·have he:wrapE l w=0:=by have:=zt (not_f h);omega
  obtain ⟨n,rfl,hn1,hn2,hok⟩:=wrapE_zero he
  have hH:headR l n=if wrapP l n=[] then [] else wrapP l n++[List.replicate (longest (wrapP l n)) 61]:=by unfold headR;rw[if_pos he];rfl
  have hR:wrapR l n=wrapP l n:=by unfold wrapR;rw[if_pos he];rfl
  obtain ⟨wp1,wp2,wp3⟩:=wrap_props hn1 hok
  have hcnt:(wrapP l n).length≤200000000:=by
   have:∀ q:List Wd,q.length≤len1 q:=by
    intro q
    induction q with
    |nil=>simp
    |cons a q ih=>rw[len1_cons,List.length_cons];omega
   have:=this (wrapP l n)
   omega
  have hlg:∀ i,longest ((wrapP l n).take i)≤n:=fun i=>longest_le _ fun s hs=>(wp1 s (List.mem_of_mem_take hs)).2.1
  rw[hR] at hm
  generalize wrapP l n=ls at *
  have hla:(ls.map str).length=ls.length:=List.length_map _
  refine gag ?_
  refine oP (Pure.mlen rfl hm) rfl ?_
  refine gad ?_
  refine oC rfl (fun h=>?_) (fun h=>?_)
  ·have h0:ls=[]:=List.length_eq_zero_iff.1 (by have:=zt h;omega)
   refine gac ?_
   exact rR rfl (rC (zrt rfl) (zra rfl)) zhn ⟨_,rfl,by rw[hH,if_pos h0];exact MRow.nil⟩
  ·have h0:ls≠[]:=fun h0=>by
    rw[h0] at h
    cases h
   rw[if_neg h0] at hH
   obtain ⟨b,cap,spare,rfl,rfl,hc,hcap⟩:=hm.addr (by simpa using h0)
   rw[hla] at hc hcap hm ⊢
   rw[strs_cells] at hm ⊢
   refine gac ?_
   refine oP (Pure.rowLen rfl) rfl ?_
   refine gad ?_
   refine oL (fun k sl H=>∃ i:Nat,i≤ls.length∧k=ls.length-i∧sl=[(6,.atom (.slice (some ⟨b,0,none⟩) ls.length cap)),(7,int .i64 (wrapE l n)),(8,int .i64 (longest (ls.take i))),(25,.atom (.slice (some ⟨b,0,none⟩) ls.length cap)),(26,int .i64 ls.length),(27,int .i64 i)]∧H=[(b,.cells 9 (ls.map str++spare))])
    ⟨_,_,_,⟨0,Nat.zero_le _,rfl,rfl,rfl⟩,⟨rfl,rfl,rfl,rfl,rfl,rfl,trivial⟩,HSub.refl _⟩ ?_
   rintro k sl H ⟨i,hi,rfl,rfl,rfl⟩ j1 hj1
   refine gaj ?_
   refine oC rfl (fun hc=>?_) (fun hc=>?_)
   ·have hlt:i<ls.length:=by have:=zt hc;omega
    refine gae ?_
    refine oP (Pure.indexRowE (o:=i) rfl rfl zo zo zo) rfl ?_
    refine oP (Pure.loadH (c:=str ls[i]) rfl zm0 (by
     rw[List.getElem?_append_left (by rw[List.length_map];exact hlt),List.getElem?_map,List.getElem?_eq_getElem hlt];rfl)) rfl ?_
    refine gaa ?_
    refine oP (Pure.max2e (longest (ls.take i)) (ls[i].length) rfl rfl rfl rfl) rfl ?_
    refine gac ?_
    exact ⟨_,_,_,by omega,⟨i+1,by omega,rfl,rfl,rfl⟩,⟨rfl,rfl,int_eq (by rw[List.take_succ_eq_append_getElem hlt,longest_snoc]),rfl,rfl,int_eq zo,trivial⟩,HSub.refl _,hj1⟩
   ·have hi':i=ls.length:=by have:=zf hc;omega
    subst hi'
    have hlg1:=hlg ls.length
    rw[List.take_length] at hlg1 ⊢
    refine gac ?_
    refine oS (S.fn [_,_] rfl (repeat_spec 61 (longest ls) zo) ?_) rfl
    refine oS (S.lit [_] (es:=[str (List.replicate (longest ls) 61)]) rfl (eC rfl rfl eN) rfl rfl rfl ?_) rfl
    refine oS (S.appM (F:=[]) rfl (by rw[List.append_nil]) hm rfl (by simp[LV.cells]) rfl (by simp only[List.length_map,List.length_cons,List.length_nil];omega) fun v' H' hm'=>?_) rfl
    refine gad ?_
    exact rR hj1 (rC (zrt rfl) (zra rfl)) zhr ⟨v',by rw[he];rfl,by rw[hH,List.map_append];exact hm'⟩
end
end Go.Proofs.YtocofhbdbgnmbaaGreatDoor
namespace Go.Stele
open Go.Lib
def idxL:Nat→List Wd→List (Nat×Wd)
 |_,[]=>[]
 |i,c::r=>(i,c)::idxL (i+1) r
def cellL (rows:List (List Wd)):List (Nat×Wd):=rows.flatMap (idxL 0)
def stepW (ws:List Nat) (p:Nat×Wd):List Nat:=if p.1=ws.length then ws++[max 1 p.2.length] else ws.set p.1 (max ((ws[p.1]?).getD 0) p.2.length)
theorem stepW_row:∀ (r:List Wd) (k:Nat) (ws:List Nat),k≤ws.length→(idxL k r).foldl stepW ws=ws.take k++widen (ws.drop k) r
 |[],k,ws,h=>by
  have:∀ l:List Nat,widen l []=l:=fun l=>by cases l <;> rfl
  rw[idxL,List.foldl_nil,this,List.take_append_drop]
 |c::r,k,ws,h=>by
  rw[idxL,List.foldl_cons]
  by_cases hk:k=ws.length
  ·subst hk
   have h1:stepW ws (ws.length,c)=ws++[max 1 c.length]:=by unfold stepW;rw[if_pos rfl]
   rw[h1,stepW_row r (ws.length+1) _ (by simp),List.drop_length,List.take_length,widen,List.take_of_length_le (by simp),List.drop_eq_nil_of_le (by simp),List.append_assoc]
   rfl
  ·have hlt:k<ws.length:=by omega
   have h1:stepW ws (k,c)=ws.set k (max ws[k] c.length):=by unfold stepW;rw[if_neg hk];simp only[List.getElem?_eq_getElem hlt,Option.getD_some]
   rw[h1,stepW_row r (k+1) _ (by rw[List.length_set];omega),List.drop_eq_getElem_cons hlt,widen]
   have h2:(ws.set k (max ws[k] c.length)).take (k+1)=ws.take k++[max ws[k] c.length]:=by
    rw[List.take_succ_eq_append_getElem (by rw[List.length_set];exact hlt),List.getElem_set_self,List.take_set_of_le (Nat.le_refl _)]
   have h3:(ws.set k (max ws[k] c.length)).drop (k+1)=ws.drop (k+1):=by
    rw[List.drop_set_of_lt (by omega)]
   rw[h2,h3,List.append_assoc]
   rfl
theorem stepW_all:∀ (rows:List (List Wd)) (ws:List Nat),(cellL rows).foldl stepW ws=rows.foldl widen ws
 |[],ws=>rfl
 |r::rows,ws=>by
  have h:cellL (r::rows)=idxL 0 r++cellL rows:=List.flatMap_cons
  rw[h,List.foldl_append,stepW_row r 0 ws (Nat.zero_le _),List.take_zero,List.nil_append,List.drop_zero,stepW_all rows,List.foldl_cons]
theorem widen_len:∀ (ws:List Nat) (r:List Wd),(widen ws r).length=max ws.length r.length
 |ws,[]=>by cases ws <;> simp[widen]
 |[],c::r=>by rw[widen,List.length_cons,widen_len [] r];simp
 |w::ws,c::r=>by rw[widen,List.length_cons,widen_len ws r,List.length_cons,List.length_cons];omega
def widQ (rows:List (List Wd)) (q:Nat):List Nat:=((cellL rows).take q).foldl stepW []
theorem widQ_succ {rows:List (List Wd)} {q:Nat} (h:q<(cellL rows).length):widQ rows (q+1)=stepW (widQ rows q) (cellL rows)[q]:=by
 unfold widQ
 rw[List.take_succ_eq_append_getElem h,List.foldl_append]
 rfl
theorem col_le:∀ (rows:List (List Wd)) (ws:List Nat) (q:Nat) (h:q<(cellL rows).length),(cellL rows)[q].1≤(((cellL rows).take q).foldl stepW ws).length:=by
 have row:∀ (r:List Wd) (k:Nat) (ws:List Nat) (q:Nat) (h:q<(idxL k r).length),k≤ws.length→(idxL k r)[q].1≤(((idxL k r).take q).foldl stepW ws).length:=by
  intro r
  induction r with
  |nil=>intro k ws q h;simp[idxL] at h
  |cons c r ih=>
   intro k ws q h hk
   cases q with
   |zero=>simpa [idxL] using hk
   |succ q=>
    have h1:k+1≤(stepW ws (k,c)).length:=by
     unfold stepW
     split
     ·rw[List.length_append];simp only[List.length_cons,List.length_nil];omega
     ·rw[List.length_set];rename_i hn;simp only at hn;omega
    have:=ih (k+1) (stepW ws (k,c)) q (by simpa [idxL] using h) h1
    simpa [idxL] using this
 intro rows
 induction rows with
 |nil=>intro ws q h;simp[cellL] at h
 |cons r rows ih=>
  intro ws q h
  have hc:cellL (r::rows)=idxL 0 r++cellL rows:=List.flatMap_cons
  rw[hc] at h
  simp only[hc]
  rcases Nat.lt_or_ge q (idxL 0 r).length with hq|hq
  ·rw[List.getElem_append_left hq,List.take_append_of_le_length (by omega)]
   exact row r 0 ws q hq (Nat.zero_le _)
  ·rw[List.getElem_append_right hq,List.take_append,List.take_of_length_le hq,List.foldl_append]
   exact ih _ (q-(idxL 0 r).length) (by rw[List.length_append] at h;omega)
end Go.Stele
namespace Go.Proofs.YtocofhbdbgnmbaaGreatDoor
open Go.GL Go.RowKit Go.Stele
set_option maxRecDepth 100000
set_option maxHeartbeats 4000000
attribute [local irreducible] LOps LCode LStep LCalls Go.GL.Pure QThen QBlock RetPost LQ LAny LLate LLateOp LCodeR LOpsW RetPostM LIter LYield
section
variable {B0:Nat} {w0:World}
def rowsLV (rows:List (List Wd)):LV:=.list (rows.map fun r=>.list (r.map str))
theorem tcells_spec (rows:List (List Wd)):LCalls (KC B0 w0) 101 [rowsLV rows] [] (fun r H=>∃ b:Nat,r=.ret (.atom (.func (.func 126) #[] #[.pointer (some ⟨b,0,none⟩)]))∧H=[(b,.cells 47 [rowsLV rows])]):=by
 refine cI Tryz.func101 rfl (n:=4) rfl rfl rfl ?_
 refine gai ?_
 refine oS (S.box (cs:=[rowsLV rows]) rfl fun b=>?_) rfl
 refine gaa ?_
 exact rR rfl (zra rfl) zhr ⟨b,rfl,rfl⟩
def cellArgs (rows:List (List Wd)) (k:Nat):List LV:=[int .i64 ((((cellL rows)[k]?).getD (0,[])).1:Nat),str (((cellL rows)[k]?).getD (0,[])).2]
theorem cell_at {rows:List (List Wd)} {rest:List (Nat×Wd)} {p:Nat×Wd} {k:Nat} (h:(cellL rows).drop k=p::rest):cellArgs rows k=[int .i64 (p.1:Nat),str p.2]∧k<(cellL rows).length∧(cellL rows).drop (k+1)=rest:=by
 have h1:(cellL rows)[k]? = some p:=by
  have:=congrArg (fun q=>q[0]?) h
  simpa using this
 refine ⟨by unfold cellArgs;rw[h1];rfl,(List.getElem?_eq_some_iff.1 h1).1,?_⟩
 rw[←List.drop_drop,h]
 rfl
theorem citer_spec (b:Nat) (rows:List (List Wd)) (hl:rows.length≤100000000) (hs:∀ r∈rows,r.length≤100000000):LIter (KC B0 w0) 126 [ptr b 0] [(b,.cells 47 [rowsLV rows])] (cellL rows).length (cellArgs rows):=by
 unfold LIter
 intro y J hY H0 h0
 have hla:(rows.map fun r=>LV.list (r.map str)).length=rows.length:=List.length_map _
 refine cI Tryz.func126 rfl (n:=27) rfl rfl rfl ?_
 refine LCode.perm (H':=(b,.cells 47 [.list (rows.map fun r=>.list (r.map str))])::H0) (List.perm_append_comm (l₁:=H0) (l₂:=[_])) ?_
 refine gaa ?_
 refine oL (fun k ls H=>∃ (i q:Nat) (Hq:Heap),i≤rows.length∧k=rows.length-i∧q≤(cellL rows).length∧(cellL rows).drop q=cellL (rows.drop i)∧J q Hq∧ls=[(0,.atom (.func (.yield y) #[] #[])),(1,ptr b 0),(7,.list (rows.map fun r=>.list (r.map str))),(8,int .i64 rows.length),(9,int .i64 i)]∧H=(b,.cells 47 [.list (rows.map fun r=>.list (r.map str))])::Hq)
  ⟨_,_,_,⟨0,0,H0,Nat.zero_le _,rfl,Nat.zero_le _,rfl,h0,rfl,rfl⟩,⟨rfl,rfl,rfl,int_eq zo,rfl,trivial⟩,HSub.refl _⟩ ?_
 rintro k ls H ⟨i,q,Hq,hi,rfl,hql,hdr,hJ,rfl,rfl⟩ j1 hj1
 refine gaj ?_
 refine oC rfl (fun hc=>?_) (fun hc=>?_)
 ·have hlt:i<rows.length:=by have:=zt hc;omega
  have hsl:=hs _ (List.getElem_mem hlt)
  have hc2:cellL (rows.drop i)=idxL 0 rows[i]++cellL (rows.drop (i+1)):=by
   rw[List.drop_eq_getElem_cons hlt]
   exact List.flatMap_cons
  rw[hc2] at hdr
  have hg:(rows.map fun r=>LV.list (r.map str))[((i:Nat):Int).toNat]? = some (.list (rows[i].map str)):=map_get _ _ _ hlt
  generalize hri:rows[i]=r at *
  have hra:(r.map str).length=r.length:=List.length_map _
  refine gae ?_
  refine oP (xR (el':=.list (r.map str)) (cs:=[.list (r.map str)]) rfl rfl zo hg rfl rfl) rfl ?_
  refine gaa ?_
  refine oL (fun k ls H=>∃ (x q:Nat) (Hq:Heap),x≤r.length∧k=r.length-x∧q≤(cellL rows).length∧(cellL rows).drop q=idxL x (r.drop x)++cellL (rows.drop (i+1))∧J q Hq∧ls=[(0,.atom (.func (.yield y) #[] #[])),(1,ptr b 0),(7,.list (rows.map fun r=>.list (r.map str))),(8,int .i64 rows.length),(9,int .i64 i),(13,.list (r.map str)),(14,int .i64 r.length),(15,int .i64 x)]∧H=(b,.cells 47 [.list (rows.map fun r=>.list (r.map str))])::Hq)
   ⟨_,_,_,⟨0,q,Hq,Nat.zero_le _,rfl,hql,hdr,hJ,rfl,rfl⟩,⟨rfl,rfl,rfl,rfl,rfl,rfl,int_eq zo,rfl,trivial⟩,HSub.refl _⟩ ?_
  clear hJ hdr hql
  rintro k ls H ⟨x,q,Hq,hx,rfl,hql,hdr,hJ,rfl,rfl⟩ j2 hj2
  refine gaj ?_
  refine oC rfl (fun hc=>?_) (fun hc=>?_)
  ·have hxl:x<r.length:=by have:=zt hc;omega
   rw[List.drop_eq_getElem_cons hxl,idxL,List.cons_append] at hdr
   obtain ⟨p1,p2,p3⟩:=cell_at hdr
   have hy1:=hY q Hq p2 hJ
   rw[p1] at hy1
   refine gae ?_
   refine oP (xR (el':=str r[x]) (cs:=[str r[x]]) rfl rfl zo (map_get _ _ _ hxl) rfl rfl) rfl ?_
   refine oP (Pure.loadRef (c:=str r[x]) rfl rfl) rfl ?_
   refine gad ?_
   refine LCode.regionW ?_
   refine gab ?_
   refine LOpsW.yield (K:=fun H'=>∃ H1,H'=H1++[(b,.cells 47 [.list (rows.map fun r:List Wd=>LV.list (r.map str))])]∧J (q+1) H1) (H:=(b,.cells 47 [.list (rows.map fun r:List Wd=>LV.list (r.map str))])::Hq) (args:=[_,_]) (avs:=[int .i64 (x:Nat),str r[x]]) rfl rfl (LYield.frame (H:=Hq) (F:=[(b,.cells 47 [.list (rows.map fun r:List Wd=>LV.list (r.map str))])]) (List.perm_append_comm (l₁:=[_]) (l₂:=Hq)) (LYield.mono hy1 fun H1 h1=>⟨H1,rfl,h1⟩)) rfl ?_
   rintro H' ⟨H1,rfl,hJ1⟩
   refine gab ?_
   refine LOpsW.nil ?_
   refine QThen.normal ?_
   refine LCode.weak (H':=(b,.cells 47 [.list (rows.map fun r=>.list (r.map str))])::H1) ⟨[],by rw[List.append_nil];exact List.perm_append_comm (l₁:=H1) (l₂:=[_])⟩ ?_
   refine oC rfl (fun hcc=>by cases hcc) (fun hcc=>?_)
   refine gac ?_
   exact ⟨_,_,_,by omega,⟨x+1,q+1,H1,by omega,rfl,by omega,p3,hJ1,rfl,rfl⟩,⟨rfl,rfl,rfl,rfl,rfl,rfl,rfl,int_eq zo,trivial⟩,HSub.refl _,hj2⟩
  ·have hxl:x=r.length:=by have:=zf hc;omega
   subst hxl
   rw[List.drop_length,idxL,List.nil_append] at hdr
   refine gac ?_
   exact ⟨_,_,_,by omega,⟨i+1,q,Hq,by omega,rfl,hql,hdr,hJ,rfl,rfl⟩,⟨rfl,rfl,rfl,rfl,int_eq zo,trivial⟩,HSub.refl _,hj2.trans hj1⟩
 ·have hi':i=rows.length:=by have:=zf hc;omega
  subst hi'
  rw[List.drop_length] at hdr
  have hq:(cellL rows).length≤q:=by
   have:=congrArg List.length hdr
   rw[List.length_drop] at this
   have h0:(cellL ([]:List (List Wd))).length=0:=rfl
   omega
  obtain rfl:q=(cellL rows).length:=by omega
  refine gad ?_
  exact RetPost.normal hj1 rN ⟨[],by rw[List.append_nil];exact List.perm_append_comm (l₁:=[_]) (l₂:=Hq)⟩ ⟨⟨_,rfl⟩,Hq,rfl,hJ⟩
theorem nats_len (l:List Nat):∀ v∈l.map fun n:Nat=>int .i64 n,v.cells.length=1:=fun v hv=>by
 obtain ⟨n,_,rfl⟩:=List.mem_map.1 hv
 rfl
theorem nats_cells:∀ l:List Nat,(l.map fun n:Nat=>int .i64 n).flatMap LV.cells=l.map fun n:Nat=>int .i64 n
 |[]=>rfl
 |a::l=>by rw[List.map_cons,List.flatMap_cons,nats_cells l];rfl
def natsLV (l:List Nat):List LV:=l.map fun n:Nat=>int .i64 n
theorem widQ_len (rows:List (List Wd)):∀ q,(widQ rows q).length≤q
 |0=>by simp[widQ]
 |q+1=>by
  have ih:=widQ_len rows q
  rcases Nat.lt_or_ge q (cellL rows).length with h|h
  ·rw[widQ_succ h]
   unfold stepW
   split
   ·rw[List.length_append];simp only[List.length_cons,List.length_nil];omega
   ·rw[List.length_set];omega
  ·have:widQ rows (q+1)=widQ rows q:=by
    unfold widQ
    rw[List.take_of_length_le zo,List.take_of_length_le h]
   rw[this];omega
theorem setL_one {l:List LV} {x:Nat} {v:LV} (h:x<l.length):setL l x [v]=l.set x v:=by
 rw[setL_eq _ _ _ (by show x+1≤_;omega),List.set_eq_take_append_cons_drop,if_pos h,List.append_assoc]
 rfl
theorem setL_nat {ws:List Nat} {x n:Nat} {spare:List LV} (h:x<ws.length):setL (natsLV ws++spare) x [int .i64 n]=natsLV (ws.set x n)++spare:=by
 have hl:(natsLV ws).length=ws.length:=List.length_map _
 rw[setL_one (by rw[List.length_append];omega),List.set_append_left _ _ zo]
 unfold natsLV
 rw[List.map_set]
theorem MRow.nats {el b m cap:Nat} {ws:List Nat} {spare:List LV} (hm:ws.length=m) (hc:m≤cap) (hl:m+spare.length=cap):MRow el 1 (.slice (some ⟨b,0,none⟩) m cap) (natsLV ws) [(b,.cells el (natsLV ws++spare))]:=
 MRow.of_cells (nats_len ws) (nats_cells ws) (by unfold natsLV;rw[List.length_map,hm]) hc hl
theorem nats_get {ws:List Nat} {x:Nat} {spare:List LV} (h:x<ws.length):(natsLV ws++spare)[x]? = some (int .i64 (ws[x]:Nat)):=by
 have hl:(natsLV ws).length=ws.length:=List.length_map _
 rw[List.getElem?_append_left zo]
 unfold natsLV
 rw[List.getElem?_map,List.getElem?_eq_getElem h]
 rfl
theorem widths_spec (rows:List (List Wd)) (hl:rows.length≤100000000) (hs:∀ r∈rows,r.length≤100000000) (hc:(cellL rows).length≤100000000) (hcl:∀ p∈cellL rows,p.2.length≤100000000):LCalls (KC B0 w0) 73 [rowsLV rows] [] (Ret (.list (natsLV (widthsP rows)))):=by
 refine LCalls.introN Tryz.func73 rfl (n:=28) rfl rfl rfl ?_
 refine gaf ?_
 refine oS (S.alloc fun b3=>?_) rfl
 refine gac ?_
 refine oS (S.call0 [_] rfl (tcells_spec rows) (fun v H' hh=>?_) (by rintro ch H' ⟨b,h,_⟩;cases h)) rfl
 obtain ⟨b,hv,rfl⟩:=hh
 cases hv
 refine gad ?_
 refine LCode.rangeFunc (g:=.tmp 7) (ps:=[8,9]) (caps:=#[.pointer (some ⟨b,0,none⟩)]) (by rfl) (cellL rows).length (cellArgs rows) [(b3,.cells 108 [nilSlice])] [(b,.cells 47 [rowsLV rows])]
  (List.perm_append_comm (l₁:=[_]) (l₂:=[_])) (citer_spec b rows hl hs) (fun k hk=>rfl) (by rfl)
  (fun q Hq=>∃ v HM,MRow 3 1 v (natsLV (widQ rows q)) HM∧Hq=(b3,.cells 108 [.atom v])::HM)
  ⟨.slice none 0 0,[],MRow.nil,rfl⟩ ?_ ?_
 ·rintro q Hq hq ⟨v,HM,hm,rfl⟩ j hjd hja y D o oD
  have hj3:j.s 3=ptr b3 0:=hja 3 _ rfl
  have hpa:cellArgs rows q=[int .i64 ((cellL rows)[q].1:Nat),str (cellL rows)[q].2]:=by
   unfold cellArgs
   rw[List.getElem?_eq_getElem hq]
   rfl
  have hQ:=widQ_succ hq
  have hcol:(cellL rows)[q].1≤(widQ rows q).length:=col_le rows [] q hq
  have hql:=widQ_len rows q
  have hcc:=hcl _ (List.getElem_mem hq)
  generalize (cellL rows)[q]=p at *
  obtain ⟨x,cw⟩:=p
  simp only at hcol hcc hpa
  generalize widQ rows q=ws at *
  have hml:(natsLV ws).length=ws.length:=List.length_map _
  rw[hpa,←Env.slots_self (e:=j) (l:=[(3,ptr b3 0)]) (by
   intro p hp
   simp only[List.mem_cons,List.not_mem_nil,or_false] at hp
   subst hp
   exact hj3)]
  refine LCodeR.seq ?_
  refine LCodeR.region rfl ?_
  refine gad ?_
  refine LCodeR.region rfl ?_
  refine gad ?_
  refine ⟨hjd,_,rfl,fun o'=>?_⟩
  refine LCodeR.block ?_
  refine LCodeR.seq ?_
  refine LCodeR.seq ?_
  refine LCodeR.region rfl ?_
  refine gab ?_
  refine oP (Pure.mlen rfl hm) rfl ?_
  refine gad ?_
  refine LCodeR.cond rfl (fun h=>?_) (fun h=>?_)
  ·have hxw:x=ws.length:=by have:=zt h;omega
   refine LCodeR.region rfl ?_
   refine gab ?_
   refine oS (S.lit [_] (es:=[int .i64 1]) rfl (eC rfl rfl eN) rfl rfl rfl ?_) rfl
   refine oS (S.appM (F:=[(y,o'),(D,oD),(b3,.cells 108 [.atom v])]) rfl (by exact List.perm_append_comm (l₁:=[_,_,_]) (l₂:=HM)) hm rfl (by simp[LV.cells]) rfl (by simp only[List.length_cons,List.length_nil];omega) fun v' H' hm'=>?_) rfl
   have e1:natsLV ws++[int .i64 1]=natsLV (ws++[1]):=by unfold natsLV;rw[List.map_append];rfl
   have hml2:(natsLV (ws++[1])).length=ws.length+1:=by unfold natsLV;simp
   rw[e1] at hm'
   obtain ⟨bM,cap,spare,rfl,rfl,hcc2,hcap⟩:=hm'.addr (by unfold natsLV;simp)
   rw[hml2] at hcc2 hcap ⊢
   unfold natsLV
   rw[nats_cells]
   refine LOps.perm (H':=(y,o')::(D,oD)::(b3,.cells 108 [.atom v])::[(bM,.cells 3 (natsLV (ws++[1])++spare))]) zpr ?_
   refine oS (S.store (cs':=[.atom (.slice (some ⟨bM,0,none⟩) (ws.length+1) cap)]) rfl zp2 rfl rfl rfl rfl rfl ?_) rfl
   refine LOps.perm (H':=(y,o')::(D,oD)::(b3,.cells 108 [.atom (.slice (some ⟨bM,0,none⟩) (ws.length+1) cap)])::[(bM,.cells 3 (natsLV (ws++[1])++spare))]) (by exact List.perm_append_comm_assoc [_] [_,_] [_]) ?_
   refine gah ?_
   have hx:x<(ws++[1]).length:=by simp;omega
   refine LCodeR.draw (m:=11) rfl [(y,o'),(D,oD),(b3,.cells 108 [.atom (.slice (some ⟨bM,0,none⟩) (ws.length+1) cap)])] rfl ?_
   refine aT 0 rfl rfl (Pure.loadH (c:=.atom _) rfl zm2 rfl) ?_
   refine aT 1 rfl rfl (Pure.mv (lv:=.atom _) rfl) ?_
   refine aT 2 rfl rfl (Pure.loadH (c:=.atom _) rfl zm2 rfl) ?_
   refine aT 3 rfl rfl (Pure.mv (lv:=.atom _) rfl) ?_
   refine aT 4 rfl rfl (Pure.indexRowE (o:=x) rfl rfl zo zo zo) ?_
   refine aT 6 rfl rfl (Pure.mv (lv:=.atom _) rfl) ?_
   refine aT 7 rfl rfl (Pure.slen rfl) ?_
   refine LAny.late ?_ ⟨[_],List.Perm.refl _⟩
   refine lO 5 (lH rfl rfl (Pure.loadH (c:=int .i64 ((ws++[1])[x]'hx:Nat)) rfl zm3 (nats_get hx)) ?_)
   refine lO 8 (lH rfl rfl (Pure.max2e ((ws++[1])[x]'hx) cw.length rfl rfl rfl rfl) ?_)
   refine lO 9 (lH rfl rfl (Pure.indexRowE (o:=x) rfl rfl zo zo zo) ?_)
   refine lO 10 (lS (H1:=[(bM,.cells 3 (natsLV (ws++[1])++spare))]) (F:=[(y,o'),(D,oD),(b3,.cells 108 [.atom (.slice (some ⟨bM,0,none⟩) (ws.length+1) cap)])]) rfl (.inl rfl) rfl (List.perm_append_comm (l₁:=[_,_,_]) (l₂:=[_])) zhr (S.store (off:=x) (cs':=natsLV ((ws++[1]).set x (max ((ws++[1])[x]'hx) cw.length))++spare) rfl pH rfl rfl (Nat.ble_eq_true_of_le (show x+1≤_ by rw[List.length_append];unfold natsLV;rw[List.length_map];omega)) rfl (setL_nat hx) ?_))
   refine lD zk ?_
   refine QThen.normal ?_
   exact ⟨_,⟨[],by
    rw[List.append_nil]
    exact (List.perm_append_comm (l₁:=[_]) (l₂:=[_,_,_]))⟩,_,_,by
    rw[hQ]
    have e2:stepW ws (x,cw)=(ws++[1]).set x (max ((ws++[1])[x]'hx) cw.length):=by
     unfold stepW
     rw[if_pos hxw]
     subst hxw
     simp
    rw[e2]
    exact MRow.nats (by simp) hcc2 zo,rfl⟩
  ·have hxw:x≠ws.length:=by have:=zf h;omega
   have hx:x<ws.length:=by omega
   obtain ⟨bM,cap,spare,rfl,rfl,hcc2,hcap⟩:=hm.addr (by
    intro h0
    have:=congrArg List.length h0
    rw[hml,List.length_nil] at this
    omega)
   rw[hml] at hcc2 hcap ⊢
   unfold natsLV
   rw[nats_cells]
   refine LCodeR.skip ?_
   refine LCodeR.draw (m:=11) rfl [(y,o'),(D,oD),(b3,.cells 108 [.atom (.slice (some ⟨bM,0,none⟩) ws.length cap)])] rfl ?_
   refine aT 0 rfl rfl (Pure.loadH (c:=.atom _) rfl zm2 rfl) ?_
   refine aT 1 rfl rfl (Pure.mv (lv:=.atom _) rfl) ?_
   refine aT 2 rfl rfl (Pure.loadH (c:=.atom _) rfl zm2 rfl) ?_
   refine aT 3 rfl rfl (Pure.mv (lv:=.atom _) rfl) ?_
   refine aT 4 rfl rfl (Pure.indexRowE (o:=x) rfl rfl zo zo zo) ?_
   refine aT 6 rfl rfl (Pure.mv (lv:=.atom _) rfl) ?_
   refine aT 7 rfl rfl (Pure.slen rfl) ?_
   refine LAny.late ?_ ⟨[_],List.Perm.refl _⟩
   refine lO 5 (lH rfl rfl (Pure.loadH (c:=int .i64 ((ws)[x]'hx:Nat)) rfl zm3 (nats_get hx)) ?_)
   refine lO 8 (lH rfl rfl (Pure.max2e ((ws)[x]'hx) cw.length rfl rfl rfl rfl) ?_)
   refine lO 9 (lH rfl rfl (Pure.indexRowE (o:=x) rfl rfl zo zo zo) ?_)
   refine lO 10 (lS (H1:=[(bM,.cells 3 (natsLV (ws)++spare))]) (F:=[(y,o'),(D,oD),(b3,.cells 108 [.atom (.slice (some ⟨bM,0,none⟩) ws.length cap)])]) rfl (.inl rfl) rfl (List.perm_append_comm (l₁:=[_,_,_]) (l₂:=[_])) zhr (S.store (off:=x) (cs':=natsLV ((ws).set x (max ((ws)[x]'hx) cw.length))++spare) rfl pH rfl rfl (Nat.ble_eq_true_of_le (show x+1≤_ by rw[List.length_append];unfold natsLV;rw[List.length_map];omega)) rfl (setL_nat hx) ?_))
   refine lD zk ?_
   refine QThen.normal ?_
   exact ⟨_,⟨[],by
    rw[List.append_nil]
    exact (List.perm_append_comm (l₁:=[_]) (l₂:=[_,_,_]))⟩,_,_,by
    rw[hQ]
    have e2:stepW ws (x,cw)=ws.set x (max (ws[x]'hx) cw.length):=by
     unfold stepW
     rw[if_neg hxw]
     simp only[List.getElem?_eq_getElem hx,Option.getD_some]
    rw[e2]
    exact MRow.nats (by simp) hcc2 zo,rfl⟩
 ·rintro D H' ⟨v,HM,hm,rfl⟩
  refine gac ?_
  refine oP (Pure.loadH (c:=.atom v) rfl zm1 rfl) rfl ?_
  refine LOps.rowOut (es':=natsLV (widQ rows (cellL rows).length)) (F:=(D,.obj (.deferred (some [])))::(b3,.cells 108 [.atom v])::[(b,.cells 47 [rowsLV rows])]) 27 hm (List.perm_append_comm_assoc [_,_] HM _) rfl rfl (nats_len _) (SubL.refl _) ?_
  refine gab ?_
  exact RetPostN.ret1 rfl _ pH (rC (rT (v:=.list _) rfl zsr) rN) zhn ⟨by
   have:widQ rows (cellL rows).length=widthsP rows:=by unfold widQ widthsP;rw[List.take_length,stepW_all]
   rw[this]
   rfl,rfl⟩
end
end Go.Proofs.YtocofhbdbgnmbaaGreatDoor
namespace Go.Proofs.YtocofhbdbgnmbaaGreatDoor
open Go.GL Go.RowKit Go.Stele
set_option maxRecDepth 100000
set_option maxHeartbeats 4000000
def BH (b:Nat) (l:List UInt8) (H:Heap):Prop:=∃ p v Hv,(p=LV.atom (.pointer none)∨p=ptr b 0)∧BRow 5 v l Hv∧H=(b,.cells 30 [p,.atom v])::Hv
theorem lays240:Lays.n240 Tryz.prog Tryz.lays156_ren:={ Tryz.lays156 with }
section
variable {B0:Nat} {w0:World}
theorem copyCheck_spec (b:Nat) (p v:LV) (hp:p=LV.atom (.pointer none)∨p=ptr b 0):LCalls (KC B0 w0) 27 [ptr b 0] [(b,.cells 30 [p,v])]
  (fun r H'=>(∃ x,r=.ret (.atom x))∧H'=[(b,.cells 30 [ptr b 0,v])]):=fun xs w L hv hH=>by
 simp only[RepL] at hv
 obtain ⟨y,ys,rfl,hy,rfl⟩:=hv
 simp only[Rep] at hy
 subst hy
 obtain ⟨hb0,hbs,hl,zs,hx1,hx2⟩:=hH.objs _ (List.mem_singleton.2 rfl)
 simp only at hb0 hbs hl hx1 hx2
 have hz:=hx2
 simp only[RepL] at hz
 obtain ⟨a,as1,rfl,ha,c,as2,rfl,hc,rfl⟩:=hz
 rcases hp with rfl|rfl
 ·simp only[Rep] at ha
  subst ha
  have h0:w.cell? ⟨b,0,none⟩=some (.pointer none):=by simp[World.cell?,hx1]
  have hsh:w.shape? b=some (30,2):=by simp[World.shape?,hx1]
  have hfz:w.frozen? ⟨b,0,none⟩=false:=Go.Lib.frozen_of_heap hx1 0
  refine (Any.Builder_copyCheck_fresh (P:=Tryz.prog) lays240 Tryz.Builder_Extra_156.toX72 b w h0 hsh hfz).mono fun e w' he=>?_
  obtain ⟨rfl,rfl⟩:=he
  refine left_write (w:=w) (w':=w.setCell ⟨b,0,none⟩ (.pointer (some ⟨b,0,none⟩))) (xs':=[.pointer (some ⟨b,0,none⟩),c]) (cs':=[ptr b 0,v]) (lv:=.atom (.tuple #[])) hH rfl rfl rfl (by simp[World.setCell]) (fun d hd=>by simp[World.setCell,Array.getElem?_modify,Ne.symm hd]) (by rw[setCell_heap (xs:=[.pointer none,c]) hx1];rfl) rfl ?_ rep_atom ⟨⟨_,rfl⟩,rfl⟩
  simp only[RepL] at hx2 ⊢
  exact ⟨_,_,rfl,rep_atom,c,[],rfl,hc,rfl⟩
 ·simp only[Rep] at ha
  subst ha
  have h0:w.cell? ⟨b,0,none⟩=some (.pointer (some ⟨b,0,none⟩)):=by simp[World.cell?,hx1]
  refine (Any.Builder_copyCheck_used (P:=Tryz.prog) lays240 Tryz.Builder_Extra_156.toX72 b w h0).mono fun e w' he=>?_
  obtain ⟨rfl,rfl⟩:=he
  exact ⟨.atom (.tuple #[]),_,L,Fr.refl _ _ _,hH,rep_atom,⟨_,rfl⟩,rfl⟩
attribute [local irreducible] LOps LCode LStep LCalls Go.GL.Pure QThen QBlock RetPost LQ LAny LLate LLateOp
theorem writeString_spec (b:Nat) (l m:List UInt8) (H:Heap) (hB:BH b l H) (hlen:l.length+m.length≤10000000000):LCalls (KC B0 w0) 11 [ptr b 0,str m] H (fun r H'=>(∃ x,r=.ret x)∧BH b (l++m) H'):=by
 obtain ⟨p,v,Hv,hp,hacc,rfl⟩:=hB
 refine cI Tryz.func11 rfl (n:=19) rfl rfl rfl ?_
 refine gac ?_
 refine oS (S.callH (H1:=[(b,_)]) (F:=Hv) [_] rfl zpr (copyCheck_spec b p (.atom v) hp) (fun x H' h=>?_) (fun ch H' h=>?_)) rfl
 ·obtain ⟨⟨x',hx'⟩,rfl⟩:=h
  cases hx'
  refine gaa ?_
  refine oS (S.appB1 (q:=(b,.cells 30 [ptr b 0,.atom v])) (l:=l) (m:=m) rfl hacc rfl zo fun v' H' hacc'=>?_) rfl
  refine gab ?_
  have hacc2:=hacc'
  generalize l++m=lm at hacc' hacc2 ⊢
  cases hacc' with
  |nil=>
   refine gaa ?_
   exact rR rfl (rC (zrt rfl) (zra rfl)) zhr ⟨⟨_,rfl⟩,ptr b 0,_,_,.inr rfl,hacc2,rfl⟩
  |row h0 h1 h2=>
   refine gaa ?_
   exact rR rfl (rC (zrt rfl) (zra rfl)) zhr ⟨⟨_,rfl⟩,ptr b 0,_,_,.inr rfl,hacc2,rfl⟩
 ·obtain ⟨⟨x',hx'⟩,_⟩:=h
  cases hx'
end
end Go.Proofs.YtocofhbdbgnmbaaGreatDoor
namespace Go.Proofs.YtocofhbdbgnmbaaGreatDoor
open Go Go.Shelf Go.RowKit
section
variable {P:Program} {ρ:Ren}
set_option maxHeartbeats 4000000 in
set_option maxRecDepth 100000 in
theorem builder_string_row (L:Lays.n169 P ρ) (X:Builder.Extra P ρ) (b g:Nat) (p:Value) (l:List UInt8) (cur:Array Value) (w:World) (hbk:w.heap[b]? = some (.cells #[p,.slice (some ⟨g,0,none⟩) l.length cur.size] (ρ.t 72) (0,0)))
  (hg:w.heap[g]? = some (.cells cur (ρ.t 5) (0,0))) (h0:l≠[]) (hn:l.length≤cur.size) (hbig:l.length≤9223372036854775807) (hcell:∀ (j:Nat) (x:UInt8),l[j]? = some x→cur[j]? = some (.int .u8 x.toNat)) :
  Calls P (ρ.f 169) #[.pointer (some ⟨b,0,none⟩)] w fun e w'=>e=.returned (.string ⟨l.toArray⟩)∧w'=w.drew.freeze ⟨g,0,none⟩ l.length:=by
 have hl0:l.length≠0:=by simpa using h0
 have c1:w.drew.cell? ⟨b,1,none⟩=some (.slice (some ⟨g,0,none⟩) l.length cur.size):=by
  have:w.drew.heap[b]? = some (.cells #[p,.slice (some ⟨g,0,none⟩) l.length cur.size] (ρ.t 72) (0,0)):=hbk
  rw[Lib.cell_of_heap this];rfl
 have hSD:(Builtin.unsafeSliceData_ #[(ρ.t 37)] (ρ.t 127) #[.slice (some ⟨g,0,none⟩) l.length cur.size]).run P w.drew=.ok (.pointer (some ⟨g,0,none⟩)) w.drew:=
  Lib.run_unsafeSliceData_row _ _ _ _ _ _ (by omega)
 have hUS:(Builtin.unsafeString_ #[(ρ.t 127),(ρ.t 3)] (ρ.t 9) #[.pointer (some ⟨g,0,none⟩),.int .i64 l.length]).run P w.drew=.ok (.string ⟨l.toArray⟩) (w.drew.freeze ⟨g,0,none⟩ l.length):=by
  refine Lib.run_unsafeString_row w.drew (ρ.t 127) (ρ.t 3) (ρ.t 9) (ρ.t 5) L.t127 X.cellsByte g cur.size (by have hg':w.drew.heap[g]? = some (.cells cur (ρ.t 5) (0,0)):=hg;simp[World.shape?,hg']) l h0 hn hbig ?_
  intro j x hx
  have hg':w.drew.heap[g]? = some (.cells cur (ρ.t 5) (0,0)):=hg
  have:=hcell j x hx
  rw[Go.GL.add_mk]
  simp[World.cell?,hg',this]
 have mixed:=L.mixed
 have t72:=L.t72;have a72:=L.a72;have z72:=L.z72;have v72:=L.v72;have u72:=run_underlying L.t72
 have t70:=L.t70;have a70:=L.a70;have z70:=L.z70;have v70:=L.v70;have u70:=run_underlying L.t70
 have t37:=L.t37;have a37:=L.a37;have z37:=L.z37;have v37:=L.v37;have u37:=run_underlying L.t37
 have t127:=L.t127;have a127:=L.a127;have z127:=L.z127;have v127:=L.v127;have u127:=run_underlying L.t127
 have t3:=L.t3;have a3:=L.a3;have z3:=L.z3;have v3:=L.v3;have u3:=run_underlying L.t3
 have t9:=L.t9;have a9:=L.a9;have z9:=L.z9;have v9:=L.v9;have u9:=run_underlying L.t9
 have t5:=X.t5;have a5:=X.a5;have z5:=X.z5;have v5:=X.v5;have u5:=run_underlying X.t5
 go_enter L.f169,Body.n169_ntmps ρ
 go_wp2
 go_region_o
 all_goals (go_wp2;go_ret;exact ⟨rfl,rfl⟩)
end
open Go.GL Go.Stele
theorem lays169:Lays.n169 Tryz.prog Tryz.lays156_ren:={ Tryz.lays156 with }
section
variable {B0:Nat} {w0:World}
theorem fr_freeze {C:Ctx} {w:World} {L:Live} {H:Heap} (hH:RelH C w L H) {g n:Nat} (hm:g∈keys H) (hb:C.B0≤g):Fr (keys H) w L (w.drew.freeze ⟨g,0,none⟩ n) L []∧RelH C (w.drew.freeze ⟨g,0,none⟩ n) L []:=by
 have hbl:∀ c,c≠g→(w.drew.freeze ⟨g,0,none⟩ n).heap[c]? = w.heap[c]? := fun c hc=>by
  unfold World.freeze
  split
  ·rfl
  ·simp only[Array.getElem?_modify]
   rw[if_neg (Ne.symm hc)]
   rfl
 have hsz:(w.drew.freeze ⟨g,0,none⟩ n).heap.size=w.heap.size:=by
  unfold World.freeze
  split
  ·rfl
  ·simp
 have hsh:∀ c,(w.drew.freeze ⟨g,0,none⟩ n).shape? c=w.shape? c:=fun c=>by
  by_cases hc:c=g
  ·subst hc
   unfold World.freeze
   split
   ·rfl
   ·simp only[World.shape?,Array.getElem?_modify,if_true]
    show (match Option.map _ w.heap[c]? with|some (Obj.cells c e _)=>some (e,c.size)|_=>none)=_
    cases w.heap[c]? with
    |none=>rfl
    |some o=>cases o <;> rfl
  ·exact shape_of_heap (hbl c hc)
 have hce:∀ c i,(w.drew.freeze ⟨g,0,none⟩ n).cell? ⟨c,i,none⟩=w.cell? ⟨c,i,none⟩:=fun c i=>by
  by_cases hc:c=g
  ·subst hc
   unfold World.freeze
   split
   ·rfl
   ·simp only[World.cell?,Array.getElem?_modify,if_true]
    show (match Option.map _ w.heap[c]? with|some (Obj.cells c e _)=>_|_=>none)=_
    cases w.heap[c]? with
    |none=>rfl
    |some o=>cases o <;> rfl
  ·exact cell_of_heap (hbl c hc) i
 have hos:(w.drew.freeze ⟨g,0,none⟩ n).os=w.os∧(w.drew.freeze ⟨g,0,none⟩ n).tape=w.tape∧(w.drew.freeze ⟨g,0,none⟩ n).output=w.output:=by
  unfold World.freeze
  split <;> exact ⟨rfl,rfl,rfl⟩
 exact ⟨⟨hos.1,hos.2.1,hos.2.2,⟨Nat.le_of_eq hsz.symm,fun c _=>hsh c,fun c i _=>hce c i,fun _=>Nat.le_refl _⟩,fun c _ hc=>hbl c (fun h=>hc (h▸hm)),fun _ _ _=>rfl,by simp⟩,
  ⟨hH.base.trans ⟨hos.1,hos.2.1,hos.2.2,Nat.le_of_eq hsz.symm,fun c hc=>hbl c zo⟩,hH.lbase,by rw[hsz];exact hH.b0,fun c hc=>hH.wf c (by rw[hsz] at hc;exact hc),List.nodup_nil,by simp⟩⟩
theorem string_spec (b:Nat) (l:List UInt8) (H:Heap) (hB:BH b l H) (hlen:l.length≤10000000000):LCalls (KC B0 w0) 15 [ptr b 0] H (Ret (str l)):=fun xs w L hv hH=>by
 obtain ⟨p,v,Hv,hp,hacc,rfl⟩:=hB
 simp only[RepL] at hv
 obtain ⟨y,ys,rfl,hy,rfl⟩:=hv
 simp only[Rep] at hy
 subst hy
 obtain ⟨hb0,hbs,hl,zs,hx1,hx2⟩:=hH.objs _ (List.mem_cons_self ..)
 simp only at hb0 hbs hl hx1 hx2
 simp only[RepL] at hx2
 obtain ⟨a,as1,rfl,ha,c,as2,rfl,hc,rfl⟩:=hx2
 simp only[Rep] at hc
 subst hc
 cases hacc with
 |nil=>
  refine (Any.Builder_String_nil (P:=Tryz.prog) lays169 Tryz.Builder_Extra_156 w.heap.size b a w hx1).mono fun e w' he=>?_
  obtain ⟨rfl,hb⟩:=he
  obtain ⟨h1,h2⟩:=fr_below (hH.sub (List.nil_sublist _)) hb
  exact ⟨str [],[],L,h1.wide (by simp),h2,rep_atom,rfl,rfl⟩
 |row h0 h1 h2=>
  rename_i g xs
  obtain ⟨hg0,hgs,hgl,ws,hw1,hw2⟩:=hH.objs _ (List.mem_cons_of_mem _ (List.mem_singleton.2 rfl))
  simp only at hg0 hgs hgl hw1
  have:=repL_atoms_eq hw2
  subst this
  have hcell:∀ (j:Nat) (x:UInt8),l[j]? = some x→ws.toArray[j]? = some (Value.int .u8 x.toNat):=fun j x hx=>by
   have hj:(bytV l)[j]? = some (Value.int .u8 x.toNat):=by simp[bytV,hx]
   rw[←h2,List.getElem?_take] at hj
   split at hj
   ·simpa using hj
   ·cases hj
  refine (builder_string_row (P:=Tryz.prog) lays169 Tryz.Builder_Extra_156 b g a l ws.toArray w hx1 hw1 h0 (by simpa using h1) zo hcell).mono fun e w' he=>?_
  obtain ⟨rfl,rfl⟩:=he
  obtain ⟨f1,f2⟩:=fr_freeze (n:=l.length) hH (g:=g) (by simp) hg0
  exact ⟨str l,[],L,f1,f2,rep_atom,rfl,rfl⟩
end
end Go.Proofs.YtocofhbdbgnmbaaGreatDoor
namespace Go.Stele
open Go.Lib
def cellT (w:Nat) (c:Wd):Wd:=32::(c++List.replicate (w-c.length) 32++[32,124])
theorem tabCells_cons (w:Nat) (ws:List Nat) (row:List Wd):tabCells (w::ws) row=cellT w ((row[0]?).getD [])++tabCells ws (row.drop 1):=by
 cases row with
 |nil=>simp[tabCells,cellT]
 |cons c r=>simp[tabCells,cellT]
theorem tabCells_snoc:∀ (ws:List Nat) (w:Nat) (row:List Wd),tabCells (ws++[w]) row=tabCells ws row++cellT w ((row[ws.length]?).getD [])
 |[],w,row=>by
  rw[List.nil_append,tabCells_cons]
  simp[tabCells]
 |v::ws,w,row=>by
  rw[List.cons_append,tabCells_cons,tabCells_snoc ws w,tabCells_cons,List.append_assoc,List.getElem?_drop,List.length_cons,Nat.add_comm 1]
theorem widen_ge:∀ (ws:List Nat) (r:List Wd) (k:Nat),(ws[k]?).getD 0≤((widen ws r)[k]?).getD 0∧((r[k]?).getD []).length≤((widen ws r)[k]?).getD 0
 |ws,[],k=>by cases ws <;> simp[widen]
 |[],c::r,0=>by simp[widen];omega
 |[],c::r,k+1=>by
  have:=widen_ge [] r k
  simpa [widen] using this
 |w::ws,c::r,0=>by simp[widen];omega
 |w::ws,c::r,k+1=>by
  have:=widen_ge ws r k
  simpa [widen] using this
theorem widths_ge {rows:List (List Wd)} {r:List Wd} (h:r∈rows) (k:Nat):((r[k]?).getD []).length≤((widthsP rows)[k]?).getD 0:=by
 have mono:∀ (l:List (List Wd)) (ws:List Nat),(ws[k]?).getD 0≤((l.foldl widen ws)[k]?).getD 0:=by
  intro l
  induction l with
  |nil=>intro ws;exact Nat.le_refl _
  |cons a l ih=>intro ws;rw[List.foldl_cons];exact Nat.le_trans (widen_ge ws a k).1 (ih _)
 have:∀ (l:List (List Wd)) (ws:List Nat),r∈l→((r[k]?).getD []).length≤((l.foldl widen ws)[k]?).getD 0:=by
  intro l
  induction l with
  |nil=>intro ws h;cases h
  |cons a l ih=>
   intro ws h
   rw[List.foldl_cons]
   rcases List.mem_cons.1 h with rfl|h
   ·exact Nat.le_trans (widen_ge ws r k).2 (mono l _)
   ·exact ih _ h
 exact this rows [] h
end Go.Stele
namespace Go.Proofs.YtocofhbdbgnmbaaGreatDoor
open Go.GL Go.RowKit Go.Stele
set_option maxRecDepth 100000
set_option maxHeartbeats 4000000
attribute [local irreducible] LOps LCode LStep LCalls Go.GL.Pure QThen QBlock RetPost LQ LAny LLate LLateOp
section
variable {B0:Nat} {w0:World}
theorem writeByte_spec (b:Nat) (l:List UInt8) (c:UInt8) (H:Heap) (hB:BH b l H) (hlen:l.length≤9000000000):LCalls (KC B0 w0) 74 [ptr b 0,int .u8 c.toNat] H (fun r H'=>(∃ x,r=.ret x)∧BH b (l++[c]) H'):=by
 obtain ⟨p,v,Hv,hp,hacc,rfl⟩:=hB
 refine cI Tryz.func74 rfl (n:=17) rfl rfl rfl ?_
 refine gac ?_
 refine oS (S.callH (H1:=[(b,_)]) (F:=Hv) [_] rfl zpr (copyCheck_spec b p (.atom v) hp) (fun x H' h=>?_) (fun ch H' h=>?_)) rfl
 ·obtain ⟨⟨x',hx'⟩,rfl⟩:=h
  cases hx'
  refine gaa ?_
  refine oS (S.lit [_] (es:=[int .u8 c.toNat]) rfl (eC rfl rfl eN) rfl rfl rfl ?_) rfl
  refine oS (S.appBL1 (q:=(b,.cells 30 [ptr b 0,.atom v])) (l:=l) (m:=[c]) rfl hacc rfl (by simp) (by simp only[List.length_cons,List.length_nil];omega) fun v' H' hacc'=>?_) rfl
  refine gab ?_
  have hacc2:=hacc'
  generalize l++[c]=lm at hacc' hacc2 ⊢
  cases hacc' with
  |nil=>
   refine gaa ?_
   exact rR rfl (zra rfl) zhr ⟨⟨_,rfl⟩,ptr b 0,_,_,.inr rfl,hacc2,rfl⟩
  |row h0 h1 h2=>
   refine gaa ?_
   exact rR rfl (zra rfl) zhr ⟨⟨_,rfl⟩,ptr b 0,_,_,.inr rfl,hacc2,rfl⟩
 ·obtain ⟨⟨x',hx'⟩,_⟩:=h
  cases hx'
theorem blen_spec (b:Nat) (l:List UInt8) (H:Heap) (hB:BH b l H):LCalls (KC B0 w0) 24 [ptr b 0] H (fun r H'=>r=.ret (int .i64 l.length)∧H'=H):=by
 obtain ⟨p,v,Hv,hp,hacc,rfl⟩:=hB
 refine cI Tryz.func24 rfl (n:=8) rfl rfl rfl ?_
 refine gaa ?_
 refine oP (Pure.blen rfl hacc) rfl ?_
 refine gad ?_
 exact rR rfl (zra rfl) zhr ⟨rfl,rfl⟩
theorem lines_spec (rows:List (List Wd)) (hl:rows.length≤10000000) (hs:∀ r∈rows,r.length≤100000000) (hc:(cellL rows).length≤100000000) (hcl:∀ p∈cellL rows,p.2.length≤100000) (hrl:∀ r∈rows,∀ c∈r,c.length≤100000) (hwn:(widthsP rows).length≤30000) (hww:∀ n∈widthsP rows,n≤100000):LCalls (KC B0 w0) 46 [rowsLV rows] [] (Ret (.list ((tableP rows).map str))):=by
 have hW:=widths_spec (B0:=B0) (w0:=w0) rows zo hs hc (fun p hp=>by have:=hcl p hp;omega)
 have hge:=fun r (hr:r∈rows) k=>widths_ge hr k
 have hT:tableP rows=rows.map (tabLine (widthsP rows)):=rfl
 rw[hT]
 generalize widthsP rows=ws at *
 have hwl:(natsLV ws).length=ws.length:=List.length_map _
 have hla:(rows.map fun r=>LV.list (r.map str)).length=rows.length:=List.length_map _
 refine cI Tryz.func46 rfl (n:=52) rfl rfl rfl ?_
 refine gac ?_
 refine oS (S.fn [_] rfl hW ?_) rfl
 unfold rowsLV
 refine gaa ?_
 refine oL (fun k sl H=>∃ (i:Nat) (v:LV),i≤rows.length∧k=rows.length-i∧Acc 1 v (((rows.take i).map (tabLine ws)).map str) H []∧sl=[(3,.list (natsLV ws)),(4,v),(13,.list (rows.map fun r=>.list (r.map str))),(14,int .i64 rows.length),(15,int .i64 i)])
  ⟨_,_,_,⟨0,nilSlice,Nat.zero_le _,rfl,Acc.nil,rfl⟩,⟨rfl,rfl,rfl,int_eq zo,rfl,trivial⟩,HSub.refl _⟩ ?_
 rintro k sl H ⟨i,v,hi,rfl,hacc,rfl⟩ j1 hj1
 refine gaj ?_
 refine oC rfl (fun hc=>?_) (fun hc=>?_)
 ·have hlt:i<rows.length:=by have:=zt hc;omega
  have hrm:rows[i]∈rows:=List.getElem_mem hlt
  have hge1:=hge _ hrm
  have hrl1:=hrl _ hrm
  have hrs:=hs _ hrm
  have htk:((rows.take (i+1)).map (tabLine ws)).map str=((rows.take i).map (tabLine ws)).map str++[str (tabLine ws rows[i])]:=by
   rw[List.take_succ_eq_append_getElem hlt,List.map_append,List.map_append];rfl
  have hg:(rows.map fun r=>LV.list (r.map str))[((i:Nat):Int).toNat]? = some (.list (rows[i].map str)):=map_get _ _ _ hlt
  generalize rows[i]=row at *
  have hra:(row.map str).length=row.length:=List.length_map _
  refine gae ?_
  refine oP (xR (el':=.list (row.map str)) (cs:=[.list (row.map str)]) rfl rfl zo hg rfl rfl) rfl ?_
  refine gaa ?_
  refine oS (S.alloc fun b7=>?_) rfl
  refine gaj ?_
  refine oS (S.callH (H1:=[(b7,_)]) (F:=H) [_,_] rfl zpr (writeByte_spec b7 [] 124 _ ⟨_,_,[],.inl rfl,BRow.nil,rfl⟩ (by simp)) (fun x H' h=>?_) (by rintro ch H' ⟨⟨x,h⟩,_⟩;cases h)) rfl
  obtain ⟨⟨x',hx'⟩,hB⟩:=h
  cases hx'
  refine gaa ?_
  refine oL (fun k sl H2=>∃ (x:Nat) (HB:Heap),x≤ws.length∧k=ws.length-x∧(tabCells (ws.take x) row).length≤x * 100003∧BH b7 (124::tabCells (ws.take x) row) HB∧sl=[(3,.list (natsLV ws)),(4,v),(6,.list (row.map str)),(7,ptr b7 0),(13,.list (rows.map fun r=>.list (r.map str))),(14,int .i64 rows.length),(15,int .i64 i),(20,.list (natsLV ws)),(21,int .i64 ws.length),(22,int .i64 x)]∧H2=HB++H)
   ⟨_,_,_,⟨0,H',Nat.zero_le _,rfl,by simp[tabCells],hB,rfl,rfl⟩,⟨rfl,rfl,rfl,rfl,rfl,rfl,rfl,rfl,int_eq zo,rfl,trivial⟩,HSub.refl _⟩ ?_
  rintro k sl H2 ⟨x,HB,hx,rfl,hB2len,hB2,rfl,rfl⟩ j2 hj2
  refine gaj ?_
  refine oC rfl (fun hc=>?_) (fun hc=>?_)
  ·have hxl:x<ws.length:=by have:=zt hc;omega
   have hwx:=hww _ (List.getElem_mem hxl)
   have hgx:((row[x]?).getD []).length≤ws[x]:=by
    have:=hge1 x
    rwa [List.getElem?_eq_getElem hxl] at this
   have htc:tabCells (ws.take (x+1)) row=tabCells (ws.take x) row++cellT ws[x] ((row[x]?).getD []):=by
    rw[List.take_succ_eq_append_getElem hxl,tabCells_snoc,List.length_take,Nat.min_eq_left zo]
   have htl:=hB2len
   have htn:(tabCells (ws.take (x+1)) row).length≤(x+1) * 100003:=by
    have h4:(cellT ws[x] ((row[x]?).getD [])).length=ws[x]+3:=by
     unfold cellT
     simp only[List.length_cons,List.length_append,List.length_replicate,List.length_nil]
     omega
    rw[htc,List.length_append]
    omega
   have hx3:x * 100003≤30000 * 100003:=Nat.mul_le_mul_right _ zo
   refine gae ?_
   refine oP (xR (el':=int .i64 (ws[x]:Nat)) (cs:=[int .i64 (ws[x]:Nat)]) rfl rfl zo (map_get (fun n:Nat=>int .i64 n) ws x hxl) rfl rfl) rfl ?_
   refine gaa ?_
   refine LCode.cut [(3,.list (natsLV ws)),(4,v),(6,.list (row.map str)),(7,ptr b7 0),(13,.list (rows.map fun r=>.list (r.map str))),(14,int .i64 rows.length),(15,int .i64 i),(20,.list (natsLV ws)),(21,int .i64 ws.length),(22,int .i64 x),(9,int .i64 (ws[x]:Nat)),(10,str ((row[x]?).getD []))] ?_ (fun j3 hj3=>?_)
   ·refine oC rfl (fun h=>?_) (fun h=>?_)
    ·have hxr:x<row.length:=by have:=zt h;omega
     refine gac ?_
     refine oP (xR (el':=str row[x]) (cs:=[str row[x]]) rfl rfl zo (map_get _ _ _ hxr) rfl rfl) rfl ?_
     refine gab ?_
     exact ⟨⟨rfl,rfl,rfl,rfl,rfl,rfl,rfl,rfl,rfl,rfl,rfl,str_eq (by rw[List.getElem?_eq_getElem hxr];rfl),trivial⟩,rfl,rfl⟩
    ·have hxr:¬ x<row.length:=by have:=zf h;omega
     refine gad ?_
     exact ⟨⟨rfl,rfl,rfl,rfl,rfl,rfl,rfl,rfl,rfl,rfl,rfl,str_eq (by rw[List.getElem?_eq_none zo];rfl),trivial⟩,rfl,rfl⟩
   have hcw:cellT ws[x] ((row[x]?).getD [])=32::(((row[x]?).getD [])++List.replicate (ws[x]-((row[x]?).getD []).length) 32++[32,124]):=rfl
   generalize (row[x]?).getD []=cw at *
   generalize ws[x]=wx at *
   refine gaa ?_
   refine LOps.sub 40 (v:=int .i64 ((wx:Int)-(cw.length:Int))) (v':=int .i64 ((wx-cw.length:Nat):Int)) rfl (by rw[show (wx:Int)-(cw.length:Int)=((wx-cw.length:Nat):Int) by omega];exact LV.Sub.refl _) ?_
   refine oS (S.fn [_,_] rfl (repeat_spec 32 (wx-cw.length) zo) ?_) rfl
   refine oP (Pure.sadd rfl rfl (by simp only[List.length_append,List.length_cons,List.length_nil,List.length_replicate];omega)) rfl ?_
   refine oP (Pure.sadd rfl rfl (by simp only[List.length_append,List.length_cons,List.length_nil,List.length_replicate];omega)) rfl ?_
   refine oS (S.callH (H1:=HB) (F:=H) [_,_] rfl zpr (writeString_spec b7 _ ([32]++cw++List.replicate (wx-cw.length) 32++[32,124]) HB hB2 (by simp only[List.length_append,List.length_cons,List.length_nil,List.length_replicate];omega)) (fun y H3 h=>?_) (by rintro ch H3 ⟨⟨x,h⟩,_⟩;cases h)) rfl
   obtain ⟨⟨y',hy'⟩,hB3⟩:=h
   cases hy'
   refine gac ?_
   exact ⟨_,_,_,by omega,⟨x+1,H3,by omega,rfl,htn,by
    rw[htc,hcw]
    simpa using hB3,rfl,rfl⟩,⟨rfl,rfl,rfl,rfl,rfl,rfl,rfl,rfl,rfl,int_eq zo,trivial⟩,HSub.refl _,hj3.trans hj2⟩
  ·have hxl:x=ws.length:=by have:=zf hc;omega
   subst hxl
   rw[List.take_length] at hB2 hB2len
   have hx3:ws.length * 100003≤30000 * 100003:=Nat.mul_le_mul_right _ zo
   have htot:(124::tabCells ws row).length≤10000000000:=by
    rw[List.length_cons]
    omega
   refine gac ?_
   refine oP (Pure.mv (lv:=v) rfl) rfl ?_
   refine oS (S.callH (H1:=HB) (F:=H) [_] rfl zpr (string_spec b7 _ HB hB2 htot) (fun y H3 h=>?_) (by rintro ch H3 ⟨h,_⟩;cases h)) rfl
   obtain ⟨hy,rfl⟩:=h
   cases hy
   refine oS (S.lit [_] (es:=[str (tabLine ws row)]) rfl (eC rfl rfl eN) rfl rfl rfl ?_) rfl
   refine oS (S.acc (F:=[]) rfl hacc rfl (by simp[LV.cells]) rfl (by simp only[List.length_map,List.length_take,List.length_cons,List.length_nil];omega) fun v' H' hacc'=>?_) rfl
   rw[←htk] at hacc'
   refine oP (Pure.as (lv:=v') rfl) rfl ?_
   refine gac ?_
   exact ⟨_,_,_,by omega,⟨i+1,v',by omega,rfl,hacc',rfl⟩,⟨rfl,rfl,rfl,rfl,int_eq zo,trivial⟩,HSub.refl _,hj2.trans hj1⟩
 ·have hi':i=rows.length:=by have:=zf hc;omega
  subst hi'
  rw[List.take_length] at hacc
  refine LCode.sub (d:=4) (v:=v) rfl hacc.sub ?_
  refine gaa ?_
  exact retRet hj1 (rC (rT (v:=.list _) rfl zsr) rN) rfl
end
end Go.Proofs.YtocofhbdbgnmbaaGreatDoor
namespace Go.GL
open Go.RowKit
section
variable {C:Ctx} {e:Env} {H:Heap} {dst:Option Nat} {ty:TypeId} {pos:String} {aft:Array Edge} {g:Option (Nat×Bool)} {x y:Operand} {k:IntKind}
theorem Pure.intStr {s d:TypeId} {k0:IntKind} [hs:TKind C.P s k0] [hd:TStr C.P d] {n:Int} {l:List UInt8} (hx:e.ev x=int k n) (hl:Utf8.encode n=⟨l.toArray⟩):Pure C ⟨dst,.convert s d x,ty,pos,aft,g⟩ e H (str l):=
 .of_any fun ρ _ _ h=>⟨_,rep_atom,fun w'=>by
  have h3:execOp ρ ⟨dst,.convert s d x,ty,pos,aft,g⟩=(do Pure.pure (.value (←convert s d (ρ x)))):=rfl
  rw[h3,atom_of h hx]
  simp[convert,run_underlying' hs.und,run_underlying' hd.und,Conv.intToString,hl]⟩
theorem Pure.maxI {a b:Int} (hx:e.ev x=int k a) (hy:e.ev y=int k b) {t u:TypeId}:Pure C ⟨dst,.call { callee:=.builtin .max,args:=#[x,y],argTypes:=#[t,u] },ty,pos,aft,g⟩ e H (int k (if a<b then b else a)):=
 .of_any fun ρ _ _ h=>⟨_,rep_atom,fun w'=>by
  have h0:∀ (cs:Array Bool) (args:Array Value),builtin .max #[t,u] ty cs args=(do Pure.pure (.value (←Builtin.max_ #[t,u] ty args))):=fun _ _=>rfl
  rw[execOp_builtin',h0]
  simp[Builtin.max_,Builtin.max2,atom_of h hx,atom_of h hy]⟩
theorem Pure.maxE {a b c:Int} (hx:e.ev x=int k a) (hy:e.ev y=int k b) (hc:(if a<b then b else a)=c) {t u:TypeId}:Pure C ⟨dst,.call { callee:=.builtin .max,args:=#[x,y],argTypes:=#[t,u] },ty,pos,aft,g⟩ e H (int k c):=hc▸Pure.maxI hx hy
theorem Pure.minE {a b c:Int} (hx:e.ev x=int k a) (hy:e.ev y=int k b) (hc:(if b<a then b else a)=c) {t u:TypeId}:Pure C ⟨dst,.call { callee:=.builtin .min,args:=#[x,y],argTypes:=#[t,u] },ty,pos,aft,g⟩ e H (int k c):=hc▸Pure.minI hx hy
end
theorem utf8_dot:Utf8.encode 46=⟨#[46]⟩:=by rfl
theorem utf8_mark:Utf8.encode 35=⟨#[35]⟩:=by rfl
end Go.GL
