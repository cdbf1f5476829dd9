/- Texts joined: RenT, RenU, RenV, RenX, RenY, RenZ, RenRef2, RenZA, RenZB, GlBytS. -/
import Derived.Test.YtocofhbdbgnmbaaGreatDoorBRowR52
import Derived.Test.YtocofhbdbgnmbaaGreatDoorBRowR53
import Derived.Test.YtocofhbdbgnmbaaGreatDoorBRowR56
set_option linter.unusedVariables false
set_option linter.unusedSimpArgs false
namespace Go.GL
section
variable {C:Ctx} {e:Env} {H:Heap} {dst:Option Nat} {ty:TypeId} {pos:String} {aft:Array Edge} {g:Option (Nat×Bool)} {K:LV→Heap→Prop} {X:List PanicEntry→Heap→Prop}
theorem S.litM {t el s:Nat} [ht:TSlice C.P t el s] (hk:∀ v' H',MRow el s v' [] H'→K (.atom v') (H'++H)):LStep C ⟨dst,.buildSlice t 0 #[],ty,pos,aft,g⟩ e H K X:=LStep.at0 fun ρ w L h hH=>by
 obtain ⟨i,hi,his⟩:=ht.size
 have h3:execOp ρ ⟨dst,.buildSlice t 0 #[],ty,pos,aft,g⟩=(do Pure.pure (.value (←Instr.buildSlice t 0 ((#[]:Array (Nat×Operand)).map fun (i,x)=>(i,ρ x))))):=rfl
 have hb:(Instr.buildSlice t 0 ((#[]:Array (Nat×Operand)).map fun (i,x)=>(i,ρ x))).run C.P w=.ok (.slice (some ⟨w.heap.size,0,none⟩) 0 0) (World.push w (.cells #[] el)):=by
  simp only[Instr.buildSlice,Sem.run_bind,run_underlying' ht.und,Result.andThen_ok,run_sizeOf' hi,his]
  rw[if_neg (by simp),if_pos (by simp)]
  simp only[Sem.run_bind,Sem.run_pure,Result.andThen_ok]
  have hr0:(Array.range (0 * s)).map (fun x=>(#[]:Array Value)[x % (#[]:Array Value).size]!)=#[]:=by simp
  rw[hr0]
  simp only[List.map_toArray,List.map_nil]
  rfl
 rw[h3,Sem.run_bind,hb]
 exact left_newM (K:=fun lv H'=>K lv (H'++H)) (el:=el) (s:=s) (es:=[]) (xs:=[]) (rest:=[]) (cap:=0) hH (by simp[RepL]) (by simp) (by simp) (by simp) hk
end
end Go.GL
namespace Go.Proofs.YtocofhbdbgnmbaaGreatDoor
open Go.GL Go.RowKit Go.Stele
set_option maxRecDepth 100000
set_option maxHeartbeats 4000000
attribute [local irreducible] LOps LCode LStep LCalls Go.GL.Pure QThen QBlock RetPost LQ LAny LLate LLateOp
theorem RLineSt.cell0 {b:Blk} {c0 c1 c2 c3 c4:LV} {H:Heap} (h:RLineSt b [c0,c1,c2,c3,c4] H):c0=int .i64 b.kind∧b.kind≤4:=by
 cases h <;> exact ⟨rfl,by simp⟩
section
variable {B0:Nat} {w0:World}
theorem rdoc_spec (text:List UInt8) (hs:text.length≤100000000):LCalls (KC B0 w0) 25 [str text] [] (Ret (docLV (docP text))):=by
 have hcnt:=pieces_cnt 10 text
 have hpl:=pieces_len 10 text
 have hpieces:∀ q∈pieces 10 text,q.length≤text.length:=fun q hq=>by
  have:∀ (l:List Wd) (p:Wd),p∈l→p.length+1≤(l.map fun w=>w.length+1).sum:=by
   intro l
   induction l with
   |nil=>intro p hp;cases hp
   |cons a l ih=>
    intro p hp
    rcases List.mem_cons.1 hp with rfl|hp
    ·simp only[List.map_cons,List.sum_cons];omega
    ·have:=ih p hp
     simp only[List.map_cons,List.sum_cons];omega
  have:=this _ q hq
  rw[hpl] at this
  omega
 have hD:docP text=if 20000<text.length then .error (0,6) else docF 0 [] 0 (pieces 10 text):=rfl
 refine cI Tryz.func25 rfl (n:=94) rfl rfl rfl ?_
 refine gaa ?_
 refine oC rfl (fun h=>?_) (fun h=>?_)
 ·have h2:20000<text.length:=by have:=zt h;omega
  refine gaf ?_
  exact retRet rfl (rC (rT (v:=nilSlice) rfl LV.Sub.nil) (rC (zrt rfl) (zra rfl))) (by rw[hD,if_pos h2];rfl)
 ·have h2:¬ 20000<text.length:=by have:=zf h;omega
  rw[if_neg h2,docF_S] at hD
  have hLn:=rlines_spec (B0:=B0) (w0:=w0) text zo
  generalize hls:pieces 10 text=ls at *
  have hla:(ls.map str).length=ls.length:=List.length_map _
  refine gae ?_
  refine oS (S.litM fun v0 H0 hm0=>?_) rfl
  rw[List.append_nil]
  refine gac ?_
  refine oS (S.fn [_] rfl hLn ?_) rfl
  refine gab ?_
  refine oL (fun k sl H=>∃ (i:Nat) (out:List Blk) (op:Nat) (v:Value),i≤ls.length∧k=ls.length-i∧DocSt out op v H∧docS 0 [] 0 ls=docS i out op (ls.drop i)∧docS 0 [] 0 (ls.take i)=.ok (out,op)∧op≤4 ∧
    sl=[(5,.atom v),(6,int .i64 op),(17,.list (ls.map str)),(18,int .i64 ls.length),(19,int .i64 i)])
   ⟨_,_,_,⟨0,[],0,v0,Nat.zero_le _,rfl,DocSt.plain hm0 trivial ⟨by decide,by decide⟩,rfl,rfl,by decide,rfl⟩,⟨rfl,rfl,rfl,int_eq zo,rfl,trivial⟩,HSub.refl _⟩ ?_
  rintro k sl H ⟨i,out,op,v,hi,rfl,hst,hS,hT,hop4,rfl⟩ j1 hj1
  refine gaj ?_
  refine oC rfl (fun hc=>?_) (fun hc=>?_)
  ·have hlt:i<ls.length:=by have:=zt hc;omega
   have hq:=hpieces ls[i] (List.getElem_mem hlt)
   have hbw:bws out≤0+4 * ((ls.take i).map fun w=>w.length+1).sum:=docS_bws _ _ _ _ _ _ hT
   have htk:((ls.take i).map fun w=>w.length+1).sum≤(ls.map fun w=>w.length+1).sum:=by
    conv=>rhs;rw[←List.take_append_drop i ls]
    rw[List.map_append,List.sum_append]
    omega
   have hbw2:bws out≤1000000:=by omega
   have hbl:=bws_len out
   rw[List.drop_eq_getElem_cons hlt,docS] at hS
   have hT1:∀ x,lineP ls[i]=.ok x→docS 0 [] 0 (ls.take (i+1))=.ok (emitP out op x,x.kind):=fun x hx=>by
    rw[List.take_succ_eq_append_getElem hlt,docS_app,hT]
    simp only[docS,hx]
   refine gae ?_
   refine oP (xR (el':=str ls[i]) (cs:=[str ls[i]]) rfl rfl zo (map_get _ _ _ hlt) rfl rfl) rfl ?_
   refine gaa ?_
   refine oS (S.call0 [_] rfl (rparse_spec ls[i] zo) (fun v' H' hh=>?_) (by rintro ch H' ⟨c0,c1,c2,c3,c4,e,h,_⟩;cases h)) rfl
   obtain ⟨c0,c1,c2,c3,c4,er,hv',hok,hL⟩:=hh
   cases hv'
   refine LOps.perm (H':=H++H') List.perm_append_comm ?_
   refine oS (S.alloc fun b9=>?_) rfl
   refine oS (S.store (cs':=[c0,c1,c2,c3,c4,int .i64 er]) rfl pH rfl rfl rfl (by simpa [cellOk] using hok) rfl ?_) rfl
   refine gaa ?_
   refine oC rfl (fun h=>?_) (fun h=>?_)
   ·cases hl:lineP ls[i] with
    |ok x=>
     rw[hl] at hL
     exact absurd hL.1 (zf (not_t h))
    |error x=>
     rw[hl] at hL hS
     obtain ⟨rfl,_⟩:=hL
     refine gad ?_
     refine LCode.draw (m:=7) rfl [(b9,.cells 86 [c0,c1,c2,c3,c4,int .i64 x])] ?_
     refine aT 0 rfl rfl (Pure.mv (lv:=.atom _) rfl) ?_
     refine aT 1 rfl rfl (Pure.add rfl rfl zo) ?_
     refine aT 2 rfl rfl (Pure.fieldH rfl) ?_
     refine aT 3 rfl rfl (Pure.loadH (c:=.atom _) rfl zm0 rfl) ?_
     refine aT 4 rfl rfl (Pure.as (lv:=.atom _) rfl) ?_
     refine aT 5 rfl rfl (Pure.as (lv:=.atom _) rfl) ?_
     refine aT 6 rfl rfl (Pure.as (lv:=.atom _) rfl) ?_
     refine LAny.late ?_ zhp
     refine lD zk ?_
     refine gab ?_
     exact retRet hj1 (rC (rT (v:=nilSlice) rfl LV.Sub.nil) (rC (zrt rfl) (zra rfl))) (by rw[hD,hS];rfl)
   ·have he0:er=0:=zt (not_f h)
    cases hl:lineP ls[i] with
    |error x=>
     rw[hl] at hL
     omega
    |ok x=>
     rw[hl] at hL hS
     simp only at hS
     have hT2:=hT1 x hl
     have hbx:x.words.length≤1000000:=by
      by_cases hx:x.kind=0
      ·have h:=hL.2
       cases h <;> simp_all
      ·have:=lineP_bw hl hx
       have:=(bw_words x).1
       omega
     have hLS:=hL.2
     obtain ⟨rfl,hk4⟩:=hLS.cell0
     obtain ⟨es,HM,HW,hm,he,hHe⟩:=hst.view
     have hel:=he.len
     refine gaa ?_
     refine oP (Pure.mlen rfl hm) rfl ?_
     refine gab ?_
     refine oS (S.alloc fun b10=>?_) rfl
     refine oS (S.store (cs':=[int .i64 x.kind,c1,c2,c3,c4]) rfl pH rfl rfl rfl (by simpa using hok) rfl ?_) rfl
     refine LOps.weak (H':=(b10,.cells 49 [int .i64 x.kind,c1,c2,c3,c4])::(H++H')) (zhP pH (zhD zhr)) ?_
     refine gaa ?_
     refine oC rfl (fun h=>?_) (fun h=>?_)
     ·have hk0:x.kind=0:=by have:=zt h;omega
      have hem:emitP out op x=out:=by unfold emitP;rw[if_pos hk0]
      rw[hem] at hS hT2
      subst hHe
      refine gaa ?_
      exact ⟨_,_,_,by omega,⟨i+1,out,x.kind,v,by omega,rfl,DocSt.plain hm he ⟨by omega,by omega⟩,hS,hT2,by omega,rfl⟩,⟨rfl,rfl,rfl,rfl,int_eq zo,trivial⟩,zhD (by rw[List.append_assoc];exact HSub.app _ _),hj1⟩
     ·have hk0:x.kind≠0:=by have:=zf h;omega
      refine gaa ?_
      refine LOps.cut [(5,.atom v),(6,int .i64 op),(10,ptr b10 0),(11,int .i64 ((es.length:Int)-1)),(17,.list (ls.map str)),(18,int .i64 ls.length),(19,int .i64 i),(46,bool (decide (x.kind=op∧x.kind=2)))] ?_ (fun j2 hj2=>?_)
      ·refine oB 51 rfl (fun h1=>?_) (fun h1=>?_)
       ·have g1:=zt h1
        refine gab ?_
        exact ⟨⟨rfl,rfl,rfl,rfl,rfl,rfl,rfl,bool_eq (decide_eq_decide.2 ⟨fun h=>⟨by omega,by omega⟩,fun h=>by have:=h.2;omega⟩),trivial⟩,rfl,rfl⟩
       ·have g1:=zf h1
        refine gab ?_
        exact ⟨⟨rfl,rfl,rfl,rfl,rfl,rfl,rfl,bool_eq (decide_eq_false fun h=>g1 (by rw[h.1])).symm,trivial⟩,rfl,rfl⟩
      refine oC rfl (fun h=>?_) (fun h=>?_)
      ·have hke:=zt h
       clear hHe
       cases hLS with
       |blank=>exact absurd hke.2 (by simp)
       |head=>exact absurd hke.2 (by simp)
       |row=>exact absurd hke.2 (by simp)
       |pic=>exact absurd hke.2 (by simp)
       |para b2 cap2 ms=>
        obtain rfl:op=2:=hke.1.symm
        cases hst with
        |plain hm0 he0 hop=>exact absurd rfl hop.1
        |words hm2 he2 ha=>
         rename_i init es2 HM2 HW2 w ws
         have hel2:=he2.len
         have hes:=he2.sizes
         have hb4:=(bw_words ⟨2,ws,[],[],0⟩).1
         rw[bws_app] at hbw2
         simp only[bws,List.map_cons,List.sum_cons,List.map_nil,List.sum_nil] at hbw2 hb4
         rw[List.length_append,List.length_cons,List.length_nil] at hel hbl
         have hlen:(es2++[LV.agg [int .i64 2,w,nilSlice,str [],int .i64 0]]).length=es2.length+1:=by simp
         obtain ⟨b,cap,spare,hv,hHM,hc,hcap⟩:=hm2.addr (by simp)
         rw[hlen] at hv hc hcap
         subst hv
         subst hHM
         have hfl:((es2++[LV.agg [int .i64 2,w,nilSlice,str [],int .i64 0]]).flatMap LV.cells).length=(es2.length+1) * 5:=by
          rw[←hlen]
          exact flat_length hm2.sizes
         have hem:emitP (init++[⟨2,ws,[],[],0⟩]) 2 ⟨2,ms,[],[],0⟩=init++[⟨2,ws++ms,[],[],0⟩]:=by
          unfold emitP
          rw[if_neg (by simp),if_neg (by simp),if_pos ⟨rfl,rfl⟩,onLast_snoc]
         rw[hem] at hS hT2
         refine LCode.weak (H':=(b10,.cells 49 [int .i64 2,.app b2 cap2 1 (ms.map str),nilSlice,str [],int .i64 0])::(b,.cells 49 ((es2++[LV.agg [int .i64 2,w,nilSlice,str [],int .i64 0]]).flatMap LV.cells++spare))::HW2) (zhP pH (HSub.app _ _)) ?_
         refine LCode.draw (m:=13) rfl [(b10,.cells 49 [int .i64 2,.app b2 cap2 1 (ms.map str),nilSlice,str [],int .i64 0])] ?_
         refine aT 0 rfl rfl (Pure.mv (lv:=.atom _) rfl) ?_
         refine aT 1 rfl rfl (Pure.mv (lv:=.atom _) rfl) ?_
         refine aT 2 rfl rfl (Pure.mv (lv:=.atom _) rfl) ?_
         refine aT 3 rfl rfl (Pure.mv (lv:=.atom _) rfl) ?_
         refine LAny.take (i:=4) zhp rfl zk zk zk rfl (Pure.indexRowE (o:=es2.length * 5) rfl rfl zo zo zo) ?_
         refine aT 5 rfl rfl (Pure.fieldH rfl) ?_
         refine aT 7 rfl rfl (Pure.fieldH rfl) ?_
         refine aT 8 rfl rfl (Pure.loadH (c:=.app _ _ _ _) rfl zm0 rfl) ?_
         refine LAny.late ?_ zhp
         refine lO 6 (lH rfl rfl (Pure.loadH (c:=w) rfl zm1 (flat_last hes rfl (by decide))) ?_)
         refine lO 9 (lS (H1:=HW2) (F:=[(b10,.cells 49 [int .i64 2,.app b2 cap2 1 (ms.map str),nilSlice,str [],int .i64 0]),(b,.cells 49 ((es2++[LV.agg [int .i64 2,w,nilSlice,str [],int .i64 0]]).flatMap LV.cells++spare))]) rfl (.inl rfl) rfl (List.perm_append_comm (l₁:=[_,_]) (l₂:=HW2)) zhp (S.acc rfl ha rfl (strs_len ms) (strs_ok ms) (by simp only[List.length_map];simp only at hbx;omega) fun w' H2 ha'=>?_))
         refine LLate.weakH (H':=(b10,.cells 49 [int .i64 2,.app b2 cap2 1 (ms.map str),nilSlice,str [],int .i64 0])::(b,.cells 49 ((es2++[LV.agg [int .i64 2,w,nilSlice,str [],int .i64 0]]).flatMap LV.cells++spare))::H2) ⟨[],by rw[List.append_nil];exact List.perm_append_comm (l₁:=H2) (l₂:=[_,_])⟩ ?_
         refine lO 10 (lH rfl rfl (Pure.indexRowE (o:=es2.length * 5) rfl rfl zo zo zo) ?_)
         refine lO 11 (lH rfl rfl (Pure.fieldH rfl) ?_)
         refine lO 12 (lS (H1:=[(b,.cells 49 ((es2++[LV.agg [int .i64 2,w,nilSlice,str [],int .i64 0]]).flatMap LV.cells++spare))]) (F:=(b10,.cells 49 [int .i64 2,.app b2 cap2 1 (ms.map str),nilSlice,str [],int .i64 0])::H2) rfl (.inl rfl) rfl (show Pick _ _ _ from pT pH) zhp (S.store (off:=es2.length * 5+1) (cs':=(es2++[LV.agg [int .i64 2,w',nilSlice,str [],int .i64 0]]).flatMap LV.cells++spare) rfl pH ha'.flat.1 rfl (Nat.ble_eq_true_of_le (show es2.length * 5+1+1≤_ by rw[List.length_append,hfl];omega)) (by simp[ha'.flat.2]) (setL_last hes (show 1+1≤5 by decide) rfl) ?_))
         refine lD zk ?_
         refine gaa ?_
         have hm':MRow 49 5 (.slice (some ⟨b,0,none⟩) (es2.length+1) cap) (es2++[LV.agg [int .i64 2,w',nilSlice,str [],int .i64 0]]) [(b,.cells 49 ((es2++[LV.agg [int .i64 2,w',nilSlice,str [],int .i64 0]]).flatMap LV.cells++spare))]:=by
          have h1:(es2++[LV.agg [int .i64 2,w',nilSlice,str [],int .i64 0]]).length=es2.length+1:=by simp
          have:=MRow.row (el:=49) (s:=5) (b:=b) (cap:=cap) (es:=es2++[LV.agg [int .i64 2,w',nilSlice,str [],int .i64 0]]) (spare:=spare) (fun v hv=>by
           rcases List.mem_append.1 hv with hv|hv
           ·exact hes v hv
           ·rw[List.mem_singleton.1 hv];rfl) (by rw[h1];exact hc) (by rw[h1];exact hcap)
          rwa [h1] at this
         rw[←List.map_append] at ha'
         exact ⟨_,_,_,by omega,⟨i+1,_,2,_,by omega,rfl,DocSt.words hm' he2 ha',hS,hT2,by decide,rfl⟩,⟨rfl,rfl,rfl,rfl,int_eq zo,trivial⟩,zhP (by first|exact pH|exact pT pH) (by first|exact zhD zhr|exact HSub.refl _),hj2.trans hj1⟩
      ·have hn2:=zf h
       refine gaa ?_
       refine LOps.cut [(5,.atom v),(6,int .i64 op),(10,ptr b10 0),(11,int .i64 ((es.length:Int)-1)),(17,.list (ls.map str)),(18,int .i64 ls.length),(19,int .i64 i),(68,bool (decide (x.kind=op∧x.kind=3)))] ?_ (fun j3 hj3=>?_)
       ·refine oB 73 rfl (fun h1=>?_) (fun h1=>?_)
        ·have g1:=zt h1
         refine gab ?_
         exact ⟨⟨rfl,rfl,rfl,rfl,rfl,rfl,rfl,bool_eq (decide_eq_decide.2 ⟨fun h=>⟨by omega,by omega⟩,fun h=>by have:=h.2;omega⟩),trivial⟩,rfl,rfl⟩
        ·have g1:=zf h1
         refine gab ?_
         exact ⟨⟨rfl,rfl,rfl,rfl,rfl,rfl,rfl,bool_eq (decide_eq_false fun h=>g1 (by rw[h.1])).symm,trivial⟩,rfl,rfl⟩
       refine oC rfl (fun h=>?_) (fun h=>?_)
       ·have hke:=zt h
        clear hHe
        cases hLS with
        |blank=>exact absurd hke.2 (by simp)
        |head=>exact absurd hke.2 (by simp)
        |para=>exact absurd hke.2 (by simp)
        |pic=>exact absurd hke.2 (by simp)
        |row b2 l=>
         obtain rfl:op=3:=hke.1.symm
         cases hst with
         |plain hm0 he0 hop=>exact absurd rfl hop.2
         |rows hm2 he2 ha=>
          rename_i init es2 HM2 HW2 w rs
          have hel2:=he2.len
          have hes:=he2.sizes
          have hb4:=(bw_words ⟨3,[],rs,[],0⟩).2
          rw[bws_app] at hbw2
          simp only[bws,List.map_cons,List.sum_cons,List.map_nil,List.sum_nil] at hbw2 hb4
          rw[List.length_append,List.length_cons,List.length_nil] at hel hbl
          have hlen:(es2++[LV.agg [int .i64 3,nilSlice,w,str [],int .i64 0]]).length=es2.length+1:=by simp
          obtain ⟨b,cap,spare,hv,hHM,hc,hcap⟩:=hm2.addr (by simp)
          rw[hlen] at hv hc hcap
          subst hv
          subst hHM
          have hfl:((es2++[LV.agg [int .i64 3,nilSlice,w,str [],int .i64 0]]).flatMap LV.cells).length=(es2.length+1) * 5:=by
           rw[←hlen]
           exact flat_length hm2.sizes
          have hem:emitP (init++[⟨3,[],rs,[],0⟩]) 3 ⟨3,[],[l],[],0⟩=init++[⟨3,[],rs++[l],[],0⟩]:=by
           unfold emitP
           rw[if_neg (by simp),if_pos ⟨rfl,rfl⟩,onLast_snoc]
          rw[hem] at hS hT2
          refine LCode.weak (H':=(b10,.cells 49 [int .i64 3,nilSlice,.app b2 1 1 [.list (l.map str)],str [],int .i64 0])::(b,.cells 49 ((es2++[LV.agg [int .i64 3,nilSlice,w,str [],int .i64 0]]).flatMap LV.cells++spare))::HW2) (zhP pH (HSub.app _ _)) ?_
          refine LCode.draw (m:=13) rfl [(b10,.cells 49 [int .i64 3,nilSlice,.app b2 1 1 [.list (l.map str)],str [],int .i64 0])] ?_
          refine aT 0 rfl rfl (Pure.mv (lv:=.atom _) rfl) ?_
          refine aT 1 rfl rfl (Pure.mv (lv:=.atom _) rfl) ?_
          refine aT 2 rfl rfl (Pure.mv (lv:=.atom _) rfl) ?_
          refine aT 3 rfl rfl (Pure.mv (lv:=.atom _) rfl) ?_
          refine LAny.take (i:=4) zhp rfl zk zk zk rfl (Pure.indexRowE (o:=es2.length * 5) rfl rfl zo zo zo) ?_
          refine aT 5 rfl rfl (Pure.fieldH rfl) ?_
          refine aT 7 rfl rfl (Pure.fieldH rfl) ?_
          refine aT 8 rfl rfl (Pure.loadH (c:=.app _ _ _ _) rfl zm0 rfl) ?_
          refine LAny.late ?_ zhp
          refine lO 6 (lH rfl rfl (Pure.loadH (c:=w) rfl zm1 (flat_last hes rfl (by decide))) ?_)
          refine lO 9 (lS (H1:=HW2) (F:=[(b10,.cells 49 [int .i64 3,nilSlice,.app b2 1 1 [.list (l.map str)],str [],int .i64 0]),(b,.cells 49 ((es2++[LV.agg [int .i64 3,nilSlice,w,str [],int .i64 0]]).flatMap LV.cells++spare))]) rfl (.inl rfl) rfl (List.perm_append_comm (l₁:=[_,_]) (l₂:=HW2)) zhp (S.acc rfl ha rfl (rows_len [l]) (rows_ok [l]) (by simp only[List.length_map,List.length_cons,List.length_nil];omega) fun w' H2 ha'=>?_))
          refine LLate.weakH (H':=(b10,.cells 49 [int .i64 3,nilSlice,.app b2 1 1 [.list (l.map str)],str [],int .i64 0])::(b,.cells 49 ((es2++[LV.agg [int .i64 3,nilSlice,w,str [],int .i64 0]]).flatMap LV.cells++spare))::H2) ⟨[],by rw[List.append_nil];exact List.perm_append_comm (l₁:=H2) (l₂:=[_,_])⟩ ?_
          refine lO 10 (lH rfl rfl (Pure.indexRowE (o:=es2.length * 5) rfl rfl zo zo zo) ?_)
          refine lO 11 (lH rfl rfl (Pure.fieldH rfl) ?_)
          refine lO 12 (lS (H1:=[(b,.cells 49 ((es2++[LV.agg [int .i64 3,nilSlice,w,str [],int .i64 0]]).flatMap LV.cells++spare))]) (F:=(b10,.cells 49 [int .i64 3,nilSlice,.app b2 1 1 [.list (l.map str)],str [],int .i64 0])::H2) rfl (.inl rfl) rfl (show Pick _ _ _ from pT pH) zhp (S.store (off:=es2.length * 5+2) (cs':=(es2++[LV.agg [int .i64 3,nilSlice,w',str [],int .i64 0]]).flatMap LV.cells++spare) rfl pH ha'.flat.1 rfl (Nat.ble_eq_true_of_le (show es2.length * 5+2+1≤_ by rw[List.length_append,hfl];omega)) (by simp[ha'.flat.2]) (setL_last hes (show 2+1≤5 by decide) rfl) ?_))
          refine lD zk ?_
          refine gaa ?_
          have hm':MRow 49 5 (.slice (some ⟨b,0,none⟩) (es2.length+1) cap) (es2++[LV.agg [int .i64 3,nilSlice,w',str [],int .i64 0]]) [(b,.cells 49 ((es2++[LV.agg [int .i64 3,nilSlice,w',str [],int .i64 0]]).flatMap LV.cells++spare))]:=by
           have h1:(es2++[LV.agg [int .i64 3,nilSlice,w',str [],int .i64 0]]).length=es2.length+1:=by simp
           have:=MRow.row (el:=49) (s:=5) (b:=b) (cap:=cap) (es:=es2++[LV.agg [int .i64 3,nilSlice,w',str [],int .i64 0]]) (spare:=spare) (fun v hv=>by
            rcases List.mem_append.1 hv with hv|hv
            ·exact hes v hv
            ·rw[List.mem_singleton.1 hv];rfl) (by rw[h1];exact hc) (by rw[h1];exact hcap)
           rwa [h1] at this
          have e1:(rs.map fun r=>LV.list (r.map str))++[LV.list (l.map str)]=(rs++[l]).map fun r=>LV.list (r.map str):=by rw[List.map_append];rfl
          rw[e1] at ha'
          exact ⟨_,_,_,by omega,⟨i+1,_,3,_,by omega,rfl,DocSt.rows hm' he2 ha',hS,hT2,by decide,rfl⟩,⟨rfl,rfl,rfl,rfl,int_eq zo,trivial⟩,zhP (by first|exact pH|exact pT pH) (by first|exact zhD zhr|exact HSub.refl _),hj3.trans (hj2.trans hj1)⟩
       ·have hn3:=zf h
        have hem:emitP out op x=out++[x]:=by
         unfold emitP
         rw[if_neg hk0,if_neg (fun h=>by have:=h.1;have:=h.2;omega),if_neg (fun h=>by have:=h.1;have:=h.2;omega)]
        rw[hem] at hS hT2
        subst hHe
        refine gaa ?_
        refine oS (S.lit [_] (es:=[.agg [int .i64 x.kind,c1,c2,c3,c4]]) rfl (eC rfl rfl eN) rfl rfl rfl ?_) rfl
        refine oS (S.appM (F:=(b10,.cells 49 [int .i64 x.kind,c1,c2,c3,c4])::(H'++HW)) rfl (by exact perm4 [_] HM HW H') hm rfl (by simp[LV.cells]) (by simpa [LV.cells] using hok) (by simp only[List.length_cons,List.length_nil];omega) fun v' H2 hm'=>?_) rfl
        refine LOps.weak (H':=(b10,.cells 49 [int .i64 x.kind,c1,c2,c3,c4])::(H2++H')) ⟨HW,perm3 [_] H' HW H2⟩ ?_
        refine gaa ?_
        refine ⟨_,_,_,by omega,⟨i+1,out++[x],x.kind,v',by omega,rfl,(?_:DocSt _ _ _ (H2++H')),hS,hT2,by omega,rfl⟩,⟨rfl,rfl,rfl,rfl,int_eq zo,trivial⟩,zhD zhr,hj3.trans (hj2.trans hj1)⟩
        cases hLS with
        |blank=>exact absurd rfl hk0
        |head ws=>rw[List.append_nil];exact DocSt.plain hm' (he.snoc rfl ⟨LV.Sub.refl _,LV.Sub.refl _,LV.Sub.nil,LV.Sub.refl _,LV.Sub.refl _,trivial⟩) ⟨by simp,by simp⟩
        |para b2 cap ws=>exact DocSt.words hm' he Acc.row
        |row b2 l=>exact DocSt.rows (rs:=[l]) hm' he Acc.row
        |pic n r=>rw[List.append_nil];exact DocSt.plain hm' (he.snoc rfl ⟨LV.Sub.refl _,LV.Sub.nil,LV.Sub.nil,LV.Sub.refl _,LV.Sub.refl _,trivial⟩) ⟨by simp,by simp⟩
  ·have hi':i=ls.length:=by have:=zf hc;omega
   subst hi'
   rw[List.drop_length,docS] at hS
   rw[hS] at hD
   obtain ⟨es,HM,HW,hm2,he,rfl⟩:=hst.view
   repeat (first|refine LOps.nil ?_|refine LCode.seq ?_|refine LCode.region ?_|refine LCode.exit ?_|refine LCode.skip ?_|refine QThen.normal ?_|refine QThen.exit ?_|refine QBlock.hit ?_|refine QBlock.normal ?_)
   refine oP (Pure.mv (lv:=.atom v) rfl) rfl ?_
   refine LOps.rowOut (es':=out.map encB) (F:=HW) 93 hm2 zpr rfl (by rw[List.length_map,he.len]) (fun v hv=>by
    obtain ⟨x,_,rfl⟩:=List.mem_map.1 hv
    rfl) he.sub ?_
   refine gab ?_
   exact retRet hj1 (rC (rT (v:=.list _) rfl zsr) (rC (zrt rfl) (zra rfl))) (by rw[hD];rfl)
end
end Go.Proofs.YtocofhbdbgnmbaaGreatDoor
namespace Go.Proofs.YtocofhbdbgnmbaaGreatDoor
open Go.GL Go.RowKit Go.Stele
set_option maxRecDepth 100000
set_option maxHeartbeats 4000000
attribute [local irreducible] LOps LCode LStep LCalls Go.GL.Pure QThen QBlock RetPost LQ LAny LLate LLateOp
def okByte (c:UInt8):Bool:=decide (33≤c.toNat) && decide (c.toNat≤126)
theorem okWord_eq (s:Wd):okWord s=(decide (s≠[]) && s.all okByte):=rfl
section
variable {B0:Nat} {w0:World}
theorem rcheck_spec (l:List Wd) (w:Int) (hl:l.length≤100000000) (hs:∀ s∈l,s.length≤100000000):LCalls (KC B0 w0) 79 [.list (l.map str),int .i64 w] [] (Ret (int .i64 (wrapE l w))):=by
 have hE:=wrapE_eq l w
 have hla:(l.map str).length=l.length:=List.length_map _
 refine cI Tryz.func79 rfl (n:=49) rfl rfl rfl ?_
 refine gac ?_
 refine oB 9 rfl (fun h1=>?_) (fun h1=>?_)
 ·rw[if_pos (.inl (zt h1))] at hE
  refine gah ?_
  refine oC rfl (fun _=>?_) (fun h=>by cases h)
  refine gaf ?_
  exact retRet rfl (zra rfl) (by rw[hE];rfl)
 ·have g1:=zf h1
  refine gab ?_
  refine oC rfl (fun h=>?_) (fun h=>?_)
  ·rw[if_pos (.inr (zt h))] at hE
   refine gaf ?_
   exact retRet rfl (zra rfl) (by rw[hE];rfl)
  ·have g2:=zf h
   rw[if_neg (fun h=>h.elim g1 g2)] at hE
   refine gac ?_
   refine oL (fun k ls H=>∃ i:Nat,i≤l.length∧k=l.length-i∧(l.take i).all okWord=true∧ls=[(0,.list (l.map str)),(5,int .i64 i)]∧H=[])
    ⟨_,_,_,⟨0,Nat.zero_le _,rfl,by simp,rfl,rfl⟩,⟨rfl,rfl,trivial⟩,HSub.refl _⟩ ?_
   rintro k ls H ⟨i,hi,rfl,hall,rfl,rfl⟩ j1 hj1
   refine gaa ?_
   refine oC rfl (fun hc=>?_) (fun hc=>?_)
   ·have hlt:i<l.length:=by have:=zt hc;omega
    have hsl:=hs _ (List.getElem_mem hlt)
    have hbad:okWord l[i]=false→wrapE l w=1:=fun h=>by
     have hb:l.all okWord=false:=Bool.eq_false_iff.2 fun h1=>by
      have:=List.all_eq_true.1 h1 l[i] (List.getElem_mem hlt)
      rw[this] at h
      cases h
     rw[hE,if_neg (by rw[hb];decide)]
    have hnx:okWord l[i]=true→(l.take (i+1)).all okWord=true:=fun h=>by
     rw[List.take_succ_eq_append_getElem hlt,List.all_append,hall,Bool.true_and,List.all_cons,h]
     rfl
    have hg:=map_get str l i hlt
    generalize l[i]=s at *
    refine gac ?_
    refine oP (xR (el':=str s) (cs:=[str s]) rfl rfl zo hg rfl rfl) rfl ?_
    refine gab ?_
    refine oC rfl (fun h=>?_) (fun h=>?_)
    ·have h0:s=[]:=zt h
     refine gak ?_
     exact retRet hj1 (zra rfl) (by rw[hbad (by rw[h0];rfl)];rfl)
    ·have h0:s≠[]:=zf h
     have hW:=okWord_eq s
     rw[decide_eq_true h0,Bool.true_and] at hW
     refine gac ?_
     refine oL (fun k ls H=>∃ x:Nat,x≤s.length∧k=s.length-x∧(s.take x).all okByte=true∧ls=[(0,.list (l.map str)),(5,int .i64 i),(6,int .i64 x)]∧H=[])
      ⟨_,_,_,⟨0,Nat.zero_le _,rfl,by simp,rfl,rfl⟩,⟨rfl,rfl,rfl,trivial⟩,HSub.refl _⟩ ?_
     rintro k ls H ⟨x,hx,rfl,hall2,rfl,rfl⟩ j2 hj2
     refine gac ?_
     refine oP (xR (el':=str s) (cs:=[str s]) rfl rfl zo hg rfl rfl) rfl ?_
     refine gab ?_
     refine oC rfl (fun hc=>?_) (fun hc=>?_)
     ·have hxl:x<s.length:=by have:=zt hc;omega
      have bad:okByte s[x]=false→okWord s=false:=fun h=>by
       rw[hW]
       refine Bool.eq_false_iff.2 fun h1=>?_
       have:=List.all_eq_true.1 h1 s[x] (List.getElem_mem hxl)
       rw[h] at this
       cases this
      have hby:okByte s[x]=(decide (33≤s[x].toNat) && decide (s[x].toNat≤126)):=rfl
      refine gac ?_
      refine oP (xR (el':=str s) (cs:=[str s]) rfl rfl zo hg rfl rfl) rfl ?_
      refine gab ?_
      refine oP (Pure.sindex (c:=s[x]) rfl rfl zo (get_some hxl)) rfl ?_
      refine gad ?_
      refine oB 40 rfl (fun h1=>?_) (fun h1=>?_)
      ·have g3:=zt h1
       have hb:=hbad (bad (by rw[hby,decide_eq_false zo,Bool.false_and]))
       refine gah ?_
       refine oC rfl (fun _=>?_) (fun h=>by cases h)
       refine gak ?_
       exact retRet (hj2.trans hj1) (zra rfl) (by rw[hb];rfl)
      ·have g3:=zf h1
       refine gad ?_
       refine oP (xR (el':=str s) (cs:=[str s]) rfl rfl zo hg rfl rfl) rfl ?_
       refine gab ?_
       refine oP (Pure.sindex (c:=s[x]) rfl rfl zo (get_some hxl)) rfl ?_
       refine gab ?_
       refine oC rfl (fun h=>?_) (fun h=>?_)
       ·have g4:=zt h
        have hb:=hbad (bad (by rw[hby,decide_eq_false (p:=s[x].toNat≤126) zo,Bool.and_false]))
        refine gak ?_
        exact retRet (hj2.trans hj1) (zra rfl) (by rw[hb];rfl)
       ·have g4:=zf h
        have hok:okByte s[x]=true:=by rw[hby,decide_eq_true (p:=33≤s[x].toNat) zo,decide_eq_true (p:=s[x].toNat≤126) zo];rfl
        refine gac ?_
        exact ⟨_,_,_,by omega,⟨x+1,by omega,rfl,by
         rw[List.take_succ_eq_append_getElem hxl,List.all_append,hall2,Bool.true_and,List.all_cons,hok];rfl,rfl,rfl⟩,⟨rfl,rfl,int_eq zo,trivial⟩,HSub.refl _,hj2⟩
     ·have hxe:x=s.length:=by have:=zf hc;omega
      subst hxe
      rw[List.take_length] at hall2
      refine gac ?_
      exact ⟨_,_,_,by omega,⟨i+1,by omega,rfl,hnx (by rw[hW,hall2]),rfl,rfl⟩,⟨rfl,int_eq zo,trivial⟩,HSub.refl _,hj2.trans hj1⟩
   ·have hi':i=l.length:=by have:=zf hc;omega
    subst hi'
    rw[List.take_length] at hall
    rw[if_pos hall] at hE
    refine gac ?_
    exact retRet hj1 (zra rfl) (by rw[hE];rfl)
theorem rparts_spec (l:List Wd) (w:Nat) (hw:1≤w∧w≤200) (hl:l.length≤100000000) (hs:∀ s∈l,s.length≤100000000) (htot:(partsP w l).length≤100000000):LCalls (KC B0 w0) 80 [.list (l.map str),int .i64 w] [] (Ret (.list ((partsP w l).map str))):=by
 have hla:(l.map str).length=l.length:=List.length_map _
 refine cI Tryz.func80 rfl (n:=37) rfl rfl rfl ?_
 refine gaf ?_
 refine oS (S.litA [] rfl eN rfl rfl rfl fun b=>?_) rfl
 refine oP (Pure.as (lv:=.app b 0 1 []) rfl) rfl ?_
 refine gac ?_
 refine oL (fun k ls H=>∃ (i:Nat) (v:LV),i≤l.length∧k=l.length-i∧Acc 1 v ((partsP w (l.take i)).map str) H []∧ls=[(0,.list (l.map str)),(1,int .i64 w),(5,v),(6,int .i64 i)])
  ⟨_,_,_,⟨0,.app b 0 1 [],Nat.zero_le _,rfl,Acc.row,rfl⟩,⟨rfl,rfl,rfl,rfl,trivial⟩,HSub.refl _⟩ ?_
 rintro k ls H ⟨i,v,hi,rfl,hacc,rfl⟩ j1 hj1
 refine gaa ?_
 refine oC rfl (fun hc=>?_) (fun hc=>?_)
 ·have hlt:i<l.length:=by have:=zt hc;omega
  have hsl:=hs _ (List.getElem_mem hlt)
  have hg:=map_get str l i hlt
  have hnx:partsP w (l.take (i+1))=partsP w (l.take i)++partQ w l[i]:=by
   rw[List.take_succ_eq_append_getElem hlt]
   unfold partsP
   rw[List.flatMap_append,List.flatMap_cons,List.flatMap_nil,List.append_nil]
   rfl
  have hle:(partsP w (l.take (i+1))).length≤(partsP w l).length:=by
   have h:partsP w l=partsP w (l.take (i+1))++partsP w (l.drop (i+1)):=by
    unfold partsP
    rw[←List.flatMap_append,List.take_append_drop]
   rw[h,List.length_append]
   omega
  rw[hnx,List.length_append] at hle
  generalize l[i]=s at *
  refine gac ?_
  refine oP (xR (el':=str s) (cs:=[str s]) rfl rfl zo hg rfl rfl) rfl ?_
  refine gab ?_
  refine oL (fun k ls H2=>∃ (t:Wd) (out:List Wd) (v2:LV),t.length≤s.length∧k=t.length∧out++partQ w t=partQ w s∧Acc 1 v2 ((partsP w (l.take i)++out).map str) H2 []∧ls=[(0,.list (l.map str)),(1,int .i64 w),(5,v2),(6,int .i64 i),(7,str t)])
   ⟨_,_,_,⟨s,[],v,Nat.le_refl _,rfl,rfl,by rw[List.append_nil];exact hacc,rfl⟩,⟨rfl,rfl,rfl,rfl,rfl,trivial⟩,HSub.refl _⟩ ?_
  rintro k ls H2 ⟨t,out,v2,ht,rfl,hQ,hacc2,rfl⟩ j2 hj2
  have hQl:=congrArg List.length hQ
  rw[List.length_append] at hQl
  have hom:((partsP w (l.take i)++out).map str).length=(partsP w (l.take i)).length+out.length:=by rw[List.length_map,List.length_append]
  refine gaa ?_
  refine oC rfl (fun hc=>?_) (fun hc=>?_)
  ·have hlong:w<t.length:=by have:=zt hc;omega
   rw[partQ_long hw.1 hlong] at hQ hQl
   refine gae ?_
   refine oP (Pure.mv (lv:=v2) rfl) rfl ?_
   refine gag ?_
   refine oP (Pure.ssliceE (m:=t.take w) rfl rfl ⟨_,rfl⟩ zo zo zo (by rw[Int.toNat_natCast];rfl)) rfl ?_
   refine oS (S.lit [_] (es:=[str (t.take w)]) rfl (eC rfl rfl eN) rfl rfl rfl ?_) rfl
   refine oS (S.acc rfl hacc2 rfl (by simp[LV.cells]) rfl (by simp only[List.length_cons,List.length_nil];omega) fun v3 H3 hacc3=>?_) rfl
   refine oP (Pure.as (lv:=v3) rfl) rfl ?_
   refine gac ?_
   refine oP (Pure.ssliceE (m:=t.drop w) rfl ⟨_,rfl⟩ rfl zo zo zo (by rw[Int.toNat_natCast,Int.toNat_natCast,List.take_length])) rfl ?_
   refine gad ?_
   exact ⟨_,_,_,by rw[List.length_drop];omega,⟨t.drop w,out++[t.take w],v3,by rw[List.length_drop];omega,rfl,by rw[List.append_assoc];exact hQ,by rw[←List.append_assoc,List.map_append];exact hacc3,rfl⟩,⟨rfl,rfl,rfl,rfl,rfl,trivial⟩,HSub.refl _,hj2⟩
  ·have hshort:t.length≤w:=by have:=zf hc;omega
   rw[partQ_short hshort] at hQ hQl
   refine gac ?_
   refine oP (Pure.mv (lv:=v2) rfl) rfl ?_
   refine gag ?_
   refine oS (S.lit [_] (es:=[str t]) rfl (eC rfl rfl eN) rfl rfl rfl ?_) rfl
   refine oS (S.acc rfl hacc2 rfl (by simp[LV.cells]) rfl (by simp only[List.length_cons,List.length_nil] at *;omega) fun v3 H3 hacc3=>?_) rfl
   refine oP (Pure.as (lv:=v3) rfl) rfl ?_
   refine gac ?_
   exact ⟨_,_,_,by omega,⟨i+1,v3,by omega,rfl,by
    rw[hnx,←hQ,←List.append_assoc,List.map_append];exact hacc3,rfl⟩,⟨rfl,rfl,rfl,int_eq zo,trivial⟩,HSub.refl _,hj2.trans hj1⟩
 ·have hi':i=l.length:=by have:=zf hc;omega
  subst hi'
  rw[List.take_length] at hacc
  refine LCode.sub (d:=5) (v:=v) rfl hacc.sub ?_
  refine gaa ?_
  exact retRet hj1 (rC (rT (v:=.list _) rfl zsr) rN) rfl
end
end Go.Proofs.YtocofhbdbgnmbaaGreatDoor
namespace Go.GL
section
variable {C:Ctx} {e:Env} {H:Heap} {x y:Operand} {dst:Option Nat} {ty xT yT:TypeId} {pos:String} {aft:Array Edge} {g:Option (Nat×Bool)}
theorem Pure.gtrT {a b:Int} {k:IntKind} (hx:e.ev x=int k a) (hy:e.ev y=int k b) (h:b<a):Pure C ⟨dst,.binOp .gtr xT x y yT,ty,pos,aft,g⟩ e H (bool true):=by
 have:=Pure.gtr (C:=C) (dst:=dst) (ty:=ty) (pos:=pos) (aft:=aft) (g:=g) (H:=H) (xT:=xT) (yT:=yT) hx hy
 rwa [decide_eq_true h] at this
end
end Go.GL
namespace Go.Proofs.YtocofhbdbgnmbaaGreatDoor
open Go.GL Go.RowKit Go.Stele
set_option maxRecDepth 100000
set_option maxHeartbeats 4000000
attribute [local irreducible] LOps LCode LStep LCalls Go.GL.Pure QThen QBlock RetPost LQ LAny LLate LLateOp
theorem last_str {init:List Wd} {last:Wd} {spare:List LV}:((init++[last]).map str++spare)[init.length]? = some (str last):=by
 rw[List.getElem?_append_left (by simp),List.getElem?_map,List.getElem?_append_right (Nat.le_refl _),Nat.sub_self]
 rfl
section
variable {B0:Nat} {w0:World}
theorem rwrap_spec (l:List Wd) (w:Int) (hl:l.length≤100000000) (hs:∀ s∈l,s.length≤100000000) (hf:l.flatten.length≤40000000):LCalls (KC B0 w0) 52 [.list (l.map str),int .i64 w] [] (RetWrap l w):=by
 refine cI Tryz.func52 rfl (n:=72) rfl rfl rfl ?_
 refine gac ?_
 refine oS (S.fn [_,_] rfl (rcheck_spec l w hl hs) ?_) rfl
 refine gaa ?_
 refine oC rfl (fun h=>?_) (fun h=>?_)
 ·have he:wrapE l w≠0:=by have:=zf (not_t h);omega
  refine gai ?_
  refine oS (S.litM fun v0 H0 hm0=>?_) rfl
  rw[List.append_nil]
  refine gad ?_
  exact rR rfl (rC (zrt rfl) (zra rfl)) zhr ⟨_,rfl,by unfold wrapR;rw[if_neg he];exact hm0⟩
 ·have he:wrapE l w=0:=by have:=zt (not_f h);omega
  obtain ⟨n,rfl,hn1,hn2,hok⟩:=wrapE_zero he
  obtain ⟨pp1,pp2,pp3⟩:=parts_props hn1 l hok
  have hpc:(partsP n l).length≤100000000:=by
   have:∀ q:List Wd,q.length≤len1 q:=by
    intro q
    induction q with
    |nil=>simp
    |cons a q ih=>rw[len1_cons,List.length_cons];omega
   have:=this (partsP n l)
   omega
  have hPs:=rparts_spec (B0:=B0) (w0:=w0) l n ⟨hn1,hn2⟩ hl hs hpc
  have hla:((partsP n l).map str).length=(partsP n l).length:=List.length_map _
  refine gae ?_
  refine oS (S.litM fun v0 H0 hm0=>?_) rfl
  rw[List.append_nil]
  refine gac ?_
  refine oS (S.fn [_,_] rfl hPs ?_) rfl
  refine gaa ?_
  refine oL (fun k sl H=>∃ (q:Nat) (v:Value),q≤(partsP n l).length∧k=(partsP n l).length-q∧MRow 9 1 v ((outQ n l q).map str) H∧sl=[(1,int .i64 n),(7,.atom v),(8,.list ((partsP n l).map str)),(9,int .i64 q)])
   ⟨_,_,_,⟨0,v0,Nat.zero_le _,rfl,hm0,rfl⟩,⟨rfl,rfl,rfl,rfl,trivial⟩,HSub.refl _⟩ ?_
  rintro k sl H ⟨q,v,hq',rfl,hm,rfl⟩ j1 hj1
  refine gaa ?_
  refine oC rfl (fun hc=>?_) (fun hc=>?_)
  ·have hq:q<(partsP n l).length:=by have:=zt hc;omega
   obtain ⟨hp1,hp2,_⟩:=pp1 _ (List.getElem_mem hq)
   have hQ:=outQ_succ hq
   have hql:=outQ_len (w:=n) l q
   have hml:((outQ n l q).map str).length=(outQ n l q).length:=List.length_map _
   have hlo:∀ r∈outQ n l q,LineOk n r:=(foldl_props (w:=n) ((partsP n l).take q) (out:=[]) (fun p hp=>pp1 p (List.mem_of_mem_take hp)) (by simp)).1
   have hg:=map_get str (partsP n l) q hq
   generalize (partsP n l)[q]=p at *
   rcases List.eq_nil_or_concat (outQ n l q) with h0|⟨init,last,h0⟩
   ·rw[h0] at hm hQ
    refine gae ?_
    refine oP (Pure.mlen rfl hm) rfl ?_
    refine gad ?_
    refine LCode.draw (m:=19) rfl [] ?_
    refine aT 0 rfl rfl (Pure.mv (lv:=.atom _) rfl) ?_
    refine aT 1 rfl rfl (Pure.gtr rfl rfl) ?_
    refine aT 2 rfl rfl (Pure.mv (lv:=.atom _) rfl) ?_
    refine LAny.takeSkip (i:=3) rfl rfl rfl rfl zk zk zk rfl ?_
    refine LAny.takeSkip (i:=4) rfl rfl rfl rfl zk zk zk rfl ?_
    refine LAny.takeSkip (i:=5) rfl rfl rfl rfl zk zk zk rfl ?_
    refine LAny.takeSkip (i:=6) rfl rfl rfl rfl zk zk zk rfl ?_
    refine LAny.takeSkip (i:=7) rfl rfl rfl rfl zk zk zk rfl ?_
    refine LAny.takeSkip (i:=8) rfl rfl rfl rfl zk zk zk rfl ?_
    refine LAny.takeSkip (i:=9) rfl rfl rfl rfl zk zk zk rfl ?_
    refine LAny.takeSkip (i:=10) rfl rfl rfl rfl zk zk zk rfl ?_
    refine LAny.takeSkip (i:=11) rfl rfl rfl rfl zk zk zk rfl ?_
    refine LAny.takeSkip (i:=12) rfl rfl rfl rfl zk zk zk rfl ?_
    refine LAny.takeSkip (i:=13) rfl rfl rfl rfl zk zk zk rfl ?_
    refine LAny.takeSkip (i:=14) rfl rfl rfl rfl zk zk zk rfl ?_
    refine LAny.takeSkip (i:=15) rfl rfl rfl rfl zk zk zk rfl ?_
    refine LAny.takeSkip (i:=16) rfl rfl rfl rfl zk zk zk rfl ?_
    refine LAny.takeSkip (i:=17) rfl rfl rfl rfl zk zk zk rfl ?_
    refine aT 18 rfl rfl (Pure.pickF (lv:=.atom _) rfl rfl) ?_
    refine LAny.late ?_ zhn
    refine lD zk ?_
    refine gah ?_
    refine oC (t:=false) rfl (fun h=>by cases h) (fun _=>?_)
    refine gac ?_
    refine oP (xR (el':=str p) (cs:=[str p]) rfl rfl zo hg rfl rfl) rfl ?_
    refine gab ?_
    refine oS (S.lit [_] (es:=[str p]) rfl (eC rfl rfl eN) rfl rfl rfl ?_) rfl
    refine oS (S.appM (F:=[]) rfl (by rw[List.append_nil]) hm rfl (by simp[LV.cells]) rfl (by simp only[List.length_map,List.length_append,List.length_cons,List.length_nil];omega) fun v' H' hm'=>?_) rfl
    rw[List.nil_append]
    refine gac ?_
    exact ⟨_,_,_,by omega,⟨q+1,v',by omega,rfl,by rw[hQ];simpa [putW] using hm',rfl⟩,⟨rfl,rfl,rfl,int_eq zo,trivial⟩,HSub.refl _,hj1⟩
   ·rw[List.concat_eq_append] at h0
    rw[h0] at hm hQ hml hql hlo
    rw[put_snoc] at hQ
    obtain ⟨hl1,hl2,_⟩:=hlo last (by simp)
    rw[List.length_append,List.length_cons,List.length_nil] at hml hql
    obtain ⟨bM,cap,spare,rfl,rfl,hcc,hcap⟩:=hm.addr (by simp)
    rw[hml] at hcc hcap hm ⊢
    rw[strs_cells] at hm ⊢
    refine gae ?_
    refine oP (Pure.rowLen rfl) rfl ?_
    refine gad ?_
    refine LCode.draw (m:=19) rfl [(bM,.cells 9 ((init++[last]).map str++spare))] ?_
    refine aT 0 rfl rfl (Pure.mv (lv:=.atom _) rfl) ?_
    refine aT 1 rfl rfl (Pure.gtrT rfl rfl zo) ?_
    refine aT 2 rfl rfl (Pure.mv (lv:=.atom _) rfl) ?_
    refine LAny.tkW 3 rfl rfl rfl rfl (Pure.mv (lv:=.atom _) rfl) ?_
    refine LAny.tkW 4 rfl rfl rfl rfl (Pure.mv (lv:=.atom _) rfl) ?_
    refine LAny.tkW 5 rfl rfl rfl rfl (Pure.subE (c:=(init.length:Int)) rfl rfl zo zo) ?_
    refine LAny.tkW 6 rfl rfl rfl rfl (Pure.indexRowE (o:=init.length) rfl rfl zo zo zo) ?_
    refine LAny.tkW 7 rfl rfl rfl rfl (Pure.loadH (c:=str last) rfl zm0 last_str) ?_
    refine LAny.tkW 8 rfl rfl rfl rfl (Pure.slen rfl) ?_
    refine LAny.tkW 9 rfl rfl rfl rfl (Pure.add rfl rfl zo) ?_
    refine LAny.tkW 10 rfl rfl rfl rfl (Pure.mv (lv:=.list _) rfl) ?_
    refine LAny.tkW 11 rfl rfl rfl rfl (Pure.mv (lv:=.atom _) rfl) ?_
    refine LAny.tkW 12 rfl rfl rfl rfl (xR (el':=str p) (cs:=[str p]) rfl rfl zo hg rfl rfl) ?_
    refine LAny.tkW 13 rfl rfl rfl rfl (Pure.loadRef (c:=.atom _) rfl rfl) ?_
    refine LAny.tkW 14 rfl rfl rfl rfl (Pure.slen rfl) ?_
    refine LAny.tkW 15 rfl rfl rfl rfl (Pure.add rfl rfl zo) ?_
    refine LAny.tkW 16 rfl rfl rfl rfl (Pure.mv (lv:=.atom _) rfl) ?_
    refine LAny.tkW 17 rfl rfl rfl rfl (Pure.leq rfl rfl) ?_
    refine aT 18 rfl rfl (Pure.pickT (lv:=.atom _) rfl rfl) ?_
    refine LAny.late ?_ zhr
    refine lD zk ?_
    refine gah ?_
    refine oC rfl (fun h=>?_) (fun h=>?_)
    ·have hle:last.length+1+p.length≤n:=by have:=zt h;omega
     rw[if_pos hle] at hQ
     refine LCode.draw (m:=16) rfl [] ?_
     refine aT 0 rfl rfl (Pure.mv (lv:=.atom _) rfl) ?_
     refine aT 1 rfl rfl (Pure.mv (lv:=.atom _) rfl) ?_
     refine aT 2 rfl rfl (Pure.subE (c:=(init.length:Int)) rfl rfl zo zo) ?_
     refine aT 3 rfl rfl (Pure.mv (lv:=.atom _) rfl) ?_
     refine aT 4 rfl rfl (Pure.mv (lv:=.atom _) rfl) ?_
     refine aT 5 rfl rfl (Pure.subE (c:=(init.length:Int)) rfl rfl zo zo) ?_
     refine aT 6 rfl rfl (Pure.indexRowE (o:=init.length) rfl rfl zo zo zo) ?_
     refine aT 9 rfl rfl (Pure.mv (lv:=.list _) rfl) ?_
     refine aT 10 rfl rfl (Pure.mv (lv:=.atom _) rfl) ?_
     refine aT 11 rfl rfl (xR (el':=str p) (cs:=[str p]) rfl rfl zo hg rfl rfl) ?_
     refine aT 12 rfl rfl (Pure.loadRef (c:=.atom _) rfl rfl) ?_
     refine LAny.late ?_ zhn
     refine lO 7 (lH rfl rfl (Pure.loadH (c:=str last) rfl zm0 last_str) ?_)
     refine lO 8 (lH rfl rfl (Pure.sadd (l:=last) (m:=[32]) rfl rfl (by simp only[List.length_cons,List.length_nil];omega)) ?_)
     refine lO 13 (lH rfl rfl (Pure.sadd (l:=last++[32]) (m:=p) rfl rfl (by simp only[List.length_append,List.length_cons,List.length_nil];omega)) ?_)
     refine lO 14 (lH rfl rfl (Pure.indexRowE (o:=init.length) rfl rfl zo zo zo) ?_)
     refine lO 15 (lS (H1:=[(bM,.cells 9 ((init++[last]).map str++spare))]) (F:=[]) rfl (.inl rfl) rfl zpr zhn (S.store (off:=init.length) (cs':=init.map str++str (last++[32]++p)::spare) rfl pH rfl rfl (Nat.ble_eq_true_of_le (show init.length+1≤_ by simp)) rfl setL_str ?_))
     refine lD zk ?_
     refine gac ?_
     have hmn:MRow 9 1 (.slice (some ⟨bM,0,none⟩) (init.length+(0+1)) cap) ((init++[last++32::p]).map str) [(bM,.cells 9 ((init++[last++32::p]).map str++spare))]:=MRow.of_cells (strs_len _) (strs_cells _) (by simp) hcc zo
     have e1:(init++[last++32::p]).map str++spare=init.map str++str (last++[32]++p)::spare:=by simp
     rw[e1] at hmn
     exact ⟨_,_,_,by omega,⟨q+1,_,by omega,rfl,by rw[hQ];exact hmn,rfl⟩,⟨rfl,rfl,rfl,int_eq zo,trivial⟩,HSub.refl _,hj1⟩
    ·have hle:¬ last.length+1+p.length≤n:=by have:=zf h;omega
     rw[if_neg hle] at hQ
     refine gac ?_
     refine oP (xR (el':=str p) (cs:=[str p]) rfl rfl zo hg rfl rfl) rfl ?_
     refine gab ?_
     refine oS (S.lit [_] (es:=[str p]) rfl (eC rfl rfl eN) rfl rfl rfl ?_) rfl
     refine oS (S.appM (F:=[]) rfl (by rw[List.append_nil]) hm rfl (by simp[LV.cells]) rfl (by simp only[List.length_map,List.length_append,List.length_cons,List.length_nil];omega) fun v' H' hm'=>?_) rfl
     rw[List.nil_append]
     refine gac ?_
     exact ⟨_,_,_,by omega,⟨q+1,v',by omega,rfl,by rw[hQ];simpa [putW] using hm',rfl⟩,⟨rfl,rfl,rfl,int_eq zo,trivial⟩,HSub.refl _,hj1⟩
  ·have hqe:q=(partsP n l).length:=by have:=zf hc;omega
   subst hqe
   refine gac ?_
   exact rR hj1 (rC (zrt rfl) (zra rfl)) zhr ⟨v,by rw[he];rfl,by
    unfold wrapR
    rw[if_pos he]
    have:outQ n l (partsP n l).length=wrapP l n:=by unfold outQ wrapP;rw[List.take_length]
    rw[this] at hm
    exact hm⟩
end
end Go.Proofs.YtocofhbdbgnmbaaGreatDoor
namespace Go.Proofs.YtocofhbdbgnmbaaGreatDoor
open Go.GL Go.RowKit Go.Stele
set_option maxRecDepth 100000
set_option maxHeartbeats 4000000
attribute [local irreducible] LOps LCode LStep LCalls Go.GL.Pure QThen QBlock RetPost LQ LAny LLate LLateOp
section
variable {B0:Nat} {w0:World}
theorem rheading_spec (l:List Wd) (w:Int) (hl:l.length≤100000000) (hs:∀ s∈l,s.length≤100000000) (hf:l.flatten.length≤40000000):LCalls (KC B0 w0) 51 [.list (l.map str),int .i64 w] [] (RetHead l w):=by
 refine cI Tryz.func51 rfl (n:=45) rfl rfl rfl ?_
 refine gac ?_
 refine oS (S.call0 [_,_] rfl (rwrap_spec l w hl hs hf) (fun v H' hh=>?_) (by rintro ch H' ⟨v,h,_⟩;cases h)) rfl
 obtain ⟨v,hv,hm⟩:=hh
 cases hv
 rw[List.append_nil]
 refine gaa ?_
 refine oB 18 rfl (fun h=>?_) (fun h=>?_)
 ·have he:wrapE l w≠0:=by have:=zf (not_t h);omega
  refine gah ?_
  refine oC rfl (fun _=>?_) (fun h=>by cases h)
  refine gai ?_
  refine oS (S.litM fun v0 H0 hm0=>?_) rfl
  refine gad ?_
  exact rR rfl (rC (zrt rfl) (zra rfl)) (HSub.app _ _) ⟨_,rfl,by unfold headR;rw[if_neg he];exact hm0⟩
 ·have he:wrapE l w=0:=by have:=zt (not_f h);omega
  obtain ⟨n,rfl,hn1,hn2,hok⟩:=wrapE_zero he
  have hH:headR l n=if wrapP l n=[] then [] else wrapP l n++[List.replicate (longest (wrapP l n)) 61]:=by unfold headR;rw[if_pos he];rfl
  have hR:wrapR l n=wrapP l n:=by unfold wrapR;rw[if_pos he];rfl
  obtain ⟨wp1,wp2,wp3⟩:=wrap_props hn1 hok
  have hcnt:(wrapP l n).length≤200000000:=by
   have:∀ q:List Wd,q.length≤len1 q:=by
    intro q
    induction q with
    |nil=>simp
    |cons a q ih=>rw[len1_cons,List.length_cons];omega
   have:=this (wrapP l n)
   omega
  have hlg:∀ i,longest ((wrapP l n).take i)≤n:=fun i=>longest_le _ fun s hs=>(wp1 s (List.mem_of_mem_take hs)).2.1
  rw[hR] at hm
  generalize wrapP l n=ls at *
  have hla:(ls.map str).length=ls.length:=List.length_map _
  refine gag ?_
  refine oP (Pure.mlen rfl hm) rfl ?_
  refine gad ?_
  refine oC rfl (fun h=>?_) (fun h=>?_)
  ·have h0:ls=[]:=List.length_eq_zero_iff.1 (by have:=zt h;omega)
   refine gai ?_
   refine oS (S.litM fun v0 H0 hm0=>?_) rfl
   refine gad ?_
   exact rR rfl (rC (zrt rfl) (zra rfl)) (HSub.app _ _) ⟨_,rfl,by rw[hH,if_pos h0];exact hm0⟩
  ·have h0:ls≠[]:=fun h0=>by
    rw[h0] at h
    cases h
   rw[if_neg h0] at hH
   obtain ⟨b,cap,spare,rfl,rfl,hc,hcap⟩:=hm.addr (by simpa using h0)
   rw[hla] at hc hcap hm ⊢
   rw[strs_cells] at hm ⊢
   refine gac ?_
   refine oL (fun k sl H=>∃ i:Nat,i≤ls.length∧k=ls.length-i∧sl=[(6,.atom (.slice (some ⟨b,0,none⟩) ls.length cap)),(8,str (List.replicate (longest (ls.take i)) 61)),(9,int .i64 i)]∧H=[(b,.cells 9 (ls.map str++spare))])
    ⟨_,_,_,⟨0,Nat.zero_le _,rfl,rfl,rfl⟩,⟨rfl,rfl,rfl,trivial⟩,HSub.refl _⟩ ?_
   rintro k sl H ⟨i,hi,rfl,rfl,rfl⟩ j1 hj1
   refine gae ?_
   refine oP (Pure.rowLen rfl) rfl ?_
   refine gad ?_
   refine oC rfl (fun hc=>?_) (fun hc=>?_)
   ·have hlt:i<ls.length:=by have:=zt hc;omega
    have hsl:=(wp1 _ (List.getElem_mem hlt)).2.1
    have hlg0:=hlg i
    have hlx:longest (ls.take (i+1))=max (longest (ls.take i)) ls[i].length:=by rw[List.take_succ_eq_append_getElem hlt,longest_snoc]
    have hgx:(ls.map str++spare)[i]? = some (str ls[i]):=by
     rw[List.getElem?_append_left (by rw[List.length_map];exact hlt),List.getElem?_map,List.getElem?_eq_getElem hlt];rfl
    generalize ls[i]=s at *
    refine gad ?_
    refine oL (fun k sl H=>∃ m:Nat,longest (ls.take i)≤m∧m≤max (longest (ls.take i)) s.length∧k=200-m∧sl=[(6,.atom (.slice (some ⟨b,0,none⟩) ls.length cap)),(8,str (List.replicate m 61)),(9,int .i64 i)]∧H=[(b,.cells 9 (ls.map str++spare))])
     ⟨_,_,_,⟨longest (ls.take i),Nat.le_refl _,by omega,rfl,rfl,rfl⟩,⟨rfl,rfl,rfl,trivial⟩,HSub.refl _⟩ ?_
    rintro k sl H ⟨m,hm1,hm2,rfl,rfl,rfl⟩ j2 hj2
    have hrl:(List.replicate m (61:UInt8)).length=m:=List.length_replicate
    refine gaa ?_
    refine oP (Pure.indexRowE (o:=i) rfl rfl zo zo zo) rfl ?_
    refine oP (Pure.loadH (c:=str s) rfl zm0 hgx) rfl ?_
    refine gab ?_
    refine oC rfl (fun hc=>?_) (fun hc=>?_)
    ·have hml:m<s.length:=by have:=zt hc;omega
     refine gaa ?_
     exact ⟨_,_,_,by omega,⟨m+1,by omega,by omega,rfl,rfl,rfl⟩,⟨rfl,str_eq (by rw[List.replicate_succ']),rfl,trivial⟩,HSub.refl _,hj2⟩
    ·have hml:s.length≤m:=by have:=zf hc;omega
     refine gac ?_
     exact ⟨_,_,_,by omega,⟨i+1,by omega,rfl,rfl,rfl⟩,⟨rfl,str_eq (by rw[hlx,show max (longest (ls.take i)) s.length=m by omega]),int_eq zo,trivial⟩,HSub.refl _,hj2.trans hj1⟩
   ·have hie:i=ls.length:=by have:=zf hc;omega
    subst hie
    have hlg0:=hlg ls.length
    rw[List.take_length] at hlg0 ⊢
    refine gac ?_
    refine oS (S.lit [_] (es:=[str (List.replicate (longest ls) 61)]) rfl (eC rfl rfl eN) rfl rfl rfl ?_) rfl
    refine oS (S.appM (F:=[]) rfl (by rw[List.append_nil]) hm rfl (by simp[LV.cells]) rfl (by simp only[List.length_map,List.length_append,List.length_cons,List.length_nil];omega) fun v' H' hm'=>?_) rfl
    rw[List.nil_append]
    refine gad ?_
    exact rR hj1 (rC (zrt rfl) (zra rfl)) zhr ⟨v',by rw[he];rfl,by rw[hH,List.map_append];exact hm'⟩
end
end Go.Proofs.YtocofhbdbgnmbaaGreatDoor
namespace Go.Stele
open Go.Lib
theorem idxL_snoc:∀ (l:List Wd) (i:Nat) (a:Wd),idxL i (l++[a])=idxL i l++[(i+l.length,a)]
 |[],i,a=>rfl
 |b::l,i,a=>by
  rw[List.cons_append,idxL,idxL,idxL_snoc l (i+1) a,List.cons_append,List.length_cons,show i+1+l.length=i+(l.length+1) by omega]
theorem widen_step {ws:List Nat} {r:List Wd} {k:Nat} (h:k<r.length):widen ws (r.take (k+1))=stepW (widen ws (r.take k)) (k,r[k]):=by
 have h1:=stepW_row (r.take (k+1)) 0 ws (Nat.zero_le _)
 have h2:=stepW_row (r.take k) 0 ws (Nat.zero_le _)
 rw[List.take_zero,List.drop_zero,List.nil_append] at h1 h2
 rw[←h1,←h2,List.take_succ_eq_append_getElem h,idxL_snoc,List.foldl_append,List.length_take,Nat.min_eq_left (by omega),Nat.zero_add]
 rfl
def wsA (ws:List Nat) (k:Nat):List Nat:=if k=ws.length then ws++[1] else ws
theorem stepW_A {ws:List Nat} {k:Nat} (c:Wd) (h:k≤ws.length) (hk:k<(wsA ws k).length):stepW ws (k,c)=(wsA ws k).set k (max (wsA ws k)[k] c.length):=by
 unfold stepW
 simp only
 unfold wsA at hk ⊢
 split
 ·rename_i h1
  subst h1
  simp
 ·rename_i h1
  have hlt:k<ws.length:=by omega
  rw[List.getElem?_eq_getElem hlt]
  simp
theorem wsA_lt {ws:List Nat} {k:Nat} (h:k≤ws.length):k<(wsA ws k).length:=by
 unfold wsA
 split
 ·simp;omega
 ·omega
end Go.Stele
namespace Go.Proofs.YtocofhbdbgnmbaaGreatDoor
open Go.GL Go.RowKit Go.Stele
set_option maxRecDepth 100000
set_option maxHeartbeats 4000000
attribute [local irreducible] LOps LCode LStep LCalls Go.GL.Pure QThen QBlock RetPost LQ LAny LLate LLateOp
section
variable {B0:Nat} {w0:World}
theorem rblanks_spec (n:Nat) (hn:n≤100000000):LCalls (KC B0 w0) 104 [int .i64 n] [] (Ret (str (List.replicate n 32))):=by
 refine cI Tryz.func104 rfl (n:=13) rfl rfl rfl ?_
 refine gac ?_
 refine oL (fun k sl H=>∃ i:Nat,i≤n∧k=n-i∧sl=[(0,int .i64 n),(3,str (List.replicate i 32)),(4,int .i64 i)]∧H=[])
  ⟨_,_,_,⟨0,Nat.zero_le _,rfl,rfl,rfl⟩,⟨rfl,rfl,rfl,trivial⟩,HSub.refl _⟩ ?_
 rintro k sl H ⟨i,hi,rfl,rfl,rfl⟩ j1 hj1
 have hrl:(List.replicate i (32:UInt8)).length=i:=List.length_replicate
 refine gac ?_
 refine oC rfl (fun hc=>?_) (fun hc=>?_)
 ·have hlt:i<n:=by have:=zt hc;omega
  refine gaa ?_
  exact ⟨_,_,_,by omega,⟨i+1,by omega,rfl,rfl,rfl⟩,⟨rfl,str_eq (by rw[List.replicate_succ']),int_eq zo,trivial⟩,HSub.refl _,hj1⟩
 ·have hie:i=n:=by have:=zf hc;omega
  subst hie
  refine gac ?_
  exact retRet hj1 (zra rfl) rfl
theorem rwidths_spec (rows:List (List Wd)) (hl:rows.length≤100000000) (hs:∀ r∈rows,r.length≤100000000) (hcl:∀ r∈rows,∀ c∈r,c.length≤100000000) (hw:∀ i (r:List Wd),r∈rows→∀ k,(widen ((rows.take i).foldl widen []) (r.take k)).length≤100000000):LCalls (KC B0 w0) 81 [rowsLV rows] [] (Ret (.list (natsLV (widthsP rows)))):=by
 have hla:(rows.map fun r=>LV.list (r.map str)).length=rows.length:=List.length_map _
 refine cI Tryz.func81 rfl (n:=54) rfl rfl rfl ?_
 unfold rowsLV
 refine gaf ?_
 refine oS (S.litM fun v0 H0 hm0=>?_) rfl
 rw[List.append_nil]
 refine gac ?_
 refine oL (fun k sl H=>∃ (i:Nat) (v:Value),i≤rows.length∧k=rows.length-i∧MRow 3 1 v (natsLV ((rows.take i).foldl widen [])) H∧sl=[(0,.list (rows.map fun r=>.list (r.map str))),(3,.atom v),(4,int .i64 i)])
  ⟨_,_,_,⟨0,v0,Nat.zero_le _,rfl,hm0,rfl⟩,⟨rfl,rfl,rfl,trivial⟩,HSub.refl _⟩ ?_
 rintro k sl H ⟨i,v,hi,rfl,hm,rfl⟩ j1 hj1
 refine gaa ?_
 refine oC rfl (fun hc=>?_) (fun hc=>?_)
 ·have hlt:i<rows.length:=by have:=zt hc;omega
  have hrm:rows[i]∈rows:=List.getElem_mem hlt
  have hrs:=hs _ hrm
  have hrc:=hcl _ hrm
  have hwi:=hw i _ hrm
  have hnx:(rows.take (i+1)).foldl widen []=widen ((rows.take i).foldl widen []) rows[i]:=by
   rw[List.take_succ_eq_append_getElem hlt,List.foldl_append];rfl
  have hg:(rows.map fun r=>LV.list (r.map str))[((i:Nat):Int).toNat]? = some (.list (rows[i].map str)):=map_get _ _ _ hlt
  generalize rows[i]=r at *
  generalize (rows.take i).foldl widen []=ws0 at *
  have hra:(r.map str).length=r.length:=List.length_map _
  refine gac ?_
  refine oL (fun k sl H=>∃ (x:Nat) (v:Value),x≤r.length∧k=r.length-x∧MRow 3 1 v (natsLV (widen ws0 (r.take x))) H∧sl=[(0,.list (rows.map fun r=>.list (r.map str))),(3,.atom v),(4,int .i64 i),(5,int .i64 x)])
   ⟨_,_,_,⟨0,v,Nat.zero_le _,rfl,by rw[List.take_zero];cases ws0 <;> exact hm,rfl⟩,⟨rfl,rfl,rfl,rfl,trivial⟩,HSub.refl _⟩ ?_
  rintro k sl H ⟨x,v,hx,rfl,hm,rfl⟩ j2 hj2
  refine gac ?_
  refine oP (xR (el':=.list (r.map str)) (cs:=[.list (r.map str)]) rfl rfl zo hg rfl rfl) rfl ?_
  refine gab ?_
  refine oC rfl (fun hc=>?_) (fun hc=>?_)
  ·have hxl:x<r.length:=by have:=zt hc;omega
   have hwx:=hwi x
   have hst:=widen_step (ws:=ws0) hxl
   have hcc:=hrc _ (List.getElem_mem hxl)
   have hgx:=map_get str r x hxl
   have hxw:x≤(widen ws0 (r.take x)).length:=by rw[widen_len,List.length_take];omega
   generalize widen ws0 (r.take x)=ws at *
   rw[stepW_A _ hxw (wsA_lt hxw)] at hst
   have hkA:=wsA_lt hxw
   have hlA:(wsA ws x).length≤ws.length+1:=by
    unfold wsA
    split
    ·simp
    ·omega
   generalize r[x]=c at *
   have hml:(natsLV ws).length=ws.length:=List.length_map _
   refine gae ?_
   refine oP (Pure.mlen rfl hm) rfl ?_
   refine gad ?_
   refine LCode.mid (A:=Value×Heap) (fun a=>[(0,.list (rows.map fun r=>.list (r.map str))),(3,.atom a.1),(4,int .i64 i),(5,int .i64 x)]) (fun a=>a.2) (fun a=>MRow 3 1 a.1 (natsLV (wsA ws x)) a.2) ?_ ?_
   ·refine oC rfl (fun h=>?_) (fun h=>?_)
    ·have hxe:x=ws.length:=by have:=zt h;omega
     refine gae ?_
     refine oS (S.lit [_] (es:=[int .i64 1]) rfl (eC rfl rfl eN) rfl rfl rfl ?_) rfl
     refine oS (S.appM (F:=[]) rfl (by rw[List.append_nil]) hm rfl (by simp[LV.cells]) rfl (by simp only[List.length_cons,List.length_nil];omega) fun v' H' hm'=>?_) rfl
     rw[List.nil_append]
     refine gad ?_
     exact ⟨(v',H'),by
      have:natsLV (wsA ws x)=natsLV ws++[int .i64 1]:=by unfold wsA natsLV;rw[if_pos hxe,List.map_append];rfl
      rw[this];exact hm',⟨rfl,rfl,rfl,rfl,trivial⟩,rfl,rfl⟩
    ·have hxe:¬ x=ws.length:=by have:=zf h;omega
     refine gad ?_
     exact ⟨(v,H),by unfold wsA;rw[if_neg hxe];exact hm,⟨rfl,rfl,rfl,rfl,trivial⟩,rfl,rfl⟩
   ·rintro ⟨v1,H1⟩ hm1 j3 hj3
    have hml1:(natsLV (wsA ws x)).length=(wsA ws x).length:=List.length_map _
    simp only at hm1
    obtain ⟨bM,cap,spare,rfl,rfl,hcc2,hcap⟩:=hm1.addr (by intro h;rw[h] at hml1;simp only[List.length_nil] at hml1;omega)
    rw[hml1] at hcc2 hcap ⊢
    have hcells:(natsLV (wsA ws x)).flatMap LV.cells=natsLV (wsA ws x):=nats_cells (wsA ws x)
    rw[hcells]
    refine gad ?_
    refine LCode.draw (m:=13) rfl [(bM,.cells 3 (natsLV (wsA ws x)++spare))] ?_
    refine aT 0 rfl rfl (Pure.mv (lv:=.list _) rfl) ?_
    refine aT 1 rfl rfl (Pure.mv (lv:=.atom _) rfl) ?_
    refine aT 2 rfl rfl (xR (el':=.list (r.map str)) (cs:=[.list (r.map str)]) rfl rfl zo hg rfl rfl) ?_
    refine aT 3 rfl rfl (Pure.loadRef (c:=.list _) rfl rfl) ?_
    refine aT 4 rfl rfl (Pure.mv (lv:=.atom _) rfl) ?_
    refine aT 5 rfl rfl (xR (el':=str c) (cs:=[str c]) rfl rfl zo hgx rfl rfl) ?_
    refine aT 6 rfl rfl (Pure.loadRef (c:=.atom _) rfl rfl) ?_
    refine aT 7 rfl rfl (Pure.slen rfl) ?_
    refine aT 8 rfl rfl (Pure.mv (lv:=.atom _) rfl) ?_
    refine aT 9 rfl rfl (Pure.mv (lv:=.atom _) rfl) ?_
    refine aT 10 rfl rfl (Pure.indexRowE (o:=x) rfl rfl zo zo zo) ?_
    refine aT 11 rfl rfl (Pure.loadH (c:=int .i64 ((wsA ws x)[x]'hkA:Nat)) rfl zm0 (nats_get hkA)) ?_
    refine aT 12 rfl rfl (Pure.gtr rfl rfl) ?_
    refine LAny.late ?_ zhr
    refine lD zk ?_
    refine gah ?_
    refine oC rfl (fun h=>?_) (fun h=>?_)
    ·have hgt:(wsA ws x)[x]'hkA<c.length:=by have:=zt h;omega
     rw[Nat.max_eq_right zo] at hst
     refine gac ?_
     refine oP (xR (el':=.list (r.map str)) (cs:=[.list (r.map str)]) rfl rfl zo hg rfl rfl) rfl ?_
     refine gab ?_
     refine oP (xR (el':=str c) (cs:=[str c]) rfl rfl zo hgx rfl rfl) rfl ?_
     refine gab ?_
     refine oP (Pure.indexRowE (o:=x) rfl rfl zo zo zo) rfl ?_
     refine oS (S.store (off:=x) (cs':=natsLV ((wsA ws x).set x c.length)++spare) rfl pH rfl rfl (Nat.ble_eq_true_of_le (show x+1≤_ by rw[List.length_append];omega)) rfl (setL_nat hkA) ?_) rfl
     refine gac ?_
     exact ⟨_,_,_,by omega,⟨x+1,_,by omega,rfl,by rw[hst];exact MRow.nats (by rw[List.length_set]) hcc2 zo,rfl⟩,⟨rfl,rfl,rfl,int_eq zo,trivial⟩,HSub.refl _,hj3.trans hj2⟩
    ·have hgt:¬ (wsA ws x)[x]'hkA<c.length:=by have:=zf h;omega
     rw[Nat.max_eq_left zo,List.set_getElem_self] at hst
     refine gac ?_
     exact ⟨_,_,_,by omega,⟨x+1,_,by omega,rfl,by rw[hst];exact MRow.nats rfl hcc2 zo,rfl⟩,⟨rfl,rfl,rfl,int_eq zo,trivial⟩,HSub.refl _,hj3.trans hj2⟩
  ·have hxe:x=r.length:=by have:=zf hc;omega
   subst hxe
   rw[List.take_length] at hm
   refine gac ?_
   exact ⟨_,_,_,by omega,⟨i+1,v,by omega,rfl,by rw[hnx];exact hm,rfl⟩,⟨rfl,rfl,int_eq zo,trivial⟩,HSub.refl _,hj2.trans hj1⟩
 ·have hie:i=rows.length:=by have:=zf hc;omega
  subst hie
  rw[List.take_length] at hm
  refine LCode.settle (F:=[]) 3 hm (by rw[List.append_nil]) rfl fun v' H' ha=>?_
  refine LCode.sub (d:=3) (v:=v') (by simp[Env.upd]) ha.sub ?_
  refine gaa ?_
  exact retRet hj1 (rC (rT (v:=.list _) rfl zsr) rN) rfl
end
end Go.Proofs.YtocofhbdbgnmbaaGreatDoor
namespace Go.Proofs.YtocofhbdbgnmbaaGreatDoor
open Go.GL Go.RowKit Go.Stele
set_option maxRecDepth 100000
set_option maxHeartbeats 4000000
attribute [local irreducible] LOps LCode LStep LCalls Go.GL.Pure QThen QBlock RetPost LQ LAny LLate LLateOp
section
variable {B0:Nat} {w0:World}
theorem rline_spec (row:List Wd) (ws:List Nat) (hr:row.length≤100000000) (hwn:ws.length≤30000) (hww:∀ n∈ws,n≤100000) (hge:∀ k:Nat,((row[k]?).getD []).length≤(ws[k]?).getD 0):LCalls (KC B0 w0) 82 [.list (row.map str),.list (natsLV ws)] [] (Ret (str (tabLine ws row))):=by
 have hra:(row.map str).length=row.length:=List.length_map _
 have hwl:(natsLV ws).length=ws.length:=List.length_map _
 have hT:tabLine ws row=124::tabCells ws row:=rfl
 refine cI Tryz.func82 rfl (n:=37) rfl rfl rfl ?_
 refine gac ?_
 refine oL (fun k sl H=>∃ (x:Nat),x≤ws.length∧k=ws.length-x∧(tabCells (ws.take x) row).length≤x * 100003∧sl=[(0,.list (row.map str)),(1,.list (natsLV ws)),(5,str (124::tabCells (ws.take x) row)),(6,int .i64 x)]∧H=[])
  ⟨_,_,_,⟨0,Nat.zero_le _,rfl,by simp[tabCells],rfl,rfl⟩,⟨rfl,rfl,rfl,rfl,trivial⟩,HSub.refl _⟩ ?_
 rintro k sl H ⟨x,hx,rfl,hB2len,rfl,rfl⟩ j2 hj2
 refine gaa ?_
 refine oC rfl (fun hc=>?_) (fun hc=>?_)
 ·have hxl:x<ws.length:=by have:=zt hc;omega
  have hwx:=hww _ (List.getElem_mem hxl)
  have hgx:((row[x]?).getD []).length≤ws[x]:=by
   have:=hge x
   rwa [List.getElem?_eq_getElem hxl] at this
  have htc:tabCells (ws.take (x+1)) row=tabCells (ws.take x) row++cellT ws[x] ((row[x]?).getD []):=by
   rw[List.take_succ_eq_append_getElem hxl,tabCells_snoc,List.length_take,Nat.min_eq_left zo]
  have htl:=hB2len
  have htn:(tabCells (ws.take (x+1)) row).length≤(x+1) * 100003:=by
   have h4:(cellT ws[x] ((row[x]?).getD [])).length=ws[x]+3:=by
    unfold cellT
    simp only[List.length_cons,List.length_append,List.length_replicate,List.length_nil]
    omega
   rw[htc,List.length_append]
   omega
  have hx3:x * 100003≤30000 * 100003:=Nat.mul_le_mul_right _ zo
  have hgn:=map_get (fun n:Nat=>int .i64 n) ws x hxl
  refine gaa ?_
  refine LCode.cut [(0,.list (row.map str)),(1,.list (natsLV ws)),(5,str (124::tabCells (ws.take x) row)),(6,int .i64 x),(7,str ((row[x]?).getD []))] ?_ (fun j3 hj3=>?_)
  ·refine oC rfl (fun h=>?_) (fun h=>?_)
   ·have hxr:x<row.length:=by have:=zt h;omega
    refine gac ?_
    refine oP (xR (el':=str row[x]) (cs:=[str row[x]]) rfl rfl zo (map_get _ _ _ hxr) rfl rfl) rfl ?_
    refine gab ?_
    exact ⟨⟨rfl,rfl,rfl,rfl,str_eq (by rw[List.getElem?_eq_getElem hxr];rfl),trivial⟩,rfl,rfl⟩
   ·have hxr:¬ x<row.length:=by have:=zf h;omega
    refine gad ?_
    exact ⟨⟨rfl,rfl,rfl,rfl,str_eq (by rw[List.getElem?_eq_none zo];rfl),trivial⟩,rfl,rfl⟩
  have hcw:cellT ws[x] ((row[x]?).getD [])=32::(((row[x]?).getD [])++List.replicate (ws[x]-((row[x]?).getD []).length) 32++[32,124]):=rfl
  generalize (row[x]?).getD []=cw at *
  generalize ws[x]=wx at *
  have hrl:(List.replicate (wx-cw.length) (32:UInt8)).length=wx-cw.length:=List.length_replicate
  refine gaa ?_
  refine oP (xR (el':=int .i64 (wx:Nat)) (cs:=[int .i64 (wx:Nat)]) rfl rfl zo hgn rfl rfl) rfl ?_
  refine gab ?_
  refine LOps.sub 32 (v:=int .i64 ((wx:Int)-(cw.length:Int))) (v':=int .i64 ((wx-cw.length:Nat):Int)) rfl (by rw[show (wx:Int)-(cw.length:Int)=((wx-cw.length:Nat):Int) by omega];exact LV.Sub.refl _) ?_
  refine oS (S.fn [_] rfl (rblanks_spec (wx-cw.length) zo) ?_) rfl
  refine oP (Pure.sadd (l:=124::tabCells (ws.take x) row++[32]++cw) (m:=List.replicate (wx-cw.length) 32) rfl rfl (by simp only[List.length_append,List.length_cons,List.length_nil,List.length_replicate];omega)) rfl ?_
  refine oP (Pure.sadd (l:=124::tabCells (ws.take x) row++[32]++cw++List.replicate (wx-cw.length) 32) (m:=[32,124]) rfl rfl (by simp only[List.length_append,List.length_cons,List.length_nil,List.length_replicate];omega)) rfl ?_
  refine gac ?_
  exact ⟨_,_,_,by omega,⟨x+1,by omega,rfl,htn,rfl,rfl⟩,⟨rfl,rfl,str_eq (by rw[htc,hcw];simp),int_eq zo,trivial⟩,HSub.refl _,hj3.trans hj2⟩
 ·have hxl:x=ws.length:=by have:=zf hc;omega
  subst hxl
  rw[List.take_length]
  refine gac ?_
  exact retRet hj2 (zra rfl) (by rw[hT];rfl)
theorem rtable_spec (rows:List (List Wd)) (hl:rows.length≤10000000) (hs:∀ r∈rows,r.length≤100000000) (hrl:∀ r∈rows,∀ c∈r,c.length≤100000) (hw:∀ i (r:List Wd),r∈rows→∀ k,(widen ((rows.take i).foldl widen []) (r.take k)).length≤100000000) (hwn:(widthsP rows).length≤30000) (hww:∀ n∈widthsP rows,n≤100000):LCalls (KC B0 w0) 53 [rowsLV rows] [] (Ret (.list ((tableP rows).map str))):=by
 have hW:=rwidths_spec (B0:=B0) (w0:=w0) rows zo hs (fun r hr c hc=>by have:=hrl r hr c hc;omega) hw
 have hge:=fun r (hr:r∈rows) k=>widths_ge hr k
 have hT:tableP rows=rows.map (tabLine (widthsP rows)):=rfl
 rw[hT]
 generalize widthsP rows=ws at *
 have hwl:(natsLV ws).length=ws.length:=List.length_map _
 have hla:(rows.map fun r=>LV.list (r.map str)).length=rows.length:=List.length_map _
 refine cI Tryz.func53 rfl (n:=25) rfl rfl rfl ?_
 refine gac ?_
 refine oS (S.fn [_] rfl hW ?_) rfl
 unfold rowsLV
 refine gaa ?_
 refine oS (S.litA [] rfl eN rfl rfl rfl fun b=>?_) rfl
 refine oP (Pure.as (lv:=.app b 0 1 []) rfl) rfl ?_
 refine gac ?_
 refine oL (fun k sl H=>∃ (i:Nat) (v:LV),i≤rows.length∧k=rows.length-i∧Acc 1 v (((rows.take i).map (tabLine ws)).map str) H []∧sl=[(0,.list (rows.map fun r=>.list (r.map str))),(3,.list (natsLV ws)),(4,v),(5,int .i64 i)])
  ⟨_,_,_,⟨0,.app b 0 1 [],Nat.zero_le _,rfl,Acc.row,rfl⟩,⟨rfl,rfl,rfl,rfl,trivial⟩,HSub.refl _⟩ ?_
 rintro k sl H ⟨i,v,hi,rfl,hacc,rfl⟩ j1 hj1
 refine gaa ?_
 refine oC rfl (fun hc=>?_) (fun hc=>?_)
 ·have hlt:i<rows.length:=by have:=zt hc;omega
  have hrm:rows[i]∈rows:=List.getElem_mem hlt
  have hL:=rline_spec (B0:=B0) (w0:=w0) rows[i] ws (hs _ hrm) hwn hww (hge _ hrm)
  have htk:((rows.take (i+1)).map (tabLine ws)).map str=((rows.take i).map (tabLine ws)).map str++[str (tabLine ws rows[i])]:=by
   rw[List.take_succ_eq_append_getElem hlt,List.map_append,List.map_append];rfl
  have hg:(rows.map fun r=>LV.list (r.map str))[((i:Nat):Int).toNat]? = some (.list (rows[i].map str)):=map_get _ _ _ hlt
  generalize rows[i]=row at *
  refine gae ?_
  refine oP (Pure.mv (lv:=v) rfl) rfl ?_
  refine gad ?_
  refine oP (xR (el':=.list (row.map str)) (cs:=[.list (row.map str)]) rfl rfl zo hg rfl rfl) rfl ?_
  refine gab ?_
  refine oS (S.fn [_,_] rfl hL ?_) rfl
  refine oS (S.lit [_] (es:=[str (tabLine ws row)]) rfl (eC rfl rfl eN) rfl rfl rfl ?_) rfl
  refine oS (S.acc (F:=[]) rfl hacc rfl (by simp[LV.cells]) rfl (by simp only[List.length_map,List.length_take,List.length_cons,List.length_nil];omega) fun v' H' hacc'=>?_) rfl
  rw[←htk] at hacc'
  refine oP (Pure.as (lv:=v') rfl) rfl ?_
  refine gac ?_
  exact ⟨_,_,_,by omega,⟨i+1,v',by omega,rfl,hacc',rfl⟩,⟨rfl,rfl,rfl,int_eq zo,trivial⟩,HSub.refl _,hj1⟩
 ·have hi':i=rows.length:=by have:=zf hc;omega
  subst hi'
  rw[List.take_length] at hacc
  refine LCode.sub (d:=4) (v:=v) rfl hacc.sub ?_
  refine gaa ?_
  exact retRet hj1 (rC (rT (v:=.list _) rfl zsr) rN) rfl
end
end Go.Proofs.YtocofhbdbgnmbaaGreatDoor
namespace Go.Stele
open Go.Lib
theorem dig_take {d r:Wd} (hd:∀ x∈d,isDg x=true) (hr:∀ x,r.head? = some x→isDg x=false):(d++r).takeWhile isDg=d:=by
 rw[List.takeWhile_append_of_pos hd]
 cases r with
 |nil=>simp
 |cons c t=>rw[List.takeWhile_cons_of_neg (by rw[hr c rfl];decide),List.append_nil]
theorem dig_split {d r:Wd} {n:Nat} {c:UInt8} {t:Wd} (hd:∀ x∈d,isDg x=true) (hr:∀ x,r.head? = some x→isDg x=false) (hc:isDg c=false) (h:d++r=decDigits n++c::t):d=decDigits n∧r=c::t:=by
 have h1:=dig_take hd hr
 have h2:=dig_take (r:=c::t) (dec_isDg n) (fun x hx=>by simp at hx;rw[←hx];exact hc)
 rw[h,h2] at h1
 refine ⟨h1.symm,?_⟩
 rw[←h1] at h
 exact List.append_cancel_left h
theorem sep_not {c:UInt8} (h:c=46∨c=35):isDg c=false:=by rcases h with rfl|rfl <;> decide
theorem dec_len5 {n:Nat} (h:n≤99999):(decDigits n).length≤5:=by
 rw[decDigits]
 split
 ·simp
 ·rw[decDigits]
  split
  ·simp
  ·rw[decDigits]
   split
   ·simp
   ·rw[decDigits]
    split
    ·simp
    ·rw[decDigits,dif_pos (by omega)]
     simp
theorem runsQ_run {last c:UInt8} {d r:Wd} (hd:∀ x∈d,isDg x=true) (h0:d≠[]) (h5:d.length≤5) (hz:d.head? ≠ some 48) (hc:c=46∨c=35) (hl:c≠last) :
  runsQ last (d++c::r)=match runsQ c r with
   |some l=>some ((pvR 0 d,c)::l)
   |none=>none:=by
 have hpos:=List.length_pos_iff.2 h0
 obtain ⟨p1,p2⟩:=dec_pv (d.length-1) d (by omega) hd hz
 have p3:=pv_lt d hd
 have p4:10 ^ d.length≤10 ^ 5:=Nat.pow_le_pow_right (by decide) h5
 have hne:d++c::r≠[]:=by simp
 have key:∀ l,runsQ last (d++c::r)=some l ↔ ∃ l',runsQ c r=some l'∧l=(pvR 0 d,c)::l':=fun l=>by
  rw[runsQ_iff hne]
  constructor
  ·rintro ⟨n,c',r',l',k1,k2,k3,k4,k5,k6,k7⟩
   obtain ⟨e1,e2⟩:=dig_split hd (fun x hx=>by simp at hx;rw[←hx];exact sep_not hc) (sep_not k4) k1
   injection e2 with e2 e3
   subst e2 e3
   refine ⟨l',k6,?_⟩
   rw[k7,e1,pv_dec]
  ·rintro ⟨l',k1,k2⟩
   exact ⟨pvR 0 d,c,r,l',by rw[p2],p1,by omega,hc,hl,k1,k2⟩
 cases hq:runsQ c r with
 |none=>
  cases hx:runsQ last (d++c::r) with
  |none=>rfl
  |some l=>
   obtain ⟨l',k1,_⟩:=(key l).1 hx
   rw[hq] at k1
   cases k1
 |some l'=>exact (key _).2 ⟨l',hq,rfl⟩
theorem runsQ_none {last:UInt8} {d r:Wd} (hne:d++r≠[]) (hd:∀ x∈d,isDg x=true) (hr:∀ x,r.head? = some x→isDg x=false) (hb:d=[]∨∀ c t,r=c::t→(c≠46∧c≠35)∨c=last):runsQ last (d++r)=none:=by
 cases hx:runsQ last (d++r) with
 |none=>rfl
 |some l=>
  obtain ⟨n,c,t,l',k1,k2,k3,k4,k5,k6,k7⟩:=(runsQ_iff hne).1 hx
  obtain ⟨e1,e2⟩:=dig_split hd hr (sep_not k4) k1
  rcases hb with hb|hb
  ·rw[hb] at e1
   exact absurd e1.symm (decDigits_ne n)
  ·rcases hb c t e2 with h|h
   ·rcases k4 with k4|k4
    ·exact absurd k4 h.1
    ·exact absurd k4 h.2
   ·exact absurd h k5
theorem runsQ_digit {last c:UInt8} {d r:Wd} (hd:∀ x∈d,isDg x=true) (hc:isDg c=true) (hb:(d=[]∧c=48)∨d.length=5):runsQ last (d++c::r)=none:=by
 cases hx:runsQ last (d++c::r) with
 |none=>rfl
 |some l=>
  obtain ⟨n,c',t,l',k1,k2,k3,k4,k5,k6,k7⟩:=(runsQ_iff (by simp)).1 hx
  have h1:=dig_take (r:=c'::t) (dec_isDg n) (fun x hx=>by simp at hx;rw[←hx];exact sep_not k4)
  rw[←k1,List.takeWhile_append_of_pos hd,List.takeWhile_cons_of_pos hc] at h1
  rcases hb with ⟨rfl,rfl⟩|hb
  ·exact absurd (by rw[←h1];rfl) (dec_head k2)
  ·have h2:=congrArg List.length h1
   have h3:=dec_len5 k3
   simp only[List.length_append,List.length_cons] at h2
   omega
end Go.Stele
namespace Go.Stele
theorem slice_app {s:Wd} {a b:Nat} (h:a≤b) (hb:b≤s.length):s.drop a=(s.take b).drop a++s.drop b:=by
 conv=>lhs;rw[←List.take_append_drop b s]
 rw[List.drop_append_of_le_length (by rw[List.length_take];omega)]
theorem head_drop {s:Wd} {b:Nat} (h:b<s.length) (hn:isDg s[b]=false):∀ x,(s.drop b).head? = some x→isDg x=false:=fun x hx=>by
 rw[List.drop_eq_getElem_cons h] at hx
 injection hx with hx
 rw[←hx];exact hn
theorem rc_len:∀ l:List (Nat×UInt8),(runCells l).length=runLen l
 |[]=>rfl
 |(n,c)::l=>by
  have ih:=rc_len l
  have h1:runCells ((n,c)::l)=List.replicate n c++runCells l:=by simp[runCells]
  have h2:runLen ((n,c)::l)=n+runLen l:=by simp[runLen]
  rw[h1,h2,List.length_append,List.length_replicate,ih]
theorem fl_len {w:Nat}:∀ {l:List Wd},(∀ r∈l,r.length=w)→l.flatten.length=l.length * w
 |[],_=>by simp
 |r::l,h=>by
  have ih:=fl_len (l:=l) fun x hx=>h x (List.mem_cons_of_mem _ hx)
  rw[List.flatten_cons,List.length_append,ih,h r (by simp),List.length_cons,Nat.succ_mul,Nat.add_comm]
def BadRun (s:Wd) (last:UInt8) (a b:Nat):Prop:=(s.take b).drop a=[]∨s.length≤b∨(s[b]? ≠ some 46∧s[b]? ≠ some 35)∨s[b]? = some last
instance (s:Wd) (last:UInt8) (a b:Nat):Decidable (BadRun s last a b):=by unfold BadRun;infer_instance
end Go.Stele
namespace Go.Proofs.YtocofhbdbgnmbaaGreatDoor
open Go.GL Go.RowKit Go.Stele
set_option maxRecDepth 100000
set_option maxHeartbeats 4000000
attribute [local irreducible] LOps LCode LStep LCalls Go.GL.Pure QThen QBlock RetPost LQ LAny LLate LLateOp
section
variable {B0:Nat} {w0:World}
theorem rexpand_spec (s:List UInt8) (w:Nat) (hs:s.length≤100000) (hw:w≤1000000000):LCalls (KC B0 w0) 54 [str s,int .i64 w] [] (Ret (expLV (expandP s w))):=by
 have hE:=expandP_eq s w
 refine cI Tryz.func54 rfl (n:=159) rfl rfl rfl ?_
 refine gac ?_
 refine oB 17 rfl (fun h1=>?_) (fun h1=>?_)
 ·rw[if_pos (.inl (by have:=zt h1;omega))] at hE
  refine gah ?_
  refine oC rfl (fun _=>?_) (fun h=>by cases h)
  refine gaf ?_
  exact retRet rfl (rC (rT (v:=nilSlice) rfl LV.Sub.nil) (zra rfl)) (by rw[hE];rfl)
 ·have g1:=zf h1
  refine gab ?_
  refine oC rfl (fun h=>?_) (fun h=>?_)
  ·rw[if_pos (.inr (by have:=zt h;omega))] at hE
   refine gaf ?_
   exact retRet rfl (rC (rT (v:=nilSlice) rfl LV.Sub.nil) (zra rfl)) (by rw[hE];rfl)
  ·have g2:=zf h
   rw[if_neg zo] at hE
   refine gac ?_
   refine oL (fun k sl H=>∃ (a:Nat) (last:UInt8) (pre:List (Nat×UInt8)),a≤s.length∧k=s.length-a∧runLen pre≤99999 * a∧(runsQ 0 s=match runsQ last (s.drop a) with
      |some l=>some (pre++l)
      |none=>none)∧sl=[(0,str s),(1,int .i64 w),(6,int .i64 (runLen pre:Nat)),(7,int .i64 a),(8,int .u8 last.toNat)]∧H=[])
    ⟨_,_,_,⟨0,0,[],Nat.zero_le _,rfl,by simp[runLen],by rw[List.drop_zero];cases runsQ 0 s <;> rfl,rfl,rfl⟩,⟨rfl,rfl,rfl,rfl,rfl,trivial⟩,HSub.refl _⟩ ?_
   rintro k sl H ⟨a,last,pre,ha,rfl,hpl,hQ,rfl,rfl⟩ j1 hj1
   refine gaa ?_
   refine oC rfl (fun hc=>?_) (fun hc=>?_)
   ·have hal:a<s.length:=by have:=zt hc;omega
    refine gac ?_
    refine oL (fun k sl H=>∃ b:Nat,a≤b∧b≤s.length∧k=s.length-b∧(∀ x∈(s.take b).drop a,isDg x=true)∧b-a≤5∧((s.take b).drop a).head? ≠ some 48∧sl=[(0,str s),(1,int .i64 w),(6,int .i64 (runLen pre:Nat)),(7,int .i64 b),(8,int .u8 last.toNat),(9,int .i64 (pvR 0 ((s.take b).drop a):Nat)),(10,int .i64 (b-a:Nat))]∧H=[])
     ⟨_,_,_,⟨a,Nat.le_refl _,ha,rfl,by rw[slice_nil];simp,by omega,by rw[slice_nil];simp,rfl,rfl⟩,⟨rfl,rfl,rfl,rfl,rfl,int_eq (by rw[slice_nil];rfl),int_eq zo,trivial⟩,HSub.refl _⟩ ?_
    rintro k sl H ⟨b,hab,hb,rfl,hd,h5,hz,rfl,rfl⟩ j2 hj2
    have hdl:((s.take b).drop a).length=b-a:=by rw[List.length_drop,List.length_take];omega
    have hpv:=pv_lt _ hd
    have hpw:10 ^ ((s.take b).drop a).length≤10 ^ 5:=Nat.pow_le_pow_right (by decide) zo
    refine gaa ?_
    refine LOps.cut [(0,str s),(1,int .i64 w),(6,int .i64 (runLen pre:Nat)),(7,int .i64 b),(8,int .u8 last.toNat),(9,int .i64 (pvR 0 ((s.take b).drop a):Nat)),(10,int .i64 (b-a:Nat)),(40,bool (decide (∃ h:b<s.length,isDg s[b]=true)))] ?_ (fun j3 hj3=>?_)
    ·refine oB 29 rfl (fun h1=>?_) (fun h1=>?_)
     ·have hlt:b<s.length:=by have:=zt h1;omega
      refine gag ?_
      refine oP (Pure.sindex (c:=s[b]) rfl rfl zo (get_some hlt)) rfl ?_
      refine gab ?_
      refine oB 35 rfl (fun h2=>?_) (fun h2=>?_)
      ·have q2:=zt h2
       refine gag ?_
       refine oP (Pure.sindex (c:=s[b]) rfl rfl zo (get_some hlt)) rfl ?_
       refine gab ?_
       exact ⟨⟨rfl,rfl,rfl,rfl,rfl,rfl,rfl,bool_eq (decide_eq_decide.2 ⟨fun h=>⟨hlt,isDg_iff.2 ⟨by omega,by omega⟩⟩,fun ⟨_,h⟩=>by have:=isDg_iff.1 h;omega⟩),trivial⟩,rfl,rfl⟩
      ·have q2:=zf h2
       refine gab ?_
       exact ⟨⟨rfl,rfl,rfl,rfl,rfl,rfl,rfl,bool_eq (decide_eq_false fun ⟨_,h⟩=>by have:=isDg_iff.1 h;omega).symm,trivial⟩,rfl,rfl⟩
     ·have q1:=zf h1
      refine gab ?_
      exact ⟨⟨rfl,rfl,rfl,rfl,rfl,rfl,rfl,bool_eq (decide_eq_false fun ⟨h,_⟩=>by omega).symm,trivial⟩,rfl,rfl⟩
    refine oC rfl (fun hc=>?_) (fun hc=>?_)
    ·obtain ⟨hlt,hdg⟩:=zt hc
     have hdi:=isDg_iff.1 hdg
     have hsp:s.drop a=(s.take b).drop a++s[b]::s.drop (b+1):=by rw[slice_app hab hb,drop_cons hlt]
     have hsn:=slice_snoc hab hlt
     have hcl:=s[b].toNat_lt
     refine gac ?_
     refine LOps.cut [(0,str s),(1,int .i64 w),(6,int .i64 (runLen pre:Nat)),(7,int .i64 b),(8,int .u8 last.toNat),(9,int .i64 (pvR 0 ((s.take b).drop a):Nat)),(10,int .i64 (b-a:Nat)),(52,bool (decide ((b-a=0∧s[b]=48)∨b-a=5)))] ?_ (fun j4 hj4=>?_)
     ·refine oB 43 rfl (fun h1=>?_) (fun h1=>?_)
      ·have q1:=zt h1
       refine gag ?_
       refine oP (Pure.sindex (c:=s[b]) rfl rfl zo (get_some hlt)) rfl ?_
       refine gad ?_
       refine oB 49 rfl (fun h2=>?_) (fun h2=>?_)
       ·have q2:s[b]=48:=byte_t h2
        refine gah ?_
        exact ⟨⟨rfl,rfl,rfl,rfl,rfl,rfl,rfl,bool_eq (decide_eq_true (.inl ⟨by omega,q2⟩)).symm,trivial⟩,rfl,rfl⟩
       ·have q2:s[b]≠48:=byte_f h2 (by decide)
        refine gad ?_
        exact ⟨⟨rfl,rfl,rfl,rfl,rfl,rfl,rfl,bool_eq (decide_eq_decide.2 ⟨fun h=>.inr zo,fun h=>by rcases h with h|h;exact absurd h.2 q2;omega⟩),trivial⟩,rfl,rfl⟩
      ·have q1:=zf h1
       refine gab ?_
       exact ⟨⟨rfl,rfl,rfl,rfl,rfl,rfl,rfl,bool_eq (decide_eq_decide.2 ⟨fun h=>.inr zo,fun h=>by rcases h with h|h;omega;omega⟩),trivial⟩,rfl,rfl⟩
     refine oC rfl (fun h=>?_) (fun h=>?_)
     ·have hbad:=zt h
      have hnone:runsQ last (s.drop a)=none:=by
       rw[hsp]
       exact runsQ_digit hd hdg (by
        rcases hbad with h|h
        ·exact .inl ⟨List.eq_nil_of_length_eq_zero zo,h.2⟩
        ·exact .inr zo)
      rw[hnone] at hQ
      rw[hQ] at hE
      refine gak ?_
      exact retRet (hj4.trans (hj3.trans (hj2.trans hj1))) (rC (rT (v:=nilSlice) rfl LV.Sub.nil) (zra rfl)) (by rw[hE];rfl)
     ·have hok:=zf h
      have hpn:pvR 0 ((s.take (b+1)).drop a)=10 * pvR 0 ((s.take b).drop a)+(s[b].toNat-48):=by rw[hsn,pvR_snoc]
      refine gae ?_
      refine oP (Pure.mulE (c:=((10 * pvR 0 ((s.take b).drop a):Nat):Int)) rfl rfl zo zo) rfl ?_
      refine gag ?_
      refine oP (Pure.sindex (c:=s[b]) rfl rfl zo (get_some hlt)) rfl ?_
      refine gab ?_
      refine oP (Pure.addE (c:=((10 * pvR 0 ((s.take b).drop a)+s[b].toNat:Nat):Int)) rfl rfl (by rw[wrap_i64 zo];omega) zo) rfl ?_
      refine oP (Pure.subE (c:=((10 * pvR 0 ((s.take b).drop a)+(s[b].toNat-48):Nat):Int)) rfl rfl zo zo) rfl ?_
      refine gac ?_
      exact ⟨_,_,_,by omega,⟨b+1,by omega,by omega,rfl,by rw[hsn];intro c hc;rcases List.mem_append.1 hc with hc|hc;exact hd c hc;rw[List.mem_singleton.1 hc];exact hdg,by omega,by
       rw[hsn]
       rcases Classical.em ((s.take b).drop a=[]) with h0|h0
       ·rw[h0]
        intro h1
        injection h1 with h1
        exact hok (.inl ⟨by rw[h0] at hdl;simpa using hdl.symm,h1⟩)
       ·rw[head_app h0];exact hz,rfl,rfl⟩,⟨rfl,rfl,rfl,int_eq zo,rfl,int_eq (by rw[hpn]),int_eq zo,trivial⟩,HSub.refl _,hj4.trans (hj3.trans hj2)⟩
    ·have hnd:=zf hc
     have hrd:∀ x,(s.drop b).head? = some x→isDg x=false:=by
      rcases Nat.lt_or_ge b s.length with h|h
      ·exact head_drop h (by rw[←Bool.not_eq_true];exact fun hx=>hnd ⟨h,hx⟩)
      ·rw[List.drop_eq_nil_of_le h];intro x hx;cases hx
     have hsp:=slice_app hab hb
     refine gac ?_
     refine LOps.cut [(0,str s),(1,int .i64 w),(6,int .i64 (runLen pre:Nat)),(7,int .i64 b),(8,int .u8 last.toNat),(9,int .i64 (pvR 0 ((s.take b).drop a):Nat)),(91,bool (decide (BadRun s last a b)))] ?_ (fun j4 hj4=>?_)
     ·refine oB 67 rfl (fun h1=>?_) (fun h1=>?_)
      ·have q1:=zt h1
       refine gab ?_
       exact ⟨⟨rfl,rfl,rfl,rfl,rfl,rfl,bool_eq (decide_eq_true (.inl (List.eq_nil_of_length_eq_zero zo))).symm,trivial⟩,rfl,rfl⟩
      ·have q1:=zf h1
       have hne:(s.take b).drop a≠[]:=fun h=>by rw[h] at hdl;simp only[List.length_nil] at hdl;omega
       refine gab ?_
       refine oB 73 rfl (fun h2=>?_) (fun h2=>?_)
       ·have q2:=zt h2
        refine gab ?_
        exact ⟨⟨rfl,rfl,rfl,rfl,rfl,rfl,bool_eq (decide_eq_true (.inr (.inl zo))).symm,trivial⟩,rfl,rfl⟩
       ·have q2:=zf h2
        have hlt:b<s.length:=by omega
        have hgi:s[b]? = some s[b]:=List.getElem?_eq_getElem hlt
        have hlast:(s[b].toNat:Int)=(last.toNat:Int) ↔ s[b]=last:=⟨fun h=>UInt8.toNat.inj zo,fun h=>by rw[h]⟩
        refine gag ?_
        refine oP (Pure.sindex (c:=s[b]) rfl rfl zo (get_some hlt)) rfl ?_
        refine gab ?_
        refine oB 78 rfl (fun h3=>?_) (fun h3=>?_)
        ·have q3:s[b]≠46:=byte_ne h3 (by decide)
         refine gag ?_
         refine oP (Pure.sindex (c:=s[b]) rfl rfl zo (get_some hlt)) rfl ?_
         refine gab ?_
         refine oB 85 rfl (fun h4=>?_) (fun h4=>?_)
         ·have q4:s[b]≠35:=byte_ne h4 (by decide)
          refine gah ?_
          exact ⟨⟨rfl,rfl,rfl,rfl,rfl,rfl,bool_eq (decide_eq_true (.inr (.inr (.inl ⟨by rw[hgi];intro h;injection h with h;exact q3 h,by rw[hgi];intro h;injection h with h;exact q4 h⟩)))).symm,trivial⟩,rfl,rfl⟩
         ·have q4:s[b]=35:=byte_t (not_f h4)
          refine gag ?_
          refine oP (Pure.sindex (c:=s[b]) rfl rfl zo (get_some hlt)) rfl ?_
          refine gad ?_
          refine ⟨⟨rfl,rfl,rfl,rfl,rfl,rfl,bool_eq (decide_eq_decide.2 (hlast.trans ⟨fun h=>.inr (.inr (.inr (by rw[hgi,h]))),?_⟩)),trivial⟩,rfl,rfl⟩
          rintro (h|h|h|h)
          ·exact absurd h hne
          ·omega
          ·exact absurd (by rw[hgi,q4]) h.2
          ·rw[hgi] at h;injection h
        ·have q3:s[b]=46:=byte_t (not_f h3)
         refine gab ?_
         refine oP (Pure.sindex (c:=s[b]) rfl rfl zo (get_some hlt)) rfl ?_
         refine gad ?_
         refine ⟨⟨rfl,rfl,rfl,rfl,rfl,rfl,bool_eq (decide_eq_decide.2 (hlast.trans ⟨fun h=>.inr (.inr (.inr (by rw[hgi,h]))),?_⟩)),trivial⟩,rfl,rfl⟩
         rintro (h|h|h|h)
         ·exact absurd h hne
         ·omega
         ·exact absurd (by rw[hgi,q3]) h.1
         ·rw[hgi] at h;injection h
     refine oC rfl (fun h=>?_) (fun h=>?_)
     ·have hbad:=zt h
      have hnone:runsQ last (s.drop a)=none:=by
       rw[hsp]
       refine runsQ_none (by rw[←hsp];intro h;have:=congrArg List.length h;rw[List.length_drop,List.length_nil] at this;omega) hd hrd ?_
       rcases hbad with h|h|h|h
       ·exact .inl h
       ·exact .inr fun c t hct=>by rw[List.drop_eq_nil_of_le h] at hct;cases hct
       ·refine .inr fun c t hct=>.inl ?_
        have hg:s[b]? = some c:=by rw[←List.head?_drop,hct];rfl
        rw[hg] at h
        exact ⟨fun h1=>h.1 (by rw[h1]),fun h1=>h.2 (by rw[h1])⟩
       ·refine .inr fun c t hct=>.inr ?_
        have hg:s[b]? = some c:=by rw[←List.head?_drop,hct];rfl
        rw[hg] at h
        injection h
      rw[hnone] at hQ
      rw[hQ] at hE
      refine gak ?_
      exact retRet (hj4.trans (hj3.trans (hj2.trans hj1))) (rC (rT (v:=nilSlice) rfl LV.Sub.nil) (zra rfl)) (by rw[hE];rfl)
     ·have hok:=zf h
      have hlt:b<s.length:=Nat.lt_of_not_le fun h=>hok (.inr (.inl h))
      have hgi:s[b]? = some s[b]:=List.getElem?_eq_getElem hlt
      have hne:(s.take b).drop a≠[]:=fun h=>hok (.inl h)
      have hc46:s[b]=46∨s[b]=35:=by
       rcases Classical.em (s[b]=46) with h|h
       ·exact .inl h
       ·exact .inr (Classical.not_not.1 fun h2=>hok (.inr (.inr (.inl ⟨by rw[hgi];intro h3;injection h3 with h3;exact h h3,by rw[hgi];intro h3;injection h3 with h3;exact h2 h3⟩))))
      have hcl:s[b]≠last:=fun h=>hok (.inr (.inr (.inr (by rw[hgi,h]))))
      have hrun:=runsQ_run (r:=s.drop (b+1)) hd hne zo hz hc46 hcl
      rw[←drop_cons hlt,←hsp] at hrun
      rw[hrun] at hQ
      have hrl:runLen (pre++[(pvR 0 ((s.take b).drop a),s[b])])=runLen pre+pvR 0 ((s.take b).drop a):=by simp[runLen]
      refine gae ?_
      refine oP (Pure.sindex (c:=s[b]) rfl rfl zo (get_some hlt)) rfl ?_
      refine gac ?_
      exact ⟨_,_,_,by omega,⟨b+1,s[b],pre++[(pvR 0 ((s.take b).drop a),s[b])],by omega,rfl,by rw[hrl];omega,by
       rw[hQ]
       cases runsQ s[b] (s.drop (b+1)) with
       |none=>rfl
       |some l=>simp,rfl,rfl⟩,⟨rfl,rfl,int_eq (by rw[hrl];omega),int_eq zo,rfl,trivial⟩,HSub.refl _,hj4.trans (hj3.trans (hj2.trans hj1))⟩
   ·have hae:a=s.length:=by have:=zf hc;omega
    subst hae
    rw[List.drop_length,runsQ_nil] at hQ
    simp only[List.append_nil] at hQ
    rw[hQ] at hE
    simp only at hE
    have hwz:(w:Int)≠0:=by omega
    have hm:((runLen pre:Nat):Int).tmod (w:Int)=((runLen pre % w:Nat):Int):=by
     rw[Int.tmod_eq_emod_of_nonneg zo];rfl
    refine gac ?_
    refine oB 102 rfl (fun h1=>?_) (fun h1=>?_)
    ·have q1:=zt h1
     rw[if_pos (.inl zo)] at hE
     refine gah ?_
     refine oC rfl (fun _=>?_) (fun h=>by cases h)
     refine gaf ?_
     exact retRet hj1 (rC (rT (v:=nilSlice) rfl LV.Sub.nil) (zra rfl)) (by rw[hE];rfl)
    ·have q1:=zf h1
     refine gag ?_
     refine oP (Pure.remW rfl rfl hwz) rfl ?_
     rw[hm]
     refine gab ?_
     refine oC rfl (fun h=>?_) (fun h=>?_)
     ·have q2:=zf (not_t h)
      rw[if_pos (.inr zo)] at hE
      refine gaf ?_
      exact retRet hj1 (rC (rT (v:=nilSlice) rfl LV.Sub.nil) (zra rfl)) (by rw[hE];rfl)
     ·have q2:=zt (not_f h)
      rw[if_neg (fun h=>by rcases h with h|h <;> omega)] at hE
      refine gae ?_
      refine oP (Pure.quo rfl rfl zo zo zo) rfl ?_
      refine gab ?_
      refine oC rfl (fun h=>?_) (fun h=>?_)
      ·have q3:=zt h
       rw[if_pos zo] at hE
       refine gaf ?_
       exact retRet hj1 (rC (rT (v:=nilSlice) rfl LV.Sub.nil) (zra rfl)) (by rw[hE];rfl)
      ·have q3:=zf h
       rw[if_neg zo] at hE
       have hwp:0<w:=by omega
       have hTb:runLen pre≤99999 * s.length:=hpl
       generalize hT:runLen pre=T at *
       refine gac ?_
       refine oL (fun k sl H=>∃ (a:Nat) (last:UInt8) (dn po:List (Nat×UInt8)) (out:List Wd) (row:Wd) (v:LV),a≤s.length∧k=s.length-a∧runsQ last (s.drop a)=some po∧pre=dn++po∧out.flatten++row=runCells dn∧(∀ r∈out,r.length=w)∧row.length<w∧Acc 1 v (out.map str) H []∧sl=[(0,str s),(1,int .i64 w),(7,int .i64 a),(11,v),(12,str row)])
        ⟨_,_,_,⟨0,0,[],pre,[],[],nilSlice,Nat.zero_le _,rfl,by rw[List.drop_zero];exact hQ,rfl,rfl,by simp,hwp,Acc.nil,rfl⟩,⟨rfl,rfl,rfl,rfl,rfl,trivial⟩,HSub.refl _⟩ ?_
       rintro k sl H ⟨a,last,dn,po,out,row,v,ha,rfl,hR,hpre,hfl,hrw,hrow,hacc,rfl⟩ j2 hj2
       refine gaa ?_
       refine oC rfl (fun hc=>?_) (fun hc=>?_)
       ·have hal:a<s.length:=by have:=zt hc;omega
        have hne:s.drop a≠[]:=fun h=>by have:=congrArg List.length h;rw[List.length_drop,List.length_nil] at this;omega
        obtain ⟨n,c,r,po',k1,k2,k3,k4,k5,k6,k7⟩:=(runsQ_iff hne).1 hR
        have hcn:=sep_not k4
        have h5:=dec_len5 k3
        have hsl:s.length-a=(Go.Lib.decDigits n).length+(1+r.length):=by
         have:=congrArg List.length k1
         simp only[List.length_drop,List.length_append,List.length_cons] at this
         omega
        have hgD:∀ x (hx:x<(Go.Lib.decDigits n).length),s[a+x]? = some (Go.Lib.decDigits n)[x]:=fun x hx=>by
         rw[←List.getElem?_drop,k1,List.getElem?_append_left hx,List.getElem?_eq_getElem hx]
        have hgc:s[a+(Go.Lib.decDigits n).length]? = some c:=by
         rw[←List.getElem?_drop,k1,List.getElem?_append_right (Nat.le_refl _),Nat.sub_self];rfl
        have hRn:s.drop (a+((Go.Lib.decDigits n).length+1))=r:=by
         rw[←List.drop_drop,k1,←List.drop_drop,List.drop_left];rfl
        have hpvn:=pv_dec n
        have hdig:=dec_isDg n
        generalize Go.Lib.decDigits n=D at *
        refine gac ?_
        refine oL (fun k sl H2=>∃ x:Nat,x≤D.length∧k=D.length-x∧sl=[(0,str s),(1,int .i64 w),(7,int .i64 (a+x:Nat)),(11,v),(12,str row),(13,int .i64 (pvR 0 (D.take x):Nat))]∧H2=H)
         ⟨_,_,_,⟨0,Nat.zero_le _,rfl,rfl,rfl⟩,⟨rfl,rfl,rfl,rfl,rfl,rfl,trivial⟩,HSub.refl _⟩ ?_
        rintro k sl H2 ⟨x,hx,rfl,rfl,rfl⟩ j3 hj3
        obtain ⟨d,hgd,hdd,hde⟩:∃ d:UInt8,s[a+x]? = some d∧(isDg d=true ↔ x<D.length)∧∀ h:x<D.length,d=D[x]:=by
         rcases Nat.lt_or_ge x D.length with h|h
         ·exact ⟨D[x],hgD x h,⟨fun _=>h,fun _=>hdig _ (List.getElem_mem h)⟩,fun _=>rfl⟩
         ·obtain rfl:x=D.length:=by omega
          exact ⟨c,hgc,⟨fun h1=>(by rw[hcn] at h1;cases h1),fun h1=>by omega⟩,fun h1=>by omega⟩
        have hdl:=d.toNat_lt
        refine gae ?_
        refine LOps.cut [(0,str s),(1,int .i64 w),(7,int .i64 (a+x:Nat)),(11,v),(12,str row),(13,int .i64 (pvR 0 (D.take x):Nat)),(125,bool (decide (isDg d=true)))] ?_ (fun j4 hj4=>?_)
        ·refine oP (Pure.sindex (c:=d) rfl rfl zo hgd) rfl ?_
         refine gab ?_
         refine oB 120 rfl (fun h1=>?_) (fun h1=>?_)
         ·have q1:=zt h1
          refine gag ?_
          refine oP (Pure.sindex (c:=d) rfl rfl zo hgd) rfl ?_
          refine gab ?_
          exact ⟨⟨rfl,rfl,rfl,rfl,rfl,rfl,bool_eq (decide_eq_decide.2 ⟨fun h=>isDg_iff.2 ⟨by omega,by omega⟩,fun h=>by have:=isDg_iff.1 h;omega⟩),trivial⟩,rfl,rfl⟩
         ·have q1:=zf h1
          refine gab ?_
          exact ⟨⟨rfl,rfl,rfl,rfl,rfl,rfl,bool_eq (decide_eq_false fun h=>by have:=isDg_iff.1 h;omega).symm,trivial⟩,rfl,rfl⟩
        refine oC rfl (fun hc2=>?_) (fun hc2=>?_)
        ·have hdg:=zt hc2
         have hxl:x<D.length:=hdd.1 hdg
         have hdx:=hde hxl
         have htk:D.take (x+1)=D.take x++[d]:=by rw[List.take_succ_eq_append_getElem hxl,hdx]
         have hpn:pvR 0 (D.take (x+1))=10 * pvR 0 (D.take x)+(d.toNat-48):=by rw[htk,pvR_snoc]
         have hpv:=pv_lt (D.take x) fun y hy=>hdig y (List.mem_of_mem_take hy)
         have hpw:10 ^ (D.take x).length≤10 ^ 5:=Nat.pow_le_pow_right (by decide) (by rw[List.length_take];omega)
         have hdi:=isDg_iff.1 hdg
         refine gae ?_
         refine oP (Pure.mulE (c:=((10 * pvR 0 (D.take x):Nat):Int)) rfl rfl zo zo) rfl ?_
         refine gag ?_
         refine oP (Pure.sindex (c:=d) rfl rfl zo hgd) rfl ?_
         refine gab ?_
         refine oP (Pure.addE (c:=((10 * pvR 0 (D.take x)+d.toNat:Nat):Int)) rfl rfl (by rw[wrap_i64 zo];omega) zo) rfl ?_
         refine oP (Pure.subE (c:=((10 * pvR 0 (D.take x)+(d.toNat-48):Nat):Int)) rfl rfl zo zo) rfl ?_
         refine gac ?_
         exact ⟨_,_,_,by omega,⟨x+1,by omega,rfl,rfl,rfl⟩,⟨rfl,rfl,int_eq zo,rfl,rfl,int_eq (by rw[hpn]),trivial⟩,HSub.refl _,hj4.trans hj3⟩
        ·have hxe:x=D.length:=by have h1:=zf hc2;have h2:=mt hdd.2 h1;omega
         subst hxe
         rw[List.take_length,hpvn]
         have hrl:runLen dn+n≤T:=by rw[←hT,hpre,k7];simp[runLen]
         refine gac ?_
         refine oL (fun k sl H2=>∃ (i:Nat) (out2:List Wd) (row2:Wd) (v2:LV),i≤n∧k=n-i∧out2.flatten++row2=runCells dn++List.replicate i c∧(∀ r∈out2,r.length=w)∧row2.length<w∧Acc 1 v2 (out2.map str) H2 []∧sl=[(0,str s),(1,int .i64 w),(7,int .i64 (a+D.length:Nat)),(11,v2),(12,str row2),(13,int .i64 n),(14,int .i64 i)])
          ⟨_,_,_,⟨0,out,row,v,Nat.zero_le _,rfl,by rw[hfl];simp,hrw,hrow,hacc,rfl⟩,⟨rfl,rfl,rfl,rfl,rfl,rfl,rfl,trivial⟩,HSub.refl _⟩ ?_
         rintro k sl H2 ⟨i,out2,row2,v2,hi,rfl,hfl2,hrw2,hrow2,hacc2,rfl⟩ j5 hj5
         have hlen2:=congrArg List.length hfl2
         rw[List.length_append,fl_len hrw2,List.length_append,rc_len,List.length_replicate] at hlen2
         have hol:out2.length≤out2.length * w:=Nat.le_mul_of_pos_right _ hwp
         refine gac ?_
         refine oC rfl (fun hc3=>?_) (fun hc3=>?_)
         ·have hin:i<n:=by have:=zt hc3;omega
          have hfn:out2.flatten++(row2++[c])=runCells dn++List.replicate (i+1) c:=by rw[←List.append_assoc,hfl2,List.append_assoc,List.replicate_succ']
          refine gac ?_
          refine oP (Pure.ssliceE (m:=[c]) (i:=(a+D.length:Nat)) (j:=(a+D.length+1:Nat)) rfl ⟨_,rfl⟩ ⟨_,int_eq zo⟩ zo zo zo (by
           rw[Int.toNat_natCast,Int.toNat_natCast,slice_snoc (Nat.le_refl _) zo,slice_nil]
           rw[List.getElem?_eq_getElem zo] at hgc
           injection hgc with hgc
           rw[hgc];rfl)) rfl ?_
          refine gaa ?_
          refine oC rfl (fun hc4=>?_) (fun hc4=>?_)
          ·have hw1:(row2++[c]).length=w:=by have:=zt hc4;omega
           refine gai ?_
           refine oP (Pure.mv (lv:=v2) rfl) rfl ?_
           refine gag ?_
           refine oS (S.lit [_] (es:=[str (row2++[c])]) rfl (eC rfl rfl eN) rfl rfl rfl ?_) rfl
           refine oS (S.acc (F:=[]) rfl hacc2 rfl (by simp[LV.cells]) rfl (by simp only[List.length_map,List.length_cons,List.length_nil];omega) fun v' H' hacc'=>?_) rfl
           refine oP (Pure.as (lv:=v') rfl) rfl ?_
           refine gac ?_
           exact ⟨_,_,_,by omega,⟨i+1,out2++[row2++[c]],[],v',by omega,rfl,by rw[List.flatten_append,List.append_nil,←hfn];simp,fun y hy=>by
            rcases List.mem_append.1 hy with h|h
            ·exact hrw2 y h
            ·rw[List.mem_singleton.1 h];exact hw1,hwp,by rw[List.map_append];exact hacc',rfl⟩,⟨rfl,rfl,rfl,rfl,rfl,rfl,int_eq zo,trivial⟩,HSub.refl _,hj5⟩
          ·have hw1:(row2++[c]).length≠w:=by have:=zf hc4;omega
           rw[List.length_append] at hw1
           simp only[List.length_cons,List.length_nil] at hw1
           refine gac ?_
           exact ⟨_,_,_,by omega,⟨i+1,out2,row2++[c],v2,by omega,rfl,hfn,hrw2,by rw[List.length_append];simp only[List.length_cons,List.length_nil];omega,hacc2,rfl⟩,⟨rfl,rfl,rfl,rfl,rfl,rfl,int_eq zo,trivial⟩,HSub.refl _,hj5⟩
         ·have hie:i=n:=by have:=zf hc3;omega
          subst hie
          refine gac ?_
          exact ⟨_,_,_,by omega,⟨a+(D.length+1),c,dn++[(i,c)],po',out2,row2,v2,by omega,rfl,by rw[hRn];exact k6,by rw[hpre,k7];simp,by rw[hfl2];simp[runCells],hrw2,hrow2,hacc2,rfl⟩,⟨rfl,rfl,int_eq zo,rfl,rfl,trivial⟩,HSub.refl _,hj5.trans (hj4.trans (hj3.trans hj2))⟩
       ·have hae:a=s.length:=by have:=zf hc;omega
        subst hae
        rw[List.drop_length,runsQ_nil] at hR
        injection hR with hR
        subst hR
        rw[List.append_nil] at hpre
        subst hpre
        have hlen:=congrArg List.length hfl
        rw[List.length_append,fl_len hrw,rc_len,hT] at hlen
        have hr0:row.length=0:=by
         have h1:(row.length+out.length * w) % w=row.length % w:=Nat.add_mul_mod_self_right ..
         rw[Nat.add_comm,hlen,Nat.mod_eq_of_lt hrow] at h1
         omega
        have hrn:row=[]:=List.eq_nil_of_length_eq_zero hr0
        rw[hrn,List.append_nil] at hfl
        have hq:T / w=out.length:=by rw[←hlen,hr0,Nat.add_zero,Nat.mul_div_cancel _ hwp]
        have huniq:=rowsOf_uniq out hrw
        refine LCode.sub (d:=11) (v:=v) rfl hacc.sub ?_
        refine gaa ?_
        exact retRet (hj2.trans hj1) (rC (rT (v:=.list _) rfl zsr) (zra rfl)) (by rw[hE,hq,←hfl,←huniq];rfl)
end
end Go.Proofs.YtocofhbdbgnmbaaGreatDoor
namespace Go.Proofs.YtocofhbdbgnmbaaGreatDoor
open Go.GL Go.RowKit Go.Stele
set_option maxRecDepth 100000
set_option maxHeartbeats 4000000
attribute [local irreducible] LOps LCode LStep LCalls Go.GL.Pure QThen QBlock RetPost LQ LAny LLate LLateOp
section
variable {B0:Nat} {w0:World}
theorem rlns_spec (n:Nat) (b:Blk) (hb:SmallB b) (hw:1≤n∧n≤200):LCalls (KC B0 w0) 26 [encB b,int .i64 n] [] (Ret (expLV (rowsP n b))):=by
 have hbw:=hb.bw
 have hwn:=(bw_words b).1
 have hrn:=(bw_words b).2
 have hws:∀ s∈b.words,s.length≤100000000:=fun s hs=>by
  have:=sum_mem (fun w:Wd=>w.length+1) hs
  unfold bw at hbw
  omega
 have hfl:=flat_le b.words
 have hH:=rheading_spec (B0:=B0) (w0:=w0) b.words n zo hws (by unfold bw at hbw;omega)
 have hWr:=rwrap_spec (B0:=B0) (w0:=w0) b.words n zo hws (by unfold bw at hbw;omega)
 have hE:wrapE b.words n=if b.words.all okWord=true then 0 else 1:=by rw[wrapE_eq,if_neg zo]
 have hsum:(b.rows.map fun r=>(r.map fun c=>c.length+3).sum+2).sum≤100000:=by unfold bw at hbw;omega
 have hrow:∀ r∈b.rows,(r.map fun c=>c.length+3).sum+2≤100000:=fun r hr=>Nat.le_trans (sum_mem (fun r:List Wd=>(r.map fun c=>c.length+3).sum+2) hr) hsum
 have hcel:∀ r∈b.rows,∀ c∈r,c.length≤100000:=fun r hr c hc=>by
  have h1:=hrow r hr
  have h2:=sum_mem (fun c:Wd=>c.length+3) hc
  omega
 have hL:=rtable_spec (B0:=B0) (w0:=w0) b.rows zo (fun r hr=>by have:=hb.rows3 r hr;omega) hcel (fun i r hr k=>by
  have h1:=widn_le (m:=30000) (b.rows.take i) [] (Nat.zero_le _) fun r hr=>by have:=hb.rows3 r (List.mem_of_mem_take hr);omega
  have h2:=hb.rows3 r hr
  rw[widen_len,List.length_take]
  omega) (widn_le _ _ (Nat.zero_le _) fun r hr=>by have:=hb.rows3 r hr;omega) (wids_le zo _ _ (by simp) hcel)
 unfold encB cellsB
 refine cI Tryz.func26 rfl (n:=36) rfl rfl rfl ?_
 refine gai ?_
 refine oS (S.box (cs:=cellsB b) rfl fun b2=>?_) rfl
 unfold cellsB
 refine gaa ?_
 refine oC rfl (fun h=>?_) (fun h=>?_)
 ·have hk:b.kind=1:=by have:=zt h;omega
  have hR:rowsP n b=if b.words.all okWord=true then .ok (headP b.words n) else .error 1:=by unfold rowsP;rw[if_pos hk]
  refine gaa ?_
  refine oS (S.call0 [_,_] rfl hH (fun v H' hh=>?_) (by rintro ch H' ⟨v,h,_⟩;cases h)) rfl
  obtain ⟨v,hv,hm⟩:=hh
  cases hv
  refine oP (Pure.extract (c:=.atom v) rfl rfl) rfl ?_
  refine LOps.rowOut (es':=(headR b.words n).map str) 14 hm zpr rfl rfl (strs_len _) (SubL.refl _) ?_
  refine gab ?_
  exact retRet rfl (rC (rT (v:=.list _) rfl zsr) (zra rfl)) (by
   rw[hR]
   unfold headR
   rw[hE]
   split <;> rfl)
 ·have h1:b.kind≠1:=by have:=zf h;omega
  refine gac ?_
  refine oC rfl (fun h=>?_) (fun h=>?_)
  ·have hk:b.kind=2:=by have:=zt h;omega
   have hR:rowsP n b=if b.words.all okWord=true then .ok (wrapP b.words n) else .error 1:=by unfold rowsP;rw[if_neg h1,if_pos hk]
   refine gaa ?_
   refine oS (S.call0 [_,_] rfl hWr (fun v H' hh=>?_) (by rintro ch H' ⟨v,h,_⟩;cases h)) rfl
   obtain ⟨v,hv,hm⟩:=hh
   cases hv
   refine oP (Pure.extract (c:=.atom v) rfl rfl) rfl ?_
   refine LOps.rowOut (es':=(wrapR b.words n).map str) 22 hm zpr rfl rfl (strs_len _) (SubL.refl _) ?_
   refine gab ?_
   exact retRet rfl (rC (rT (v:=.list _) rfl zsr) (zra rfl)) (by
    rw[hR]
    unfold wrapR
    rw[hE]
    split <;> rfl)
  ·have h2:b.kind≠2:=by have:=zf h;omega
   refine gac ?_
   refine oC rfl (fun h=>?_) (fun h=>?_)
   ·have hk:b.kind=3:=by have:=zt h;omega
    have hR:rowsP n b=.ok (tableP b.rows):=by unfold rowsP;rw[if_neg h1,if_neg h2,if_pos hk]
    refine gaa ?_
    refine oS (S.fn [_] rfl hL ?_) rfl
    refine gab ?_
    exact retRet rfl (rC (rT (v:=.list _) rfl zsr) (zra rfl)) (by rw[hR];rfl)
   ·have h3:b.kind≠3:=by have:=zf h;omega
    have hR:rowsP n b=expandP b.runs b.width:=by unfold rowsP;rw[if_neg h1,if_neg h2,if_neg h3]
    have hExp:=rexpand_spec (B0:=B0) (w0:=w0) b.runs b.width (by unfold bw at hbw;omega) (by rcases hb.good with h|h|h|h <;> omega)
    rw[hR]
    refine gaa ?_
    refine oS (S.fn [_,_] rfl hExp ?_) rfl
    cases expandP b.runs b.width with
    |error e=>
     refine gab ?_
     exact retRet rfl (rC (rT (v:=.list _) rfl zsr) (zra rfl)) rfl
    |ok rows=>
     refine gab ?_
     exact retRet rfl (rC (rT (v:=.list _) rfl zsr) (zra rfl)) rfl
end
end Go.Proofs.YtocofhbdbgnmbaaGreatDoor
namespace Go.GL
open Go.RowKit
section
variable {C:Ctx} {e:Env} {H:Heap} {x y:Operand} {dst:Option Nat} {ty:TypeId} {pos:String} {aft:Array Edge} {g:Option (Nat×Bool)}
theorem Pure.bytesStrE {s d el:TypeId} [hs:TSlice C.P s el 1] [he:TKind C.P el .u8] [hd:TStr C.P d] {l:List UInt8} (hx:elems (e.ev x)=some (byts l)):Pure C ⟨dst,.convert s d x,ty,pos,aft,g⟩ e H (str l):=by
 by_cases hne:l=[]
 ·subst hne
  intro ρ w L h _
  obtain ⟨a,cap,hv,hcap,hr⟩:=(h x).elems hx
  refine ⟨_,rep_atom,fun w' ha=>?_⟩
  have h0:execOp ρ ⟨dst,.convert s d x,ty,pos,aft,g⟩=(do Pure.pure (.value (←convert s d (ρ x)))):=rfl
  have hlen:(byts []).length=0:=rfl
  have hc:(convert s d (.slice a 0 cap)).run C.P w'=.ok (.string ⟨#[]⟩) w':=by
   rw[run_convert_bytes_string w' s d el a 0 cap hs.und he.und hd.und]
   cases a with
   |none=>rfl
   |some a=>exact run_bytesToString w' a 0 cap [] (run_loadCells_list (P:=C.P) w' a [] fun j v hj=>by cases hj)
  rw[h0,hv,hlen]
  simp only[Sem.run_bind,hc,Result.andThen_ok,Sem.run_pure]
 ·exact Pure.bytesStr hx hne
end
end Go.GL
