/- Texts joined: RenLif3, RowRW, RenLif4. -/
import Derived.ChangeMaps5
import Derived.ChangeSlices
import Derived.Test.YtocofhbdbgnmbaaGreatDoorBRowR59
import Derived.Test.YtocofhbdbgnmbaaGreatDoorBRowR512
set_option linter.unusedVariables false
set_option linter.unusedSimpArgs false
namespace Go.Proofs.YtocofhbdbgnmbaaGreatDoor
open Go.ChangeShapes Go.WideShapes Go.ChangeAt Go.RowKit
set_option maxRecDepth 100000
theorem bulk_strs {H:Type}:∀ ss:List ByteArray,Rows.uptoBulkAll (strs (H:=H) ss)=((ss.map fun s=>s.data.toList).map fun s=>s.length+1).sum
 |[]=>rfl
 |s::ss=>by
  have ih:=bulk_strs (H:=H) ss
  have e:strs (H:=H) (s::ss)=.lit (.string s.data.toList)::strs ss:=rfl
  rw[e]
  simp only[Rows.uptoBulkAll,Rows.uptoBulk,ih,List.map_cons,List.sum_cons]
theorem open_wordsB {H:Type} {enc:TypeId×Value→H} {W:World} {v:Value} {d:DataW H} {ps:List MemPlace} {base:Nat} (hG:GW 8 W) (hs:W.ShapedOpen Tryz.prog) (hval:Value.okWide Tryz.prog W .any base 40 v) (hd:DataW.Trod enc Tryz.prog W 0 (fun _=>true) true 40 v d ps) :
  ∃ (l:List (List UInt8)) (L:Go.GL.Live),Go.GL.RepL W L [.list (l.map Go.GL.str)] [v]∧Go.GL.RelH (KC 8 W) W L []∧(l.map fun s=>s.length+1).sum≤Rows.uptoBulk d:=by
 have ht:Tryz.prog.underlying 40=some (.slice 9):=by kernel_rfl
 have he:Tryz.prog.underlying 9=some .string:=by kernel_rfl
 have hc:Tryz.prog.cellsOf 9=1:=by kernel_rfl
 obtain ⟨a0,len0,cap0,rfl⟩:=okWide_slice ht hval
 obtain ⟨fuel,hf⟩:=hd
 have nilcase:∀ cap,Go.GL.RepL W (fun _=>0) [.list (([]:List (List UInt8)).map Go.GL.str)] [.slice a0 0 cap]:=fun cap=>by
  simp only[Go.GL.RepL,Go.GL.Rep,List.map_nil]
  exact ⟨_,_,rfl,⟨a0,cap,rfl,Nat.zero_le _,fun h=>absurd rfl h⟩,rfl⟩
 rcases open_strings ht he hc hf with ⟨hcs,hx⟩|⟨a,len,cap,ss,hcs,_,hl,hm,hz,hx,hcell,hsz⟩
 ·have e0:Value.slice a0 len0 cap0=.slice none 0 0:=by
   have:[Value.slice a0 len0 cap0]=[.slice none 0 0]:=hcs
   exact List.head_eq_of_cons_eq this
  injection e0 with e1 e2 e3
  subst e2
  exact ⟨[],fun _=>0,nilcase _,relH_of hs (fun _ _=>rfl) (fun _ _=>rfl),Nat.zero_le _⟩
 ·have e0:Value.slice a0 len0 cap0=.slice (some a) len cap:=by
   have:[Value.slice a0 len0 cap0]=[.slice (some a) len cap]:=hcs
   exact List.head_eq_of_cons_eq this
  injection e0 with e1 e2 e3
  subst e1 e2 e3
  rw[if_pos rfl] at hz
  by_cases h0:len0=0
  ·subst h0
   exact ⟨[],fun _=>0,nilcase _,relH_of hs (fun _ _=>rfl) (fun _ _=>rfl),Nat.zero_le _⟩
  ·have hbk:Rows.uptoBulkAll (strs (H:=H) (ss.take len0))≤Rows.uptoBulk d:=by
    have:d=.slice (strs (ss.take len0)) (strs (ss.drop len0)):=by injection hx
    rw[this]
    simp only[Rows.uptoBulk]
    omega
   have hsp:a.spot=none:=by
    unfold Value.okWide at hval
    rw[ht] at hval
    simp only[Cell.okWide,ht,Cell.ok] at hval
    exact hval.2.2.2.1
   obtain ⟨b,off,sp⟩:=a
   simp only at hsp
   subst hsp
   have hcell':∀ i (h:i<ss.length),W.cell? ⟨b,off+i,none⟩=some (.string ss[i]):=fun i hi=>by
    have:=hcell i hi
    rw[List.getD_eq_getElem?_getD,List.getElem?_eq_getElem hi] at this
    unfold Addr.add at this
    split at this
    ·rename_i h
     subst h
     exact this
    ·exact this
   have h8:=no_string hG hs (hcell' 0 (by omega))
   have hlt:=World.block_lt_of_cell? _ _ (hcell' 0 (by omega))
   have hll:((ss.take len0).map fun s=>s.data.toList).length=len0:=by rw[List.length_map,List.length_take];omega
   refine ⟨(ss.take len0).map fun s=>s.data.toList,fun x=>if x=b then off+len0 else 0,?_,relH_of hs (fun x hx=>if_neg (by omega)) (fun x hx=>if_neg (by simp only at hlt;omega)),by
    rw[bulk_strs] at hbk
    exact hbk⟩
   simp only[Go.GL.RepL,Go.GL.Rep]
   refine ⟨_,_,rfl,⟨some ⟨b,off,none⟩,cap0,by rw[List.length_map,hll],by rw[List.length_map,hll];exact hl,fun _=>⟨b,off,1,rfl,rows_of _ _ fun i hi=>?_⟩⟩,rfl⟩
   have hi':i<len0:=by rw[hll] at hi;exact hi
   refine ⟨by simp only[if_true];omega,?_⟩
   rw[hcell' i (by omega)]
   simp
end Go.Proofs.YtocofhbdbgnmbaaGreatDoor
namespace Go.Proofs.YtocofhbdbgnmbaaGreatDoor.fnWide
open Go.ChangeShapes Go.WideShapes Go.ChangeAt Go.RowKit Go.ChangeMaps
set_option maxRecDepth 100000
theorem contract (H:Type) (enc:TypeId×Value→H) (W:World) (base:Nat) (args:Array Value) (ds gs:List (DataW H)) (before:List MemPlace)
  (hval:∀ (j:Nat) t v,Tryz.f6.params[j]? = some t→args[j]? = some v→Value.okWide Tryz.prog W .any base t v)
  (hW:DataW.Whole enc Tryz.prog Tryz.f6.params.toList Rows.rendererWideSpec.vars false W args.toList ds gs before) (hL:laidMetH Tryz.prog Rows.rendererWideUptoRow.laid W) (hS:W.ShapedOpen Tryz.prog) (hB:Rows.uptoBulkAll (ds++gs)≤1048576) :
  Calls Tryz.prog 6 args W fun e W'=>∃ v,e=.returned v∧Rows.rendererWideSpec.post enc Tryz.prog Tryz.f6 false true false false W args v W':=by
 have hW':=hW
 obtain ⟨p,q,hA0,hV,rfl,hfz,hnd⟩:=hW
 have hA:DataW.TrodAll enc Tryz.prog W 0 (fun _=>true) true Tryz.f6.params.toList args.toList ds p:=hA0
 rw[Tryz.params6] at hA hval
 obtain ⟨v0,vs0,d0,ds0,p0,q0,hargs,rfl,rfl,h0,r0⟩:=trodAll_cons hA
 obtain ⟨v1,vs1,d1,ds1,p1,q1,rfl,rfl,rfl,h1,r1⟩:=trodAll_cons r0
 obtain ⟨rfl,rfl,rfl⟩:=trodAll_nil r1
 obtain rfl:args=#[v0,v1]:=by cases args;simp_all
 obtain ⟨rfl,rfl⟩:=trodVars_none hV
 have hG:=gw_of hL hS
 obtain ⟨l0,L,hr0,hR,hbk0⟩:=open_wordsB hG hS (hval 0 40 v0 rfl rfl) h0
 obtain ⟨x1,rfl,rfl,rfl,w1⟩:=open_int Tryz.underlying5 (hval 1 5 v1 rfl rfl) h1
 obtain ⟨a1,rfl,ha1⟩:=u8_nat w1
 have hr1:Go.GL.RepL W L [Go.GL.int .u8 (a1:Int)] [.int .u8 (a1:Int)]:=by
  simp only[Go.GL.RepL,Go.GL.int]
  exact ⟨_,_,rfl,by simp[Go.GL.Rep],rfl⟩
 clear hA0
 simp only[List.append_nil,List.nil_append] at hW'
 have hlt:∀ x∈p0,x.block<W.heap.size:=fun x hx=>by simpa using hW'.lt x hx
 have hb:Rows.uptoBulk d0≤1048576:=by
  simp only[List.cons_append,Rows.uptoBulkAll] at hB
  omega
 refine (lift_at (vs:=[v0,.int .u8 (a1:Int)]) (wide_walk hG l0 a1 ha1 (Nat.le_trans hbk0 hb)) (repL_cons hr0 hr1) hR).mono fun e W' ⟨he,hg⟩=>?_
 subst he
 exact ⟨_,rfl,post_of_below (pa:=p0) (pv:=[]) hW' (fun _ _ _=>trodAll_cons_mk (shut_bool Tryz.underlying4 _) trodAll_mk0) (fun sp hsp=>by
   have h5:=trodAll_cons_mk (stay_words h0 hg hlt hsp) (trodAll_cons_mk (shut_int Tryz.underlying5 w1) trodAll_mk0)
   simp only[List.append_nil,List.nil_append] at h5
   exact h5) (fun _ _=>rfl) (by simp)
  hg (ok_one (by kernel_rfl) rfl (okWide_bool_mk Tryz.underlying4 _))⟩
theorem reads (os:Os) {H:Type} (enc:TypeId×Value→H):∃ places,DataW.whole enc Tryz.prog ((laidWorld os).forCall (fun _ _=>0) ⟨#[],#[.slice none 0 0,.int .u8 0],[]⟩).memory Tryz.f6.params.toList Rows.rendererWideSpec.vars false #[Value.slice none 0 0,.int .u8 0].toList 8=some ([.nil,.lit (.int .u8 0)],[],places):=
 ⟨[],by kernel_rfl⟩
theorem lifted (os:Os) (started:os.Started) (H:Type) (enc:TypeId×Value→H) (F:Stop.Interp) :
  ReturnsInHanded {} Tryz.checked os 6 .any ((Rows.OpenSpec.upto Rows.rendererWideSpec).preRow enc Tryz.prog Tryz.f6 Rows.rendererWideUptoRow.domain false Rows.rendererWideUptoRow.laid) (((Rows.OpenSpec.upto Rows.rendererWideSpec).at F).post enc Tryz.prog Tryz.f6 false true false false):=by
 obtain ⟨places,hx⟩:=reads os enc
 refine returnsInHanded_of_row (C:=Tryz.checked) (s:=Rows.OpenSpec.upto Rows.rendererWideSpec) own started (by kernel_rfl) Tryz.func6
  (witness_row_at (enc:=enc) (C:=Tryz.checked) false (laidWorld os) #[.slice none 0 0,.int .u8 0] rfl (by kernel_rfl) (by kernel_rfl) (by kernel_rfl)
   (OpenSpec.preRow_of_cond 8 hx (by kernel_rfl) (fun k hk=>by cases hk;exact of_decide_eq_true (by kernel_rfl)) (by kernel_rfl) (laid_met os _))) ?_
 intro W base args ds gs before hval hW _ hk _ hL hS _
 exact contract H enc W base args ds gs before hval hW hL hS (of_decide_eq_true (hk Rows.uptoSmall rfl))
theorem said:Rows.RendererWideUptoSaid:=
 OpenClaim.holds_of_cond 6 Tryz.f6 rfl rfl rfl rfl rfl rfl rfl ⟨rfl,rfl,rfl,rfl,rfl⟩ rfl rfl rfl rfl rfl (by kernel_rfl) Tryz.func6 (by kernel_rfl)
  (of_decide_eq_true (by kernel_rfl)) (by unfold Func.isWrapper;first|(rw[if_pos (by decide +kernel)];kernel_rfl)|(rw[if_neg (by decide +kernel)];exact ⟨rfl,rfl⟩))
  (fun os started H enc _ F=>by rw[OpenClaim.pre_eq_preRow];exact lifted os started H enc F)
theorem plain (f : FuncId) (fn : Func) (hf : Tryz.pinned.checked.prog.funcNamed "stele/stelelaw53.RendererWide" = some f) (hfn : Tryz.pinned.checked.prog.funcs[f]? = some fn) :
  true=Tryz.pinned.checked.prog.looks []∧∀ (j:Nat) t,fn.params[j]? = some t→Tryz.pinned.checked.prog.wantsStandIn t=false:=by
 obtain rfl : f = 6 := Option.some.inj ((show Tryz.prog.funcNamed "stele/stelelaw53.RendererWide" = some 6 by kernel_rfl).symm.trans hf) |>.symm
 obtain rfl:fn=Tryz.f6:=(Option.some.inj (Tryz.func6.symm.trans hfn)).symm
 refine ⟨by kernel_rfl,fun j t ht=>?_⟩
 rw[Tryz.params6] at ht
 have hm:=Array.mem_of_getElem? ht
 simp only[List.mem_toArray,List.mem_cons,List.not_mem_nil,or_false] at hm
 rcases hm with rfl|rfl
 ·exact (show Tryz.prog.wantsStandIn 40=false by kernel_rfl)
 ·exact (show Tryz.prog.wantsStandIn 5=false by kernel_rfl)
end Go.Proofs.YtocofhbdbgnmbaaGreatDoor.fnWide
namespace Go.Proofs.YtocofhbdbgnmbaaGreatDoor
theorem rendererWideUpto_card:Rows.RendererWideUptoCardSaid:=
 Claim7.holds_tied_plain_at .later [] _ _ _ _ fnWide.said (fun _ h=>by cases h) (by kernel_rfl) (fun _ h=>by cases h) rendererWideUpto_row_tie rfl ⟨rfl,rfl⟩ (by kernel_rfl) rfl fnWide.plain (by kernel_rfl)
#print axioms rendererWideUpto_card
end Go.Proofs.YtocofhbdbgnmbaaGreatDoor
namespace Go.Proofs.YtocofhbdbgnmbaaGreatDoor
open Go.ChangeShapes Go.WideShapes Go.ChangeAt Go.RowKit
set_option maxRecDepth 100000
def byteLV (b:UInt8):Go.GL.LV:=Go.GL.int .u8 b.toNat
theorem relH_any {W:World} {L:Go.GL.Live} (hs:W.ShapedOpen Tryz.prog) (h2:∀ b,W.heap.size≤b→L b=0):Go.GL.RelH (KC 8 W) W L []:=
 ⟨Below.refl _ _,trivial,heap_eight hs,h2,List.nodup_nil,by simp⟩
theorem u8_of {n:Int} (h:(Lit.int .u8 n).wf=true):∃ a:UInt8,n=(a.toNat:Int):=by
 simp[Lit.wf] at h
 have h2:0≤n∧n<256:=by
  have:=h
  simp[IntKind.has,IntKind.min,IntKind.max,IntKind.signed,IntKind.bits] at this
  omega
 refine ⟨UInt8.ofNat n.toNat,?_⟩
 rw[UInt8.toNat_ofNat']
 omega
theorem rows_bytes {W:World} {L:Go.GL.Live} {b:Nat}:∀ (l:List UInt8) (off:Nat),(∀ i (h:i<l.length),off+i<L b∧W.cell? ⟨b,off+i,none⟩=some (.int .u8 ((l[i]).toNat:Int)))→Go.GL.RepRows W L b 1 off (l.map byteLV)
 |[],off,h=>by simp[Go.GL.RepRows]
 |s::l,off,h=>by
  have h0:=h 0 (by simp)
  simp only[List.map_cons,byteLV,Go.GL.int,Go.GL.RepRows]
  refine ⟨⟨trivial,h0.1,_,h0.2,rfl⟩,?_⟩
  refine rows_bytes l (off+1) fun i hi=>?_
  have:=h (i+1) (by simpa using hi)
  rw[show off+(i+1)=off+1+i by omega] at this
  simpa using this
theorem open_bytes0 {H:Type} {enc:TypeId×Value→H} {W:World} {v:Value} {d:DataW H} {ps:List MemPlace} {base:Nat} (hs:W.ShapedOpen Tryz.prog) (hval:Value.okWide Tryz.prog W .any base 27 v) (hd:DataW.Trod enc Tryz.prog W 0 (fun _=>true) true 27 v d ps) :
  ∃ (l:List UInt8) (L:Go.GL.Live),Go.GL.RepL W L [.list (l.map byteLV)] [v]∧Go.GL.RelH (KC 8 W) W L []:=by
 have ht:Tryz.prog.underlying 27=some (.slice 5):=by kernel_rfl
 have he:Tryz.prog.underlying 5=some (.int .u8):=by kernel_rfl
 have hc:Tryz.prog.cellsOf 5=1:=by kernel_rfl
 obtain ⟨a0,len0,cap0,rfl⟩:=okWide_slice ht hval
 obtain ⟨fuel,hf⟩:=hd
 have nilcase:∀ cap,Go.GL.RepL W (fun _=>0) [.list (([]:List UInt8).map byteLV)] [.slice a0 0 cap]:=fun cap=>by
  simp only[Go.GL.RepL,Go.GL.Rep,List.map_nil]
  exact ⟨_,_,rfl,⟨a0,cap,rfl,Nat.zero_le _,fun h=>absurd rfl h⟩,rfl⟩
 rcases open_ints ht he hc hf with ⟨hcs,hx⟩|⟨a,len,cap,ss,hcs,_,hl,hm,hz,hx,hcell,hsz⟩
 ·have e0:Value.slice a0 len0 cap0=.slice none 0 0:=by
   have:[Value.slice a0 len0 cap0]=[.slice none 0 0]:=hcs
   exact List.head_eq_of_cons_eq this
  injection e0 with e1 e2 e3
  subst e2
  exact ⟨[],fun _=>0,nilcase _,relH_any hs (fun _ _=>rfl)⟩
 ·have e0:Value.slice a0 len0 cap0=.slice (some a) len cap:=by
   have:[Value.slice a0 len0 cap0]=[.slice (some a) len cap]:=hcs
   exact List.head_eq_of_cons_eq this
  injection e0 with e1 e2 e3
  subst e1 e2 e3
  rw[if_pos rfl] at hz
  by_cases h0:len0=0
  ·subst h0
   exact ⟨[],fun _=>0,nilcase _,relH_any hs (fun _ _=>rfl)⟩
  ·have hsp:a.spot=none:=by
    unfold Value.okWide at hval
    rw[ht] at hval
    simp only[Cell.okWide,ht,Cell.ok] at hval
    exact hval.2.2.2.1
   obtain ⟨b,off,sp⟩:=a
   simp only at hsp
   subst hsp
   have hcell':∀ i (h:i<ss.length),W.cell? ⟨b,off+i,none⟩=some (.int .u8 ss[i]):=fun i hi=>by
    have:=hcell i hi
    rw[List.getD_eq_getElem?_getD,List.getElem?_eq_getElem hi] at this
    unfold Addr.add at this
    split at this
    ·rename_i h
     subst h
     exact this
    ·exact this
   have hlt:=World.block_lt_of_cell? _ _ (hcell' 0 (by omega))
   have hll:((ss.take len0).map (fun n:Int=>UInt8.ofNat n.toNat)).length=len0:=by rw[List.length_map,List.length_take];omega
   have hnum:∀ n∈ss,((UInt8.ofNat n.toNat).toNat:Int)=n:=fun n hn=>by
    obtain ⟨a,rfl⟩:=u8_of (hsz n hn)
    simp
   refine ⟨(ss.take len0).map (fun n:Int=>UInt8.ofNat n.toNat),fun x=>if x=b then off+len0 else 0,?_,relH_any hs (fun x hx=>if_neg (by simp only at hlt;omega))⟩
   simp only[Go.GL.RepL,Go.GL.Rep]
   refine ⟨_,_,rfl,⟨some ⟨b,off,none⟩,cap0,by rw[List.length_map,hll],by rw[List.length_map,hll];exact hl,fun _=>⟨b,off,1,rfl,rows_bytes _ _ fun i hi=>?_⟩⟩,rfl⟩
   have hi':i<len0:=by rw[hll] at hi;exact hi
   refine ⟨by simp only[if_true];omega,?_⟩
   rw[hcell' i (by omega)]
   have h9:=hnum (ss[i]'(by omega)) (List.getElem_mem _)
   rw[List.getElem_map,List.getElem_take,h9]
theorem open_bytes {H:Type} {enc:TypeId×Value→H} {W:World} {v:Value} {d:DataW H} {ps:List MemPlace} {base:Nat} (hL:laidMetH Tryz.prog lst W) (hs:W.ShapedOpen Tryz.prog) (hval:Value.okWide Tryz.prog W .any base 27 v) (hd:DataW.Trod enc Tryz.prog W 0 (fun _=>true) true 27 v d ps) :
  ∃ (l:List UInt8) (L:Go.GL.Live),Go.GL.RepL W L [.list (Go.GL.byts l)] [v]∧Go.GL.RelH (KC 8 W) W L []:=open_bytes0 hs hval hd
theorem stay_bytes {H:Type} {enc:TypeId×Value→H} {W W':World} {v:Value} {d:DataW H} {ps:List MemPlace} {sp:Nat→Bool} (hd:DataW.Trod enc Tryz.prog W 0 (fun _=>true) true 27 v d ps) (hb:Below W.heap.size W W') (hlt:∀ x∈ps,x.block<W.heap.size) (hsp:∀ p∈ps,sp p.block=true):DataW.Trod enc Tryz.prog W' 0 sp true 27 v d ps:=
 WideElems.Trod_stays laidOut (by kernel_rfl) (of_decide_eq_true (by kernel_rfl)) hd (fun x hx=>hb.same (hlt x hx)) hsp
end Go.Proofs.YtocofhbdbgnmbaaGreatDoor
