/- Texts joined: CmpLf, CmpLf2, CmpLf3, CmpLf4, CmpLf5, CmpLf6, JnC. -/
import Derived.Deep.WholeRow
import Derived.KernelRfl
import Derived.Test.YtpbbgkoalnonoaaGreatDoorTie
import Derived.JoinedCond
import Derived.JoinedOf
import Derived.Test.YtpbbgkoalnonoaaGreatDoorBRowCA2
import Derived.Test.YtpbbgkoalnonoaaGreatDoorBRowCA3
import Derived.Test.YtpbbgkoalnonoaaGreatDoorBRowCA4
import Derived.Test.YtpbbgkoalnonoaaGreatDoorBRowCA5
import Derived.Test.YtpbbgkoalnonoaaGreatDoorBRowCA11
import Derived.Test.YtpbbgkoalnonoaaGreatDoorBRowCA16
set_option linter.unusedVariables false
set_option linter.unusedSimpArgs false
set_option maxRecDepth 100000
set_option maxHeartbeats 4000000
namespace Go.Proofs.YtpbbgkoalnonoaaGreatDoor
open Go.ChangeShapes Go.WideShapes Go.ChangeAt Go.RowKit Go.Deep Go.Joins
open Go.GL (LV Live Rep RepL RepC RepRows)
def allL (W:World):Live:=fun b=>match W.heap[b]? with
 |some (.cells c _ _)=>c.size
 |_=>0
theorem allL_lt {W:World} {b off:Nat} {x:Value} (h:W.cell? ⟨b,off,none⟩=some x):off<allL W b:=by
 unfold World.cell? at h
 unfold allL
 split at h
 ·rename_i c t z hb
  simp only[hb]
  simp only[Option.isSome_none,Bool.false_eq_true,if_false] at h
  exact (Array.getElem?_eq_some_iff.1 h).1
 ·cases h
theorem allL_out {W:World} {b:Nat} (h:W.heap.size≤b):allL W b=0:=by
 unfold allL
 rw[Array.getElem?_eq_none h]
theorem repC_of {W:World} {b:Nat}:∀ (cs:List LV) (vs:List Value) (off:Nat),RepL W (allL W) cs vs→(∀ i (h:i<vs.length),W.cell? ⟨b,off+i,none⟩=some vs[i])→RepC W (allL W) b off cs
 |[],vs,off,_,_=>by simp only[RepC]
 |c::cs,vs,off,h,hc=>by
  simp only[RepL] at h
  obtain ⟨y,ys,rfl,h1,h2⟩:=h
  have h0:=hc 0 (by simp)
  simp only[Nat.add_zero,List.getElem_cons_zero] at h0
  simp only[RepC]
  refine ⟨allL_lt h0,⟨y,h0,h1⟩,repC_of cs ys (off+1) h2 fun i hi=>?_⟩
  have:=hc (i+1) (by simpa using hi)
  rw[show off+(i+1)=off+1+i by omega] at this
  simpa using this
theorem cells_get {W:World} {base:Nat} {b off k:Nat} {sp:Option Nat} {vs:List Value} (hk:0<k) (h:W.cells? base ⟨b,off,sp⟩ k=some vs):sp=none∧vs.length=k∧∀ i (hi:i<vs.length),W.cell? ⟨b,off+i,none⟩=some vs[i]:=by
 unfold World.cells? at h
 split at h
 ·have hl:=mapM_some_length h
  rw[List.length_range] at hl
  have hg:∀ i,i<k→W.cell? (Addr.add ⟨b,off,sp⟩ i)=vs[i]? := fun i hi=>mapM_some_get h i i (by simp[hi])
  have h0:=hg 0 hk
  rw[List.getElem?_eq_getElem (by omega)] at h0
  have hsp:sp=none:=by
   cases sp with
   |none=>rfl
   |some z=>
    unfold Addr.add World.cell? at h0
    simp at h0
    split at h0 <;> simp_all
  subst hsp
  refine ⟨rfl,by omega,fun i hi=>?_⟩
  have:=hg i (by omega)
  rw[List.getElem?_eq_getElem hi] at this
  unfold Addr.add at this
  split at this
  ·rename_i h
   subst h
   exact this
  ·exact this
 ·cases h
end Go.Proofs.YtpbbgkoalnonoaaGreatDoor
namespace Go.Proofs.YtpbbgkoalnonoaaGreatDoor
open Go.ChangeShapes Go.WideShapes Go.ChangeAt Go.RowKit Go.Deep Go.Joins
open Go.GL (LV Live Rep RepL RepC RepRows)
section
variable {H:Type} {enc:TypeId×Value→H} {W:World}
theorem build_rows {A:Type} {e:TypeId} {k:Nat} (hk0:0<k) (el:A→LV) (fields:A→List LV) (m:A→Nat) (Pd:A→Prop) {n b:Nat}
  (row:∀ (a:A) (vs:List Value) (off:Nat) (rest:List LV),RepL W (allL W) (fields a) vs→vs.length=k→(∀ i (h:i<vs.length),W.cell? ⟨b,off+i,none⟩=some vs[i])→RepRows W (allL W) b k (off+k) rest→RepRows W (allL W) b k off (el a::rest))
  (each:∀ cs y,DataW.trod enc Tryz.prog W 0 (fun _=>true) true n e cs=some y→∃ a,RepL W (allL W) (fields a) cs∧Pd a∧m a≤Rows.uptoBulk y.1) :
  ∀ (ys:List (DataW H×List MemPlace)) (off:Nat),(∀ i,i<ys.length→(W.cells? 0 ⟨b,off+i * k,none⟩ k).bind (DataW.trod enc Tryz.prog W 0 (fun _=>true) true n e)=ys[i]?) →
   ∃ l:List A,l.length=ys.length∧RepRows W (allL W) b k off (l.map el)∧(∀ a∈l,Pd a)∧(l.map m).sum≤Rows.uptoBulkAll (ys.map (·.1))
 |[],off,_=>⟨[],rfl,by simp only[List.map_nil,RepRows],fun a h=>(List.not_mem_nil h).elim,Nat.zero_le _⟩
 |y::ys,off,h=>by
  have h0:=h 0 (by simp)
  rw[Nat.zero_mul,Nat.add_zero,List.getElem?_cons_zero] at h0
  obtain ⟨vs,hv,hy⟩:=Option.bind_eq_some_iff.1 h0
  obtain ⟨_,hl,hc⟩:=cells_get hk0 hv
  obtain ⟨a,h1,h2,h3⟩:=each vs y hy
  obtain ⟨l,q1,q2,q3,q4⟩:=build_rows hk0 el fields m Pd row each ys (off+k) fun i hi=>by
   have:=h (i+1) (by simpa using hi)
   rw[List.getElem?_cons_succ,Nat.succ_mul,show off+(i * k+k)=off+k+i * k by omega] at this
   exact this
  refine ⟨a::l,by simp[q1],row a vs off _ h1 hl hc q2,fun x hx=>?_,?_⟩
  ·rcases zMi.1 hx with rfl|hx
   ·exact h2
   ·exact q3 x hx
  ·rw[zMc,List.sum_cons,zMc,Rows.uptoBulkAll]
   omega
theorem open_list {A:Type} {t e:TypeId} {k:Nat} (ht:Tryz.prog.underlying t=some (.slice e)) (hk:Tryz.prog.cellsOf e=k) (hk0:0<k) (el:A→LV) (fields:A→List LV) (m:A→Nat) (Pd:A→Prop) {fuel:Nat}
  (row:∀ (b:Nat) (a:A) (vs:List Value) (off:Nat) (rest:List LV),RepL W (allL W) (fields a) vs→vs.length=k→(∀ i (h:i<vs.length),W.cell? ⟨b,off+i,none⟩=some vs[i])→RepRows W (allL W) b k (off+k) rest→RepRows W (allL W) b k off (el a::rest))
  (each:∀ n,n<fuel→∀ cs y,DataW.trod enc Tryz.prog W 0 (fun _=>true) true n e cs=some y→∃ a,RepL W (allL W) (fields a) cs∧Pd a∧m a≤Rows.uptoBulk y.1)
  {cs:List Value} {x:DataW H×List MemPlace} (h:DataW.trod enc Tryz.prog W 0 (fun _=>true) true fuel t cs=some x) :
  ∃ l:List A,RepL W (allL W) [.list (l.map el)] cs∧(∀ a∈l,Pd a)∧(l.map m).sum+1≤Rows.uptoBulk x.1:=by
 rcases DataW.trod_slice ht h with ⟨rfl,rfl⟩|⟨a,len,cap,elems,rest,n,hfu,rfl,rfl,_,hl,hm,hlen,hel,_,_⟩
 ·refine ⟨[],?_,fun a h=>(List.not_mem_nil h).elim,?_⟩
  ·simp only[RepL,Rep,List.map_nil]
   exact ⟨_,_,rfl,⟨none,0,rfl,Nat.zero_le _,fun h=>absurd rfl h⟩,rfl⟩
  ·rw[Rows.uptoBulk]
   exact zNr _
 ·rw[hk] at hel
  have hbulk:Rows.uptoBulk (.slice (elems.map (·.1)) (rest.map (·.1)):DataW H)=Rows.uptoBulkAll (elems.map (·.1))+Rows.uptoBulkAll (rest.map (·.1))+1:=by rw[Rows.uptoBulk]
  by_cases h0:len=0
  ·subst h0
   refine ⟨[],?_,fun a h=>(List.not_mem_nil h).elim,?_⟩
   ·simp only[RepL,Rep,List.map_nil]
    exact ⟨_,_,rfl,⟨some a,cap,rfl,Nat.zero_le _,fun h=>absurd rfl h⟩,rfl⟩
   ·simp only[hbulk,List.map_nil,List.sum_nil]
    omega
  ·obtain ⟨b,off,sp⟩:=a
   have e0:=hel 0 (by omega)
   rw[List.getElem?_eq_getElem (by omega),Nat.zero_mul] at e0
   obtain ⟨vs,hv,_⟩:=Option.bind_eq_some_iff.1 e0
   obtain ⟨hsp,_,_⟩:=cells_get (b:=b) (off:=off) (sp:=sp) hk0 (by simpa [Addr.add] using hv)
   subst hsp
   obtain ⟨l,q1,q2,q3,q4⟩:=build_rows (W:=W) (enc:=enc) (b:=b) (n:=n) (e:=e) hk0 el fields m Pd (row b) (each n (by omega)) elems off fun i hi=>by
    have:=hel i (by omega)
    unfold Addr.add at this
    split at this
    ·rename_i hz
     rw[hz,Nat.add_zero]
     exact this
    ·exact this
   refine ⟨l,?_,q3,?_⟩
   ·simp only[RepL,Rep]
    refine ⟨_,_,rfl,⟨some ⟨b,off,none⟩,cap,by rw[zLm,q1,hlen],by rw[zLm,q1,hlen];exact hl,fun _=>⟨b,off,k,rfl,q2⟩⟩,rfl⟩
   ·simp only[hbulk]
    omega
theorem row_agg {b k:Nat} {cs:List LV} {vs:List Value} {off:Nat} {rest:List LV} (h:RepL W (allL W) cs vs) (hl:vs.length=k) (hc:∀ i (h:i<vs.length),W.cell? ⟨b,off+i,none⟩=some vs[i]) (hr:RepRows W (allL W) b k (off+k) rest) (hcs:cs.length=k):RepRows W (allL W) b k off (.agg cs::rest):=by
 simp only[RepRows]
 exact ⟨⟨hcs,repC_of cs vs off h hc⟩,hr⟩
theorem row_atom {b:Nat} {v:Value} {vs:List Value} {off:Nat} {rest:List LV} (h:RepL W (allL W) [.atom v] vs) (hc:∀ i (h:i<vs.length),W.cell? ⟨b,off+i,none⟩=some vs[i]) (hr:RepRows W (allL W) b 1 (off+1) rest):RepRows W (allL W) b 1 off (.atom v::rest):=by
 simp only[RepL] at h
 obtain ⟨y,ys,rfl,h1,rfl⟩:=h
 have h0:=hc 0 (by simp)
 simp only[Nat.add_zero,List.getElem_cons_zero] at h0
 simp only[RepRows]
 exact ⟨⟨trivial,allL_lt h0,y,h0,h1⟩,hr⟩
end
end Go.Proofs.YtpbbgkoalnonoaaGreatDoor
namespace Go.Proofs.YtpbbgkoalnonoaaGreatDoor
open Go.ChangeShapes Go.WideShapes Go.ChangeAt Go.RowKit Go.Deep Go.Joins
open Go.GL (LV Live Rep RepL RepC RepRows)
open Go.Stele
noncomputable def chkFs (t:TypeId) (ts:List TypeId):Bool:=match Tryz.prog.underlying t with
 |some (.struct fs)=>oneCellFields Tryz.prog fs && (fs.toList.map (·.type) == ts)
 |_=>false
section
variable {H:Type} {enc:TypeId×Value→H} {W:World}
theorem open_struct {t:TypeId} {ts:List TypeId} (h:chkFs t ts=true) (hC:Tryz.prog.cellsOf t=ts.length) {fuel:Nat} {cs:List Value} {x:DataW H×List MemPlace} (hx:DataW.trod enc Tryz.prog W 0 (fun _=>true) true fuel t cs=some x) :
  ∃ (ys:List (DataW H×List MemPlace)) (n:Nat),fuel=n+1∧x.1=.agg (ys.map (·.1))∧cs.length=ts.length∧ys.length=ts.length∧∀ (i:Nat) (u:TypeId),ts[i]? = some u→∃ v y,cs[i]? = some v∧ys[i]? = some y∧DataW.trod enc Tryz.prog W 0 (fun _=>true) true n u [v]=some y:=by
 unfold chkFs at h
 split at h
 ·rename_i fs hu
  simp only[zBa,beq_iff_eq] at h
  obtain ⟨hone,hts⟩:=h
  obtain ⟨ys,n,hf,hxe,hl,hy,hg⟩:=DataW.trod_struct hu hx
  have hsz:fs.size=ts.length:=by rw[←hts];simp
  refine ⟨ys,n,hf,by rw[hxe],hl.trans hC,hy.trans hsz,fun i u hi=>?_⟩
  have hi':i<ts.length:=(List.getElem?_eq_some_iff.1 hi).1
  have hfi:fs[i]? = some fs[i]:=Array.getElem?_eq_getElem (by omega)
  have hfu:(fs[i]'(by omega)).type=u:=by
   have:(fs.toList.map (·.type))[i]? = some u:=by rw[hts];exact hi
   rw[List.getElem?_map,Array.getElem?_toList,hfi] at this
   simpa using this
  obtain ⟨o1,o2⟩:=hone_of hone i _ hfi
  have h1:=hg i _ hfi
  rw[o1,o2,hfu,List.getElem?_eq_getElem (by omega)] at h1
  have hcl:i<cs.length:=by omega
  have hd:(cs.drop i).take 1=[cs[i]]:=by
   rw[List.drop_eq_getElem_cons hcl]
   rfl
  rw[hd] at h1
  exact ⟨cs[i],ys[i]'(by omega),List.getElem?_eq_getElem hcl,List.getElem?_eq_getElem (by omega),h1⟩
 ·cases h
theorem bulkAll_eq:∀ ds:List (DataW H),Rows.uptoBulkAll ds=(ds.map Rows.uptoBulk).sum
 |[]=>by rw[Rows.uptoBulkAll];rfl
 |d::ds=>by rw[Rows.uptoBulkAll,bulkAll_eq ds,zMc,List.sum_cons]
theorem bulk_agg (ds:List (DataW H)):Rows.uptoBulk (.agg ds)=(ds.map Rows.uptoBulk).sum+1:=by rw[Rows.uptoBulk,bulkAll_eq]
theorem bulk_pos (d:DataW H):1≤Rows.uptoBulk d:=by
 cases d with
 |lit l=>cases l <;> (simp only[Rows.uptoBulk];omega)
 |_=>simp only[Rows.uptoBulk];omega
theorem open_str {n:Nat} {cs:List Value} {y:DataW H×List MemPlace} (h:DataW.trod enc Tryz.prog W 0 (fun _=>true) true n 9 cs=some y):∃ s:List UInt8,RepL W (allL W) [Go.GL.str s] cs∧True∧1≤Rows.uptoBulk y.1:=by
 obtain ⟨s,rfl,_,_⟩:=DataW.trod_string Tryz.underlying9 h
 refine ⟨s.data.toList,?_,trivial,bulk_pos _⟩
 simp only[RepL,Rep,Go.GL.str]
 exact ⟨_,_,rfl,rfl,rfl⟩
theorem open_strs {fuel:Nat} {cs:List Value} {x:DataW H×List MemPlace} (h:DataW.trod enc Tryz.prog W 0 (fun _=>true) true fuel 22 cs=some x):∃ l:List (List UInt8),RepL W (allL W) [.list (l.map Go.GL.str)] cs∧l.length+1≤Rows.uptoBulk x.1:=by
 obtain ⟨l,h1,hz,h3⟩:=open_list (t:=22) (e:=9) (k:=1) (by kernel_rfl) (by kernel_rfl) zDd Go.GL.str (fun s=>[Go.GL.str s]) (fun _=>1) (fun _=>True) (fun b a vs off rest q1 q2 q3 q4=>row_atom q1 q3 q4) (fun n _ cs y hy=>open_str hy) h
 refine ⟨l,h1,?_⟩
 have:(l.map fun _=>1).sum=l.length:=by
  clear h1 hz h3
  induction l with
  |nil=>rfl
  |cons a l ih=>rw[zMc,List.sum_cons,ih,zLc];omega
 omega
theorem repL_cons {c:LV} {cs:List LV} {v:Value} {vs:List Value} (h:RepL W (allL W) [c] [v]) (h2:RepL W (allL W) cs vs):RepL W (allL W) (c::cs) (v::vs):=by
 simp only[RepL] at h ⊢
 obtain ⟨y,ys,e,h1,rfl⟩:=h
 simp only[List.cons.injEq] at e
 obtain ⟨rfl,_⟩:=e
 exact ⟨v,vs,rfl,h1,h2⟩
theorem repL_nil:RepL W (allL W) [] []:=by simp only[RepL]
end
end Go.Proofs.YtpbbgkoalnonoaaGreatDoor
namespace Go.Proofs.YtpbbgkoalnonoaaGreatDoor.Inp
@[reducible] def u32 (n:Nat):Go.GL.LV:=Go.GL.int .u32 (n:Int)
end Go.Proofs.YtpbbgkoalnonoaaGreatDoor.Inp
namespace Go.Proofs.YtpbbgkoalnonoaaGreatDoor
open Go.ChangeShapes Go.WideShapes Go.ChangeAt Go.RowKit Go.Deep Go.Joins
open Go.GL (LV Live Rep RepL RepC RepRows)
open Go.Stele
theorem ndEs_sum:∀ l:List Ex,ndEs l=(l.map ndE).sum
 |[]=>rfl
 |x::l=>by rw[ndEs,ndEs_sum l];rfl
theorem numEs_all:∀ l:List Ex,(∀ x∈l,numE x)→numEs l
 |[],_=>trivial
 |x::l,h=>⟨h x zMs,numEs_all l fun y hy=>h y (zMo _ hy)⟩
section
variable {H:Type} {enc:TypeId×Value→H} {W:World}
theorem open_u32 {n:Nat} {cs:List Value} {y:DataW H×List MemPlace} (h:DataW.trod enc Tryz.prog W 0 (fun _=>true) true n 93 cs=some y):∃ a:Nat,RepL W (allL W) [Inp.u32 a] cs∧Lt a:=by
 obtain ⟨m,rfl,_,w⟩:=DataW.trod_int (show Tryz.prog.underlying 93=some (.int .u32) by kernel_rfl) h
 obtain ⟨a,rfl,ha⟩:=u32_of w
 refine ⟨a,?_,ha⟩
 simp only[RepL,Rep,Inp.u32,Go.GL.int]
 exact ⟨_,_,rfl,rfl,rfl⟩
def exF (x:Ex):List LV:=[Go.GL.str (exOp x),Inp.u32 (exNum x),Go.GL.str (exName x),.list ((exArgs x).map encE)]
theorem encE_F (x:Ex):encE x=.agg (exF x):=by
 obtain ⟨o,n,m,a⟩:=x
 rw[encE_mk]
 rfl
theorem open_ex:∀ (fuel:Nat) (cs:List Value) (y:DataW H×List MemPlace),DataW.trod enc Tryz.prog W 0 (fun _=>true) true fuel 104 cs=some y→∃ x:Ex,RepL W (allL W) (exF x) cs∧numE x∧ndE x≤Rows.uptoBulk y.1:=fun fuel=>by
 induction fuel using Nat.strongRecOn with
 |ind fuel ih=>
  intro cs y h
  obtain ⟨ys,n,rfl,hb,hl,hyl,hg⟩:=open_struct (ts:=[9,93,9,100]) (by kernel_rfl) (by kernel_rfl) h
  obtain ⟨v0,y0,c0,d0,t0⟩:=hg 0 _ rfl
  obtain ⟨v1,y1,c1,d1,t1⟩:=hg 1 _ rfl
  obtain ⟨v2,y2,c2,d2,t2⟩:=hg 2 _ rfl
  obtain ⟨v3,y3,c3,d3,t3⟩:=hg 3 _ rfl
  obtain ⟨o,r0,_,b0⟩:=open_str t0
  obtain ⟨a,r1,ha⟩:=open_u32 t1
  obtain ⟨m,r2,_,b2⟩:=open_str t2
  obtain ⟨l,r3,hP,b3⟩:=open_list (t:=100) (e:=104) (k:=4) (by kernel_rfl) (by kernel_rfl) zDd encE exF ndE numE (fun b x vs off rest q1 q2 q3 q4=>by
   rw[encE_F]
   exact row_agg q1 q2 q3 q4 rfl) (fun n' hn'=>ih n' (by omega)) t3
  obtain rfl:cs=[v0,v1,v2,v3]:=by
   match cs,hl with
   |[w0,w1,w2,w3],_=>
    simp only[List.getElem?_cons_zero,List.getElem?_cons_succ,Option.some.injEq] at c0 c1 c2 c3
    rw[c0,c1,c2,c3]
  obtain rfl:ys=[y0,y1,y2,y3]:=by
   match ys,hyl with
   |[w0,w1,w2,w3],_=>
    simp only[List.getElem?_cons_zero,List.getElem?_cons_succ,Option.some.injEq] at d0 d1 d2 d3
    rw[d0,d1,d2,d3]
  refine ⟨.mk o a m l,repL_cons r0 (repL_cons r1 (repL_cons r2 (repL_cons r3 repL_nil))),⟨ha,numEs_all l hP⟩,?_⟩
  rw[hb,bulk_agg,ndE,ndEs_sum]
  simp only[zMc,List.map_nil,List.sum_cons,List.sum_nil]
  omega
theorem open_exs {fuel:Nat} {cs:List Value} {x:DataW H×List MemPlace} (h:DataW.trod enc Tryz.prog W 0 (fun _=>true) true fuel 100 cs=some x):∃ l:List Ex,RepL W (allL W) [.list (l.map encE)] cs∧numEs l∧ndEs l+1≤Rows.uptoBulk x.1:=by
 obtain ⟨l,r3,hP,b3⟩:=open_list (t:=100) (e:=104) (k:=4) (by kernel_rfl) (by kernel_rfl) zDd encE exF ndE numE (fun b x vs off rest q1 q2 q3 q4=>by
  rw[encE_F]
  exact row_agg q1 q2 q3 q4 rfl) (fun n' _=>open_ex n') h
 exact ⟨l,r3,numEs_all l hP,by rw[ndEs_sum];exact b3⟩
end
end Go.Proofs.YtpbbgkoalnonoaaGreatDoor
namespace Go.Proofs.YtpbbgkoalnonoaaGreatDoor
open Go.ChangeShapes Go.WideShapes Go.ChangeAt Go.RowKit Go.Deep Go.Joins
open Go.GL (LV Live Rep RepL RepC RepRows)
open Go.Stele
theorem ndSs_sum:∀ l:List Sm,ndSs l=(l.map ndS).sum
 |[]=>rfl
 |x::l=>by rw[ndSs,ndSs_sum l];rfl
theorem ndFs_sum:∀ l:List FnD,ndFs l=(l.map ndF).sum
 |[]=>rfl
 |x::l=>by rw[ndFs,ndFs_sum l];rfl
theorem numSs_all:∀ l:List Sm,(∀ x∈l,numS x)→numSs l
 |[],_=>trivial
 |x::l,h=>⟨h x zMs,numSs_all l fun y hy=>h y (zMo _ hy)⟩
section
variable {H:Type} {enc:TypeId×Value→H} {W:World}
theorem open_i64 {n:Nat} {cs:List Value} {y:DataW H×List MemPlace} (h:DataW.trod enc Tryz.prog W 0 (fun _=>true) true n 3 cs=some y):∃ a:Int,RepL W (allL W) [Go.GL.int .i64 a] cs ∧ -9223372036854775808≤a∧a<9223372036854775808:=by
 obtain ⟨m,rfl,_,w⟩:=DataW.trod_int Tryz.underlying3 h
 refine ⟨m,?_,?_⟩
 ·simp only[RepL,Rep,Go.GL.int]
  exact ⟨_,_,rfl,rfl,rfl⟩
 ·simp[Lit.wf] at w
  simp[IntKind.has,IntKind.min,IntKind.max,IntKind.signed,IntKind.bits] at w
  omega
def smF (x:Sm):List LV:=[Go.GL.int .i64 (smKind x),Go.GL.str (smName x),.list ((smIndex x).map encE),.list ((smValue x).map encE),.list ((smThen x).map encS),.list ((smElse x).map encS)]
theorem encS_F (x:Sm):encS x=.agg (smF x):=by
 obtain ⟨k,n,i,v,t,e⟩:=x
 rw[encS_mk]
 rfl
theorem open_sm:∀ (fuel:Nat) (cs:List Value) (y:DataW H×List MemPlace),DataW.trod enc Tryz.prog W 0 (fun _=>true) true fuel 102 cs=some y→∃ x:Sm,RepL W (allL W) (smF x) cs∧numS x∧ndS x≤Rows.uptoBulk y.1:=fun fuel=>by
 induction fuel using Nat.strongRecOn with
 |ind fuel ih=>
  intro cs y h
  obtain ⟨ys,n,rfl,hb,hl,hyl,hg⟩:=open_struct (ts:=[3,9,100,100,57,57]) (by kernel_rfl) (by kernel_rfl) h
  obtain ⟨v0,y0,c0,d0,t0⟩:=hg 0 _ rfl
  obtain ⟨v1,y1,c1,d1,t1⟩:=hg 1 _ rfl
  obtain ⟨v2,y2,c2,d2,t2⟩:=hg 2 _ rfl
  obtain ⟨v3,y3,c3,d3,t3⟩:=hg 3 _ rfl
  obtain ⟨v4,y4,c4,d4,t4⟩:=hg 4 _ rfl
  obtain ⟨v5,y5,c5,d5,t5⟩:=hg 5 _ rfl
  obtain ⟨k,r0,_⟩:=open_i64 t0
  obtain ⟨m,r1,_,b1⟩:=open_str t1
  obtain ⟨i,r2,p2,b2⟩:=open_exs t2
  obtain ⟨v,r3,p3,b3⟩:=open_exs t3
  have row:∀ (b:Nat) (a:Sm) (vs:List Value) (off:Nat) (rest:List LV),RepL W (allL W) (smF a) vs→vs.length=6→(∀ i (h:i<vs.length),W.cell? ⟨b,off+i,none⟩=some vs[i])→RepRows W (allL W) b 6 (off+6) rest→RepRows W (allL W) b 6 off (encS a::rest):=fun b x vs off rest q1 q2 q3 q4=>by
   rw[encS_F]
   exact row_agg q1 q2 q3 q4 rfl
  obtain ⟨l4,r4,p4,b4⟩:=open_list (t:=57) (e:=102) (k:=6) (by kernel_rfl) (by kernel_rfl) zDd encS smF ndS numS row (fun n' hn'=>ih n' (by omega)) t4
  obtain ⟨l5,r5,p5,b5⟩:=open_list (t:=57) (e:=102) (k:=6) (by kernel_rfl) (by kernel_rfl) zDd encS smF ndS numS row (fun n' hn'=>ih n' (by omega)) t5
  obtain rfl:cs=[v0,v1,v2,v3,v4,v5]:=by
   match cs,hl with
   |[w0,w1,w2,w3,w4,w5],_=>
    simp only[List.getElem?_cons_zero,List.getElem?_cons_succ,Option.some.injEq] at c0 c1 c2 c3 c4 c5
    rw[c0,c1,c2,c3,c4,c5]
  obtain rfl:ys=[y0,y1,y2,y3,y4,y5]:=by
   match ys,hyl with
   |[w0,w1,w2,w3,w4,w5],_=>
    simp only[List.getElem?_cons_zero,List.getElem?_cons_succ,Option.some.injEq] at d0 d1 d2 d3 d4 d5
    rw[d0,d1,d2,d3,d4,d5]
  refine ⟨.mk k m i v l4 l5,repL_cons r0 (repL_cons r1 (repL_cons r2 (repL_cons r3 (repL_cons r4 (repL_cons r5 repL_nil))))),⟨p2,p3,numSs_all l4 p4,numSs_all l5 p5⟩,?_⟩
  rw[hb,bulk_agg,ndS,ndSs_sum,ndSs_sum]
  simp only[zMc,List.map_nil,List.sum_cons,List.sum_nil]
  omega
theorem open_sms {fuel:Nat} {cs:List Value} {x:DataW H×List MemPlace} (h:DataW.trod enc Tryz.prog W 0 (fun _=>true) true fuel 57 cs=some x):∃ l:List Sm,RepL W (allL W) [.list (l.map encS)] cs∧numSs l∧ndSs l+1≤Rows.uptoBulk x.1:=by
 obtain ⟨l,r3,hP,b3⟩:=open_list (t:=57) (e:=102) (k:=6) (by kernel_rfl) (by kernel_rfl) zDd encS smF ndS numS (fun b x vs off rest q1 q2 q3 q4=>by
  rw[encS_F]
  exact row_agg q1 q2 q3 q4 rfl) (fun n' _=>open_sm n') h
 exact ⟨l,r3,numSs_all l hP,by rw[ndSs_sum];exact b3⟩
def fnF (f:FnD):List LV:=[Go.GL.str f.name,.list (f.params.map Go.GL.str),.list (f.locals.map Go.GL.str),.list (f.body.map encS)]
theorem open_fn {fuel:Nat} {cs:List Value} {y:DataW H×List MemPlace} (h:DataW.trod enc Tryz.prog W 0 (fun _=>true) true fuel 59 cs=some y):∃ f:FnD,RepL W (allL W) (fnF f) cs∧numSs f.body∧ndF f≤Rows.uptoBulk y.1:=by
 obtain ⟨ys,n,rfl,hb,hl,hyl,hg⟩:=open_struct (ts:=[9,22,22,57]) (by kernel_rfl) (by kernel_rfl) h
 obtain ⟨v0,y0,c0,d0,t0⟩:=hg 0 _ rfl
 obtain ⟨v1,y1,c1,d1,t1⟩:=hg 1 _ rfl
 obtain ⟨v2,y2,c2,d2,t2⟩:=hg 2 _ rfl
 obtain ⟨v3,y3,c3,d3,t3⟩:=hg 3 _ rfl
 obtain ⟨m,r0,_,b0⟩:=open_str t0
 obtain ⟨ps,r1,b1⟩:=open_strs t1
 obtain ⟨ls,r2,b2⟩:=open_strs t2
 obtain ⟨l,r3,hP,b3⟩:=open_sms t3
 obtain rfl:cs=[v0,v1,v2,v3]:=by
  match cs,hl with
  |[w0,w1,w2,w3],_=>
   simp only[List.getElem?_cons_zero,List.getElem?_cons_succ,Option.some.injEq] at c0 c1 c2 c3
   rw[c0,c1,c2,c3]
 obtain rfl:ys=[y0,y1,y2,y3]:=by
  match ys,hyl with
  |[w0,w1,w2,w3],_=>
   simp only[List.getElem?_cons_zero,List.getElem?_cons_succ,Option.some.injEq] at d0 d1 d2 d3
   rw[d0,d1,d2,d3]
 refine ⟨⟨m,ps,ls,l⟩,repL_cons r0 (repL_cons r1 (repL_cons r2 (repL_cons r3 repL_nil))),hP,?_⟩
 rw[hb,bulk_agg,ndF]
 simp only[zMc,List.map_nil,List.sum_cons,List.sum_nil]
 omega
theorem open_arr {fuel:Nat} {cs:List Value} {y:DataW H×List MemPlace} (h:DataW.trod enc Tryz.prog W 0 (fun _=>true) true fuel 56 cs=some y):∃ a:Nm×Int,RepL W (allL W) [Go.GL.str a.1,Go.GL.int .i64 a.2] cs∧(-9223372036854775808≤a.2∧a.2<9223372036854775808)∧1≤Rows.uptoBulk y.1:=by
 obtain ⟨ys,n,rfl,hb,hl,hyl,hg⟩:=open_struct (ts:=[9,3]) (by kernel_rfl) (by kernel_rfl) h
 obtain ⟨v0,y0,c0,d0,t0⟩:=hg 0 _ rfl
 obtain ⟨v1,y1,c1,d1,t1⟩:=hg 1 _ rfl
 obtain ⟨m,r0,_,b0⟩:=open_str t0
 obtain ⟨z,r1,hz⟩:=open_i64 t1
 obtain rfl:cs=[v0,v1]:=by
  match cs,hl with
  |[w0,w1],_=>
   simp only[List.getElem?_cons_zero,List.getElem?_cons_succ,Option.some.injEq] at c0 c1
   rw[c0,c1]
 exact ⟨(m,z),repL_cons r0 (repL_cons r1 repL_nil),hz,bulk_pos _⟩
end
end Go.Proofs.YtpbbgkoalnonoaaGreatDoor
namespace Go.Proofs.YtpbbgkoalnonoaaGreatDoor
open Go.ChangeShapes Go.WideShapes Go.ChangeAt Go.RowKit Go.Deep Go.Joins
open Go.GL (LV Live Rep RepL RepC RepRows)
open Go.Stele
theorem relAll {W:World} (h8:8≤W.heap.size):Go.GL.RelH (KC 8 W) W (allL W) []:=relH_of h8 fun b hb=>allL_out hb
section
variable {H:Type} {enc:TypeId×Value→H} {W:World}
theorem open_prog {v:Value} {d:DataW H} {ps:List MemPlace} {base:Nat} (hval:Value.okWide Tryz.prog W .any base 26 v) (hd:DataW.Trod enc Tryz.prog W 0 (fun _=>true) true 26 v d ps) :
  ∃ (vars:List Nm) (arrays:List (Nm×Int)) (fs:List FnD),RepL W (allL W) [Chk.encPrG vars arrays fs] [v]∧vars.length≤Rows.uptoBulk d∧arrays.length≤Rows.uptoBulk d∧(∀ a∈arrays,-9223372036854775808≤a.2∧a.2<9223372036854775808)∧ndFs fs≤Rows.uptoBulk d∧∀ f∈fs,numSs f.body:=by
 obtain ⟨fs0,hu⟩:∃ fs,Tryz.prog.underlying 26=some (.struct fs):=by
  have h:(match Tryz.prog.underlying 26 with|some (.struct _)=>true|_=>false)=true:=by kernel_rfl
  split at h
  ·exact ⟨_,by assumption⟩
  ·cases h
 obtain ⟨cs,rfl,hsz⟩:=okWide_struct hu hval
 obtain ⟨fuel,hf⟩:=hd
 have hf':DataW.trod enc Tryz.prog W 0 (fun _=>true) true fuel 26 cs.toList=some (d,ps):=by simpa [Value.cells] using hf
 obtain ⟨ys,n,rfl,hb,hl,hyl,hg⟩:=open_struct (ts:=[22,23,24]) (by kernel_rfl) (by kernel_rfl) hf'
 obtain ⟨v0,y0,c0,d0,t0⟩:=hg 0 _ rfl
 obtain ⟨v1,y1,c1,d1,t1⟩:=hg 1 _ rfl
 obtain ⟨v2,y2,c2,d2,t2⟩:=hg 2 _ rfl
 obtain ⟨vars,r0,b0⟩:=open_strs t0
 obtain ⟨arrays,r1,p1,b1⟩:=open_list (t:=23) (e:=56) (k:=2) (by kernel_rfl) (by kernel_rfl) zDd Chk.encArG (fun a=>[Go.GL.str a.1,Go.GL.int .i64 a.2]) (fun _=>1) (fun a => -9223372036854775808≤a.2∧a.2<9223372036854775808) (fun b x vs off rest q1 q2 q3 q4=>row_agg q1 q2 q3 q4 rfl) (fun n' _ _ _ hy=>open_arr hy) t1
 obtain ⟨fs,r2,p2,b2⟩:=open_list (t:=24) (e:=59) (k:=4) (by kernel_rfl) (by kernel_rfl) zDd encFn fnF ndF (fun f=>numSs f.body) (fun b x vs off rest q1 q2 q3 q4=>row_agg q1 q2 q3 q4 rfl) (fun n' _ _ _ hy=>open_fn hy) t2
 have hlen:(arrays.map fun _=>1).sum=arrays.length:=by
  clear r1 p1 b1
  induction arrays with
  |nil=>rfl
  |cons a l ih=>rw[zMc,List.sum_cons,ih,zLc];omega
 obtain ⟨w0,w1,w2,rfl⟩:∃ w0 w1 w2,cs=#[w0,w1,w2]:=by
  obtain ⟨l⟩:=cs
  match l,hl with
  |[w0,w1,w2],_=>exact ⟨w0,w1,w2,rfl⟩
 simp only[List.getElem?_cons_zero,List.getElem?_cons_succ,Option.some.injEq] at c0 c1 c2
 subst c0 c1 c2
 obtain rfl:ys=[y0,y1,y2]:=by
  match ys,hyl with
  |[w0,w1,w2],_=>
   simp only[List.getElem?_cons_zero,List.getElem?_cons_succ,Option.some.injEq] at d0 d1 d2
   rw[d0,d1,d2]
 have hbd:Rows.uptoBulk d=Rows.uptoBulk y0.1+(Rows.uptoBulk y1.1+(Rows.uptoBulk y2.1+0))+1:=by
  rw[show d=_ from hb,bulk_agg]
  rfl
 refine ⟨vars,arrays,fs,?_,by omega,by omega,p1,?_,p2⟩
 ·have h3:=repL_cons r0 (repL_cons r1 (repL_cons r2 repL_nil))
  simp only[Chk.encPrG]
  rw[RepL]
  refine ⟨_,_,rfl,?_,by simp only[RepL]⟩
  rw[Rep]
  exact ⟨_,rfl,h3⟩
 ·rw[ndFs_sum]
  omega
theorem stay_prog {W':World} {v:Value} {d:DataW H} {ps:List MemPlace} {sp:Nat→Bool} (hd:DataW.Trod enc Tryz.prog W 0 (fun _=>true) true 26 v d ps) (hb:Below W.heap.size W W') (hlt:∀ x∈ps,x.block<W.heap.size) (hsp:∀ p∈ps,sp p.block=true):DataW.Trod enc Tryz.prog W' 0 sp true 26 v d ps:=
 WideElems.Trod_stays laidOut (by kernel_rfl) (of_decide_eq_true (by kernel_rfl)) hd (fun x hx=>hb.same (hlt x hx)) hsp
end
end Go.Proofs.YtpbbgkoalnonoaaGreatDoor
namespace Go.Proofs.YtpbbgkoalnonoaaGreatDoor.Jn
open Go
theorem j2:laidOutB Tryz.prog=true:=by kernel_rfl
theorem j3:mapsRowed Tryz.prog=true:=by kernel_rfl
theorem j7:(Tryz.prog.stops == [])=true:=by kernel_rfl
theorem j9:(Tryz.prog.stopKnobs == [])=true:=by kernel_rfl
theorem j22:(Rows.compilerFitsUptoRow.plainKeys == Tryz.prog.plainKeys)=true:=by kernel_rfl
theorem j23b:Tryz.prog.stopsHeard=true:=by kernel_rfl
theorem j24:Tryz.prog.mayEnter=true:=by kernel_rfl
theorem j24b:(Rows.compilerFitsUptoRow.lifted == Tryz.prog.liftsFinal)=true:=by kernel_rfl
theorem j24c:(Tryz.prog.make == some Rows.compilerFitsUptoRow.make)=true:=by kernel_rfl
theorem joined {f:FuncId} {fn:Func} {s:ChangeSpec} {c:OpenClaim}
  (e22:c.plainKeys=Rows.compilerFitsUptoRow.plainKeys) (e24b:c.lifted=Rows.compilerFitsUptoRow.lifted) (e24c:c.make=Rows.compilerFitsUptoRow.make)
  (k1:c.wf (OpenSpec.ofChange s)=true) (k4:(fn.params.all (Tryz.prog.readableRec ·))=true) (k5:namedTie Tryz.prog c.named s.vars=true)
  (k6:(c.stops == [])=true) (k8:(c.knobs == [])=true)
  (k10:(c.inPlace == Tryz.prog.inPlace f)=true) (k11:(c.unfollowed == Tryz.prog.unfollowed f)=true) (k12:(c.recurses == Tryz.prog.recurses f)=true) (k13:(c.named == Tryz.prog.varsNamed f)=true)
  (k14:(c.maps == (fn.params.toList++s.plain.varTypes Tryz.prog).any (Tryz.prog.mapsRec ·))=true) (k15:(c.ifaces == (fn.params.toList++s.plain.varTypes Tryz.prog).any (Tryz.prog.ifacesRec ·))=true)
  (k16:(c.mapsOut == Tryz.prog.mapsAmong fn.resultTypes.toList)=true)
  (k17:(c.loops == (fn.params.toList++s.plain.varTypes Tryz.prog).any (Tryz.prog.loopsFrom ·))=true) (k17b:(c.wideKeys == (fn.params.toList++s.plain.varTypes Tryz.prog++fn.resultTypes.toList).any (Tryz.prog.wideKeysFrom ·))=true)
  (k18:s.vars.all (Tryz.prog.varReadable ·)=true) (k19:fn.resultTypes.all (fun t=>Tryz.prog.readableRec t && decide (t<Tryz.prog.types.size))=true)
  (k20:(c.ifacesOut == fn.resultTypes.toList.any (Tryz.prog.ifacesRec ·))=true) (k21:(c.loopsOut == fn.resultTypes.toList.any (Tryz.prog.loopsFrom ·))=true)
  (k23:c.shortTexts.isNone=true) (k25:(c.kinds == (if c.domain.isEmpty then [] else fn.params.toList.map fun t=>match Tryz.prog.underlying t with|some (.int k)=>some k|_=>none))=true)
  (k26:(c.pinned == c.pinnedBy)=true) (k27:(c.veiled == (fn.params.toList++s.plain.varTypes Tryz.prog++fn.resultTypes.toList).any (Tryz.prog.veiledRec ·))=true)
  (k28:c.veiledFits Tryz.prog fn.params.toList (fn.params.toList++s.plain.varTypes Tryz.prog++fn.resultTypes.toList)=true) :
  joinedFacts Tryz.prog f fn s c=true:=by
 have m22:(c.plainKeys == Tryz.prog.plainKeys)=true:=by rw[e22];exact j22
 have m24b:(c.lifted == Tryz.prog.liftsFinal)=true:=by rw[e24b];exact j24b
 have m24c:(Tryz.prog.make == some c.make)=true:=by rw[e24c];exact j24c
 unfold joinedFacts
 simp only[zBa]
 exact ⟨⟨⟨⟨⟨⟨⟨⟨⟨⟨⟨⟨⟨⟨⟨⟨⟨⟨⟨⟨⟨⟨⟨⟨⟨⟨⟨⟨⟨⟨⟨k1,j2⟩,j3⟩,k4⟩,k5⟩,k6⟩,j7⟩,k8⟩,j9⟩,k10⟩,k11⟩,k12⟩,k13⟩,k14⟩,k15⟩,k16⟩,k17⟩,k17b⟩,k18⟩,k19⟩,k20⟩,k21⟩,m22⟩,k23⟩,j23b⟩,j24⟩,m24b⟩,m24c⟩,k25⟩,k26⟩,k27⟩,k28⟩
end Go.Proofs.YtpbbgkoalnonoaaGreatDoor.Jn
