/- Texts joined: RenA, GlClear, RenC, GlRange, GlRound, GlMax, GlPart, RenH, RenD, RenE. -/
import Derived.Lib.SplitLaws
import Derived.WalkSmall
import Derived.RangeFuncFrom
import Derived.RangeFuncLeaves
import Derived.TacticsIn
import Derived.OrdersIn
import Derived.Lib.AtoiAllCases
import Derived.Test.YtocofhbdbgnmbaaGreatDoorBRowR51
import Derived.Test.YtocofhbdbgnmbaaGreatDoorBRowR52
import Derived.Test.YtocofhbdbgnmbaaGreatDoorBRowR53
set_option linter.unusedVariables false
set_option linter.unusedSimpArgs false
namespace Go.GL
open Go.RowKit
theorem strs_cells:∀ l:List (List UInt8),(l.map str).flatMap LV.cells=l.map str
 |[]=>rfl
 |a::l=>by rw[List.map_cons,List.flatMap_cons,strs_cells l];rfl
def RetRow (el:TypeId) (l:List (List UInt8)):LRes→Heap→Prop:=fun r H=>∃ v,r=.ret (.atom v)∧MRow el 1 v (l.map str) H
theorem LCalls.ret_row {C:Ctx} {f:FuncId} {vs:List Value} {l:List (List UInt8)} {t:TypeId} (hl:l≠[])
  (h:∀ w,Below C.B0 C.w0 w→Calls C.P f vs.toArray w (fun e w'=>e=.returned (.slice (some ⟨w.heap.size,0,none⟩) l.length l.length)∧w'=w.alloc (.cells (l.map fun s=>Value.string ⟨s.toArray⟩).toArray t))):LCalls C f (vs.map .atom) [] (RetRow t l):=fun xs w L hv hH=>by
 have hx:xs=vs:=by
  clear h hH
  induction vs generalizing xs with
  |nil=>simpa [RepL] using hv
  |cons v vs ih=>
   simp only[List.map_cons,RepL,Rep] at hv
   obtain ⟨y,ys,rfl,rfl,hv⟩:=hv
   rw[ih _ hv]
 subst hx
 refine (h w hH.base).mono fun e w' he=>?_
 obtain ⟨rfl,rfl⟩:=he
 have hr:RepL w L ((l.map str).flatMap LV.cells) (l.map fun s=>Value.string ⟨s.toArray⟩):=by
  rw[strs_cells]
  have:=repL_atoms (w:=w) (L:=L) (l.map fun s=>Value.string ⟨s.toArray⟩)
  rw[List.map_map] at this
  exact this
 have hl':(l.map str).length=l.length:=List.length_map _
 have:=left_newM (C:=C) (K:=fun lv H=>∃ v,lv=.atom v∧MRow t 1 v (l.map str) H) (el:=t) (cap:=l.length) (rest:=[]) hH hr (strs_len l) zo (by simp) fun v' H' hm=>⟨v',rfl,hm⟩
 rw[List.append_nil,hl'] at this
 obtain ⟨lv,H',L',r1,r2,r3,v,rfl,hm⟩:=this
 exact ⟨_,H',L',r1,r2,r3,v,rfl,hm⟩
end Go.GL
namespace Go.Proofs.YtocofhbdbgnmbaaGreatDoor
open Go.GL Go.RowKit Go.Stele
set_option maxRecDepth 100000
set_option maxHeartbeats 4000000
attribute [local irreducible] LOps LCode LStep LCalls Go.GL.Pure QThen QBlock RetPost LQ LAny LLate LLateOp
structure GW (B0:Nat) (w0:World):Prop where
 pow10 : Go.Lib.TabIs Tryz.prog w0 "internal/strconv.uint64pow10" .u64 Go.Lib.pow10Tab
 errRange : ∃ tp p, w0.var? Tryz.prog "strconv.ErrRange" = some #[.iface tp p]
 errSyntax : ∃ tp p, w0.var? Tryz.prog "strconv.ErrSyntax" = some #[.iface tp p]
 maxLen:∃ m,w0.cell? ⟨1,0,none⟩=some (.int .i64 m)
 big:8≤B0
section
variable {B0:Nat} {w0:World}
theorem GW.tab (h : GW B0 w0) {w : World} (hb : Below B0 w0 w) : Go.Lib.TabIs Tryz.prog w "internal/strconv.uint64pow10" .u64 Go.Lib.pow10Tab := by
 have hg : Tryz.prog.globalNamed "internal/strconv.uint64pow10" = some 0 := by kernel_rfl
 exact var?_below hb hg (Nat.lt_of_lt_of_le (by decide) h.big) h.pow10
theorem GW.range (h : GW B0 w0) {w : World} (hb : Below B0 w0 w) : ∃ tp p, w.var? Tryz.prog "strconv.ErrRange" = some #[.iface tp p] := by
 have hg : Tryz.prog.globalNamed "strconv.ErrRange" = some 7 := by kernel_rfl
 obtain ⟨tp,p,hv⟩:=h.errRange
 exact ⟨tp,p,var?_below hb hg (Nat.lt_of_lt_of_le (by decide) h.big) hv⟩
theorem GW.syn (h : GW B0 w0) {w : World} (hb : Below B0 w0 w) : ∃ tp p, w.var? Tryz.prog "strconv.ErrSyntax" = some #[.iface tp p] := by
 have hg : Tryz.prog.globalNamed "strconv.ErrSyntax" = some 6 := by kernel_rfl
 obtain ⟨tp,p,hv⟩:=h.errSyntax
 exact ⟨tp,p,var?_below hb hg (Nat.lt_of_lt_of_le (by decide) h.big) hv⟩
theorem GW.maxAt (h:GW B0 w0) {w:World} (hb:Below B0 w0 w):∃ m,w.cell? ⟨1,0,none⟩=some (.int .i64 m):=by
 obtain ⟨m,hm⟩:=h.maxLen
 exact ⟨m,(cell_of_heap (hb.block 1 (Nat.lt_of_lt_of_le (by decide) h.big)) 0).trans hm⟩
theorem size_le {s:List UInt8} (h:s.length≤1000000000) {k:Nat} (hk:1000000000≤k):s.toArray.size≤k:=by simp;omega
theorem split_spec (hG:GW B0 w0) (s:List UInt8) (c:UInt8) (hs:s.length≤1000000000):LCalls (KC B0 w0) 16 [str s,str [c]] [] (RetRow 9 (pieces c s)):=by
 have hne:pieces c s≠[]:=by
  obtain ⟨p,ps,h⟩:=pieces_ne c s
  rw[h];simp
 rw[←split_one] at hne ⊢
 refine LCalls.ret_row (vs:=[.string ⟨s.toArray⟩,.string ⟨#[c]⟩]) hne fun w hw=>?_
 obtain ⟨m,hm⟩:=hG.maxAt hw
 have h1:=Tryz.strings_Split ⟨s.toArray⟩ ⟨#[c]⟩ m w (by show s.toArray.size<_;simp;omega) hm (Nat.le_refl 1)
 have e1:(Go.Lib.splitB ⟨#[c]⟩ 0 (Go.Lib.countB ⟨s.toArray⟩ ⟨#[c]⟩) ⟨s.toArray⟩).map Value.string=(Go.Lib.split s [c]).map fun s=>Value.string ⟨s.toArray⟩:=by
  have:=Go.Lib.splitB_data ⟨#[c]⟩ 0 (Go.Lib.countB ⟨s.toArray⟩ ⟨#[c]⟩) ⟨s.toArray⟩
  have e2:Go.Lib.split s [c]=Go.Lib.splitK (⟨#[c]⟩:ByteArray).data.toList 0 (Go.Lib.countB ⟨s.toArray⟩ ⟨#[c]⟩) (⟨s.toArray⟩:ByteArray).data.toList:=rfl
  rw[e2,←this,List.map_map]
  rfl
 have e3:(Go.Lib.split s [c]).length=Go.Lib.countB ⟨s.toArray⟩ ⟨#[c]⟩+1:=by
  have:=congrArg List.length e1
  rw[List.length_map,List.length_map,Go.Lib.splitB_all ⟨#[c]⟩ (Nat.le_refl 1) 0 _ _ rfl] at this
  exact this.symm
 rw[e1] at h1
 rw[e3]
 exact h1
theorem trim_spec (s:List UInt8) (hs:s.length≤1000000000):LCalls (KC B0 w0) 93 [str s,str [32]] [] (Ret (str (trimSp s))):=
 LCalls.ret_of (vs:=[.string ⟨s.toArray⟩,.string ⟨#[32]⟩]) fun w hw=>by
  have h:=Tryz.strings_Trim_one ⟨s.toArray⟩ 32 (by decide) w (by show s.toArray.size≤_;exact size_le hs (by decide))
  refine h.mono fun e w' he=>?_
  obtain ⟨h1,h2⟩:=he
  rw[show (⟨s.toArray⟩:ByteArray).data.toList=s from rfl,trimB_sp] at h1
  refine ⟨h1,?_⟩
  rcases h2 with rfl|rfl
  ·exact Below.refl _ _
  ·exact (Below.refl _ _).drew
theorem cut_spec (hG:GW B0 w0) (s:List UInt8) (c:UInt8) (hs:s.length≤1000000000):LCalls (KC B0 w0) 94 [str s,str [c]] [] (Ret (.tuple [str (s.takeWhile fun d=>decide (d≠c)),str ((s.dropWhile fun d=>decide (d≠c)).drop 1),bool (decide (c∈s))])):=by
 obtain ⟨h2,h3⟩:=cut_two c s
 rw[←cut_one,←h2,←h3]
 refine LCalls.mono (LCalls.of_belowT (vs:=[.string ⟨s.toArray⟩,.string ⟨#[c]⟩]) (p:=fun us=>us=[.string ⟨(Go.Lib.cut s [c]).1.toArray⟩,.string ⟨(Go.Lib.cut s [c]).2.1.toArray⟩,.bool (Go.Lib.cut s [c]).2.2]) fun w hw=>?_) ?_
 ·obtain ⟨m,hm⟩:=hG.maxAt hw
  refine (Tryz.strings_Cut ⟨s.toArray⟩ ⟨#[c]⟩ m w (by show s.toArray.size<_;simp;omega) hm).mono fun e w' he=>?_
  obtain ⟨rfl,n,rfl⟩:=he
  exact ⟨_,rfl,rfl,below_drewN (Below.refl _ _) n⟩
 ·rintro r H ⟨v,rfl,⟨us,rfl,rfl⟩,rfl⟩
  exact ⟨rfl,rfl⟩
theorem contains_spec (s:List UInt8) (c:UInt8):LCalls (KC B0 w0) 96 [str s,str [c]] [] (Ret (bool (decide (c∈s)))):=
 LCalls.ret_of (vs:=[.string ⟨s.toArray⟩,.string ⟨#[c]⟩]) fun w hw=>(Tryz.strings_Contains_one ⟨s.toArray⟩ c w).mono fun e w' he=>by
  obtain ⟨h1,rfl⟩:=he
  rw[show (⟨s.toArray⟩:ByteArray).data.toList=s from rfl,indexByte_mem] at h1
  exact ⟨h1,Below.refl _ _⟩
theorem prefix_spec (s:List UInt8) (a b:UInt8):LCalls (KC B0 w0) 30 [str s,str [a,b]] [] (Ret (bool (decide (s.take 2=[a,b])))):=
 LCalls.ret_of (vs:=[.string ⟨s.toArray⟩,.string ⟨#[a,b]⟩]) fun w hw=>(Tryz.strings_HasPrefix ⟨s.toArray⟩ ⟨#[a,b]⟩ w).mono fun e w' he=>by
  obtain ⟨h1,rfl⟩:=he
  have h2:=prefix_two a b s
  rw[←h2]
  exact ⟨h1,Below.refl _ _⟩
theorem itoa_spec (hG:GW B0 w0) (n:Int) (h0 : -9223372036854775808≤n) (h1:n≤9223372036854775807):LCalls (KC B0 w0) 67 [int .i64 n] [] (Ret (str (Go.Lib.itoa n))):=
 LCalls.ret_of (vs:=[.int .i64 n]) fun w hw=>(Tryz.strconv_Itoa n h0 h1 w (hG.tab hw)).mono fun e w' he=>by
  obtain ⟨h1,k,os,rfl⟩:=he
  exact ⟨h1,Go.Lib.below_grow _ _ (Nat.le_refl _) k os⟩
theorem atoi_spec (hG:GW B0 w0) (s:List UInt8) (hs:s.length≤1000000000):LCalls (KC B0 w0) 95 [str s] []
  (RetIf fun lv=>(∃ v,Go.Lib.atoiAll s=.ok v∧lv=.tuple [int .i64 v,.atom .nilIface])∨((∀ v,Go.Lib.atoiAll s≠.ok v)∧∃ v t p,lv=.tuple [int .i64 v,.atom (.iface t p)])):=by
 have hsz:∀ k,1000000000≤k→s.toArray.size≤k:=fun k hk=>by simp;omega
 refine LCalls.mono (LCalls.of_belowT (vs:=[.string ⟨s.toArray⟩]) (p:=fun us=>(∃ v,Go.Lib.atoiAll s=.ok v∧us=[.int .i64 v,.nilIface])∨((∀ v,Go.Lib.atoiAll s≠.ok v)∧∃ v t p,us=[.int .i64 v,.iface t p])) fun w hw=>?_) ?_
 ·cases h:Go.Lib.atoiAll s with
  |ok v=>
   refine (Tryz.strconv_Atoi_ok ⟨s.toArray⟩ (hsz _ (by decide)) v (by simpa using h) w).mono fun e w' he=>⟨_,he.1,.inl ⟨v,rfl,rfl⟩,?_⟩
   rcases he.2 with h2|⟨t,h2⟩
   ·rw[h2];exact Below.refl _ _
   ·rw[h2]
    exact ⟨rfl,rfl,rfl,by rw[Go.Lib.bytesWorld_size];omega,fun k hk=>Go.Lib.bytesWorld_at_old w 5 _ k hk⟩
  |range=>
   obtain ⟨tp,p,hv⟩:=hG.range hw
   refine (Tryz.strconv_Atoi_range_var ⟨s.toArray⟩ (hsz _ (by decide)) (by simpa using h) tp p w hv).mono fun e w' he=>?_
   obtain ⟨N,h1,_,_,h4⟩:=he
   exact ⟨_,h1,.inr ⟨(fun u hu=>by cases hu),_,_,_,rfl⟩,h4⟩
  |_=>
   obtain ⟨tp,p,hv⟩:=hG.syn hw
   refine (Tryz.strconv_Atoi_syntax_var ⟨s.toArray⟩ (hsz _ (by decide)) ⟨fun v hv=>(by rw[show Go.Lib.atoiAll s=_ from h] at hv;cases hv),fun hv=>(by rw[show Go.Lib.atoiAll s=_ from h] at hv;cases hv)⟩ tp p w hv).mono fun e w' he=>?_
   obtain ⟨N,h1,_,_,h4⟩:=he
   exact ⟨_,h1,.inr ⟨(fun u hu=>by cases hu),_,_,_,rfl⟩,h4⟩
 ·rintro r H ⟨v,rfl,⟨us,hus,rfl⟩,rfl⟩
  refine ⟨_,rfl,?_,rfl⟩
  rcases hus with ⟨u,h1,rfl⟩|⟨h1,v,t,p,rfl⟩
  ·exact .inl ⟨u,h1,rfl⟩
  ·exact .inr ⟨h1,v,t,p,rfl⟩
theorem repeat_spec (c:UInt8) (n:Nat) (hn:n≤1000000000):LCalls (KC B0 w0) 14 [str [c],int .i64 n] [] (Ret (str (List.replicate n c))):=
 LCalls.ret_of (vs:=[.string ⟨#[c]⟩,.int .i64 n]) fun w hw=>(Tryz.strings_Repeat ⟨#[c]⟩ n w zo (by show 1 * n≤_;omega)).mono fun e w' he=>by
  obtain ⟨h1,h2⟩:=he
  rw[show (⟨#[c]⟩:ByteArray).data.toList=[c] from rfl,repeat_one] at h1
  exact ⟨h1,h2⟩
theorem fmtUint_spec (hG:GW B0 w0) (u:Nat) (hu:u<18446744073709551616):LCalls (KC B0 w0) 28 [int .u64 u,int .i64 10] [] (Ret (str (Go.Lib.decDigits u))):=by
 refine cI Tryz.func28 rfl (n:=8) rfl rfl rfl ?_
 refine gac ?_
 refine oS (S.fn [_,_] rfl (LCalls.ret_of (vs:=[.int .u64 u,.int .i64 10]) fun w hw=>formatUint_main u hu w (hG.tab hw)) ?_) rfl
 refine gad ?_
 exact retRet rfl (zra rfl) rfl
end
end Go.Proofs.YtocofhbdbgnmbaaGreatDoor
namespace Go.GL
open Go.RowKit
section
variable {C:Ctx} {e:Env} {H:Heap} {x y:Operand} {dst:Option Nat} {ty:TypeId} {pos:String} {aft:Array Edge} {g:Option (Nat×Bool)} {K:LV→Heap→Prop} {X:List PanicEntry→Heap→Prop}
theorem Pure.ssliceE {xT:TypeId} {lo hi:Option Operand} {l m:List UInt8} {i j:Int} [hT:TStr C.P xT] (hx:e.ev x=str l)
  (hlo:BoundIs e lo 0 i) (hhi:BoundIs e hi l.length j) (h0:0≤i) (h1:i≤j) (h2:j≤l.length) (he:(l.take j.toNat).drop i.toNat=m) :
  Pure C ⟨dst,.slice xT x lo hi none,ty,pos,aft,g⟩ e H (str m):=he▸Pure.sslice hx hlo hhi h0 h1 h2
theorem Pure.indexRowE {t el s:Nat} [ht:TSlice C.P t el s] {b off m cap o:Nat} {n:Int} {k:IntKind} (hx:e.ev x=.atom (.slice (some ⟨b,off,none⟩) m cap)) (hy:e.ev y=int k n) (h0:0≤n) (hn:n<m) (ho:off+n.toNat * s=o) :
  Pure C ⟨dst,.indexAddr t x y,ty,pos,aft,g⟩ e H (ptr b o):=ho▸Pure.indexRow hx hy h0 hn
theorem Pure.lsliceE {t el s:Nat} {lo hi:Option Operand} {es ms:List LV} {i j:Int} [ht:TSlice C.P t el s] (hx:elems (e.ev x)=some es)
  (hlo:BoundIs e lo 0 i) (hhi:BoundIs e hi es.length j) (h0:0≤i) (h1:i≤j) (h2:j≤es.length) (hs:∀ v∈es,v.cells.length=s) (he:(es.take j.toNat).drop i.toNat=ms) :
  Pure C ⟨dst,.slice t x lo hi none,ty,pos,aft,g⟩ e H (.list ms):=he▸Pure.lslice hx hlo hhi h0 h1 h2 hs
def tailOff (off cap i:Nat):Nat:=if cap=i then off else off+i
theorem Pure.rowTail {t el:TypeId} [ht:TSlice C.P t el 1] {b off m cap i:Nat} {lo:Operand} {k:IntKind} (hx:e.ev x=.atom (.slice (some ⟨b,off,none⟩) m cap)) (hl:e.ev lo=int k i) (hi:i≤m) (hm:m≤cap) :
  Pure C ⟨dst,.slice t x (some lo) none none,ty,pos,aft,g⟩ e H (.atom (.slice (some ⟨b,tailOff off cap i,none⟩) (m-i) (cap-i))):=.of_any fun ρ w L h=>by
 obtain ⟨ti,hti,hsz⟩:=ht.size
 refine ⟨_,rep_atom,fun w'=>?_⟩
 have hb:=run_sliceBounds (P:=C.P) (w':=w') (len:=m) (cap:=cap) (lo:=some lo) (hi:=none) (i:=i) (j:=m) h true ⟨k,hl⟩ rfl zo zo zo
 have h3:execOp ρ ⟨dst,.slice t x (some lo) none none,ty,pos,aft,g⟩=(do Pure.pure (.value (←Instr.sliceAt t (ρ x) (some (ρ lo)) none none))):=rfl
 rw[h3,atom_of h hx]
 simp only[Option.map_none,Option.map_some] at hb
 simp only[Instr.sliceAt,Instr.slice,Sem.run_bind,run_underlying' (P:=C.P) ht.und w',Result.andThen_ok,Sem.run_pure,hb,run_sizeOf' hti,hsz]
 unfold tailOff
 by_cases hc:cap=i
 ·subst hc
  simp
 ·simp[hc,add_mk]
theorem zeroCells_one (z:Value) (hz:z.cells=#[z]) (n:Nat):(Builtin.zeroCells z.cells n).toList=List.replicate n z:=by
 rw[hz]
 simp[Builtin.zeroCells]
 apply List.ext_getElem
 ·simp
 ·intro i h1 h2
  simp[Nat.mod_one]
theorem S.clearTail {t el el':TypeId} {zv:Value} [ht:TSlice C.P t el 1] [hz:TZero C.P el [zv]] {b m cap i:Nat} {cs cs':List LV} {F:Heap} (hx:e.ev x=.atom (.slice (some ⟨b,tailOff 0 cap i,none⟩) (m-i) (cap-i))) (hp:Pick (b,.cells el' cs) H F) (hi:i≤m) (hm:m≤cap) (hl:m≤cs.length) (hzc:zv.cells=#[zv]) (hfl:(∀ cs,zv≠.agg cs)∧(∀ cs,zv≠.tuple cs))
  (hc:cs.take i++List.replicate (m-i) (.atom zv)++cs.drop m=cs') (hk:K (.tuple []) ((b,.cells el' cs')::F)):LStep C ⟨dst,.call { callee:=.builtin .clear,args:=#[x],argTypes:=#[t] },ty,pos,aft,g⟩ e H K X:=by
 refine LStep.at1 hp ?_
 intro ρ w L h hH
 have h0:∀ (cs:Array Bool) (args:Array Value),builtin .clear #[t] ty cs args=(do Pure.pure (.value (←Builtin.clear_ #[t] ty args))):=fun _ _=>rfl
 obtain ⟨hb0,hbs,hlv,xs,hx1,hx2⟩:=hH.objs _ (List.mem_singleton.2 rfl)
 simp only at hb0 hbs hlv hx1 hx2
 have hxl:=hx2.length
 have htup:Rep w L (.tuple []) (.tuple #[]):=by simp only[Rep];exact ⟨[],rfl,by simp only[RepL]⟩
 rw[execOp_builtin',h0]
 simp only[List.map_toArray,List.map_cons,List.map_nil,Sem.run_bind,atom_of h hx]
 by_cases hn:m-i=0
 ·have hrun:(Builtin.clear_ #[t] ty #[.slice (some ⟨b,tailOff 0 cap i,none⟩) (m-i) (cap-i)]).run C.P w=.ok (.tuple #[]) w:=by
   rw[hn]
   simp[Builtin.clear_,run_underlying' ht.und]
  rw[hrun]
  simp only[Result.andThen_ok,Sem.run_pure]
  have:cs'=cs:=by
   rw[←hc,hn,List.replicate_zero,List.append_nil,show m=i by omega,List.take_append_drop]
  subst this
  exact ⟨_,[(b,.cells el' cs')],L,Fr.refl _ _ _,hH,htup,hk⟩
 ·obtain ⟨ti,v,hti,hv,hvc,hvs⟩:=hz.out
  have hv1:v.cells=#[zv]:=by rw[hvc]
  have hoff:tailOff 0 cap i=i:=by
   unfold tailOff
   rw[if_neg zo,Nat.zero_add]
  rw[hoff]
  obtain ⟨w',r1,r2,r3,r4,r5,r6,r7⟩:=storeCells_run (P:=C.P) (b:=b) (off:=i) (t:=el') (fr:=(0,0)) (List.replicate (m-i) zv) 0 w xs hx1 (by rw[List.length_replicate];omega) (fun j _ _=>by simp) (fun u hu=>by rw[List.eq_of_mem_replicate hu];exact hfl)
  have hzz:(Builtin.zeroCells v.cells (m-i)).toList=List.replicate (m-i) zv:=by
   rw[hv1,←hzc]
   exact zeroCells_one zv hzc _
  obtain ⟨n',hn'⟩:∃ n',m-i=n'+1:=⟨m-i-1,by omega⟩
  have hrun:(Builtin.clear_ #[t] ty #[.slice (some ⟨b,i,none⟩) (m-i) (cap-i)]).run C.P w=.ok (.tuple #[]) w':=by
   rw[hn'] at hzz r1 ⊢
   simp[Builtin.clear_,run_underlying' ht.und,zeroValue,run_typeInfo' hti,hv,hzz,r1]
  rw[hrun]
  simp only[Result.andThen_ok,Sem.run_pure]
  refine left_write hH r2 r3 r4 r5 r6 r7 ?_ ?_ (by simp only[Rep];exact ⟨[],rfl,by simp only[RepL]⟩) hk
  ·rw[Nat.add_zero]
   simp only[List.length_append,List.length_take,List.length_replicate,List.length_drop]
   omega
  ·rw[←hc,Nat.add_zero,List.length_replicate,show i+(m-i)=m by omega]
   have hr:RepL w L (List.replicate (m-i) (.atom zv)) (List.replicate (m-i) zv):=by
    have:=repL_atoms (w:=w) (L:=L) (List.replicate (m-i) zv)
    rwa [List.map_replicate] at this
   exact ((hx2.take i).append hr).append (hx2.drop m)
end
theorem MRow.of_cells {el b m cap:Nat} {es spare:List LV} (hs:∀ v∈es,v.cells.length=1) (hf:es.flatMap LV.cells=es) (hm:es.length=m) (hc:m≤cap) (hl:m+spare.length=cap) :
  MRow el 1 (.slice (some ⟨b,0,none⟩) m cap) es [(b,.cells el (es++spare))]:=by
 subst hm
 have:=MRow.row (el:=el) (s:=1) (b:=b) (cap:=cap) (es:=es) (spare:=spare) hs hc zo
 rwa [hf] at this
section
variable {C:Ctx} {n:Nat} {Q:Post} {e:Env} {H F:Heap}
theorem LOps.settleNe {ops:Array Oper} {rest:List Oper} (d:Nat) {el s:Nat} {v:Value} {es:List LV} {HM:Heap} (hm:MRow el s v es HM) (hne:es≠[]) (hp:H.Perm (HM++F)) (hd:e.s d=.atom v)
  (h:∀ b cap,LOps C n ops Q rest (e.upd d (.app b cap s es)) ((b,.row (es.length * s))::F)):LOps C n ops Q rest e H:=
 LOps.settle d hm hp hd fun v' H' ha=>by
  cases ha with
  |nil=>exact absurd rfl hne
  |row=>exact h _ _
end
end Go.GL
namespace Go.Proofs.YtocofhbdbgnmbaaGreatDoor
open Go.GL Go.RowKit Go.Stele
set_option maxRecDepth 100000
set_option maxHeartbeats 4000000
attribute [local irreducible] LOps LCode LStep LCalls Go.GL.Pure QThen QBlock RetPost LQ LAny LLate LLateOp
theorem full_all {l:List Wd} (h:∀ w∈l,w≠[]):full l=l:=List.filter_eq_self.2 fun w hw=>by simpa using h w hw
theorem full_snoc {l:List Wd} {j:Nat} (h:j<l.length):full (l.take (j+1))=if l[j]=[] then full (l.take j) else full (l.take j)++[l[j]]:=by
 rw[List.take_succ_eq_append_getElem h,full_app]
 by_cases hw:l[j]=[]
 ·rw[if_pos hw,hw]
  show full (l.take j)++[]=_
  rw[List.append_nil]
 ·rw[if_neg hw,full_all (l:=[l[j]]) (by simpa using hw)]
theorem pieces_cnt (c:UInt8):∀ s:Wd,(pieces c s).length≤s.length+1
 |[]=>Nat.le_refl _
 |d::r=>by
  have ih:=pieces_cnt c r
  by_cases hd:d=c
  ·subst hd
   rw[pieces_hit,List.length_cons,List.length_cons];omega
  ·obtain ⟨p,ps,h1,h2⟩:=pieces_miss hd r
   rw[h1,List.length_cons] at ih
   rw[h2,List.length_cons,List.length_cons];omega
theorem full_le (l:List Wd):(full l).length≤l.length:=List.length_filter_le ..
section
variable {B0:Nat} {w0:World}
theorem isNil_spec (s:List UInt8):LCalls (KC B0 w0) 92 [str s] [] (Ret (bool (decide (s=[])))):=by
 refine cI Tryz.func92 rfl (n:=5) rfl rfl rfl ?_
 refine gaa ?_
 exact retRet rfl (zra rfl) rfl
def FirstNil (l:List Wd) (n:Int):Prop:=(n = -1∧∀ w∈l,w≠[])∨∃ i:Nat,n=(i:Int)∧i<l.length∧(∀ w∈l.take i,w≠[])∧l[i]? = some []
theorem indexF_spec (l:List Wd) (b cap:Nat) (spare:List LV) (hl:l.length≤1000000000):LCalls (KC B0 w0) 114 [.atom (.slice (some ⟨b,0,none⟩) l.length cap),.atom (.func (.func 92) #[] #[])] [(b,.cells 9 (l.map str++spare))]
  (fun r H=>∃ n,r=.ret (int .i64 n)∧FirstNil l n∧H=[(b,.cells 9 (l.map str++spare))]):=by
 refine cI Tryz.func114 rfl (n:=19) rfl rfl rfl ?_
 refine gac ?_
 refine oP (Pure.rowLen rfl) rfl ?_
 refine gad ?_
 refine oL (fun k ls H=>∃ i:Nat,i≤l.length∧k=l.length-i∧(∀ w∈l.take i,w≠[])∧ls=[(0,.atom (.slice (some ⟨b,0,none⟩) l.length cap)),(1,.atom (.func (.func 92) #[] #[])),(7,int .i64 l.length),(8,int .i64 i)]∧H=[(b,.cells 9 (l.map str++spare))])
  ⟨_,_,_,⟨0,Nat.zero_le _,rfl,by simp,rfl,rfl⟩,⟨rfl,rfl,rfl,rfl,trivial⟩,HSub.refl _⟩ ?_
 rintro k ls H ⟨i,hi,rfl,hall,rfl,rfl⟩ j1 hj1
 refine gaj ?_
 refine oC rfl (fun hc=>?_) (fun hc=>?_)
 ·have hlt:i<l.length:=by have:=zt hc;omega
  refine gac ?_
  refine oP (Pure.indexRow rfl rfl zo zo) rfl ?_
  refine oP (Pure.loadH (c:=str l[i]) rfl zm0 (by
   rw[Nat.zero_add,Nat.mul_one,Int.toNat_natCast,List.getElem?_append_left (by rw[List.length_map];exact hlt),List.getElem?_map,List.getElem?_eq_getElem hlt]
   rfl)) rfl ?_
  refine oS (S.fnV (f:=92) [_] rfl rfl (isNil_spec l[i]) ?_) rfl
  refine gah ?_
  refine oC rfl (fun h=>?_) (fun h=>?_)
  ·have he:l[i]=[]:=zt h
   refine gaa ?_
   exact rR hj1 (zra rfl) zhr ⟨_,rfl,.inr ⟨i,rfl,hlt,hall,by rw[List.getElem?_eq_getElem hlt,he]⟩,rfl⟩
  ·have he:l[i]≠[]:=zf h
   refine gac ?_
   exact ⟨_,_,_,by omega,⟨i+1,by omega,rfl,by
    rw[List.take_succ_eq_append_getElem hlt]
    intro w hw
    rcases List.mem_append.1 hw with hw|hw
    ·exact hall w hw
    ·rw[List.mem_singleton.1 hw];exact he,rfl,rfl⟩,⟨rfl,rfl,rfl,int_eq zo,trivial⟩,HSub.refl _,hj1⟩
 ·have hi':i=l.length:=by have:=zf hc;omega
  subst hi'
  rw[List.take_length] at hall
  refine gac ?_
  exact rR hj1 (zra rfl) zhr ⟨_,rfl,.inl ⟨rfl,hall⟩,rfl⟩
theorem deleteF_spec (l:List Wd) (b cap:Nat) (spare:List LV) (hl:l.length≤1000000000) (hcap:l.length+spare.length=cap):LCalls (KC B0 w0) 91 [.atom (.slice (some ⟨b,0,none⟩) l.length cap),.atom (.func (.func 92) #[] #[])] [(b,.cells 9 (l.map str++spare))]
  (RetRow 9 (full l)):=by
 refine cI Tryz.func91 rfl (n:=42) rfl rfl rfl ?_
 refine gac ?_
 refine oS (S.call1 [_,_] rfl pH (indexF_spec l b cap spare hl) (fun v H' hh=>?_) (by rintro ch H' ⟨n,h,_⟩;cases h)) rfl
 obtain ⟨n,hv,hF,rfl⟩:=hh
 cases hv
 refine gac ?_
 refine oC rfl (fun h=>?_) (fun h=>?_)
 ·have hn:=zt h
  rcases hF with ⟨_,hall⟩|⟨i,h1,_⟩
  ·refine gac ?_
   refine rR rfl (zra rfl) zhr ⟨_,rfl,?_⟩
   rw[full_all hall]
   exact MRow.of_cells (strs_len l) (strs_cells l) (List.length_map _) zo hcap
  ·omega
 ·have hn:=zf h
  rcases hF with ⟨h1,_⟩|⟨i0,rfl,hi0,hall,hnil⟩
  ·exact absurd h1 hn
  ·have hf0:full (l.take (i0+1))=l.take i0:=by
    rw[full_snoc hi0,if_pos (by rw[List.getElem?_eq_getElem hi0] at hnil;injection hnil),full_all hall]
   refine gac ?_
   refine oL (fun k ls H=>∃ (i j:Nat) (cs:List LV),i<j∧j≤l.length∧k=l.length-j∧cs.length=l.length+spare.length∧i=(full (l.take j)).length∧cs.take i=(full (l.take j)).map str∧cs.drop j=(l.drop j).map str++spare ∧
     ls=[(0,.atom (.slice (some ⟨b,0,none⟩) l.length cap)),(1,.atom (.func (.func 92) #[] #[])),(5,int .i64 i),(6,int .i64 j)]∧H=[(b,.cells 9 cs)])
    ⟨_,_,_,⟨i0,i0+1,l.map str++spare,by omega,by omega,rfl,by rw[List.length_append,List.length_map],by rw[hf0,List.length_take];omega,by
     rw[hf0,List.take_append_of_le_length (by rw[List.length_map];omega),List.map_take],by
     rw[List.drop_append_of_le_length (by rw[List.length_map];omega),List.map_drop],rfl,rfl⟩,⟨rfl,rfl,rfl,int_eq zo,trivial⟩,HSub.refl _⟩ ?_
   rintro k ls H ⟨i,j,cs,hij,hj,rfl,hcl,hi,htk,hdr,rfl,rfl⟩ j1 hj1
   refine gae ?_
   refine oP (Pure.rowLen rfl) rfl ?_
   refine gad ?_
   refine oC rfl (fun hc=>?_) (fun hc=>?_)
   ·have hlt:j<l.length:=by have:=zt hc;omega
    have hget:cs[j]? = some (str l[j]):=by
     have:=congrArg (fun q=>q[0]?) hdr
     simp only[List.getElem?_drop,Nat.add_zero] at this
     rw[this,List.getElem?_append_left (by rw[List.length_map,List.length_drop];omega),List.getElem?_map,List.getElem?_drop,Nat.add_zero,List.getElem?_eq_getElem hlt]
     rfl
    have hdr1:cs.drop (j+1)=(l.drop (j+1)).map str++spare:=by
     have:=congrArg (List.drop 1) hdr
     rw[List.drop_drop] at this
     rw[this,List.drop_append_of_le_length (by rw[List.length_map,List.length_drop];omega),←List.map_drop,List.drop_drop]
    refine gae ?_
    refine oP (Pure.indexRow rfl rfl zo zo) rfl ?_
    refine oP (Pure.loadH (c:=str l[j]) rfl zm0 (by
     rw[Nat.zero_add,Nat.mul_one,Int.toNat_natCast];exact hget)) rfl ?_
    refine gac ?_
    refine oS (S.fnV (f:=92) [_] rfl rfl (isNil_spec l[j]) ?_) rfl
    refine gab ?_
    refine oC rfl (fun h=>?_) (fun h=>?_)
    ·have he:l[j]≠[]:=zf (not_t h)
     have hfs:full (l.take (j+1))=full (l.take j)++[l[j]]:=by rw[full_snoc hlt,if_neg he]
     refine gae ?_
     refine oP (Pure.indexRow rfl rfl zo zo) rfl ?_
     refine oS (S.store (cs':=cs.take i++[str l[j]]++cs.drop (i+1)) rfl pH rfl rfl (by rw[Nat.zero_add,Nat.mul_one,Int.toNat_natCast];exact Nat.ble_eq_true_of_le (show i+1≤cs.length by omega)) rfl (by
      rw[Nat.zero_add,Nat.mul_one,Int.toNat_natCast]
      exact setL_eq cs i [str l[j]] (by show i+1≤cs.length;omega)) ?_) rfl
     refine gac ?_
     have hil:(cs.take i).length=i:=by rw[List.length_take];omega
     exact ⟨_,_,_,by omega,⟨i+1,j+1,_,by omega,by omega,rfl,by
      simp only[List.length_append,List.length_take,List.length_drop,List.length_cons,List.length_nil];omega,by
      rw[hfs,List.length_append,←hi];rfl,by
      rw[hfs,List.map_append,←htk,List.take_left' (by rw[List.length_append,hil];rfl)]
      rfl,by
      rw[List.append_assoc,List.drop_append,List.drop_eq_nil_of_le zo,List.nil_append,hil,show j+1-i=(j-i)+1 by omega]
      show (cs.drop (i+1)).drop (j-i)=_
      rw[List.drop_drop,show i+1+(j-i)=j+1 by omega,hdr1],rfl,rfl⟩,⟨rfl,rfl,int_eq zo,int_eq zo,trivial⟩,HSub.refl _,hj1⟩
    ·have he:l[j]=[]:=zt (not_f h)
     have hfs:full (l.take (j+1))=full (l.take j):=by rw[full_snoc hlt,if_pos he]
     refine gac ?_
     exact ⟨_,_,_,by omega,⟨i,j+1,cs,by omega,by omega,rfl,hcl,by rw[hfs];exact hi,by rw[hfs];exact htk,hdr1,rfl,rfl⟩,⟨rfl,rfl,rfl,int_eq zo,trivial⟩,HSub.refl _,hj1⟩
   ·have hj':j=l.length:=by have:=zf hc;omega
    subst hj'
    rw[List.take_length] at htk hi
    rw[List.drop_length,List.map_nil,List.nil_append] at hdr
    refine gac ?_
    refine oP (Pure.rowTail rfl rfl zo zo) rfl ?_
    refine oS (S.clearTail (zv:=.string ⟨#[]⟩) rfl pH zo zo zo rfl ⟨fun _ h=>(by cases h),fun _ h=>(by cases h)⟩ rfl ?_) rfl
    refine gac ?_
    refine oP (Pure.rowSlice (n:=i) rfl rfl zo) rfl ?_
    refine gad ?_
    refine rR hj1 (zra rfl) zhr ⟨_,rfl,?_⟩
    rw[htk,List.append_assoc]
    exact MRow.of_cells (strs_len _) (strs_cells _) (by rw[List.length_map,←hi]) zo (by
     simp only[List.length_append,List.length_replicate,List.length_drop]
     omega)
theorem words_spec (hG:GW B0 w0) (s:List UInt8) (hs:s.length≤100000000):LCalls (KC B0 w0) 64 [str s] [] (RetRow 9 (wordsL s)):=by
 have hlen:=pieces_cnt 32 s
 have hne:pieces 32 s≠[]:=by
  obtain ⟨p,ps,h⟩:=pieces_ne 32 s
  rw[h];simp
 refine cI Tryz.func64 rfl (n:=6) rfl rfl rfl ?_
 refine gac ?_
 refine oS (S.call0 [_,_] rfl (split_spec hG s 32 zo) (fun v H' hh=>?_) (by rintro ch H' ⟨v,h,_⟩;cases h)) rfl
 obtain ⟨v,hv,hm⟩:=hh
 cases hv
 obtain ⟨b,cap,spare,rfl,rfl,hc,hl⟩:=hm.addr (by simpa using hne)
 simp only[List.length_map,strs_cells] at hc hl ⊢
 refine oS (S.call1 [_,_] rfl pH (deleteF_spec (pieces 32 s) b cap spare zo zo) (fun v H' hh=>?_) (by rintro ch H' ⟨v,h,_⟩;cases h)) rfl
 obtain ⟨v,hv,hm⟩:=hh
 cases hv
 refine gad ?_
 exact rR rfl (zra rfl) (by simpa using HSub.refl _) ⟨_,rfl,hm⟩
end
end Go.Proofs.YtocofhbdbgnmbaaGreatDoor
namespace Go.GL
open Go.RowKit
def noDefer:Op→Bool
 |.defer _=>false
 |_=>true
theorem callsIn_round {l n:Nat} {P:Program} {f:FuncId} {args:Array Value} {w:World} {R:Ending→World→Prop} (h:Calls P f args w R):CallsIn (Fence.wide.inRound l) n P f args w R:=(callsIn_wide (n:=n)).2 h
theorem rowsIn_round {l n:Nat} {P:Program} {row:String} {args:Array Value} {w:World} {R:Value→World→Prop} (h:Rows P row args w R):RowsIn (Fence.wide.inRound l) n P row args w R:=fun c cs _=>
 let ⟨v,w',r,s⟩:=h c cs
 ⟨v,w',r,stepsIn_wide.2 s⟩
theorem operIn_round {l n:Nat} {P:Program} {o:Oper} {a:Act} {w:World} {next next':Act→World→Prop} {Q:Exit→Act→World→Prop} (ho:noDefer o.op=true)
  (hn:∀ a w,next a w→next' a w) (h:o.wp P a w next Q):o.wpIn (Fence.wide.inRound l) n P a w next' Q:=by
 refine ⟨fun _ _=>trivial,?_⟩
 have hs:o.semAt (Fence.wide.inRound l).round a.eval=execOp a.eval o:=Oper.semAt_eq _ _ _ fun c hc=>by rw[hc] at ho;cases ho
 rw[hs]
 unfold Oper.wp at h
 revert h
 generalize (execOp a.eval o).run P w=r
 intro h
 cases r with
 |ok x w'=>
  cases x with
  |value v=>exact hn _ _ h
  |skip=>exact hn _ _ h
  |defer d=>exact hn _ _ h
  |enter f args=>
   refine ⟨fun hd=>(by cases hd),callsIn_round (Calls.mono h ?_)⟩
   intro e w'' he
   cases e with
   |returned v=>exact hn _ _ he
   |panicked ch=>exact he
   |outgrown=>exact he
  |row row args=>
   refine ⟨fun hd=>(by cases hd),rowsIn_round (Rows.mono h ?_)⟩
   intro v w'' he
   exact hn _ _ he
  |_=>exact h.elim
 |halt x w'=>
  cases x <;> first|exact h|exact h.elim
theorem listIn_round {l n:Nat} {P:Program} {ops:Array Oper} {Q:Exit→Act→World→Prop} (hQ:¬ LetsOut Q):∀ (rest:List Oper) (a:Act) (w:World),(∀ o∈rest,noDefer o.op=true)→wpList P ops Q rest a w→wpListIn (Fence.wide.inRound l) n P ops Q rest a w
 |[],_,_,_,h=>h
 |o::rest,a,w,ho,h=>by
  unfold wpList at h
  unfold wpListIn
  split at h
  ·rename_i hw
   rw[if_pos hw]
   rcases h with h|⟨_,h⟩
   ·exact operIn_round (ho o List.mem_cons_self) (fun a w h=>listIn_round hQ rest a w (fun o h=>ho o (List.mem_cons_of_mem _ h)) h) h
   ·exact absurd h hQ
  ·rename_i hw
   rw[if_neg hw]
   exact ⟨fun _ _=>trivial,listIn_round hQ rest _ _ (fun o h=>ho o (List.mem_cons_of_mem _ h)) h⟩
theorem regionIn_round {l n id:Nat} {P:Program} {ops:List Oper} {Q:Exit→Act→World→Prop} {a:Act} {w:World} (hQ:¬ LetsOut Q) (ho:ops.all (fun o=>noDefer o.op)=true) (h:wpList P ops.toArray Q ops a w) :
  (Code.region id ops.toArray false).wpIn (Fence.wide.inRound l) n P Q a w:=wpIn_region_lit (listIn_round hQ ops a w (by simpa using ho) h)
end Go.GL
/- A small logic over the walk's 'Code.wp': a range over a function whose rounds all go on. -/
namespace Go.GL
open Go.RowKit
theorem turn_obj {C:Ctx} {w:World} {L:Live} {b:Nat} {o o':Obj} {F:Heap} (hH:RelH C w L ((b,.obj o)::F)) (ho':noCells o'=true) :
  Fr (keys ((b,LObj.obj o)::F)) w L (w.putObj b o') L ((b,.obj o')::F)∧RelH C (w.putObj b o') L ((b,.obj o')::F):=by
 have h1:RelH C w L ([(b,.obj o)]++F):=hH
 have hlt:b<w.heap.size:=(hH.objs _ List.mem_cons_self).2.1
 have h2:Left C w L [(b,.obj o)] (w.putObj b o') undef (fun _ H'=>H'=[(b,.obj o')]):=
  left_obj (w':=w.putObj b o') h1.left ho' rfl rfl rfl (by simp[World.putObj]) (fun c hc=>World.putObj_heap_other hc) (World.putObj_heap_same hlt) (v:=undef) (lv:=.atom undef) (fun _=>rep_atom) rfl
 obtain ⟨lv,H',L',g1,g2,g3,rfl⟩:=h2
 have hL:L'=L:=by
  funext c
  obtain ⟨_,_,hl,_⟩:=h1.left.objs _ List.mem_cons_self
  obtain ⟨_,_,hl',_⟩:=g2.objs _ List.mem_cons_self
  by_cases he:c=b
  ·subst he;rw[hl,hl']
  ·rcases Nat.lt_or_ge c w.heap.size with hc|hc
   ·exact g1.lsame c hc (by simpa using he)
   ·rw[h1.wf c hc,g2.wf c (by simpa [World.putObj] using hc)]
 subst hL
 have:=h1.frame g1 g2
 exact ⟨this.2,this.1⟩
theorem alloc_obj {C:Ctx} {w:World} {L:Live} {o:Obj} {F:Heap} (hH:RelH C w L F) (ho:noCells o=true) :
  ∃ L',Fr (keys F) w L (w.alloc o) L' ((w.heap.size,.obj o)::F)∧RelH C (w.alloc o) L' ((w.heap.size,.obj o)::F):=by
 have h1:RelH C w L ([]++F):=hH
 have:=fr_push h1.left o 0 [(w.heap.size,.obj o)] (fun p hp=>by
  simp only[List.mem_singleton] at hp
  subst hp
  exact ⟨rfl,by simp[Live.upd],heap_push_self,shape_none heap_push_self ho⟩) (by simp)
 have:=h1.frame this.1 this.2
 exact ⟨_,this.2,this.1⟩
def LCodeR (C:Ctx) (l n:Nat) (c:Code) (Q:Post) (e:Env) (H:Heap):Prop:=
 ∀ a w L,RelE n a e w L→RelH C w L H→∀ m,c.wpIn (Fence.wide.inRound l) m C.P (lift C n w L (keys H) Q) a w
def QOn (k:Env→Heap→Prop):Post
 |.normal,e,H=>k e H
 |_,_,_=>False
section round
variable {C:Ctx} {l n:Nat} {e:Env} {H:Heap} {k:Env→Heap→Prop}
theorem LCodeR.region {id:Nat} {ops:List Oper} (ho:ops.all (fun o=>noDefer o.op)=true) (h:LOps C n ops.toArray (QThen k (QOn k)) ops e H):LCodeR C l n (.region id ops.toArray false) (QOn k) e H:=fun a w L hE hH m=>by
 refine regionIn_round ?_ ho (wpList_mono ?_ _ _ _ (h a w L hE hH))
 ·rintro ⟨a',w',e',H',L',_,_,_,hq⟩
  exact hq
 ·rintro ex a' w' hq
  refine lift_mono ?_ hq
  intro x e H h
  cases x <;> exact h
theorem LCodeR.skip (h:k e H):LCodeR C l n .skip (QOn k) e H:=fun a w L hE hH m=>wpIn_skip ⟨e,H,L,Fr.refl _ _ _,hH,hE,h⟩
theorem LCodeR.seq {x y:Code} (h:LCodeR C l n x (QOn fun e H=>LCodeR C l n y (QOn k) e H) e H):LCodeR C l n (.seq x y) (QOn k) e H:=fun a w L hE hH m=>by
 refine wpIn_seq (wpIn_mono (h a w L hE hH m) fun ex a' w' hq=>?_)
 obtain ⟨e',H',L',h1,h2,h3,h4⟩:=hq
 cases ex with
 |normal=>exact wpIn_mono (h4 a' w' L' h3 h2 m) fun _ _ _=>lift_trans h1
 |exit id=>exact h4.elim
 |goto id=>exact h4.elim
 |ret=>exact h4.elim
 |panic ch=>exact h4.elim
 |outgrown=>exact h4.elim
theorem LCodeR.block {id:Nat} {c:Code} (h:LCodeR C l n c (QOn k) e H):LCodeR C l n (.block id c) (QOn k) e H:=fun a w L hE hH m=>by
 refine wpIn_block (wpIn_mono (h a w L hE hH m) fun ex a' w' hq=>?_)
 obtain ⟨e',H',L',h1,h2,h3,h4⟩:=hq
 cases ex with
 |normal=>exact ⟨e',H',L',h1,h2,h3,h4⟩
 |exit id=>exact h4.elim
 |goto id=>exact h4.elim
 |ret=>exact h4.elim
 |panic ch=>exact h4.elim
 |outgrown=>exact h4.elim
end round
theorem yieldAt_mono {F:Fence} {m:Nat} {P:Program} {l:Nat} {args:Array Value} {W:World} {R R':Ending→World→Prop} (h:YieldAt F m P l args W R) (hr:∀ e w,R e w→R' e w):YieldAt F m P l args W R':=by
 obtain ⟨fn,tmps,assign,body,hy,hR⟩:=h
 exact ⟨fn,tmps,assign,body,hy,hR.mono hr⟩
def LYield (C:Ctx) (l:Nat) (args:List LV) (H:Heap) (K:Heap→Prop):Prop:=
 ∀ (vs:List Value) w L,RepL w L args vs→RelH C w L H→∀ m,YieldAt Fence.wide m C.P l vs.toArray w fun e w'=>e=.returned (.bool true)∧LeftX C w L H w' K
theorem LYield.frame {C:Ctx} {l:Nat} {args:List LV} {G H F:Heap} {K:Heap→Prop} (p:G.Perm (H++F)) (h:LYield C l args H fun H'=>K (H'++F)):LYield C l args G K:=fun vs w L h1 h2 m=>by
 have h3:=h2.perm p
 refine yieldAt_mono (h vs w L h1 h3.left m) ?_
 rintro e w' ⟨he,hx⟩
 obtain ⟨H',L',g1,g2,g3⟩:=LeftX.frame h3 hx
 exact ⟨he,H',L',g1.perm p.symm,g2,g3⟩
theorem LYield.mono {C:Ctx} {l:Nat} {args:List LV} {H:Heap} {K K':Heap→Prop} (h:LYield C l args H K) (hk:∀ H,K H→K' H):LYield C l args H K':=fun vs w L h1 h2 m=>yieldAt_mono (h vs w L h1 h2 m) fun _ _ hx=>⟨hx.1,hx.2.mono hk⟩
def LIter (C:Ctx) (gf:FuncId) (caps:List LV) (Hc:Heap) (N:Nat) (xs:Nat→List LV):Prop:=
 ∀ (l:Nat) (J:Nat→Heap→Prop),(∀ k H,k<N→J k H→LYield C l (xs k) H (J (k+1)))→∀ H0,J 0 H0 →
  LCalls C gf (.atom (.func (.yield l) #[] #[])::caps) (H0++Hc) (fun r H'=>(∃ v,r=.ret v)∧∃ H1,H'=H1++Hc∧J N H1)
def Env.round (j:Env):List (Nat×LV)→Env
 |[]=>j
 |(d,v)::r=>Env.round (j.upd d v) r
theorem RelE.rounds {n:Nat} {w:World} {L:Live}:∀ (ps:List Nat) (lvs:List LV) (vs:List Value) (tmps:Array Value) (j:Env),RelE n { tmps,defers:=[] } j w L→RepL w L lvs vs→ps.length=lvs.length→ps.all (fun p=>Nat.blt p n)=true →
  RelE n { tmps:=(ps.zip vs).foldl (fun t p=>t.setIfInBounds p.1 p.2) tmps,defers:=[] } (Env.round j (ps.zip lvs)) w L
 |[],lvs,vs,tmps,j,h,_,_,_=>by simpa [Env.round] using h
 |p::ps,[],vs,tmps,j,h,_,hl,_=>by simp at hl
 |p::ps,lv::lvs,vs,tmps,j,h,hr,hl,hp=>by
  simp only[RepL] at hr
  obtain ⟨y,ys,rfl,hy,hr⟩:=hr
  simp only[List.all_cons,Bool.and_eq_true] at hp
  have:=RelE.put (dst:=some p) h (by simp only[dstOk,dstB];exact hp.1) hy
  simp only[List.zip_cons_cons,List.foldl_cons,Env.round]
  exact RelE.rounds ps lvs ys _ _ this hr (by simpa using hl) hp.2
def Act.flat (a:Act):Env:=⟨fun i=>.atom (a.tmps.getD i undef),[]⟩
theorem Act.flat_rel {n:Nat} {a:Act} {w:World} {L:Live} (hn:a.tmps.size=n):RelE n { tmps:=a.tmps,defers:=[] } (Act.flat a) w L:=⟨hn,rfl,fun _=>rep_atom⟩
section range
variable {C:Ctx} {n:Nat} {e:Env} {H:Heap} {Q:Post}
theorem LCode.rangeFunc {g:Operand} {ps:List Nat} {assign body:Code} {gf:FuncId} [TEnter C.P gf] {caps:Array Value} (hg:e.ev g=.atom (.func (.func gf) #[] caps)) (N:Nat) (xs:Nat→List LV) (H0 Hc:Heap) (hp:H.Perm (H0++Hc))
  (hiter:LIter C gf (caps.toList.map .atom) Hc N xs) (hps:∀ k,k<N→ps.length=(xs k).length) (hpn:ps.all (fun p=>Nat.blt p n)=true)
  (J:Nat→Heap→Prop) (h0:J 0 H0)
  (round:∀ k H,k<N→J k H→∀ j:Env,j.ds=[]→(∀ i v,e.s i=.atom v→j.s i=.atom v)→∀ (l D:Nat) (o oD:LObj),LCodeR C l n assign (QOn fun e1 H1=>e1.ds=[]∧∃ H1',H1=(l,o)::(D,oD)::H1'∧(∀ o':LObj,LCodeR C l n body (QOn fun _ H2=>∃ H2',HSub ((l,o')::(D,oD)::H2') H2∧J (k+1) H2') e1 ((l,o')::(D,oD)::H1'))) (Env.round j (ps.zip (xs k))) ((l,o)::(D,oD)::H))
  (done:∀ D H',J N H'→Q .normal ⟨e.s,{ target:=.collected D,args:=#[] }::e.ds⟩ ((D,.obj (.deferred (some [])))::(H'++Hc))) :
  LCode C n (.rangeFunc g ps.toArray assign body) Q e H:=fun a w L hE hH=>by
 refine wpIn_wide (n:=1) |>.1 (wpIn_rangeFunc fun fn _=>?_)
 have hgv:a.eval g=.func (.func gf) #[] caps:=by
  have:=hE.ev g
  rw[hg] at this
  simpa only[Rep] using this
 obtain ⟨rec,hrec⟩:∃ rec:LoopState→Option Code→Loop,rec=fun st pe=>{ state:=st,pending:=pe,fn,tmps:=a.tmps,params:=ps.toArray,assign,body,defers:=w.heap.size }:=⟨_,rfl⟩
 obtain ⟨L1,f1,r1⟩:=alloc_obj (o:=.deferred (some [])) (hH.perm hp) rfl
 obtain ⟨L2,f2,r2⟩:=alloc_obj (o:=.loop (rec .ready none)) r1 rfl
 have hsz:(w.alloc (.deferred (some []))).heap.size=w.heap.size+1:=World.size_alloc ..
 rw[hsz] at f2 r2
 have hrec0:rec .ready none={ state:=.ready,pending:=none,fn,tmps:=a.tmps,params:=ps.toArray,assign,body,defers:=w.heap.size }:=by rw[hrec]
 refine ⟨w.heap.size+1,[{ target:=.collected w.heap.size,args:=#[] }],(w.alloc (.deferred (some []))).alloc (.loop (rec .ready none)),{ target:=.fn (.func gf) caps,args:=#[.func (.yield (w.heap.size+1)) #[] #[]] },(w.alloc (.deferred (some []))).alloc (.loop (rec .ready none)),gf,
  #[.func (.yield (w.heap.size+1)) #[] #[]]++caps,(w.alloc (.deferred (some []))).alloc (.loop (rec .ready none)),?_,?_,fun _ _=>trivial,?_,fun _=>Nat.le_refl _,callsIn_wide.2 ?_⟩
 ·rw[hrec0];exact run_enterLoop_outer _ _ _ _ _
 ·simp only[resolve,hgv]
  simp[go_sem]
 ·simp only[invoke]
  exact run_callFunc _ _
 ·obtain ⟨l,hl⟩:∃ l,l=w.heap.size+1:=⟨_,rfl⟩
  obtain ⟨D,hD⟩:∃ D,D=w.heap.size:=⟨_,rfl⟩
  rw[←hl,←hD] at f2 r2 ⊢
  rw[←hD] at r1 f1
  have hc:=hiter l (fun k H=>∃ H1,H=(l,.obj (.loop (rec .ready none)))::(D,.obj (.deferred (some [])))::H1∧J k H1) ?_ ((l,.obj (.loop (rec .ready none)))::(D,.obj (.deferred (some [])))::H0) ⟨H0,rfl,h0⟩
  ·have h1:=hc (.func (.yield l) #[] #[]::caps.toList) _ L2 (by simp only[RepL,Rep];exact ⟨_,_,rfl,rfl,repL_atoms _⟩) r2
   have e1:(Value.func (.yield l) #[] #[]::caps.toList).toArray=#[.func (.yield l) #[] #[]]++caps:=by
    apply Array.ext'
    simp
   rw[e1] at h1
   refine Calls.mono h1 ?_
   rintro ex w' hx
   cases ex with
   |returned v=>
    obtain ⟨lv,H',L',g1,g2,g3,_,H1,rfl,H1',rfl,hJ⟩:=hx
    have g2':RelH C w' L' ((l,.obj (.loop (rec .ready none)))::((D,.obj (.deferred (some [])))::(H1'++Hc))):=g2
    obtain ⟨_,_,_,hlo,_⟩:=g2'.objs _ List.mem_cons_self
    have hlo':w'.heap[l]? = some (.loop (rec .ready none)):=hlo
    have hpe:(rec .ready none).pending=none:=by rw[hrec]
    have hend:=(run_endLoop (P:=C.P) hlo' (by rw[hrec];simp)).trans (congrArg (fun p=>Result.ok p _) hpe)
    have ht:=turn_obj (o':=.loop { rec .ready none with state:=.exhausted }) g2' rfl
    refine ⟨none,_,hend,?_⟩
    have hs:HSub ((D,LObj.obj (.deferred (some [])))::(H1'++Hc)) ((l,.obj (.loop { rec .ready none with state:=.exhausted }))::((D,.obj (.deferred (some [])))::(H1'++Hc))):=zhD zhr
    refine ⟨⟨e.s,{ target:=.collected D,args:=#[] }::e.ds⟩,(D,.obj (.deferred (some [])))::(H1'++Hc),L',?_,ht.2.weak hs,⟨?_,?_,?_⟩,done D H1' hJ⟩
    ·exact Fr.perm hp.symm ((f1.trans (f2.trans (g1.trans ht.1))).weak hs)
    ·exact hE.size
    ·show _::a.defers=_
     rw[hE.ds]
    ·exact fun i=>(hE.vals i).mono (f1.ext.trans (f2.ext.trans (g1.ext.trans ht.1.ext))) _ _
   |panicked ch=>
    obtain ⟨H',L',g1,g2,⟨v,hv⟩,_⟩:=hx
    cases hv
   |outgrown=>exact hx.elim
  ·rintro k H hk ⟨H1,rfl,hJ⟩ vs w1 Lw hvs hr m
   obtain ⟨_,_,_,hlo,_⟩:=hr.objs _ List.mem_cons_self
   have hlo':w1.heap[l]? = some (.loop (rec .ready none)):=hlo
   have hlen:=hvs.length
   have hpk:=hps k hk
   have hy:=run_yield (P:=C.P) (args:=vs.toArray) hlo' (by rw[hrec];simp;omega)
   rw[hrec] at hy
   refine ⟨fn,_,assign,body,hy,roundIn_of_wpIn trivial ?_⟩
   have htm:RelE n { tmps:=a.tmps,defers:=[] } (Act.flat a) w1 Lw:=Act.flat_rel hE.size
   have htm2:=RelE.rounds ps (xs k) vs a.tmps (Act.flat a) htm hvs hpk hpn
   have e2:(ps.toArray.zip vs.toArray).foldl (fun tmps (t,a)=>tmps.setIfInBounds t a) a.tmps=(ps.zip vs).foldl (fun t p=>t.setIfInBounds p.1 p.2) a.tmps:=by
    simp
   simp only[e2]
   refine wpIn_mono (round k H1 hk hJ (Act.flat a) rfl ?_ l D _ _ _ w1 Lw htm2 hr m) ?_
   ·intro i v hv
    have:=hE.vals i
    rw[hv] at this
    simp only[Rep] at this
    simp only[Act.flat,this]
   ·rintro ex a1 w2 ⟨e1,H2,L2',q1,q2,q3,q4⟩
    cases ex with
    |normal=>
     obtain ⟨hds,H2',rfl,hb⟩:=q4
     obtain ⟨_,_,_,hlo2,_⟩:=q2.objs _ List.mem_cons_self
     have hlo2':w2.heap[l]? = some (.loop (rec .ready none)):=hlo2
     have ht:=turn_obj (o':=.loop { rec .ready none with state:=.busy }) q2 rfl
     refine ⟨_,run_beginRound hlo2' (by rw[hrec]),?_⟩
     refine wpIn_mono (hb (.obj (.loop { rec .ready none with state:=.busy })) a1 _ L2' (q3.mono ht.1.ext) ht.2 m) ?_
     rintro ex a3 w3 ⟨e3,H3,L3,p1,p2,p3,p4⟩
     cases ex with
     |normal=>
      obtain ⟨H3',hs3,hJ3⟩:=p4
      have p2':=p2.weak hs3
      obtain ⟨_,_,_,hlo3,_⟩:=p2'.objs _ List.mem_cons_self
      have hlo3':w3.heap[l]? = some (.loop { rec .ready none with state:=.busy }):=hlo3
      have ht3:=turn_obj (o':=.loop (rec .ready none)) p2' rfl
      have hend:=run_endRound (P:=C.P) none hlo3'
      have e3:({ { rec .ready none with state:=.busy } with state:=if (none:Option Code).isNone then .ready else .done,pending:=none }:Loop)=rec .ready none:=by rw[hrec];rfl
      rw[e3] at hend
      refine ⟨.bool true,_,hend,rfl,?_⟩
      exact ⟨_,L3,q1.trans (ht.1.trans ((p1.weak hs3).trans ht3.1)),ht3.2,H3',rfl,hJ3⟩
     |exit id=>exact p4.elim
     |goto id=>exact p4.elim
     |ret=>exact p4.elim
     |panic ch=>exact p4.elim
     |outgrown=>exact p4.elim
    |exit id=>exact q4.elim
    |goto id=>exact q4.elim
    |ret=>exact q4.elim
    |panic ch=>exact q4.elim
    |outgrown=>exact q4.elim
end range
/-! ### The iterator's own call of yield -/
def LOpsW (C:Ctx) (n:Nat) (ops:Array Oper) (Q:Post) (rest:List Oper) (e:Env) (H:Heap):Prop:=
 ∀ a w L,RelE n a e w L→RelH C w L H→wpListIn Fence.wide 1 C.P ops (lift C n w L (keys H) Q) rest a w
section W
variable {C:Ctx} {n:Nat} {ops:Array Oper} {Q:Post} {e:Env} {H:Heap}
theorem LOpsW.nil (h:Q .normal e H):LOpsW C n ops Q [] e H:=fun _ _ L hE hH=>⟨e,H,L,Fr.refl _ _ _,hH,hE,h⟩
theorem wpListIn_mono {F:Fence} {m:Nat} {P:Program} {Q Q':Exit→Act→World→Prop} (h:∀ e a w,Q e a w→Q' e a w) (ho:LetsOut Q→LetsOut Q'):∀ (l:List Oper) (a:Act) (w:World),wpListIn F m P ops Q l a w→wpListIn F m P ops Q' l a w
 |[],_,_,k=>h _ _ _ k
 |o::l,a,w,k=>by
  unfold wpListIn at k ⊢
  split at k
  ·rename_i hw
   rw[if_pos hw]
   refine ⟨k.1,?_⟩
   have k2:=k.2
   generalize (o.semAt F.round a.eval).run P w=r at k2 ⊢
   cases r with
   |ok x w'=>
    cases x with
    |value v=>exact wpListIn_mono h ho l _ _ k2
    |skip=>exact wpListIn_mono h ho l _ _ k2
    |defer d=>exact wpListIn_mono h ho l _ _ k2
    |enter f args=>
     refine ⟨k2.1,k2.2.mono fun e w'' he=>?_⟩
     cases e with
     |returned v=>exact wpListIn_mono h ho l _ _ he
     |panicked ch=>exact h _ _ _ he
     |outgrown=>exact ho he
    |row row args=>
     refine ⟨k2.1,fun c cs hr=>?_⟩
     obtain ⟨v,w2,r2,s2⟩:=k2.2 c cs hr
     exact ⟨v,w2,wpListIn_mono h ho l _ _ r2,s2⟩
    |round l' f tmps avs bd=>
     refine ⟨k2.1,k2.2.mono fun e w'' he=>?_⟩
     cases e with
     |returned v=>exact wpListIn_mono h ho l _ _ he
     |panicked ch=>exact h _ _ _ he
     |outgrown=>exact ho he
    |_=>exact k2.elim
   |halt x w'=>cases x <;> first|exact h _ _ _ k2|exact k2.elim
  ·rename_i hw
   rw[if_neg hw]
   exact ⟨k.1,wpListIn_mono h ho l _ _ k.2⟩
theorem lift_out {w w1:World} {L L1:Live} {K:List Nat} {H1:Heap} (f:Fr K w L w1 L1 H1):LetsOut (lift C n w1 L1 (keys H1) Q)→LetsOut (lift C n w L K Q):=fun ⟨a,w',h⟩=>⟨a,w',lift_trans f h⟩
theorem LOpsW.pure {dst:Option Nat} {op:Op} {ty:TypeId} {pos:String} {aft:Array Edge} {rest:List Oper} {lv:LV}
  (h:Pure C ⟨dst,op,ty,pos,aft,none⟩ e H lv) (hd:dstOk n dst) (k:LOpsW C n ops Q rest (e.put dst lv) H):LOpsW C n ops Q (⟨dst,op,ty,pos,aft,none⟩::rest) e H:=fun a w L hE hH=>by
 obtain ⟨v,hv,hr⟩:=h a.eval w L hE.ev hH
 unfold wpListIn
 rw[if_pos (by simp[Region.wanted])]
 refine ⟨fun _ _=>trivial,?_⟩
 have hs:Oper.semAt (Fence.wide).round a.eval ⟨dst,op,ty,pos,aft,none⟩=execOp a.eval ⟨dst,op,ty,pos,aft,none⟩:=rfl
 rw[hs,hr w ⟨fun _ _=>rfl,fun _ _ _=>rfl⟩]
 exact k _ w L (hE.put hd hv) hH
theorem LOpsW.yield {dst:Option Nat} {fo:Operand} {l:Nat} {args:List Operand} {ats:Array TypeId} {avs:List LV} {ty:TypeId} {pos:String} {aft:Array Edge} {rest:List Oper} {K:Heap→Prop} (hf:e.ev fo=.atom (.func (.yield l) #[] #[]))
  (has:args.map e.ev=avs) (hy:LYield C l avs H K) (hd:dstOk n dst) (k:∀ H',K H'→LOpsW C n ops Q rest (e.put dst (bool true)) H'):LOpsW C n ops Q (⟨dst,.call { callee:=.value fo,args:=args.toArray,argTypes:=ats },ty,pos,aft,none⟩::rest) e H:=fun a w L hE hH=>by
 subst has
 have hv:=hE.ev fo
 rw[hf] at hv
 simp only[Rep] at hv
 obtain ⟨fn,tmps,assign,body,h1,h2⟩:=hy (args.map a.eval) w L (repL_ev hE.ev _) hH 0
 unfold wpListIn
 rw[if_pos (by simp[Region.wanted])]
 refine ⟨fun _ _=>trivial,?_⟩
 have h3:Oper.semAt (Fence.wide).round a.eval ⟨dst,.call { callee:=.value fo,args:=args.toArray,argTypes:=ats },ty,pos,aft,none⟩=(do let d ←Deferred.ofValue (a.eval fo) (args.toArray.map a.eval);invoke d.target d.args):=rfl
 have h4:(do let d ←Deferred.ofValue (.func (.yield l) #[] #[]) (args.toArray.map a.eval);invoke d.target d.args:Sem Next).run C.P w=.ok (.round l fn tmps assign body) w:=by
  simp only[Deferred.ofValue,Sem.run_bind,Sem.run_pure,Result.andThen_ok,invoke]
  rw[←h1]
  simp
 rw[h3,hv,h4]
 refine ⟨fun _=>Nat.le_refl _,h2.mono ?_⟩
 rintro ex w' ⟨rfl,H',L',g1,g2,g3⟩
 exact wpListIn_mono (fun _ _ _=>lift_trans g1) (lift_out g1) _ _ _ (k H' g3 _ w' L' ((hE.mono g1.ext).put hd rep_atom) g2)
theorem LCode.regionW {id:Nat} {l:List Oper} (h:LOpsW C n l.toArray Q l e H):LCode C n (.region id l.toArray false) Q e H:=fun a w L hE hH=>wpIn_wide (n:=1) |>.1 (wpIn_region_lit (h a w L hE hH))
end W
def RetPostM (C:Ctx) (n:Nat) (rs:List ResultVar) (R:LRes→Heap→Prop):Post
 |.normal,e,H|.ret,e,H=>∃ D F,e.ds=[{ target:=.collected D,args:=#[] }]∧H.Perm ((D,.obj (.deferred (some [])))::F)∧∃ vs H',AllRes C n e F rs vs∧HSub H' F∧R (.ret (resLV vs)) H'
 |.panic ch,e,H=>(e.ds=[]∧∃ H',HSub H' H∧R (.panic ch) H')∨∃ D F,e.ds=[{ target:=.collected D,args:=#[] }]∧H.Perm ((D,.obj (.deferred (some [])))::F)∧∃ H',HSub H' F∧R (.panic ch) H'
 |_,_,_=>False
end Go.GL
namespace Go.GL
open Go.RowKit
theorem anyIn_round {l n:Nat} {P:Program} {md:Region.Mode} {ops:Array Oper} {Q:Exit→Act→World→Prop} (hQ:¬ LetsOut Q) (ho:∀ (i:Nat) (o:Oper),ops[i]? = some o→noDefer o.op=true) :
  ∀ (fuel:Nat) (listed:Array Bool) (a:Act) (w:World),wpAny P md ops Q fuel listed a w→wpAnyIn (Fence.wide.inRound l) n P md ops Q fuel listed a w
 |0,_,_,_,h=>h
 |fuel+1,listed,a,w,h=>by
  refine ⟨h.1,fun i hi=>?_⟩
  have h2:=h.2 i hi
  unfold wpOp at h2
  unfold wpOpIn
  cases hi2:ops[i]? with
  |none=>
   rw[hi2] at h2
   exact anyIn_round hQ ho fuel _ a w h2
  |some o=>
   rw[hi2] at h2
   simp only at h2 ⊢
   split at h2
   ·rename_i hw
    rw[if_pos hw]
    rcases h2 with h2|⟨_,h2⟩
    ·exact operIn_round (ho i o hi2) (fun a w h=>anyIn_round hQ ho fuel _ a w h) h2
    ·exact absurd h2 hQ
   ·rename_i hw
    rw[if_neg hw]
    exact ⟨fun _ _=>trivial,anyIn_round hQ ho fuel _ _ w h2⟩
section
variable {C:Ctx} {l n:Nat} {e:Env} {H:Heap} {k:Env→Heap→Prop}
theorem LCodeR.draw [hm:TMixed C.P] {id:Nat} {ops:List Oper} {m:Nat} (hl:m=ops.length) (HF:Heap) (ho:ops.all (fun o=>noDefer o.op)=true) (h:LAny C n ops.toArray (QThen k (QOn k)) HF m (Array.replicate m false) e H):LCodeR C l n (.region id ops.toArray true) (QOn k) e H:=fun a w L hE hH m'=>by
 subst hl
 have h1:=h a w.drew L (hE.mono (ext_drew w L)) hH.drew
 have hQ:¬ LetsOut (lift C n w L (keys H) (QOn k)):=by
  rintro ⟨a',w',e',H',L',_,_,_,hq⟩
  exact hq
 refine wpIn_region_any hm.out (anyIn_round hQ (fun i o hi=>?_) _ _ _ _ ?_)
 ·have:o∈ops:=by
   rw[List.getElem?_toArray] at hi
   exact List.mem_of_getElem? hi
  exact (List.all_eq_true.1 ho) o this
 ·refine wpAny_of_held (S:=Agree w.drew L HF) _ _ _ _ (wpAnyH_mono (fun x a' w' hq=>?_) _ _ _ _ (by simpa using h1))
  obtain ⟨e',H',L',h1,h2,h3,h4⟩:=hq
  refine ⟨e',H',L',h1.of_drew,h2,h3,?_⟩
  cases x <;> exact h4
theorem LCodeR.cond {c:Operand} {x y:Code} {t:Bool} (hc:e.ev c=bool t) (ht:t=true→LCodeR C l n x (QOn k) e H) (hf:t=false→LCodeR C l n y (QOn k) e H):LCodeR C l n (.cond c x y) (QOn k) e H:=fun a w L hE hH m=>by
 have hv:=hE.ev c
 rw[hc] at hv
 simp only[Rep] at hv
 refine wpIn_cond hv ?_
 cases t with
 |true=>exact ht rfl a w L hE hH m
 |false=>exact hf rfl a w L hE hH m
end
theorem RetPostM.mkRet1 {C:Ctx} {n:Nat} {e:Env} {H H':Heap} {R:LRes→Heap→Prop} {rs:List ResultVar} {vs:List LV} {D:Nat} (hd:e.ds=[{ target:=.collected D,args:=#[] }]) (F:Heap) (hp:H.Perm ((D,.obj (.deferred (some [])))::F)) (h:AllRes C n e F rs vs) (hH:HSub H' F) (hR:R (.ret (resLV vs)) H') :
  RetPostM C n rs R .ret e H:=by
 unfold RetPostM
 exact ⟨D,F,hd,hp,vs,H',h,hH,hR⟩
def RetPostN (C:Ctx) (n:Nat) (rs:List ResultVar) (R:LRes→Heap→Prop):Post:=fun x e H=>RetPostM C n rs R x e H∨(match x with
 |.normal|.ret=>e.ds=[]∧∃ vs H',AllRes C n e H rs vs∧HSub H' H∧R (.ret (resLV vs)) H'
 |_=>False)
theorem RetPostN.ret0 {C:Ctx} {n:Nat} {e:Env} {H H':Heap} {R:LRes→Heap→Prop} {rs:List ResultVar} {vs:List LV} (hd:e.ds=[]) (h:AllRes C n e H rs vs) (hH:HSub H' H) (hR:R (.ret (resLV vs)) H'):RetPostN C n rs R .ret e H:=.inr ⟨hd,vs,H',h,hH,hR⟩
theorem RetPostN.ret1 {C:Ctx} {n:Nat} {e:Env} {H H':Heap} {R:LRes→Heap→Prop} {rs:List ResultVar} {vs:List LV} {D:Nat} (hd:e.ds=[{ target:=.collected D,args:=#[] }]) (F:Heap) (hp:H.Perm ((D,.obj (.deferred (some [])))::F)) (h:AllRes C n e F rs vs) (hH:HSub H' F) (hR:R (.ret (resLV vs)) H') :
  RetPostN C n rs R .ret e H:=.inl (RetPostM.mkRet1 hd F hp h hH hR)
theorem LCalls.introN {C:Ctx} {f:FuncId} {fn:Func} {c:Code} {n:Nat} {args:List LV} {H:Heap} {R:LRes→Heap→Prop} (hf:C.P.funcs[f]? = some fn) (hb:fn.body=some c) (hn:fn.ntmps=n) (h3:Nat.ble fn.results.size 3=true)
  (hl:Nat.ble args.length n=true) (h:LCode C n c (RetPostN C n fn.results.toList R) (argsEnv args) H):LCalls C f args H R:=fun vs w L hv hH=>by
 subst hn
 have hl':args.length≤fn.ntmps:=by simpa using hl
 have h3':fn.results.size≤3:=by simpa using h3
 have hlen:=hv.length
 refine callsIn_wide.1 (callsIn_of_wp_marks (F:=Fence.wide) (n:=1) hf hb trivial (wpIn_wide.2 (Go.wp_mono (h _ w L ⟨?_,rfl,fun i=>?_⟩ hH) fun ex a' w' hq=>?_)))
 ·simp;omega
 ·simp only[argsEnv]
  rw[Array.getD_eq_getD_getElem?]
  rcases Nat.lt_or_ge i args.length with hi|hi
  ·rw[List.getElem?_eq_getElem hi]
   obtain ⟨x,hx,hr⟩:=hv.get (List.getElem?_eq_getElem hi)
   have hxi:(vs.toArray++Array.replicate (fn.ntmps-vs.toArray.size) undef)[i]? = some x:=by
    rw[Array.getElem?_append_left (by simp;omega)]
    simpa using hx
   rw[hxi]
   exact hr
  ·rw[List.getElem?_eq_none hi]
   have hxi:((vs.toArray++Array.replicate (fn.ntmps-vs.toArray.size) undef)[i]?).getD undef=undef:=by
    rw[Array.getElem?_append_right (by simp;omega)]
    rw[Array.getElem?_replicate]
    split <;> rfl
   rw[hxi]
   simp only[Option.getD_none,Rep]
 ·obtain ⟨e',H',L',g1,g2,g3,g4⟩:=hq
  have turn:∀ {D F},H'.Perm ((D,LObj.obj (.deferred (some [])))::F)→(Instr.takeDeferred D).run C.P w'=.ok [] (w'.putObj D (.deferred none))∧Fr (keys H) w L (w'.putObj D (.deferred none)) L' F∧RelH C (w'.putObj D (.deferred none)) L' F∧Ext w' L' (w'.putObj D (.deferred none)) L':=fun {D F} hp=>by
   have g2':=g2.perm hp
   obtain ⟨_,_,_,hlo,_⟩:=g2'.objs _ List.mem_cons_self
   have hlo':w'.heap[D]? = some (.deferred (some [])):=hlo
   have ht:=turn_obj (o':=.deferred none) g2' rfl
   have hs:HSub F ((D,LObj.obj (.deferred none))::F):=zhD zhr
   have hkp:Fr (keys H) w L w' L' ((D,LObj.obj (.deferred (some [])))::F):=g1.weak ⟨[],by simpa using hp⟩
   exact ⟨run_takeDeferred hlo',(hkp.trans ht.1).weak hs,ht.2.weak hs,ht.1.ext⟩
  have ret:RelE fn.ntmps a' e' w' L'→(∃ D F,e'.ds=[{ target:=.collected D,args:=#[] }]∧H'.Perm ((D,.obj (.deferred (some [])))::F)∧∃ vs H'',AllRes C fn.ntmps e' F fn.results.toList vs∧HSub H'' F∧R (.ret (resLV vs)) H'') →
    LeavesInM Fence.wide 1 C.P fn a'.tmps (CallPost C w L H (fun v=>R (.ret v)) (fun ch=>R (.panic ch))) a'.defers .returning w':=fun hE hr=>by
   obtain ⟨D,F,h1,hp,vs',H'',h2,h4,h5⟩:=hr
   rw[hE.ds,h1]
   obtain ⟨t1,t2,t3,t4⟩:=turn hp
   refine ⟨by simp,.inl ⟨D,_,rfl,t1,?_⟩⟩
   obtain ⟨v,r1,r2⟩:=results_of (hE.mono t4) t3 h2 h3'
   exact ⟨v,r1,resLV vs',H'',L',t2.weak h4,t3.weak h4,r2,h5⟩
  have ret0:RelE fn.ntmps a' e' w' L'→(e'.ds=[]∧∃ vs H'',AllRes C fn.ntmps e' H' fn.results.toList vs∧HSub H'' H'∧R (.ret (resLV vs)) H'') →
    LeavesInM Fence.wide 1 C.P fn a'.tmps (CallPost C w L H (fun v=>R (.ret v)) (fun ch=>R (.panic ch))) a'.defers .returning w':=fun hE hr=>by
   obtain ⟨h1,vs',H'',h2,h4,h5⟩:=hr
   rw[hE.ds,h1]
   obtain ⟨v,r1,r2⟩:=results_of hE g2 h2 h3'
   exact ⟨v,r1,resLV vs',H'',L',g1.weak h4,g2.weak h4,r2,h5⟩
  cases ex with
  |normal=>
   rcases g4 with g4|g4
   ·exact ret g3 g4
   ·exact ret0 g3 g4
  |ret=>
   rcases g4 with g4|g4
   ·exact ret g3 g4
   ·exact ret0 g3 g4
  |panic ch=>
   have g4:=g4.resolve_right id
   rcases g4 with ⟨h1,H'',h4,h5⟩|⟨D,F,h1,hp,H'',h4,h5⟩
   ·show LeavesInM _ _ _ _ _ _ a'.defers _ _
    rw[show a'.defers=[] from (show a'.defers=e'.ds from g3).trans h1]
    exact ⟨H'',L',g1.weak h4,g2.weak h4,h5⟩
   ·show LeavesInM _ _ _ _ _ _ a'.defers _ _
    rw[show a'.defers=[{ target:=.collected D,args:=#[] }] from (show a'.defers=e'.ds from g3).trans h1]
    obtain ⟨t1,t2,t3,t4⟩:=turn hp
    exact ⟨by simp,.inl ⟨D,_,rfl,t1,⟨H'',L',t2.weak h4,t3.weak h4,h5⟩⟩⟩
  |exit id=>exact g4.elim (fun h=>h.elim) (fun h=>h.elim)
  |goto id=>exact g4.elim (fun h=>h.elim) (fun h=>h.elim)
  |outgrown=>exact g4.elim (fun h=>h.elim) (fun h=>h.elim)
section
variable {C:Ctx} {e:Env} {H:Heap} {x y:Operand} {dst:Option Nat} {ty xT yT:TypeId} {pos:String} {aft:Array Edge} {g:Option (Nat×Bool)}
theorem Pure.subE {a b c:Int} (hx:e.ev x=int .i64 a) (hy:e.ev y=int .i64 b) (he:a-b=c) (h : -9223372036854775808≤c∧c≤9223372036854775807):Pure C ⟨dst,.binOp .sub xT x y yT,ty,pos,aft,g⟩ e H (int .i64 c):=by
 subst he
 exact Pure.sub hx hy h
theorem Pure.addE {a b c:Int} (hx:e.ev x=int .i64 a) (hy:e.ev y=int .i64 b) (he:a+b=c) (h : -9223372036854775808≤c∧c≤9223372036854775807):Pure C ⟨dst,.binOp .add xT x y yT,ty,pos,aft,g⟩ e H (int .i64 c):=by
 subst he
 exact Pure.add hx hy h
theorem Pure.geqT {a b:Int} {k:IntKind} (hx:e.ev x=int k a) (hy:e.ev y=int k b) (h:b≤a):Pure C ⟨dst,.binOp .geq xT x y yT,ty,pos,aft,g⟩ e H (bool true):=by
 have:=Pure.geq (C:=C) (dst:=dst) (ty:=ty) (pos:=pos) (aft:=aft) (g:=g) (H:=H) (xT:=xT) (yT:=yT) hx hy
 rwa [decide_eq_true h] at this
end
end Go.GL
namespace Go.GL
open Go.RowKit
section
variable {C:Ctx} {e:Env} {H:Heap} {dst:Option Nat} {ty:TypeId} {pos:String} {aft:Array Edge} {g:Option (Nat×Bool)} {K:LV→Heap→Prop} {X:List PanicEntry→Heap→Prop} {x y z:Operand} {k:IntKind}
theorem max_cast (a b:Nat):(if (a:Int)<(b:Int) then (b:Int) else (a:Int))=((max a b:Nat):Int):=by
 split <;> omega
theorem Pure.max2 {a b:Nat} (hx:e.ev x=int k (a:Int)) (hy:e.ev y=int k (b:Int)) {t u:TypeId}:Pure C ⟨dst,.call { callee:=.builtin .max,args:=#[x,y],argTypes:=#[t,u] },ty,pos,aft,g⟩ e H (int k ((max a b:Nat):Int)):=
 .of_any fun ρ _ _ h=>⟨_,rep_atom,fun w'=>by
  have h0:∀ (cs:Array Bool) (args:Array Value),builtin .max #[t,u] ty cs args=(do Pure.pure (.value (←Builtin.max_ #[t,u] ty args))):=fun _ _=>rfl
  rw[execOp_builtin',h0]
  have:=max_cast a b
  simp[Builtin.max_,Builtin.max2,atom_of h hx,atom_of h hy]
  split <;> omega⟩
theorem Pure.max2e {A B:Int} (a b:Nat) (hx:e.ev x=int k A) (hy:e.ev y=int k B) (ha:A=(a:Int)) (hb:B=(b:Int)) {t u:TypeId}:Pure C ⟨dst,.call { callee:=.builtin .max,args:=#[x,y],argTypes:=#[t,u] },ty,pos,aft,g⟩ e H (int k ((max a b:Nat):Int)):=by
 subst ha hb
 exact Pure.max2 hx hy
end
end Go.GL
namespace Go.GL
open Go.RowKit
section
variable {C:Ctx} {n:Nat} {ops:Array Oper} {Q:Post} {HF:Heap} {fuel:Nat} {listed:Array Bool} {e:Env} {H F:Heap} {i:Nat} {dst:Option Nat} {op:Op} {ty:TypeId} {pos:String} {aft:Array Edge}
theorem LLate.weakH {H':Heap} (s:HSub H' H) (h:LLate C n ops Q HF fuel listed e H'):LLate C n ops Q HF fuel listed e H:=fun w0 L0 a w L hL hA hsz hE hH=>
 wpAnyH_mono (fun _ _ _=>lift_weak s.keys) _ _ _ _ (h w0 L0 a w L hL hA hsz hE (hH.weak s))
end
end Go.GL
namespace Go.Stele
open Go.Lib
theorem partW_fuel {w:Nat} (hw:1≤w):∀ (f g:Nat) (s:Wd),s.length≤f→s.length≤g→partW w f s=partW w g s:=by
 intro f
 induction f with
 |zero=>
  intro g s h1 h2
  have:s=[]:=List.length_eq_zero_iff.1 (by omega)
  subst this
  cases g with
  |zero=>rfl
  |succ g=>rw[partW,partW,if_pos (by simp)]
 |succ f ih=>
  intro g s h1 h2
  rw[partW]
  by_cases h:s.length≤w
  ·rw[if_pos h,partW_one h]
  ·rw[if_neg h]
   cases g with
   |zero=>omega
   |succ g=>rw[partW,if_neg h,ih g (s.drop w) (by rw[List.length_drop];omega) (by rw[List.length_drop];omega)]
def partQ (w:Nat) (s:Wd):List Wd:=partW w s.length s
theorem partQ_long {w:Nat} (hw:1≤w) {s:Wd} (h:w<s.length):partQ w s=s.take w::partQ w (s.drop w):=by
 unfold partQ
 obtain ⟨f,hf⟩:∃ f,s.length=f+1:=⟨s.length-1,by omega⟩
 rw[hf,partW,if_neg (by omega),partW_fuel hw f (s.drop w).length (s.drop w) (by rw[List.length_drop];omega) (Nat.le_refl _)]
theorem partQ_short {w:Nat} {s:Wd} (h:s.length≤w):partQ w s=[s]:=partW_one h _
theorem partsP_cons (w:Nat) (s:Wd) (l:List Wd):partsP w (s::l)=partQ w s++partsP w l:=List.flatMap_cons
theorem put_snoc (w:Nat) (p a:Wd):∀ l:List Wd,putW w p (l++[a])=if a.length+1+p.length≤w then l++[a++32::p] else l++[a,p]
 |[]=>rfl
 |[b]=>by
  show b::putW w p [a]=_
  rw[putW]
  split <;> rfl
 |b::c::l=>by
  have ih:=put_snoc w p a (c::l)
  show b::putW w p (c::(l++[a]))=_
  rw[List.cons_append] at ih
  rw[ih]
  split <;> rfl
theorem wrapE_eq (l:List Wd) (w:Int):wrapE l w=if w<1∨200<w then 2 else if l.all okWord=true then 0 else 1:=rfl
end Go.Stele
namespace Go.Proofs.YtocofhbdbgnmbaaGreatDoor
open Go.GL Go.RowKit Go.Stele
set_option maxRecDepth 100000
set_option maxHeartbeats 4000000
attribute [local irreducible] LOps LCode LStep LCalls Go.GL.Pure QThen QBlock RetPost LQ LAny LLate LLateOp LCodeR LOpsW RetPostM LIter LYield
section
variable {B0:Nat} {w0:World}
theorem invalid_spec (s:List UInt8) (hs:s.length≤100000000):LCalls (KC B0 w0) 99 [str s] [] (Ret (bool (!okWord s))):=by
 have hW:okWord s=(decide (s≠[]) && s.all fun c=>decide (33≤c.toNat) && decide (c.toNat≤126)):=rfl
 refine cI Tryz.func99 rfl (n:=22) rfl rfl rfl ?_
 refine gaa ?_
 refine oC rfl (fun h=>?_) (fun h=>?_)
 ·have h0:s=[]:=zt h
  refine gaf ?_
  exact retRet rfl (zra rfl) (by rw[h0];rfl)
 ·have h0:s≠[]:=zf h
  rw[decide_eq_true h0,Bool.true_and] at hW
  refine gaa ?_
  refine oL (fun k ls H=>∃ i:Nat,i≤s.length∧k=s.length-i∧(s.take i).all (fun c=>decide (33≤c.toNat) && decide (c.toNat≤126))=true∧ls=[(0,str s),(7,int .i64 s.length),(8,int .i64 i)]∧H=[])
   ⟨_,_,_,⟨0,Nat.zero_le _,rfl,by simp,rfl,rfl⟩,⟨rfl,rfl,rfl,trivial⟩,HSub.refl _⟩ ?_
  rintro k ls H ⟨i,hi,rfl,hall,rfl,rfl⟩ j1 hj1
  refine gaj ?_
  refine oC rfl (fun hc=>?_) (fun hc=>?_)
  ·have hlt:i<s.length:=by have:=zt hc;omega
   have bad:(decide (33≤s[i].toNat) && decide (s[i].toNat≤126))=false→okWord s=false:=fun h=>by
    rw[hW]
    refine Bool.eq_false_iff.2 fun h1=>?_
    have:=List.all_eq_true.1 h1 s[i] (List.getElem_mem hlt)
    rw[h] at this
    cases this
   refine gac ?_
   refine oP (Pure.sindex (c:=s[i]) rfl rfl zo (get_some hlt)) rfl ?_
   refine gad ?_
   refine oB 15 rfl (fun h1=>?_) (fun h1=>?_)
   ·have hb:=bad (by
     have:=zt h1
     rw[Bool.and_eq_false_iff]
     exact .inl (decide_eq_false zo))
    refine gah ?_
    refine oC rfl (fun _=>?_) (fun h=>by cases h)
    refine gak ?_
    exact retRet hj1 (zra rfl) (by rw[hb];rfl)
   ·have g1:=zf h1
    refine gag ?_
    refine oP (Pure.sindex (c:=s[i]) rfl rfl zo (get_some hlt)) rfl ?_
    refine gab ?_
    refine oC rfl (fun h=>?_) (fun h=>?_)
    ·have hb:=bad (by
      have:=zt h
      rw[Bool.and_eq_false_iff]
      exact .inr (decide_eq_false zo))
     refine gak ?_
     exact retRet hj1 (zra rfl) (by rw[hb];rfl)
    ·have g2:=zf h
     refine gac ?_
     exact ⟨_,_,_,by omega,⟨i+1,by omega,rfl,by
      rw[List.take_succ_eq_append_getElem hlt,List.all_append,hall,Bool.true_and,List.all_cons,List.all_nil,Bool.and_true,Bool.and_eq_true]
      exact ⟨decide_eq_true zo,decide_eq_true zo⟩,rfl,rfl⟩,⟨rfl,rfl,int_eq zo,trivial⟩,HSub.refl _,hj1⟩
  ·have hi':i=s.length:=by have:=zf hc;omega
   subst hi'
   rw[List.take_length] at hall
   rw[hall] at hW
   refine gac ?_
   exact retRet hj1 (zra rfl) (by rw[hW];rfl)
theorem pcheck_spec (l:List Wd) (w:Int) (hl:l.length≤100000000) (hs:∀ s∈l,s.length≤100000000):LCalls (KC B0 w0) 71 [.list (l.map str),int .i64 w] [] (Ret (int .i64 (wrapE l w))):=by
 have hE:=wrapE_eq l w
 have hla:(l.map str).length=l.length:=List.length_map _
 refine cI Tryz.func71 rfl (n:=22) rfl rfl rfl ?_
 refine gac ?_
 refine oB 9 rfl (fun h1=>?_) (fun h1=>?_)
 ·rw[if_pos (.inl (zt h1))] at hE
  refine gah ?_
  refine oC rfl (fun _=>?_) (fun h=>by cases h)
  refine gaf ?_
  exact retRet rfl (zra rfl) (by rw[hE];rfl)
 ·have g1:=zf h1
  refine gab ?_
  refine oC rfl (fun h=>?_) (fun h=>?_)
  ·rw[if_pos (.inr (zt h))] at hE
   refine gaf ?_
   exact retRet rfl (zra rfl) (by rw[hE];rfl)
  ·have g2:=zf h
   rw[if_neg (fun h=>h.elim g1 g2)] at hE
   refine gaa ?_
   refine oL (fun k ls H=>∃ i:Nat,i≤l.length∧k=l.length-i∧(l.take i).all okWord=true∧ls=[(13,.list (l.map str)),(14,int .i64 l.length),(15,int .i64 i)]∧H=[])
    ⟨_,_,_,⟨0,Nat.zero_le _,rfl,by simp,rfl,rfl⟩,⟨rfl,int_eq zo,rfl,trivial⟩,HSub.refl _⟩ ?_
   rintro k ls H ⟨i,hi,rfl,hall,rfl,rfl⟩ j1 hj1
   refine gaj ?_
   refine oC rfl (fun hc=>?_) (fun hc=>?_)
   ·have hlt:i<l.length:=by have:=zt hc;omega
    refine gae ?_
    refine oP (xR (el':=str l[i]) (cs:=[str l[i]]) rfl rfl zo (map_get _ _ _ hlt) rfl rfl) rfl ?_
    refine gaa ?_
    refine oS (S.fn [_] rfl (invalid_spec l[i] (hs _ (List.getElem_mem hlt))) ?_) rfl
    refine gah ?_
    refine oC rfl (fun h=>?_) (fun h=>?_)
    ·have hb:l.all okWord=false:=Bool.eq_false_iff.2 fun h1=>by
      have:=List.all_eq_true.1 h1 l[i] (List.getElem_mem hlt)
      rw[this] at h
      cases h
     rw[if_neg (by rw[hb];decide)] at hE
     refine gak ?_
     exact retRet hj1 (zra rfl) (by rw[hE];rfl)
    ·have hb:okWord l[i]=true:=not_f h
     refine gac ?_
     exact ⟨_,_,_,by omega,⟨i+1,by omega,rfl,by
      rw[List.take_succ_eq_append_getElem hlt,List.all_append,hall]
      simp[hb],rfl,rfl⟩,⟨rfl,rfl,int_eq zo,trivial⟩,HSub.refl _,hj1⟩
   ·have hi':i=l.length:=by have:=zf hc;omega
    subst hi'
    rw[List.take_length] at hall
    rw[if_pos hall] at hE
    refine gac ?_
    exact retRet hj1 (zra rfl) (by rw[hE];rfl)
theorem pieces_spec (l:List Wd) (w:Int):LCalls (KC B0 w0) 72 [.list (l.map str),int .i64 w] [] (fun r H=>∃ b c:Nat,r=.ret (.atom (.func (.func 100) #[] #[.pointer (some ⟨b,0,none⟩),.pointer (some ⟨c,0,none⟩)]))∧H=[(b,.cells 40 [.list (l.map str)]),(c,.cells 3 [int .i64 w])]):=by
 refine cI Tryz.func72 rfl (n:=6) rfl rfl rfl ?_
 refine gai ?_
 refine oS (S.box (cs:=[.list (l.map str)]) rfl fun b=>?_) rfl
 refine oS (S.box (cs:=[int .i64 w]) rfl fun c=>?_) rfl
 refine gaa ?_
 exact rR rfl (zra rfl) (zhP zp1 zhr) ⟨b,c,rfl,rfl⟩
def pieceArgs (w:Nat) (l:List Wd) (k:Nat):List LV:=[str (((partsP w l)[k]?).getD [])]
theorem piece_at {w:Nat} {l rest:List Wd} {p:Wd} {k:Nat} (h:(partsP w l).drop k=p::rest):pieceArgs w l k=[str p]∧k<(partsP w l).length∧(partsP w l).drop (k+1)=rest:=by
 have h1:(partsP w l)[k]? = some p:=by
  have:=congrArg (fun q=>q[0]?) h
  simpa using this
 refine ⟨by unfold pieceArgs;rw[h1];rfl,(List.getElem?_eq_some_iff.1 h1).1,?_⟩
 rw[←List.drop_drop,h]
 rfl
theorem piter_spec (b c w:Nat) (l:List Wd) (hw:1≤w∧w≤200) (hl:l.length≤100000000) (hs:∀ s∈l,s.length≤100000000):LIter (KC B0 w0) 100 [ptr b 0,ptr c 0] [(b,.cells 40 [.list (l.map str)]),(c,.cells 3 [int .i64 w])] (partsP w l).length (pieceArgs w l):=by
 unfold LIter
 intro y J hY H0 h0
 have hla:(l.map str).length=l.length:=List.length_map _
 refine cI Tryz.func100 rfl (n:=30) rfl rfl rfl ?_
 refine LCode.perm (H':=(b,.cells 40 [.list (l.map str)])::(c,.cells 3 [int .i64 w])::H0) (List.perm_append_comm (l₁:=H0) (l₂:=[_,_])) ?_
 refine gaa ?_
 refine oL (fun k ls H=>∃ (i q:Nat) (Hq:Heap),i≤l.length∧k=l.length-i∧q≤(partsP w l).length∧(partsP w l).drop q=partsP w (l.drop i)∧J q Hq∧ls=[(0,.atom (.func (.yield y) #[] #[])),(1,ptr b 0),(2,ptr c 0),(6,.list (l.map str)),(7,int .i64 l.length),(8,int .i64 i)]∧H=(b,.cells 40 [.list (l.map str)])::(c,.cells 3 [int .i64 w])::Hq)
  ⟨_,_,_,⟨0,0,H0,Nat.zero_le _,rfl,Nat.zero_le _,rfl,h0,rfl,rfl⟩,⟨rfl,rfl,rfl,rfl,int_eq zo,rfl,trivial⟩,HSub.refl _⟩ ?_
 rintro k ls H ⟨i,q,Hq,hi,rfl,hql,hdr,hJ,rfl,rfl⟩ j1 hj1
 refine gaj ?_
 refine oC rfl (fun hc=>?_) (fun hc=>?_)
 ·have hlt:i<l.length:=by have:=zt hc;omega
  have hsl:=hs _ (List.getElem_mem hlt)
  rw[List.drop_eq_getElem_cons hlt,partsP_cons] at hdr
  refine gae ?_
  refine oP (xR (el':=str l[i]) (cs:=[str l[i]]) rfl rfl zo (map_get _ _ _ hlt) rfl rfl) rfl ?_
  refine gab ?_
  refine oL (fun k ls H=>∃ (s:Wd) (q:Nat) (Hq:Heap),s.length≤100000000∧k=s.length∧q≤(partsP w l).length∧(partsP w l).drop q=partQ w s++partsP w (l.drop (i+1))∧J q Hq∧ls=[(0,.atom (.func (.yield y) #[] #[])),(1,ptr b 0),(2,ptr c 0),(5,str s),(6,.list (l.map str)),(7,int .i64 l.length),(8,int .i64 i)]∧H=(b,.cells 40 [.list (l.map str)])::(c,.cells 3 [int .i64 w])::Hq)
   ⟨_,_,_,⟨l[i],q,Hq,hsl,rfl,hql,hdr,hJ,rfl,rfl⟩,⟨rfl,rfl,rfl,rfl,rfl,rfl,rfl,trivial⟩,HSub.refl _⟩ ?_
  clear hJ hdr hql
  rintro k ls H ⟨s,q,Hq,hsl,rfl,hql,hdr,hJ,rfl,rfl⟩ j2 hj2
  refine gaa ?_
  refine oC rfl (fun hc=>?_) (fun hc=>?_)
  ·have hgt:w<s.length:=by have:=zt hc;omega
   rw[partQ_long hw.1 hgt,List.cons_append] at hdr
   obtain ⟨p1,p2,p3⟩:=piece_at hdr
   have hy1:=hY q Hq p2 hJ
   rw[p1] at hy1
   refine gad ?_
   refine LCode.regionW ?_
   refine gab ?_
   refine LOpsW.pure (Pure.ssliceE (m:=s.take w) (i:=0) (j:=w) rfl rfl ⟨_,rfl⟩ zo zo zo (by rw[Int.toNat_natCast];rfl)) rfl ?_
   refine LOpsW.yield (K:=fun H'=>∃ H1,H'=H1++[(b,.cells 40 [.list (l.map str)]),(c,.cells 3 [int .i64 w])]∧J (q+1) H1) (H:=(b,.cells 40 [.list (l.map str)])::(c,.cells 3 [int .i64 w])::Hq) (args:=[_]) (avs:=[str (s.take w)]) rfl rfl (LYield.frame (H:=Hq) (F:=[(b,.cells 40 [.list (l.map str)]),(c,.cells 3 [int .i64 w])]) (List.perm_append_comm (l₁:=[_,_]) (l₂:=Hq)) (LYield.mono hy1 fun H1 h1=>⟨H1,rfl,h1⟩)) rfl ?_
   rintro H' ⟨H1,rfl,hJ1⟩
   refine gab ?_
   refine LOpsW.nil ?_
   refine QThen.normal ?_
   refine LCode.weak (H':=(b,.cells 40 [.list (l.map str)])::(c,.cells 3 [int .i64 w])::H1) ⟨[],by rw[List.append_nil];exact List.perm_append_comm (l₁:=H1) (l₂:=[_,_])⟩ ?_
   refine oC rfl (fun hcc=>by cases hcc) (fun hcc=>?_)
   refine gaa ?_
   refine oP (Pure.ssliceE (m:=s.drop w) (i:=w) rfl ⟨_,rfl⟩ rfl zo zo zo (by rw[Int.toNat_natCast,Int.toNat_natCast,List.take_length])) rfl ?_
   refine gad ?_
   exact ⟨_,_,_,by rw[List.length_drop];omega,⟨s.drop w,q+1,H1,by rw[List.length_drop];omega,rfl,by omega,p3,hJ1,rfl,rfl⟩,⟨rfl,rfl,rfl,rfl,rfl,rfl,rfl,trivial⟩,HSub.refl _,hj2⟩
  ·have hgt:s.length≤w:=by have:=zf hc;omega
   rw[partQ_short hgt,List.cons_append,List.nil_append] at hdr
   obtain ⟨p1,p2,p3⟩:=piece_at hdr
   have hy1:=hY q Hq p2 hJ
   rw[p1] at hy1
   refine gad ?_
   refine LCode.regionW ?_
   refine gab ?_
   refine LOpsW.yield (K:=fun H'=>∃ H1,H'=H1++[(b,.cells 40 [.list (l.map str)]),(c,.cells 3 [int .i64 w])]∧J (q+1) H1) (H:=(b,.cells 40 [.list (l.map str)])::(c,.cells 3 [int .i64 w])::Hq) (args:=[_]) (avs:=[str s]) rfl rfl (LYield.frame (H:=Hq) (F:=[(b,.cells 40 [.list (l.map str)]),(c,.cells 3 [int .i64 w])]) (List.perm_append_comm (l₁:=[_,_]) (l₂:=Hq)) (LYield.mono hy1 fun H1 h1=>⟨H1,rfl,h1⟩)) rfl ?_
   rintro H' ⟨H1,rfl,hJ1⟩
   refine gab ?_
   refine LOpsW.nil ?_
   refine QThen.normal ?_
   refine LCode.weak (H':=(b,.cells 40 [.list (l.map str)])::(c,.cells 3 [int .i64 w])::H1) ⟨[],by rw[List.append_nil];exact List.perm_append_comm (l₁:=H1) (l₂:=[_,_])⟩ ?_
   refine oC rfl (fun hcc=>by cases hcc) (fun hcc=>?_)
   refine gac ?_
   exact ⟨_,_,_,by omega,⟨i+1,q+1,H1,by omega,rfl,by omega,p3,hJ1,rfl,rfl⟩,⟨rfl,rfl,rfl,rfl,rfl,int_eq zo,trivial⟩,HSub.refl _,hj2.trans hj1⟩
 ·have hi':i=l.length:=by have:=zf hc;omega
  subst hi'
  rw[List.drop_length] at hdr
  have hq:(partsP w l).length≤q:=by
   have:=congrArg List.length hdr
   rw[List.length_drop] at this
   have h0:(partsP w ([]:List Wd)).length=0:=rfl
   omega
  obtain rfl:q=(partsP w l).length:=by omega
  refine gad ?_
  exact RetPost.normal hj1 rN ⟨[],by rw[List.append_nil];exact List.perm_append_comm (l₁:=[_,_]) (l₂:=Hq)⟩ ⟨⟨_,rfl⟩,Hq,rfl,hJ⟩
end
end Go.Proofs.YtocofhbdbgnmbaaGreatDoor
namespace Go.Proofs.YtocofhbdbgnmbaaGreatDoor
open Go.GL Go.RowKit Go.Stele
set_option maxRecDepth 100000
set_option maxHeartbeats 4000000
instance:TIface Tryz.prog 32:=.of zk
attribute [local irreducible] LOps LCode LStep LCalls Go.GL.Pure QThen QBlock RetPost LQ LAny LLate LLateOp
theorem last_get {s:List UInt8} (h:2≤s.length):∃ c,s.getLast? = some c∧s[s.length-1]? = some c:=by
 cases s with
 |nil=>simp at h
 |cons a r=>exact ⟨(a::r).getLast (by simp),List.getLast?_eq_some_getLast (by simp),by rw[←List.getLast?_eq_getElem?];exact List.getLast?_eq_some_getLast (by simp)⟩
theorem row_inner (s:List UInt8):(s.take (s.length-1)).drop 1=(s.drop 1).dropLast:=by
 rw[List.dropLast_eq_take,List.length_drop,←List.drop_take]
theorem picP_eq (s:List UInt8):picP s=if 32∈s then (if (s.dropWhile fun d=>decide (d≠32)).drop 1=[]∨32∈(s.dropWhile fun d=>decide (d≠32)).drop 1 then none else match posW 200 (s.takeWhile fun d=>decide (d≠32)) with
  |some n=>some (n,(s.dropWhile fun d=>decide (d≠32)).drop 1)
  |none=>none) else none:=by
 unfold picP
 by_cases h:(32:UInt8)∈s
 ·rw[if_pos h]
  obtain ⟨a,b,rfl,ha⟩:=first_cut h
  have h1:∀ x∈a,decide (x≠(32:UInt8))=true:=fun x hx=>by
   simp only[decide_eq_true_eq]
   rintro rfl
   exact ha hx
  rw[List.dropWhile_append_of_pos h1,List.dropWhile_cons_of_neg (by simp)]
  rfl
 ·rw[if_neg h]
  have h1:∀ x∈s,decide (x≠(32:UInt8))=true:=fun x hx=>by
   simp only[decide_eq_true_eq]
   rintro rfl
   exact h hx
  have:=List.dropWhile_append_of_pos (l₂:=[]) h1
  rw[List.append_nil] at this
  rw[this]
  rfl
def PicLV (o:Option (Nat×List UInt8)) (lv:LV):Prop:=match o with
 |some (n,r)=>lv=.tuple [int .i64 n,str r,int .i64 0]
 |none=>∃ a b,lv=.tuple [int .i64 a,str b,int .i64 3]
def CellsLV (s:List UInt8) (lv:LV):Prop:=match cellsP s with
 |.ok l=>lv=.tuple [.list (l.map str),int .i64 0]
 |.error e=>∃ x,lv=.tuple [.list x,int .i64 e]
section
variable {B0:Nat} {w0:World}
theorem cells_spec (hG:GW B0 w0) (s:List UInt8) (hs:s.length≤100000000):LCalls (KC B0 w0) 65 [str s] [] (RetIf (CellsLV s)):=by
 refine cI Tryz.func65 rfl (n:=41) rfl rfl rfl ?_
 refine gaa ?_
 refine oB 10 rfl (fun h1=>?_) (fun h1=>?_)
 ·have hl:s.length<2:=by have:=zt h1;omega
  refine gah ?_
  refine oC rfl (fun _=>?_) (fun h=>by cases h)
  refine gaf ?_
  exact retRetIf rfl (rC (rT (v:=nilSlice) rfl LV.Sub.nil) (zra rfl)) (by
   unfold CellsLV cellsP
   rw[if_pos (.inl hl)]
   exact ⟨_,rfl⟩)
 ·have hl:¬ s.length<2:=by have:=zf h1;omega
  obtain ⟨c,hc1,hc2⟩:=last_get (s:=s) zo
  refine gab ?_
  refine oP (Pure.sindex (c:=c) rfl rfl zo (by rw[show ((s.length:Int)-1).toNat=s.length-1 by omega];exact hc2)) rfl ?_
  refine gab ?_
  refine oC rfl (fun h=>?_) (fun h=>?_)
  ·have hne:c≠124:=byte_f (not_t h) (by decide)
   refine gaf ?_
   exact retRetIf rfl (rC (rT (v:=nilSlice) rfl LV.Sub.nil) (zra rfl)) (by
    unfold CellsLV cellsP
    rw[if_pos (.inr (by rw[hc1];intro he;injection he with he;exact hne he))]
    exact ⟨_,rfl⟩)
  ·have he:c=124:=byte_t (not_f h)
   subst he
   have hin:=row_inner s
   generalize hx:(s.drop 1).dropLast=x at hin
   have hcell:cellsP s=if 32<(pieces 124 x).length then .error 6 else .ok ((pieces 124 x).map trimSp):=by
    unfold cellsP
    rw[if_neg (fun h=>h.elim hl fun h=>h hc1),hx]
   have hxl:x.length≤s.length:=by rw[←hin,List.length_drop,List.length_take];omega
   have hcnt:=pieces_cnt 124 x
   have hne:pieces 124 x≠[]:=by
    obtain ⟨p,ps,h⟩:=pieces_ne 124 x
    rw[h];simp
   refine gaa ?_
   refine oP (Pure.ssliceE (m:=x) rfl ⟨_,rfl⟩ ⟨_,rfl⟩ zo zo zo (by rw[show ((s.length:Int)-1).toNat=s.length-1 by omega];exact hin)) rfl ?_
   refine oS (S.call0 [_,_] rfl (split_spec hG x 124 zo) (fun v H' hh=>?_) (by rintro ch H' ⟨v,h,_⟩;cases h)) rfl
   obtain ⟨v,hv,hm⟩:=hh
   cases hv
   obtain ⟨b,cap,spare,rfl,rfl,hc,hcap⟩:=hm.addr (by simpa using hne)
   simp only[List.length_map,strs_cells] at hc hcap ⊢
   generalize hps:pieces 124 x=ps at *
   refine gac ?_
   refine oP (Pure.rowLen rfl) rfl ?_
   refine gab ?_
   refine oC rfl (fun h=>?_) (fun h=>?_)
   ·have h32:32<ps.length:=by have:=zt h;omega
    refine gaf ?_
    exact retRetIf rfl (rC (rT (v:=nilSlice) rfl LV.Sub.nil) (zra rfl)) (by
     unfold CellsLV
     rw[hcell,if_pos h32]
     exact ⟨_,rfl⟩)
   ·have h32:¬ 32<ps.length:=by have:=zf h;omega
    refine gae ?_
    refine oP (Pure.rowLen rfl) rfl ?_
    refine gad ?_
    refine oL (fun k ls H=>∃ i:Nat,i≤ps.length∧k=ps.length-i∧ls=[(4,.atom (.slice (some ⟨b,0,none⟩) ps.length cap)),(27,.atom (.slice (some ⟨b,0,none⟩) ps.length cap)),(28,int .i64 ps.length),(29,int .i64 i)]∧H=[(b,.cells 9 (((ps.take i).map trimSp).map str++((ps.drop i).map str++spare)))])
     ⟨_,_,_,⟨0,Nat.zero_le _,rfl,rfl,rfl⟩,⟨rfl,rfl,rfl,rfl,trivial⟩,by simpa using HSub.refl _⟩ ?_
    rintro k ls H ⟨i,hi,rfl,rfl,rfl⟩ j1 hj1
    have htl:(((ps.take i).map trimSp).map str).length=i:=by simp only[List.length_map,List.length_take];omega
    refine gaj ?_
    refine oC rfl (fun hc=>?_) (fun hc=>?_)
    ·have hlt:i<ps.length:=by have:=zt hc;omega
     have hpl:=(pieces_mem (c:=124) (s:=x) (p:=ps[i]) (by rw[hps];exact List.getElem_mem hlt)).2
     have hpl2:ps[i].length≤x.length+1:=by
      have h1:=pieces_len 124 x
      rw[hps] at h1
      have:∀ (l:List Wd) (p:Wd),p∈l→p.length≤(l.map fun w=>w.length+1).sum:=by
       intro l
       induction l with
       |nil=>intro p hp;cases hp
       |cons a l ih=>
        intro p hp
        rcases List.mem_cons.1 hp with rfl|hp
        ·simp only[List.map_cons,List.sum_cons];omega
        ·have:=ih p hp
         simp only[List.map_cons,List.sum_cons];omega
      have:=this ps ps[i] (List.getElem_mem hlt)
      rw[h1] at this
      exact this
     refine gae ?_
     refine oP (Pure.indexRowE (o:=i) rfl rfl zo zo zo) rfl ?_
     refine oP (Pure.loadH (c:=str ps[i]) rfl zm0 (by
      rw[List.getElem?_append_right zo,htl,Nat.sub_self,List.drop_eq_getElem_cons hlt];rfl)) rfl ?_
     refine gac ?_
     refine oS (S.fn [_,_] rfl (trim_spec ps[i] zo) ?_) rfl
     refine oP (Pure.indexRowE (o:=i) rfl rfl zo zo zo) rfl ?_
     refine oS (S.store (cs':=((ps.take (i+1)).map trimSp).map str++((ps.drop (i+1)).map str++spare)) rfl pH rfl rfl (Nat.ble_eq_true_of_le (show i+1≤_ by simp only[List.length_append,List.length_map,List.length_take,List.length_drop];omega)) rfl (by
      rw[setL_eq _ _ _ (by show i+1≤_;simp only[List.length_append,List.length_map,List.length_take,List.length_drop];omega),List.take_left' htl,List.drop_append,List.drop_eq_nil_of_le (by show _≤i+1;omega),List.nil_append,htl,List.take_succ_eq_append_getElem hlt,List.map_append,List.map_append,List.append_assoc,List.append_assoc,List.drop_eq_getElem_cons hlt]
      show _=_
      rw[show i+[str (trimSp ps[i])].length-i=1 by simp]
      rfl) ?_) rfl
     refine gac ?_
     exact ⟨_,_,_,by omega,⟨i+1,by omega,rfl,rfl,rfl⟩,⟨rfl,rfl,rfl,int_eq zo,trivial⟩,HSub.refl _,hj1⟩
    ·have hi':i=ps.length:=by have:=zf hc;omega
     subst hi'
     rw[List.take_length,List.drop_length,List.map_nil,List.nil_append]
     have hm2:MRow 9 1 (.slice (some ⟨b,0,none⟩) ps.length cap) ((ps.map trimSp).map str) [(b,.cells 9 ((ps.map trimSp).map str++spare))]:=
      MRow.of_cells (strs_len _) (strs_cells _) (by simp) zo zo
     refine LCode.settle (F:=[]) 4 hm2 (by rw[List.append_nil]) rfl fun v' H' ha=>?_
     refine LCode.sub (d:=4) (v:=v') rfl ha.sub ?_
     refine gaa ?_
     exact retRetIf hj1 (rC (rT (v:=.list _) rfl zsr) (zra rfl)) (by
      unfold CellsLV
      rw[hcell,if_neg h32]
      rfl)
theorem picture_spec (hG:GW B0 w0) (s:List UInt8) (hs:s.length≤100000000):LCalls (KC B0 w0) 66 [str s] [] (RetIf (PicLV (picP s))):=by
 have hP:=picP_eq s
 have hC:=cut_spec (B0:=B0) (w0:=w0) hG s 32 zo
 have hnl:(s.takeWhile fun d=>decide (d≠32)).length≤s.length:=(List.takeWhile_sublist _).length_le
 generalize (s.takeWhile fun d=>decide (d≠32))=num at *
 generalize (s.dropWhile fun d=>decide (d≠32)).drop 1=runs at *
 have hA:=atoi_spec (B0:=B0) (w0:=w0) hG num zo
 refine cI Tryz.func66 rfl (n:=51) rfl rfl rfl ?_
 refine gac ?_
 refine oS (S.fn [_,_] rfl hC ?_) rfl
 refine gaa ?_
 refine oS (S.fnIf [_] rfl hA ?_) rfl
 rintro lv (⟨v,hv,rfl⟩|⟨hno,v,t,p,rfl⟩)
 ·have hpos:posW 200 num=if Go.Lib.itoa v=num∧1≤v∧v≤200 then some v.toNat else none:=by unfold posW;rw[hv];rfl
  have hvr : -9223372036854775808≤v∧v≤9223372036854775807:=Go.Lib.atoiAll_bounds hv
  refine gaa ?_
  refine oB 23 rfl (fun h1=>?_) (fun h1=>?_)
  ·rw[if_neg (zf (not_t h1))] at hP
   refine gab ?_
   refine oC rfl (fun _=>?_) (fun h=>by cases h)
   refine gaf ?_
   exact retRetIf rfl (rC (zrt rfl) (rC (zrt rfl) (zra rfl))) (by rw[hP];exact ⟨_,_,rfl⟩)
  ·rw[if_pos (zt (not_f h1))] at hP
   refine gab ?_
   refine oS (S.fn [_] rfl (itoa_spec hG v hvr.1 hvr.2) ?_) rfl
   refine gab ?_
   refine oB 33 rfl (fun h2=>?_) (fun h2=>?_)
   ·have h2':¬ Go.Lib.itoa v=num:=zf (not_t h2)
    rw[if_neg (fun h=>h2' h.1)] at hpos
    rw[hpos] at hP
    refine gab ?_
    refine oC rfl (fun _=>?_) (fun h=>by cases h)
    refine gaf ?_
    exact retRetIf rfl (rC (zrt rfl) (rC (zrt rfl) (zra rfl))) (by
     have hn:picP s=none:=by rw[hP];split <;> rfl
     rw[hn]
     exact ⟨_,_,rfl⟩)
   ·have h2':Go.Lib.itoa v=num:=zt (not_f h2)
    refine gad ?_
    refine oB 37 rfl (fun h3=>?_) (fun h3=>?_)
    ·have h3':v<1:=zt h3
     rw[if_neg (fun h=>by omega)] at hpos
     rw[hpos] at hP
     refine gab ?_
     refine oC rfl (fun _=>?_) (fun h=>by cases h)
     refine gaf ?_
     exact retRetIf rfl (rC (zrt rfl) (rC (zrt rfl) (zra rfl))) (by
      have hn:picP s=none:=by rw[hP];split <;> rfl
      rw[hn]
      exact ⟨_,_,rfl⟩)
    ·have h3':¬ v<1:=zf h3
     refine gab ?_
     refine oB 41 rfl (fun h4=>?_) (fun h4=>?_)
     ·have h4':200<v:=zt h4
      rw[if_neg (fun h=>by omega)] at hpos
      rw[hpos] at hP
      refine gab ?_
      refine oC rfl (fun _=>?_) (fun h=>by cases h)
      refine gaf ?_
      exact retRetIf rfl (rC (zrt rfl) (rC (zrt rfl) (zra rfl))) (by
       have hn:picP s=none:=by rw[hP];split <;> rfl
       rw[hn]
       exact ⟨_,_,rfl⟩)
     ·have h4':¬ 200<v:=zf h4
      rw[if_pos ⟨h2',by omega,by omega⟩] at hpos
      rw[hpos] at hP
      refine gab ?_
      refine oB 45 rfl (fun h5=>?_) (fun h5=>?_)
      ·rw[if_pos (.inl (zt h5))] at hP
       refine gah ?_
       refine oC rfl (fun _=>?_) (fun h=>by cases h)
       refine gaf ?_
       exact retRetIf rfl (rC (zrt rfl) (rC (zrt rfl) (zra rfl))) (by rw[hP];exact ⟨_,_,rfl⟩)
      ·have h5':=zf h5
       refine gag ?_
       refine oS (S.fn [_,_] rfl (contains_spec (B0:=B0) (w0:=w0) runs 32) ?_) rfl
       refine gad ?_
       refine oC rfl (fun h=>?_) (fun h=>?_)
       ·rw[if_pos (.inr (zt h))] at hP
        refine gaf ?_
        exact retRetIf rfl (rC (zrt rfl) (rC (zrt rfl) (zra rfl))) (by rw[hP];exact ⟨_,_,rfl⟩)
       ·rw[if_neg (fun h'=>h'.elim h5' (zf h))] at hP
        refine gac ?_
        exact retRetIf rfl (rC (zrt rfl) (rC (zrt rfl) (zra rfl))) (by
         rw[hP]
         show _=LV.tuple [int .i64 ((v.toNat:Nat):Int),str runs,int .i64 0]
         rw[Int.toNat_of_nonneg zo]
         rfl)
 ·have hpos:posW 200 num=none:=by
   unfold posW
   split
   ·rename_i v hv
    exact absurd hv (hno v)
   ·rfl
  have hPn:picP s=none:=by
   rw[hP,hpos]
   split
   ·split <;> rfl
   ·rfl
  refine gaa ?_
  refine oB 23 rfl (fun h1=>?_) (fun h1=>?_)
  ·refine gab ?_
   refine oC rfl (fun _=>?_) (fun h=>by cases h)
   refine gaf ?_
   exact retRetIf rfl (rC (zrt rfl) (rC (zrt rfl) (zra rfl))) (by rw[hPn];exact ⟨_,_,rfl⟩)
  ·refine gab ?_
   refine oC rfl (fun _=>?_) (fun h=>by cases h)
   refine gaf ?_
   exact retRetIf rfl (rC (zrt rfl) (rC (zrt rfl) (zra rfl))) (by rw[hPn];exact ⟨_,_,rfl⟩)
end
end Go.Proofs.YtocofhbdbgnmbaaGreatDoor
namespace Go.Proofs.YtocofhbdbgnmbaaGreatDoor
open Go.GL Go.RowKit Go.Stele
set_option maxRecDepth 100000
set_option maxHeartbeats 4000000
attribute [local irreducible] LOps LCode LStep LCalls Go.GL.Pure QThen QBlock RetPost LQ LAny LLate LLateOp
inductive LineSt:Blk→List LV→Heap→Prop
 |blank:LineSt ⟨0,[],[],[],0⟩ [int .i64 0,nilSlice,nilSlice,str [],int .i64 0] []
 |head (ws:List Wd):LineSt ⟨1,ws,[],[],0⟩ [int .i64 1,.list (ws.map str),nilSlice,str [],int .i64 0] []
 |para (b cap:Nat) (ws:List Wd):LineSt ⟨2,ws,[],[],0⟩ [int .i64 2,.app b cap 1 (ws.map str),nilSlice,str [],int .i64 0] [(b,.row ((ws.map str).length * 1))]
 |row (l:List Wd):LineSt ⟨3,[],[l],[],0⟩ [int .i64 3,nilSlice,.list (l.map str),str [],int .i64 0] []
 |pic (n:Nat) (r:Wd):LineSt ⟨4,[],[],r,n⟩ [int .i64 4,nilSlice,nilSlice,str r,int .i64 n] []
def RetLine (s:Wd) (r:LRes) (H:Heap):Prop:=∃ cs e,r=.ret (.tuple [.agg cs,int .i64 e])∧cs.length=5∧cs.all cellOk=true∧(match lineP s with
 |.ok b=>e=0∧LineSt b cs H
 |.error x=>e=(x:Int)∧0<x)
theorem cells_err {s:Wd} {x:Nat} (h:cellsP s=.error x):0<x:=by
 unfold cellsP at h
 split at h
 ·cases h;decide
 ·split at h
  ·cases h;decide
  ·cases h
theorem ch_ok {c:UInt8}:okCh c=true ↔ ¬ ((c.toNat:Int)<32)∧¬ ((126:Int)<c.toNat):=by
 unfold okCh
 rw[Bool.and_eq_true,decide_eq_true_eq,decide_eq_true_eq]
 omega
section
variable {B0:Nat} {w0:World}
theorem classify_spec (hG:GW B0 w0) (s:List UInt8) (hs:s.length≤100000000):LCalls (KC B0 w0) 34 [str s] [] (RetLine s):=by
 refine cI Tryz.func34 rfl (n:=73) rfl rfl rfl ?_
 refine gai ?_
 refine oS (S.alloc fun b2=>?_) rfl
 refine gaa ?_
 refine oL (fun k ls H=>∃ i:Nat,i≤s.length∧k=s.length-i∧(s.take i).all okCh=true∧ls=[(0,str s),(2,ptr b2 0),(12,int .i64 s.length),(13,int .i64 i)]∧H=[(b2,.cells 72 [int .i64 0,nilSlice,nilSlice,str [],int .i64 0])])
  ⟨_,_,_,⟨0,Nat.zero_le _,rfl,by simp,rfl,rfl⟩,⟨rfl,rfl,rfl,rfl,trivial⟩,HSub.refl _⟩ ?_
 rintro k ls H ⟨i,hi,rfl,hall,rfl,rfl⟩ j1 hj1
 refine gaj ?_
 refine oC rfl (fun hc=>?_) (fun hc=>?_)
 ·have hlt:i<s.length:=by have:=zt hc;omega
  have bad:okCh s[i]=false→lineP s=.error 3:=fun h=>by
   have:s.all okCh=false:=Bool.eq_false_iff.2 fun h1=>by
    have:=List.all_eq_true.1 h1 s[i] (List.getElem_mem hlt)
    rw[h] at this
    cases this
   unfold lineP
   rw[if_pos this]
  refine gac ?_
  refine oP (Pure.sindex (c:=s[i]) rfl rfl zo (get_some hlt)) rfl ?_
  refine gad ?_
  refine oB 20 rfl (fun h1=>?_) (fun h1=>?_)
  ·have hb:lineP s=.error 3:=bad (Bool.eq_false_iff.2 fun h=>(ch_ok.1 h).1 (zt h1))
   refine gah ?_
   refine oC rfl (fun _=>?_) (fun h=>by cases h)
   refine gaa ?_
   exact rR hj1 (rC (rA rfl zm0 rfl zsr) (zra rfl)) zhn ⟨_,_,rfl,rfl,rfl,by rw[hb];exact ⟨rfl,by decide⟩⟩
  ·refine gag ?_
   refine oP (Pure.sindex (c:=s[i]) rfl rfl zo (get_some hlt)) rfl ?_
   refine gab ?_
   refine oC rfl (fun h=>?_) (fun h=>?_)
   ·have hb:lineP s=.error 3:=bad (Bool.eq_false_iff.2 fun h'=>(ch_ok.1 h').2 (zt h))
    refine gaa ?_
    exact rR hj1 (rC (rA rfl zm0 rfl zsr) (zra rfl)) zhn ⟨_,_,rfl,rfl,rfl,by rw[hb];exact ⟨rfl,by decide⟩⟩
   ·have hok:okCh s[i]=true:=ch_ok.2 ⟨zf h1,zf h⟩
    refine gac ?_
    exact ⟨_,_,_,by omega,⟨i+1,by omega,rfl,by rw[List.take_succ_eq_append_getElem hlt,List.all_append,hall];simp[hok],rfl,rfl⟩,⟨rfl,rfl,rfl,int_eq zo,trivial⟩,HSub.refl _,hj1⟩
 ·have hi':i=s.length:=by have:=zf hc;omega
  subst hi'
  rw[List.take_length] at hall
  refine gac ?_
  refine oS (S.call0 [_] rfl (words_spec hG s hs) (fun v H' hh=>?_) (by rintro ch H' ⟨v,h,_⟩;cases h)) rfl
  obtain ⟨v,hv,hm⟩:=hh
  cases hv
  have hwl:(wordsL s).length≤s.length+1:=Nat.le_trans (full_le _) (pieces_cnt 32 s)
  by_cases hw:wordsL s=[]
  ·have hb:lineP s=.ok ⟨0,[],[],[],0⟩:=by
    unfold lineP
    rw[if_neg (by rw[hall];decide),if_pos hw]
   rw[hw] at hm
   refine LOps.weak (H':=[(b2,.cells 72 [int .i64 0,nilSlice,nilSlice,str [],int .i64 0])]) ⟨H',List.perm_append_comm⟩ ?_
   refine gac ?_
   refine oP (Pure.mlen rfl hm) rfl ?_
   refine gad ?_
   refine oC rfl (fun _=>?_) (fun h=>by cases h)
   refine gaa ?_
   exact rR hj1 (rC (rA rfl zm0 rfl zsr) (zra rfl)) zhn ⟨_,_,rfl,rfl,rfl,by rw[hb];exact ⟨rfl,LineSt.blank⟩⟩
  ·have hwm:((wordsL s).map str).length=(wordsL s).length:=List.length_map _
   have hwp:=List.length_pos_iff.2 hw
   have hL:lineP s=if s.head? = some 124 then (match cellsP s with
     |.ok l=>.ok ⟨3,[],[l],[],0⟩
     |.error e=>.error e)
    else if s.take 2=[35,32] then (if (wordsL s).length<2 then .error 3 else .ok ⟨1,(wordsL s).drop 1,[],[],0⟩)
    else if s.take 2=[33,32] then (match picP (s.drop 2) with
     |some (n,r)=>.ok ⟨4,[],[],r,n⟩
     |none=>.error 3)
    else .ok ⟨2,wordsL s,[],[],0⟩:=by
    conv=>lhs;unfold lineP
    rw[if_neg (by rw[hall];decide),if_neg hw]
    rfl
   obtain ⟨c,r,hcr⟩:∃ c r,s=c::r:=by
    cases s with
    |nil=>exact absurd rfl hw
    |cons c r=>exact ⟨c,r,rfl⟩
   have hpos:0<s.length:=by rw[hcr];simp
   have hg0:s[(0:Int).toNat]? = some c:=by rw[hcr];rfl
   have hhd:s.head? = some c:=by rw[hcr];rfl
   have hC:=cells_spec (B0:=B0) (w0:=w0) hG s hs
   have hQ:=picture_spec (B0:=B0) (w0:=w0) hG (s.drop 2) (by rw[List.length_drop];omega)
   have hPa:=prefix_spec (B0:=B0) (w0:=w0) s 35 32
   have hPb:=prefix_spec (B0:=B0) (w0:=w0) s 33 32
   refine LOps.settleNe 29 hm (by simpa using hw) zpr rfl fun b cap=>?_
   refine gaa ?_
   refine oC rfl (fun h=>?_) (fun h=>?_)
   ·have:=zt h
    omega
   ·refine gae ?_
    refine oP (Pure.sindex (c:=c) rfl rfl zo hg0) rfl ?_
    refine gad ?_
    refine oC rfl (fun h=>?_) (fun h=>?_)
    ·have h124:c=124:=byte_t h
     rw[if_pos (by rw[hhd,h124])] at hL
     refine gae ?_
     refine oS (S.fnIf [_] rfl hC ?_) rfl
     intro lv hlv
     unfold CellsLV at hlv
     cases hc:cellsP s with
     |error x=>
      rw[hc] at hlv hL
      obtain ⟨es,rfl⟩:=hlv
      refine gaa ?_
      exact rR hj1 (rC (rA rfl zm0 rfl zsr) (zra rfl)) zhn ⟨_,_,rfl,rfl,rfl,by rw[hL];exact ⟨rfl,cells_err hc⟩⟩
     |ok l=>
      rw[hc] at hlv hL
      obtain rfl:=hlv
      refine gaa ?_
      exact rR hj1 (rC (rA rfl zm0 rfl zsr) (zra rfl)) zhn ⟨_,_,rfl,rfl,rfl,by rw[hL];exact ⟨rfl,LineSt.row l⟩⟩
    ·have h124:c≠124:=byte_f h (by decide)
     rw[if_neg (by rw[hhd];intro h;injection h with h;exact h124 h)] at hL
     refine gae ?_
     refine oS (S.fn [_,_] rfl hPa ?_) rfl
     refine gad ?_
     refine oC rfl (fun h=>?_) (fun h=>?_)
     ·rw[if_pos (zt h)] at hL
      refine gaa ?_
      refine oC rfl (fun h=>?_) (fun h=>?_)
      ·rw[if_pos (by have:=zt h;omega)] at hL
       refine gaa ?_
       exact rR hj1 (rC (rA rfl zm0 rfl zsr) (zra rfl)) zhn ⟨_,_,rfl,rfl,rfl,by rw[hL];exact ⟨rfl,by decide⟩⟩
      ·have h2:¬ (wordsL s).length<2:=by have:=zf h;omega
       rw[if_neg h2] at hL
       refine gaa ?_
       refine oP (Pure.lsliceE (ms:=((wordsL s).drop 1).map str) rfl ⟨_,rfl⟩ rfl zo zo zo (strs_len _) (by
        rw[Int.toNat_natCast,List.take_length,List.map_drop];rfl)) rfl ?_
       refine gab ?_
       exact rR hj1 (rC (rA rfl zm0 rfl zsr) (zra rfl)) zhn ⟨_,_,rfl,rfl,rfl,by rw[hL];exact ⟨rfl,LineSt.head _⟩⟩
     ·rw[if_neg (zf h)] at hL
      refine gae ?_
      refine oS (S.fn [_,_] rfl hPb ?_) rfl
      refine gad ?_
      refine oC rfl (fun h=>?_) (fun h=>?_)
      ·have ht:=zt h
       have hl2:2≤s.length:=by
        have:=congrArg List.length ht
        simp only[List.length_take,List.length_cons,List.length_nil] at this
        omega
       rw[if_pos ht] at hL
       refine gae ?_
       refine oP (Pure.ssliceE (m:=s.drop 2) rfl ⟨_,rfl⟩ rfl zo zo zo (by rw[Int.toNat_natCast,List.take_length];rfl)) rfl ?_
       refine oS (S.fnIf [_] rfl hQ ?_) rfl
       intro lv hlv
       unfold PicLV at hlv
       cases hc:picP (s.drop 2) with
       |none=>
        rw[hc] at hlv hL
        obtain ⟨x,y,rfl⟩:=hlv
        refine gaa ?_
        exact rR hj1 (rC (rA rfl zm0 rfl zsr) (zra rfl)) zhn ⟨_,_,rfl,rfl,rfl,by rw[hL];exact ⟨rfl,by decide⟩⟩
       |some q=>
        obtain ⟨n,rr⟩:=q
        rw[hc] at hlv hL
        obtain rfl:=hlv
        refine gaa ?_
        exact rR hj1 (rC (rA rfl zm0 rfl zsr) (zra rfl)) zhn ⟨_,_,rfl,rfl,rfl,by rw[hL];exact ⟨rfl,LineSt.pic n rr⟩⟩
      ·rw[if_neg (zf h)] at hL
       refine gaa ?_
       exact rR hj1 (rC (rA rfl zm0 rfl zsr) (zra rfl)) (zhD zhr) ⟨_,_,rfl,rfl,rfl,by rw[hL];exact ⟨rfl,LineSt.para b cap _⟩⟩
end
end Go.Proofs.YtocofhbdbgnmbaaGreatDoor
