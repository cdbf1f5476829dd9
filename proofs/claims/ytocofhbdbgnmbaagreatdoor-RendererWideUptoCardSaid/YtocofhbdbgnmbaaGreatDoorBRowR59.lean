/- Texts joined: RenLift, RenLif2. -/
import Derived.Test.YtocofhbdbgnmbaaGreatDoorCards
import Derived.Test.YtocofhbdbgnmbaaGreatDoorTie
import Derived.WalkKit
import Derived.ProofKit
import Derived.OpenShut
import Derived.ChangeMaps5
import Derived.SliceStrings
import Derived.WideKeyArgs
import Derived.Deep.DeepHandedRow
import Derived.Lib.LaidTab
import Derived.Test.YtocofhbdbgnmbaaGreatDoorBRowR58
set_option linter.unusedVariables false
set_option linter.unusedSimpArgs false
namespace Go.Proofs.YtocofhbdbgnmbaaGreatDoor
open Go.ChangeShapes Go.WideShapes Go.ChangeAt Go.RowKit
set_option maxRecDepth 100000
theorem own:ownKnob Tryz.prog.godebug=none:=by kernel_rfl
def lst : List (String × DataW Unit) := [("math/bits.deBruijn32tab", Rows.laid_math_bits_deBruijn32tab), ("math/bits.deBruijn64tab", Rows.laid_math_bits_deBruijn64tab), ("internal/strconv.uint64pow10", Rows.laid_internal_strconv_uint64pow10), ("unicode/utf8.acceptRanges", Rows.laid_unicode_utf8_acceptRanges), ("strconv.ErrRange", Rows.laid_strconv_ErrRange), ("strconv.ErrSyntax", Rows.laid_strconv_ErrSyntax), ("unicode/utf8.first", Rows.laid_unicode_utf8_first)]
def NumCells (W:World) (g:Nat) (t:TypeId) (n:Nat) (ts:List TypeId):Prop:=∃ cs,W.heap[g]? = some (.cells cs t)∧cs.size=n∧∀ i v,cs[i]? = some v→∃ u k n,ts[i % ts.length]? = some u∧Tryz.prog.underlying u=some (.int k)∧v=.int k n
theorem num_cells {W:World} (hs:W.ShapedOpen Tryz.prog) (g:Nat) (t:TypeId) (n:Nat) (ts:List TypeId) (hg:decide (g<Tryz.prog.globals.size)=true) (h0:(((begin Tryz.prog (fun _ _=>0) default).world.heap[g]?).bind Obj.row?).map (fun r=>(r.1.size,r.2))=some (n,t)) (hb:Tryz.prog.buildable t=true) (hc:Tryz.prog.cellTypes Tryz.prog.depth t=some ts)
  (hall:(ts.all fun u=>match Tryz.prog.underlying u with|some (.int _)=>true|_=>false)=true):NumCells W g t n ts:=by
 obtain ⟨⟨zero,t'⟩,h0',h1⟩:=Option.map_eq_some_iff.1 h0
 simp only[Prod.mk.injEq] at h1
 obtain ⟨rfl,rfl⟩:=h1
 obtain ⟨cs,h1,h2,h3⟩:=hs.1 g zero _ (of_decide_eq_true hg) h0'
 obtain ⟨ts',e1,e2,e3⟩:=h3 hb
 obtain rfl:=Option.some.inj (hc.symm.trans e1)
 refine ⟨cs,h1,h2,fun i v hv=>?_⟩
 obtain ⟨u,hu,hok⟩:=e3 i v hv
 have:=List.all_eq_true.1 hall u (List.mem_of_getElem? hu)
 unfold Cell.ok at hok
 split at this
 ·rename_i k hk
  rw[hk] at hok
  cases v <;> simp only at hok
  rename_i k' n
  exact ⟨u,k,n,hu,hk,by rw[hok.1]⟩
 ·cases this
theorem cells0 {W:World} (hs:W.ShapedOpen Tryz.prog):NumCells W 1 3 1 [3]:=num_cells hs 1 3 1 [3] (by kernel_rfl) (by kernel_rfl) (by kernel_rfl) (by kernel_rfl) (by kernel_rfl)
theorem cells1 {W:World} (hs:W.ShapedOpen Tryz.prog):NumCells W 0 133 20 (List.replicate 20 64):=num_cells hs 0 133 20 (List.replicate 20 64) (by kernel_rfl) (by kernel_rfl) (by kernel_rfl) (by kernel_rfl) (by kernel_rfl)
theorem cells4 {W:World} (hs:W.ShapedOpen Tryz.prog):NumCells W 4 164 32 (List.replicate 32 5):=num_cells hs 4 164 32 (List.replicate 32 5) (by kernel_rfl) (by kernel_rfl) (by kernel_rfl) (by kernel_rfl) (by kernel_rfl)
theorem cells5 {W:World} (hs:W.ShapedOpen Tryz.prog):NumCells W 5 165 64 (List.replicate 64 5):=num_cells hs 5 165 64 (List.replicate 64 5) (by kernel_rfl) (by kernel_rfl) (by kernel_rfl) (by kernel_rfl) (by kernel_rfl)
theorem cells6 {W:World} (hs:W.ShapedOpen Tryz.prog):NumCells W 2 147 256 (List.replicate 256 5):=num_cells hs 2 147 256 (List.replicate 256 5) (by kernel_rfl) (by kernel_rfl) (by kernel_rfl) (by kernel_rfl) (by kernel_rfl)
theorem cells7 {W:World} (hs:W.ShapedOpen Tryz.prog):NumCells W 3 150 32 (List.replicate 32 5):=num_cells hs 3 150 32 (List.replicate 32 5) (by kernel_rfl) (by kernel_rfl) (by kernel_rfl) (by kernel_rfl) (by kernel_rfl)
theorem gw_of {W:World} (h:laidMetH Tryz.prog lst W) (hs:W.ShapedOpen Tryz.prog):GW 8 W:=by
 have h0:laidMet Tryz.prog lst W:=h
 have hp : laidMet Tryz.prog [("internal/strconv.uint64pow10", Rows.laid_internal_strconv_uint64pow10)] W := h0.filter (fun x => x.1 == "internal/strconv.uint64pow10")
 have he : laidMet Tryz.prog [("strconv.ErrRange", Rows.laid_strconv_ErrRange)] W := h0.filter (fun x => x.1 == "strconv.ErrRange")
 have hy : laidMet Tryz.prog [("strconv.ErrSyntax", Rows.laid_strconv_ErrSyntax)] W := h0.filter (fun x => x.1 == "strconv.ErrSyntax")
 refine ⟨?_,?_,?_,?_,Nat.le_refl _⟩
 ·exact Lib.tabIs_of_head (g:=0) (t:=133) (e:=64) (n:=20) (rest:=[]) (by kernel_rfl) (by kernel_rfl) (by kernel_rfl) (by kernel_rfl) (by kernel_rfl) (by kernel_rfl) hp
 ·obtain ⟨ps,⟨g,t,cs,fuel,p,q,hg,ht,hvar,hd,_,_⟩,_⟩:=he
  have hg' : Tryz.prog.globalNamed "strconv.ErrRange" = some 7 := by kernel_rfl
  obtain rfl:=Option.some.inj (hg'.symm.trans hg)
  have ht':(Tryz.prog.globals[7]?).map (·.type)=some 32:=by kernel_rfl
  obtain rfl:=Option.some.inj (ht'.symm.trans ht)
  obtain ⟨ms,hms⟩:∃ ms,Tryz.prog.underlying 32=some (.interface ms):=(inferInstance:Go.GL.TIface Tryz.prog 32).und
  obtain ⟨_,u,v,hcs,_,_⟩:=iface_of_trod hms hd
  refine ⟨u,v,?_⟩
  rw[hvar]
  congr 1
  exact Array.ext' (by simpa using hcs)
 ·obtain ⟨ps,⟨g,t,cs,fuel,p,q,hg,ht,hvar,hd,_,_⟩,_⟩:=hy
  have hg' : Tryz.prog.globalNamed "strconv.ErrSyntax" = some 6 := by kernel_rfl
  obtain rfl:=Option.some.inj (hg'.symm.trans hg)
  have ht':(Tryz.prog.globals[6]?).map (·.type)=some 32:=by kernel_rfl
  obtain rfl:=Option.some.inj (ht'.symm.trans ht)
  obtain ⟨ms,hms⟩:∃ ms,Tryz.prog.underlying 32=some (.interface ms):=(inferInstance:Go.GL.TIface Tryz.prog 32).und
  obtain ⟨_,u,v,hcs,_,_⟩:=iface_of_trod hms hd
  refine ⟨u,v,?_⟩
  rw[hvar]
  congr 1
  exact Array.ext' (by simpa using hcs)
 ·obtain ⟨cs,h1,h2,h3⟩:=cells0 hs
  have h4:0<cs.size:=by omega
  obtain ⟨u,k,n,e1,e2,e3⟩:=h3 0 cs[0] (by simp[h4])
  have e4:u=3:=by simpa using e1.symm
  subst e4
  have e5:Tryz.prog.underlying 3=some (.int .i64):=Tryz.underlying3
  rw[e5] at e2
  cases e2
  exact ⟨n,by simp[World.cell?,h1,h4,e3]⟩
theorem heap_eight {W:World} (hs:W.ShapedOpen Tryz.prog):8≤W.heap.size:=by
 have h0:(((begin Tryz.prog (fun _ _=>0) default).world.heap[7]?).bind Obj.row?).isSome=true:=by kernel_rfl
 obtain ⟨⟨zero,t'⟩,h0'⟩:=Option.isSome_iff_exists.1 h0
 obtain ⟨cs,h1,_⟩:=hs.1 7 zero t' (of_decide_eq_true (by kernel_rfl)) h0'
 have:=(Array.getElem?_eq_some_iff.1 h1).1
 omega
theorem num_not {W:World} {g:Nat} {t:TypeId} {m:Nat} {ts:List TypeId} (h:NumCells W g t m ts) {i:Nat} {s:ByteArray} (hc:W.cell? ⟨g,i,none⟩=some (.string s)):False:=by
 obtain ⟨cs,h1,_,h3⟩:=h
 simp only[World.cell?,h1,Option.isSome_none,Bool.false_eq_true,if_false] at hc
 obtain ⟨u,k,n,_,_,h4⟩:=h3 i _ hc
 cases h4
theorem iface_not {W:World} {g:Nat} {name:String} {tp:TypeId} {p:Value} (hg:Tryz.prog.globalNamed name=some g) (h:W.var? Tryz.prog name=some #[.iface tp p]) {i:Nat} {s:ByteArray} (hc:W.cell? ⟨g,i,none⟩=some (.string s)):False:=by
 unfold World.var? at h
 rw[hg,Option.bind_some] at h
 simp only[World.cell?] at hc
 split at h
 ·rename_i cs t fr hh
  rw[hh] at hc
  cases h
  simp only[Option.isSome_none,Bool.false_eq_true,if_false] at hc
  cases i with
  |zero=>simp at hc
  |succ i=>simp at hc
 ·cases h
theorem no_string {W:World} (hG:GW 8 W) (hs:W.ShapedOpen Tryz.prog) {b i:Nat} {s:ByteArray} (h:W.cell? ⟨b,i,none⟩=some (.string s)):8≤b:=by
 rcases Nat.lt_or_ge b 8 with hb|hb
 ·exfalso
  have h8:b=0∨b=1∨b=2∨b=3∨b=4∨b=5∨b=6∨b=7:=by omega
  obtain ⟨tp,p,hv⟩:=hG.errSyntax
  obtain ⟨tp',p',hv'⟩:=hG.errRange
  have e0:=fun i s=>num_not (i:=i) (s:=s) (cells0 hs)
  have e1:=fun i s=>num_not (i:=i) (s:=s) (cells1 hs)
  have e4:=fun i s=>num_not (i:=i) (s:=s) (cells4 hs)
  have e5:=fun i s=>num_not (i:=i) (s:=s) (cells5 hs)
  have e6:=fun i s=>num_not (i:=i) (s:=s) (cells6 hs)
  have e7:=fun i s=>num_not (i:=i) (s:=s) (cells7 hs)
  have e2:=fun i s=>iface_not (g:=6) (i:=i) (s:=s) (by kernel_rfl) hv
  have e3:=fun i s=>iface_not (g:=7) (i:=i) (s:=s) (by kernel_rfl) hv'
  rcases h8 with rfl|rfl|rfl|rfl|rfl|rfl|rfl|rfl
  all_goals first|exact e0 _ _ h|exact e1 _ _ h|exact e2 _ _ h|exact e3 _ _ h|exact e4 _ _ h|exact e5 _ _ h|exact e6 _ _ h|exact e7 _ _ h
 ·exact hb
theorem post_of_below {H:Type} {enc:TypeId×Value→H} {P:Program} {f:Func} {s:ChangeSpec} {apart fresh handsOn again:Bool} {W W':World} {args:Array Value} {v:Value} {ds gs:List (DataW H)} {before pa pv:List MemPlace}
  (hW:DataW.Whole enc P f.params.toList s.vars apart W args.toList ds gs before)
  (hres:∀ (b:Nat) (sp:Nat→Bool) (hd:Bool),DataW.TrodAll enc P W' b sp hd f.resultTypes.toList (v.resultList f.resultTypes.size) (s.fn H (ds++gs)).results [])
  (hargs:∀ sp:Nat→Bool,(∀ p∈before,sp p.block=true)→DataW.TrodAll enc P W' 0 sp true f.params.toList args.toList (s.fn H (ds++gs)).args pa)
  (hvars:∀ sp:Nat→Bool,(∀ p∈before,sp p.block=true)→DataW.TrodVars enc P W' sp s.vars (s.fn H (ds++gs)).vars pv)
  (hps:before=pa++pv) (hb:Below W.heap.size W W')
  (hok:∀ (j:Nat) (t:TypeId) (r:Value),f.resultTypes[j]? = some t→(v.resultList f.resultTypes.size)[j]? = some r→Value.okWide P W' .any 0 t r) :
  s.post enc P f apart fresh handsOn again W args v W':=by
 have hold:∀ p∈before,(fun b=>decide (b<W.heap.size)) p.block=true:=fun p hp=>by simpa using hW.lt p hp
 have hlt:=hW.lt
 refine ⟨ds,gs,before,[],pa,pv,hW,hres _ _ _,hargs _ hold,hvars _ hold,World.keptBut_mono (fun p hp=>⟨hp,?_⟩) (hb.frame (·∈before)),fun _=>?_⟩
 ·rw[hps,List.mem_append] at hp
  exact Or.inr hp
 ·obtain ⟨_,_,_,_,_,hz,hn⟩:=hW
  refine ⟨hok,_,_,([]++pa)++pv,⟨[]++pa,pv,trodAll_append (hargs _ (fun _ _=>rfl)) (hres _ _ _),hvars _ (fun _ _=>rfl),rfl,?_,?_⟩,?_⟩
  ·intro b off hp
   have hp':MemPlace.cell b off∈before:=by rw[hps];simpa using hp
   rw[hb.frozen (p:=⟨b,off,none⟩) (hlt _ hp')]
   exact hz b off hp'
  ·intro ha
   have:=hn ha
   rw[hps] at this
   simpa using this
  ·intro p hp _
   rw[hps]
   simpa using hp
noncomputable def low:Nat:=(World.holding Tryz.prog default ⟨#[],#[],[]⟩).heap.size
noncomputable def laidWorld (os:Os):World:=
 let w0:=World.holding Tryz.prog os ⟨#[.cells #[.string ⟨#[118,97,108,117,101,32,111,117,116,32,111,102,32,114,97,110,103,101]⟩] 174,.cells #[.string ⟨#[105,110,118,97,108,105,100,32,115,121,110,116,97,120]⟩] 174],#[],[]⟩
 let put (h:Array Obj) (g:Nat) (cs:Array Value):Array Obj:=h.modify g fun
  |.cells _ t frozen=>.cells cs t frozen
  |o=>o
 { w0 with heap:=put (put (put (put (put (put (put w0.heap 4 #[.int .u8 0,.int .u8 1,.int .u8 28,.int .u8 2,.int .u8 29,.int .u8 14,.int .u8 24,.int .u8 3,.int .u8 30,.int .u8 22,.int .u8 20,.int .u8 15,.int .u8 25,.int .u8 17,.int .u8 4,.int .u8 8,.int .u8 31,.int .u8 27,.int .u8 13,.int .u8 23,.int .u8 21,.int .u8 19,.int .u8 16,.int .u8 7,.int .u8 26,.int .u8 12,.int .u8 18,.int .u8 6,.int .u8 11,.int .u8 5,.int .u8 10,.int .u8 9]) 5 #[.int .u8 0,.int .u8 1,.int .u8 56,.int .u8 2,.int .u8 57,.int .u8 49,.int .u8 28,.int .u8 3,.int .u8 61,.int .u8 58,.int .u8 42,.int .u8 50,.int .u8 38,.int .u8 29,.int .u8 17,.int .u8 4,.int .u8 62,.int .u8 47,.int .u8 59,.int .u8 36,.int .u8 45,.int .u8 43,.int .u8 51,.int .u8 22,.int .u8 53,.int .u8 39,.int .u8 33,.int .u8 30,.int .u8 24,.int .u8 18,.int .u8 12,.int .u8 5,.int .u8 63,.int .u8 55,.int .u8 48,.int .u8 27,.int .u8 60,.int .u8 41,.int .u8 37,.int .u8 16,.int .u8 46,.int .u8 35,.int .u8 44,.int .u8 21,.int .u8 52,.int .u8 32,.int .u8 23,.int .u8 11,.int .u8 54,.int .u8 26,.int .u8 40,.int .u8 15,.int .u8 34,.int .u8 20,.int .u8 31,.int .u8 10,.int .u8 25,.int .u8 14,.int .u8 19,.int .u8 9,.int .u8 13,.int .u8 8,.int .u8 7,.int .u8 6]) 0 #[.int .u64 1,.int .u64 10,.int .u64 100,.int .u64 1000,.int .u64 10000,.int .u64 100000,.int .u64 1000000,.int .u64 10000000,.int .u64 100000000,.int .u64 1000000000,.int .u64 10000000000,.int .u64 100000000000,.int .u64 1000000000000,.int .u64 10000000000000,.int .u64 100000000000000,.int .u64 1000000000000000,.int .u64 10000000000000000,.int .u64 100000000000000000,.int .u64 1000000000000000000,.int .u64 10000000000000000000]) 3 #[.int .u8 128,.int .u8 191,.int .u8 160,.int .u8 191,.int .u8 128,.int .u8 159,.int .u8 144,.int .u8 191,.int .u8 128,.int .u8 143,.int .u8 0,.int .u8 0,.int .u8 0,.int .u8 0,.int .u8 0,.int .u8 0,.int .u8 0,.int .u8 0,.int .u8 0,.int .u8 0,.int .u8 0,.int .u8 0,.int .u8 0,.int .u8 0,.int .u8 0,.int .u8 0,.int .u8 0,.int .u8 0,.int .u8 0,.int .u8 0,.int .u8 0,.int .u8 0]) 2 (Go.Pinned.utf8FirstZ.map fun n:Nat=>Value.int .u8 (n:Int)).toArray) 7 #[.iface 172 (.pointer (some ⟨low,0,none⟩))]) 6 #[.iface 172 (.pointer (some ⟨low+1,0,none⟩))] }
theorem laid_met (os:Os) (args:Array Value):laidMet Tryz.prog lst ((laidWorld os).forCall (fun _ _=>0) ⟨#[],args,[]⟩).memory:=
 laidMet_of_run' 8 (by kernel_rfl) (by kernel_rfl)
end Go.Proofs.YtocofhbdbgnmbaaGreatDoor
namespace Go.Proofs.YtocofhbdbgnmbaaGreatDoor
open Go.ChangeShapes Go.WideShapes Go.ChangeAt Go.RowKit
set_option maxRecDepth 100000
theorem laidOut:laidOutB Tryz.prog=true:=by kernel_rfl
theorem rows_of {W:World} {L:Go.GL.Live} {b:Nat}:∀ (l:List (List UInt8)) (off:Nat),(∀ i (h:i<l.length),off+i<L b∧W.cell? ⟨b,off+i,none⟩=some (.string ⟨l[i].toArray⟩))→Go.GL.RepRows W L b 1 off (l.map Go.GL.str)
 |[],off,h=>by simp[Go.GL.RepRows]
 |s::l,off,h=>by
  have h0:=h 0 (by simp)
  simp only[List.map_cons,Go.GL.str,Go.GL.RepRows]
  refine ⟨⟨trivial,h0.1,_,h0.2,rfl⟩,?_⟩
  refine rows_of l (off+1) fun i hi=>?_
  have:=h (i+1) (by simpa using hi)
  rw[show off+(i+1)=off+1+i by omega] at this
  simpa using this
theorem relH_of {W:World} {L:Go.GL.Live} (hs:W.ShapedOpen Tryz.prog) (h1:∀ b,b<8→L b=0) (h2:∀ b,W.heap.size≤b→L b=0):Go.GL.RelH (KC 8 W) W L []:=
 ⟨Below.refl _ _,trivial,heap_eight hs,h2,List.nodup_nil,by simp⟩
theorem open_words {H:Type} {enc:TypeId×Value→H} {W:World} {v:Value} {d:DataW H} {ps:List MemPlace} {base:Nat} (hG:GW 8 W) (hs:W.ShapedOpen Tryz.prog) (hval:Value.okWide Tryz.prog W .any base 40 v) (hd:DataW.Trod enc Tryz.prog W 0 (fun _=>true) true 40 v d ps) :
  ∃ (l:List (List UInt8)) (L:Go.GL.Live),Go.GL.RepL W L [.list (l.map Go.GL.str)] [v]∧Go.GL.RelH (KC 8 W) W L []:=by
 have ht:Tryz.prog.underlying 40=some (.slice 9):=by kernel_rfl
 have he:Tryz.prog.underlying 9=some .string:=by kernel_rfl
 have hc:Tryz.prog.cellsOf 9=1:=by kernel_rfl
 obtain ⟨a0,len0,cap0,rfl⟩:=okWide_slice ht hval
 obtain ⟨fuel,hf⟩:=hd
 have nilcase:∀ cap,Go.GL.RepL W (fun _=>0) [.list (([]:List (List UInt8)).map Go.GL.str)] [.slice a0 0 cap]:=fun cap=>by
  simp only[Go.GL.RepL,Go.GL.Rep,List.map_nil]
  exact ⟨_,_,rfl,⟨a0,cap,rfl,Nat.zero_le _,fun h=>absurd rfl h⟩,rfl⟩
 rcases open_strings ht he hc hf with ⟨hcs,hx⟩|⟨a,len,cap,ss,hcs,_,hl,hm,hz,hx,hcell,hsz⟩
 ·have e0:Value.slice a0 len0 cap0=.slice none 0 0:=by
   have:[Value.slice a0 len0 cap0]=[.slice none 0 0]:=hcs
   exact List.head_eq_of_cons_eq this
  injection e0 with e1 e2 e3
  subst e2
  exact ⟨[],fun _=>0,nilcase _,relH_of hs (fun _ _=>rfl) (fun _ _=>rfl)⟩
 ·have e0:Value.slice a0 len0 cap0=.slice (some a) len cap:=by
   have:[Value.slice a0 len0 cap0]=[.slice (some a) len cap]:=hcs
   exact List.head_eq_of_cons_eq this
  injection e0 with e1 e2 e3
  subst e1 e2 e3
  rw[if_pos rfl] at hz
  by_cases h0:len0=0
  ·subst h0
   exact ⟨[],fun _=>0,nilcase _,relH_of hs (fun _ _=>rfl) (fun _ _=>rfl)⟩
  ·have hsp:a.spot=none:=by
    unfold Value.okWide at hval
    rw[ht] at hval
    simp only[Cell.okWide,ht,Cell.ok] at hval
    exact hval.2.2.2.1
   obtain ⟨b,off,sp⟩:=a
   simp only at hsp
   subst hsp
   have hcell':∀ i (h:i<ss.length),W.cell? ⟨b,off+i,none⟩=some (.string ss[i]):=fun i hi=>by
    have:=hcell i hi
    rw[List.getD_eq_getElem?_getD,List.getElem?_eq_getElem hi] at this
    unfold Addr.add at this
    split at this
    ·rename_i h
     subst h
     exact this
    ·exact this
   have h8:=no_string hG hs (hcell' 0 (by omega))
   have hlt:=World.block_lt_of_cell? _ _ (hcell' 0 (by omega))
   have hll:((ss.take len0).map fun s=>s.data.toList).length=len0:=by rw[List.length_map,List.length_take];omega
   refine ⟨(ss.take len0).map fun s=>s.data.toList,fun x=>if x=b then off+len0 else 0,?_,relH_of hs (fun x hx=>if_neg (by omega)) (fun x hx=>if_neg (by simp only at hlt;omega))⟩
   simp only[Go.GL.RepL,Go.GL.Rep]
   refine ⟨_,_,rfl,⟨some ⟨b,off,none⟩,cap0,by rw[List.length_map,hll],by rw[List.length_map,hll];exact hl,fun _=>⟨b,off,1,rfl,rows_of _ _ fun i hi=>?_⟩⟩,rfl⟩
   have hi':i<len0:=by rw[hll] at hi;exact hi
   refine ⟨by simp only[if_true];omega,?_⟩
   rw[hcell' i (by omega)]
   simp
theorem lift_at {f:FuncId} {args:List Go.GL.LV} {vs:List Value} {W:World} {L:Go.GL.Live} (h:Go.GL.LCalls (KC 8 W) f args [] (Go.GL.Ret (Go.GL.bool true))) (hr:Go.GL.RepL W L args vs) (hR:Go.GL.RelH (KC 8 W) W L []):Calls Tryz.prog f vs.toArray W fun e W'=>e=.returned (.bool true)∧Below W.heap.size W W':=by
 refine (h vs W L hr hR).mono ?_
 intro e W' he
 cases e with
 |returned v=>
  obtain ⟨lv,H',L',h1,h2,h3,h4,_⟩:=he
  injection h4 with h4
  subst h4
  simp only[Go.GL.Rep] at h3
  subst h3
  exact ⟨rfl,h1.os,h1.tape,h1.output,h1.ext.size,fun k hk=>h1.block k hk (by simp[Go.GL.keys])⟩
 |panicked ch=>
  obtain ⟨H',L',h1,h2,h3,_⟩:=he
  cases h3
 |outgrown=>exact he.elim
theorem u8_nat {n:Int} (h:(Lit.int .u8 n).wf=true):∃ a:Nat,n=(a:Int)∧a<256:=by
 simp[Lit.wf] at h
 have h2:0≤n∧n<256:=by
  have:=h
  simp[IntKind.has,IntKind.min,IntKind.max,IntKind.signed,IntKind.bits] at this
  omega
 exact ⟨n.toNat,by omega,by omega⟩
theorem repL_cons {W:World} {L:Go.GL.Live} {a:Go.GL.LV} {bs:List Go.GL.LV} {v:Value} {vs:List Value} (h:Go.GL.RepL W L [a] [v]) (h':Go.GL.RepL W L bs vs):Go.GL.RepL W L (a::bs) (v::vs):=by
 simp only[Go.GL.RepL] at h ⊢
 obtain ⟨y,ys,hx,h1,h2⟩:=h
 simp only[List.cons.injEq] at hx
 obtain ⟨rfl,rfl⟩:=hx
 exact ⟨_,_,rfl,h1,h'⟩
theorem stay_words {H:Type} {enc:TypeId×Value→H} {W W':World} {v:Value} {d:DataW H} {ps:List MemPlace} {sp:Nat→Bool} (hd:DataW.Trod enc Tryz.prog W 0 (fun _=>true) true 40 v d ps) (hb:Below W.heap.size W W') (hlt:∀ x∈ps,x.block<W.heap.size) (hsp:∀ p∈ps,sp p.block=true):DataW.Trod enc Tryz.prog W' 0 sp true 40 v d ps:=
 WideElems.Trod_stays laidOut (by kernel_rfl) (of_decide_eq_true (by kernel_rfl)) hd (fun x hx=>hb.same (hlt x hx)) hsp
end Go.Proofs.YtocofhbdbgnmbaaGreatDoor
