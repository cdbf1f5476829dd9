import Derived.Test.YtjolancjacdeaaaGreatDoorCards
import Derived.Test.YtjolancjacdeaaaGreatDoorTie
import Derived.ProofKit
import Derived.OpenShut
import Derived.ChangeMaps5
import Derived.Deep.DeepHandedRow
import Derived.Lib.LaidTab
import Derived.ChangeSlices
import Derived.WideKeyArgs
import Derived.Lib.SmallJoins
import Derived.Test.YtjolancjacdeaaaGreatDoorBRowRM9
set_option linter.unusedVariables false
set_option linter.unusedSimpArgs false
set_option maxRecDepth 100000
set_option maxHeartbeats 4000000
open Go.GL (zk)
namespace Go.Proofs.YtjolancjacdeaaaGreatDoor
open Go.ChangeShapes Go.WideShapes Go.ChangeAt Go.RowKit
variable{W:World}
theorem own:ownKnob Tryz.prog.godebug=none:=zk
def NF : List (String × DataW Unit) := [("math/bits.deBruijn32tab", Rows.laid_math_bits_deBruijn32tab), ("math/bits.deBruijn64tab", Rows.laid_math_bits_deBruijn64tab), ("internal/strconv.uint64pow10", Rows.laid_internal_strconv_uint64pow10), ("strconv.ErrRange", Rows.laid_strconv_ErrRange), ("strconv.ErrSyntax", Rows.laid_strconv_ErrSyntax)]
theorem qpa(hs:W.ShapedOpen Tryz.prog):8<=W.heap.size:=by
 have h0:(((begin Tryz.prog (λ_ _=>0) default).world.heap[7]?).bind Obj.row?).isSome=true:=by kernel_rfl
 obtain⟨⟨zero,t'⟩,wE⟩:=zR h0;obtain⟨cs,h1,_⟩:=hs.1 7 zero t' (Ck zk) wE;have:=(Array.getElem?_eq_some_iff.1 h1).1;omega
theorem yY(h:laidMetH Tryz.prog NF W)(hs:W.ShapedOpen Tryz.prog):GW 8 W/\8<=W.heap.size:=by
 have h0:laidMet Tryz.prog NF W:=h;have hp : laidMet Tryz.prog [("internal/strconv.uint64pow10", Rows.laid_internal_strconv_uint64pow10)] W := h0.filter (fun x => x.1 == "internal/strconv.uint64pow10");have he : laidMet Tryz.prog [("strconv.ErrRange", Rows.laid_strconv_ErrRange)] W := h0.filter (fun x => x.1 == "strconv.ErrRange");obtain⟨ps,⟨g,t,cs,Xa,p,q,hg,ht,ml,hd,_,_⟩,_⟩:=he;have Cz : Tryz.prog.globalNamed "strconv.ErrRange" = some 4 := by kernel_rfl
 obtain rfl:=Option.some.inj (Cz.symm.trans hg);have XR:(Tryz.prog.globals[4]?).map (·.type)=some 78:=by kernel_rfl
 obtain rfl:=Option.some.inj (XR.symm.trans ht);obtain⟨ms,Ut⟩:∃ ms,Tryz.prog.underlying 78=some (.interface ms):=(inferInstance:Go.GL.Ve Tryz.prog 78).zd;refine⟨⟨?_,?_,mc _⟩,qpa hs⟩;exact Lib.tabIs_of_head (g:=5) (t:=298) (e:=235) (n:=20) (rest:=[]) zk zk zk zk zk zk hp;obtain⟨_,u,v,ZD,_,_⟩:=iface_of_trod Ut hd;refine⟨u,v,?_⟩;rw[ml];congr 1;exact Array.ext' (by simpa using ZD)
theorem W5{L:Go.GL.Live}(h8:8<=W.heap.size)(h2:∀ b,W.heap.size<=b->L b=0):Go.GL.Ca (KC 8 W) W L []:=
 ⟨Below.refl _ _,trivial,h8,h2,List.nodup_nil,by simp⟩
theorem E6{f:FuncId}{args:List Go.GL.LV}{vs:List Value}{L:Go.GL.Live}(h:Go.GL.aa (KC 8 W) f args [] (Go.GL.gb (Go.GL.bool true)))(hr:Go.GL.na W L args vs)(hR:Go.GL.Ca (KC 8 W) W L []):Calls Tryz.prog f vs.toArray W λe W'=>e=.returned (.bool true)/\Below W.heap.size W W':=by
 refine(h vs W L hr hR).mono ?_;intro e W' he;cases e with
 |returned v=>obtain⟨lv,H',L',h1,h2,h3,h4,_⟩:=he;injection h4 with h4;subst h4;simp only[Go.GL.Wa] at h3;subst h3;exact⟨rfl,h1.os,h1.tape,h1.output,h1.ext.size,λk hk=>h1.block k hk (by simp[Go.GL.keys])⟩
 |panicked ch=>obtain⟨H',L',h1,h2,h3,_⟩:=he;cases h3
 |outgrown=>exact he.elim
theorem qkE{H:Type}{enc:TypeId×Value->H}{P:Program}{f:Func}{s:ChangeSpec}{apart fresh handsOn again:Bool}{W':World}{args:Array Value}{v:Value}{ds gs:List (DataW H)}{before pa pv:List MemPlace}
  (hW:DataW.Whole enc P f.params.toList s.vars apart W args.toList ds gs before)
  (dJ:∀ (b:Nat) (sp:Nat->Bool) (hd:Bool),DataW.TrodAll enc P W' b sp hd f.resultTypes.toList (v.resultList f.resultTypes.size) (s.fn H (ds++gs)).results [])
  (xw:∀ sp:Nat->Bool,(∀ p∈before,sp p.block=true)->DataW.TrodAll enc P W' 0 sp true f.params.toList args.toList (s.fn H (ds++gs)).args pa)
  (dB:∀ sp:Nat->Bool,(∀ p∈before,sp p.block=true)->DataW.TrodVars enc P W' sp s.vars (s.fn H (ds++gs)).vars pv)
  (ql:before=pa++pv) (hb:Below W.heap.size W W')
  (He:∀ (j:Nat) (t:TypeId) (r:Value),f.resultTypes[j]? = some t->(v.resultList f.resultTypes.size)[j]? = some r->Value.okWide P W' .any 0 t r) :
  s.post enc P f apart fresh handsOn again W args v W':=by
 have hold:∀ p∈before,(λb=>decide (b<W.heap.size)) p.block=true:=λp hp=>by simpa using hW.lt p hp
 have wa:=hW.lt;refine⟨ds,gs,before,[],pa,pv,hW,dJ _ _ _,xw _ hold,dB _ hold,World.keptBut_mono (λp hp=>⟨hp,?_⟩) (hb.frame (·∈before)),λ_=>?_⟩;rw[ql,List.mem_append] at hp;exact Or.inr hp;obtain⟨_,_,_,_,_,hz,hn⟩:=hW;refine⟨He,_,_,([]++pa)++pv,⟨[]++pa,pv,trodAll_append (xw _ λ_ _=>rfl) (dJ _ _ _),dB _ λ_ _=>rfl,rfl,?_,?_⟩,?_⟩;intro b off hp;have sk:MemPlace.cell b off∈before:=by rw[ql];simpa using hp
 rw[hb.frozen (p:=⟨b,off,none⟩) (wa _ sk)];exact hz b off sk;intro ha;have:=hn ha;rw[ql] at this;simpa using this;intro p hp _;rw[ql];simpa using hp
noncomputable def low:Nat:=(World.holding Tryz.prog default ⟨#[],#[],[]⟩).heap.size
def rD : List (String × DataW Unit) := [("math/bits.deBruijn32tab", Rows.laid_math_bits_deBruijn32tab), ("math/bits.deBruijn64tab", Rows.laid_math_bits_deBruijn64tab), ("internal/strconv.uint64pow10", Rows.laid_internal_strconv_uint64pow10), ("unicode/utf8.acceptRanges", Rows.laid_unicode_utf8_acceptRanges), ("strconv.ErrRange", Rows.laid_strconv_ErrRange), ("strconv.ErrSyntax", Rows.laid_strconv_ErrSyntax), ("unicode/utf8.first", Rows.laid_unicode_utf8_first)]
theorem DU(h:laidMetH Tryz.prog rD W):laidMetH Tryz.prog NF W:=by have h0:laidMet Tryz.prog rD W:=h;exact (show laidMet Tryz.prog NF W from h0.filter (fun x => !(x.1 == "unicode/utf8.acceptRanges") && !(x.1 == "unicode/utf8.first")))
noncomputable def gi(os:Os):World:=
 let w0:=World.holding Tryz.prog os ⟨#[.cells #[.string ⟨#[118,97,108,117,101,32,111,117,116,32,111,102,32,114,97,110,103,101]⟩] 306,.cells #[.string ⟨#[105,110,118,97,108,105,100,32,115,121,110,116,97,120]⟩] 306],#[],[]⟩
 let put (h:Array Obj) (g:Nat) (cs:Array Value):Array Obj:=h.modify g fun
  |.cells _ t frozen=>.cells cs t frozen
  |o=>o
 { w0 with heap:=put (put (put (put (put (put (put w0.heap 6 #[.int .u8 0,.int .u8 1,.int .u8 28,.int .u8 2,.int .u8 29,.int .u8 14,.int .u8 24,.int .u8 3,.int .u8 30,.int .u8 22,.int .u8 20,.int .u8 15,.int .u8 25,.int .u8 17,.int .u8 4,.int .u8 8,.int .u8 31,.int .u8 27,.int .u8 13,.int .u8 23,.int .u8 21,.int .u8 19,.int .u8 16,.int .u8 7,.int .u8 26,.int .u8 12,.int .u8 18,.int .u8 6,.int .u8 11,.int .u8 5,.int .u8 10,.int .u8 9]) 7 #[.int .u8 0,.int .u8 1,.int .u8 56,.int .u8 2,.int .u8 57,.int .u8 49,.int .u8 28,.int .u8 3,.int .u8 61,.int .u8 58,.int .u8 42,.int .u8 50,.int .u8 38,.int .u8 29,.int .u8 17,.int .u8 4,.int .u8 62,.int .u8 47,.int .u8 59,.int .u8 36,.int .u8 45,.int .u8 43,.int .u8 51,.int .u8 22,.int .u8 53,.int .u8 39,.int .u8 33,.int .u8 30,.int .u8 24,.int .u8 18,.int .u8 12,.int .u8 5,.int .u8 63,.int .u8 55,.int .u8 48,.int .u8 27,.int .u8 60,.int .u8 41,.int .u8 37,.int .u8 16,.int .u8 46,.int .u8 35,.int .u8 44,.int .u8 21,.int .u8 52,.int .u8 32,.int .u8 23,.int .u8 11,.int .u8 54,.int .u8 26,.int .u8 40,.int .u8 15,.int .u8 34,.int .u8 20,.int .u8 31,.int .u8 10,.int .u8 25,.int .u8 14,.int .u8 19,.int .u8 9,.int .u8 13,.int .u8 8,.int .u8 7,.int .u8 6]) 5 #[.int .u64 1,.int .u64 10,.int .u64 100,.int .u64 1000,.int .u64 10000,.int .u64 100000,.int .u64 1000000,.int .u64 10000000,.int .u64 100000000,.int .u64 1000000000,.int .u64 10000000000,.int .u64 100000000000,.int .u64 1000000000000,.int .u64 10000000000000,.int .u64 100000000000000,.int .u64 1000000000000000,.int .u64 10000000000000000,.int .u64 100000000000000000,.int .u64 1000000000000000000,.int .u64 10000000000000000000]) 2 #[.int .u8 128,.int .u8 191,.int .u8 160,.int .u8 191,.int .u8 128,.int .u8 159,.int .u8 144,.int .u8 191,.int .u8 128,.int .u8 143,.int .u8 0,.int .u8 0,.int .u8 0,.int .u8 0,.int .u8 0,.int .u8 0,.int .u8 0,.int .u8 0,.int .u8 0,.int .u8 0,.int .u8 0,.int .u8 0,.int .u8 0,.int .u8 0,.int .u8 0,.int .u8 0,.int .u8 0,.int .u8 0,.int .u8 0,.int .u8 0,.int .u8 0,.int .u8 0]) 1 (Go.Pinned.utf8FirstZ.map λn:Nat=>Value.int .u8 (n:Int)).toArray) 4 #[.iface 304 (.pointer (some ⟨low,0,none⟩))]) 3 #[.iface 304 (.pointer (some ⟨low+1,0,none⟩))] }
theorem S8(os:Os)(args:Array Value):laidMet Tryz.prog rD ((gi os).forCall (λ_ _=>0) ⟨#[],args,[]⟩).memory:=
 laidMet_of_run' 8 zk zk
def XW(W:World)(g:Nat)(t:TypeId)(n:Nat)(ts:List TypeId):Prop:=∃ cs,W.heap[g]? = some (.cells cs t)/\cs.size=n/\∀ i v,cs[i]? = some v->∃ u k n,ts[i % ts.length]? = some u/\Tryz.prog.underlying u=some (.int k)/\v=.int k n
theorem qrL(hs:W.ShapedOpen Tryz.prog)(g:Nat)(t:TypeId)(n:Nat)(ts:List TypeId)(hg:decide (g<Tryz.prog.globals.size)=true)(h0:(((begin Tryz.prog (λ_ _=>0) default).world.heap[g]?).bind Obj.row?).map (λr=>(r.1.size,r.2))=some (n,t))(hb:Tryz.prog.buildable t=true)(hc:Tryz.prog.cellTypes Tryz.prog.depth t=some ts)
  (bc:(ts.all λu=>match Tryz.prog.underlying u with|some (.int _)=>true|_=>false)=true):XW W g t n ts:=by
 obtain⟨⟨zero,t'⟩,wE,h1⟩:=Option.map_eq_some_iff.1 h0;simp only[Prod.mk.injEq] at h1;obtain⟨rfl,rfl⟩:=h1;obtain⟨cs,h1,h2,h3⟩:=hs.1 g zero _ (Ck hg) wE;obtain⟨ts',e1,e2,e3⟩:=h3 hb;obtain rfl:=Option.some.inj (hc.symm.trans e1);refine⟨cs,h1,h2,λi v hv=>?_⟩;obtain⟨u,hu,He⟩:=e3 i v hv;have:=List.all_eq_true.1 bc u (List.mem_of_getElem? hu);unfold Cell.ok at He;split at this
 rename_i k hk;rw[hk] at He;cases v <;> simp only at He
 rename_i k' n;exact⟨u,k,n,hu,hk,by rw[He.1]⟩;cases this
theorem y6(hs:W.ShapedOpen Tryz.prog):XW W 0 3 1 [3]:=qrL hs 0 3 1 [3] zk zk zk zk zk
theorem MU(hs:W.ShapedOpen Tryz.prog):Rk.GM W:=by
 obtain⟨cs,h1,h2,h3⟩:=y6 hs;have h4:0<cs.size:=by omega
 obtain⟨u,k,n,e1,e2,e3⟩:=h3 0 cs[0] (by simp[h4]);have e4:u=3:=by simpa using e1.symm
 subst e4;have e5:Tryz.prog.underlying 3=some (.int .i64):=Tryz.underlying3;rw[e5] at e2;cases e2;exact⟨n,by simp[World.cell?,h1,h4,e3]⟩
open Go.ChangeShapes Go.WideShapes Go.ChangeAt Go.RowKit Go.Deep Go.Joins
end Go.Proofs.YtjolancjacdeaaaGreatDoor
