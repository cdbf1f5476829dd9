import Derived.Test.YtegmklafpoldgaaGreatDoorCards
import Derived.Test.YtegmklafpoldgaaGreatDoorTie
import Derived.ProofKit
import Derived.OpenShut
import Derived.ChangeMaps5
import Derived.Deep.DeepHandedRow
import Derived.Lib.LaidTab
import Derived.ChangeSlices
import Derived.WideKeyArgs
import Derived.Lib.SmallJoins
import Derived.JoinedCond
import Derived.JoinedOf
import Derived.Test.YtegmklafpoldgaaGreatDoorBRowTC5
set_option linter.unusedVariables false
set_option linter.unusedSimpArgs false
set_option maxRecDepth 100000
set_option maxHeartbeats 4000000
open Go.GL (zk)
open List (map_nil not_mem_nil sum_cons sum_nil)
open Nat (add_zero zero_le)
namespace Go.Proofs.YtegmklafpoldgaaGreatDoor
open Go.ChangeShapes Go.WideShapes Go.ChangeAt Go.RowKit
variable{W W':World}{v:Value}{vs:List Value}
theorem own:ownKnob Tryz.prog.godebug=none:=zk
def lst : List (String × DataW Unit) := [("math/bits.deBruijn32tab", Rows.laid_math_bits_deBruijn32tab), ("math/bits.deBruijn64tab", Rows.laid_math_bits_deBruijn64tab), ("internal/strconv.uint64pow10", Rows.laid_internal_strconv_uint64pow10), ("strconv.ErrRange", Rows.laid_strconv_ErrRange), ("strconv.ErrSyntax", Rows.laid_strconv_ErrSyntax)]
theorem qpX(hs:W.ShapedOpen Tryz.prog):8<=W.heap.size:=by
 have h0:(((begin Tryz.prog (λ_ _=>0) default).world.heap[7]?).bind Obj.row?).isSome=true:=by kernel_rfl
 obtain⟨⟨zero,t'⟩,h0'⟩:=zR h0;obtain⟨cs,h1,_⟩:=hs.1 7 zero t' (zRi zk) h0';have:=(Array.getElem?_eq_some_iff.1 h1).1;omega
theorem qle(h:laidMetH Tryz.prog lst W)(hs:W.ShapedOpen Tryz.prog):GW 8 W/\8<=W.heap.size:=by
 have h0:laidMet Tryz.prog lst W:=h
 have hp : laidMet Tryz.prog [("internal/strconv.uint64pow10", Rows.laid_internal_strconv_uint64pow10)] W := h0.filter (fun x => x.1 == "internal/strconv.uint64pow10")
 have he : laidMet Tryz.prog [("strconv.ErrRange", Rows.laid_strconv_ErrRange)] W := h0.filter (fun x => x.1 == "strconv.ErrRange")
 obtain⟨ps,⟨g,t,cs,fuel,p,q,hg,ht,hvar,hd,_,_⟩,_⟩:=he
 have hg' : Tryz.prog.globalNamed "strconv.ErrRange" = some 5 := by kernel_rfl
 obtain rfl:=Option.some.inj (hg'.symm.trans hg);have ht':(Tryz.prog.globals[5]?).map (·.type)=some 137:=by kernel_rfl
 obtain rfl:=Option.some.inj (ht'.symm.trans ht);obtain⟨ms,hms⟩:∃ ms,Tryz.prog.underlying 137=some (.interface ms):=(inferInstance:Go.GL.TIface Tryz.prog 137).und;refine⟨⟨?_,?_,zNr _⟩,qpX hs⟩;exact Lib.tabIs_of_head (g:=1) (t:=231) (e:=208) (n:=20) (rest:=[]) zk zk zk zk zk zk hp;obtain⟨_,u,v,hcs,_,_⟩:=iface_of_trod hms hd;refine⟨u,v,?_⟩;rw[hvar];congr 1;exact Array.ext' (by simpa using hcs)
theorem qw1{L:Go.GL.Live}(h8:8<=W.heap.size)(h2:∀ b,W.heap.size<=b->L b=0):Go.GL.RelH (KC 8 W) W L []:=
 ⟨Below.refl _ _,trivial,h8,h2,List.nodup_nil,by simp⟩
theorem qv6{f:FuncId}{args:List Go.GL.LV}{L:Go.GL.Live}(h:Go.GL.LCalls (KC 8 W) f args [] (Go.GL.Ret (Go.GL.bool true)))(hr:Go.GL.RepL W L args vs)(hR:Go.GL.RelH (KC 8 W) W L []):Calls Tryz.prog f vs.toArray W λe W'=>e=.returned (.bool true)/\Below W.heap.size W W':=by
 refine(h vs W L hr hR).mono ?_;intro e W' he
 cases e with
 |returned v=>
  obtain⟨lv,H',L',h1,h2,h3,h4,_⟩:=he;injection h4 with h4;subst h4;simp only[Go.GL.Rep] at h3;subst h3
  exact⟨rfl,h1.os,h1.tape,h1.output,h1.ext.size,λk hk=>h1.block k hk (by simp[Go.GL.keys])⟩
 |panicked ch=>
  obtain⟨H',L',h1,h2,h3,_⟩:=he
  cases h3
 |outgrown=>exact he.elim
theorem qxQ{n:Int}(h:(Lit.int .u32 n).wf=true):∃ a:Nat,n=(a:Int)/\a<4294967296:=by
 simp[Lit.wf] at h;refine⟨n.toNat,?_,?_⟩
 all_goals have:=h
 all_goals simp[IntKind.has,IntKind.min,IntKind.max,IntKind.signed,IntKind.bits] at this
 all_goals omega
theorem qlI{H:Type}{enc:TypeId×Value->H}{P:Program}{f:Func}{s:ChangeSpec}{apart fresh handsOn again:Bool}{args:Array Value}{ds gs:List (DataW H)}{before pa pv:List MemPlace}
  (hW:DataW.Whole enc P f.params.toList s.vars apart W args.toList ds gs before)
  (hres:∀ (b:Nat) (sp:Nat->Bool) (hd:Bool),DataW.TrodAll enc P W' b sp hd f.resultTypes.toList (v.resultList f.resultTypes.size) (s.fn H (ds++gs)).results [])
  (hargs:∀ sp:Nat->Bool,(∀ p∈before,sp p.block=true)->DataW.TrodAll enc P W' 0 sp true f.params.toList args.toList (s.fn H (ds++gs)).args pa)
  (hvars:∀ sp:Nat->Bool,(∀ p∈before,sp p.block=true)->DataW.TrodVars enc P W' sp s.vars (s.fn H (ds++gs)).vars pv)
  (hps:before=pa++pv) (hb:Below W.heap.size W W')
  (hok:∀ (j:Nat) (t:TypeId) (r:Value),f.resultTypes[j]? = some t->(v.resultList f.resultTypes.size)[j]? = some r->Value.okWide P W' .any 0 t r) :
  s.post enc P f apart fresh handsOn again W args v W':=by
 have hold:∀ p∈before,(λb=>decide (b<W.heap.size)) p.block=true:=λp hp=>by simpa using hW.lt p hp
 have hlt:=hW.lt;refine⟨ds,gs,before,[],pa,pv,hW,hres _ _ _,hargs _ hold,hvars _ hold,World.keptBut_mono (λp hp=>⟨hp,?_⟩) (hb.frame (·∈before)),λ_=>?_⟩;rw[hps,List.mem_append] at hp;exact Or.inr hp;obtain⟨_,_,_,_,_,hz,hn⟩:=hW;refine⟨hok,_,_,([]++pa)++pv,⟨[]++pa,pv,trodAll_append (hargs _ (λ_ _=>rfl)) (hres _ _ _),hvars _ (λ_ _=>rfl),rfl,?_,?_⟩,?_⟩;intro b off hp;have hp':MemPlace.cell b off∈before:=by rw[hps];simpa using hp
 rw[hb.frozen (p:=⟨b,off,none⟩) (hlt _ hp')];exact hz b off hp';intro ha;have:=hn ha;rw[hps] at this;simpa using this;intro p hp _;rw[hps];simpa using hp
noncomputable def low:Nat:=(World.holding Tryz.prog default ⟨#[],#[],[]⟩).heap.size
def lst7 : List (String × DataW Unit) := [("math/bits.deBruijn32tab", Rows.laid_math_bits_deBruijn32tab), ("math/bits.deBruijn64tab", Rows.laid_math_bits_deBruijn64tab), ("internal/strconv.uint64pow10", Rows.laid_internal_strconv_uint64pow10), ("unicode/utf8.acceptRanges", Rows.laid_unicode_utf8_acceptRanges), ("strconv.ErrRange", Rows.laid_strconv_ErrRange), ("strconv.ErrSyntax", Rows.laid_strconv_ErrSyntax), ("unicode/utf8.first", Rows.laid_unicode_utf8_first)]
theorem qxt(h:laidMetH Tryz.prog lst7 W):laidMetH Tryz.prog lst W:=by
 have h0:laidMet Tryz.prog lst7 W:=h
 exact (show laidMet Tryz.prog lst W from h0.filter (fun x => !(x.1 == "unicode/utf8.acceptRanges") && !(x.1 == "unicode/utf8.first")))
noncomputable def laidWorld7(os:Os):World:=
 let w0:=World.holding Tryz.prog os ⟨#[.cells #[.string ⟨#[118,97,108,117,101,32,111,117,116,32,111,102,32,114,97,110,103,101]⟩] 286,.cells #[.string ⟨#[105,110,118,97,108,105,100,32,115,121,110,116,97,120]⟩] 286],#[],[]⟩
 let put (h:Array Obj) (g:Nat) (cs:Array Value):Array Obj:=h.modify g fun
  |.cells _ t frozen=>.cells cs t frozen
  |o=>o
 { w0 with heap:=put (put (put (put (put (put (put w0.heap 2 #[.int .u8 0,.int .u8 1,.int .u8 28,.int .u8 2,.int .u8 29,.int .u8 14,.int .u8 24,.int .u8 3,.int .u8 30,.int .u8 22,.int .u8 20,.int .u8 15,.int .u8 25,.int .u8 17,.int .u8 4,.int .u8 8,.int .u8 31,.int .u8 27,.int .u8 13,.int .u8 23,.int .u8 21,.int .u8 19,.int .u8 16,.int .u8 7,.int .u8 26,.int .u8 12,.int .u8 18,.int .u8 6,.int .u8 11,.int .u8 5,.int .u8 10,.int .u8 9]) 3 #[.int .u8 0,.int .u8 1,.int .u8 56,.int .u8 2,.int .u8 57,.int .u8 49,.int .u8 28,.int .u8 3,.int .u8 61,.int .u8 58,.int .u8 42,.int .u8 50,.int .u8 38,.int .u8 29,.int .u8 17,.int .u8 4,.int .u8 62,.int .u8 47,.int .u8 59,.int .u8 36,.int .u8 45,.int .u8 43,.int .u8 51,.int .u8 22,.int .u8 53,.int .u8 39,.int .u8 33,.int .u8 30,.int .u8 24,.int .u8 18,.int .u8 12,.int .u8 5,.int .u8 63,.int .u8 55,.int .u8 48,.int .u8 27,.int .u8 60,.int .u8 41,.int .u8 37,.int .u8 16,.int .u8 46,.int .u8 35,.int .u8 44,.int .u8 21,.int .u8 52,.int .u8 32,.int .u8 23,.int .u8 11,.int .u8 54,.int .u8 26,.int .u8 40,.int .u8 15,.int .u8 34,.int .u8 20,.int .u8 31,.int .u8 10,.int .u8 25,.int .u8 14,.int .u8 19,.int .u8 9,.int .u8 13,.int .u8 8,.int .u8 7,.int .u8 6]) 1 #[.int .u64 1,.int .u64 10,.int .u64 100,.int .u64 1000,.int .u64 10000,.int .u64 100000,.int .u64 1000000,.int .u64 10000000,.int .u64 100000000,.int .u64 1000000000,.int .u64 10000000000,.int .u64 100000000000,.int .u64 1000000000000,.int .u64 10000000000000,.int .u64 100000000000000,.int .u64 1000000000000000,.int .u64 10000000000000000,.int .u64 100000000000000000,.int .u64 1000000000000000000,.int .u64 10000000000000000000]) 7 #[.int .u8 128,.int .u8 191,.int .u8 160,.int .u8 191,.int .u8 128,.int .u8 159,.int .u8 144,.int .u8 191,.int .u8 128,.int .u8 143,.int .u8 0,.int .u8 0,.int .u8 0,.int .u8 0,.int .u8 0,.int .u8 0,.int .u8 0,.int .u8 0,.int .u8 0,.int .u8 0,.int .u8 0,.int .u8 0,.int .u8 0,.int .u8 0,.int .u8 0,.int .u8 0,.int .u8 0,.int .u8 0,.int .u8 0,.int .u8 0,.int .u8 0,.int .u8 0]) 6 (Go.Pinned.utf8FirstZ.map λn:Nat=>Value.int .u8 (n:Int)).toArray) 5 #[.iface 284 (.pointer (some ⟨low,0,none⟩))]) 4 #[.iface 284 (.pointer (some ⟨low+1,0,none⟩))] }
theorem qtb(os:Os)(args:Array Value):laidMet Tryz.prog lst7 ((laidWorld7 os).forCall (λ_ _=>0) ⟨#[],args,[]⟩).memory:=
 laidMet_of_run' 8 zk zk
theorem qsF:laidOutB Tryz.prog=true:=zk
def qpq(W:World)(g:Nat)(t:TypeId)(n:Nat)(ts:List TypeId):Prop:=∃ cs,W.heap[g]? = some (.cells cs t)/\cs.size=n/\∀ i v,cs[i]? = some v->∃ u k n,ts[i % ts.length]? = some u/\Tryz.prog.underlying u=some (.int k)/\v=.int k n
theorem qso(hs:W.ShapedOpen Tryz.prog)(g:Nat)(t:TypeId)(n:Nat)(ts:List TypeId)(hg:decide (g<Tryz.prog.globals.size)=true)(h0:(((begin Tryz.prog (λ_ _=>0) default).world.heap[g]?).bind Obj.row?).map (λr=>(r.1.size,r.2))=some (n,t))(hb:Tryz.prog.buildable t=true)(hc:Tryz.prog.cellTypes Tryz.prog.depth t=some ts)
  (hall:(ts.all λu=>match Tryz.prog.underlying u with|some (.int _)=>true|_=>false)=true):qpq W g t n ts:=by
 obtain⟨⟨zero,t'⟩,h0',h1⟩:=Option.map_eq_some_iff.1 h0;simp only[Prod.mk.injEq] at h1;obtain⟨rfl,rfl⟩:=h1;obtain⟨cs,h1,h2,h3⟩:=hs.1 g zero _ (zRi hg) h0';obtain⟨ts',e1,e2,e3⟩:=h3 hb;obtain rfl:=Option.some.inj (hc.symm.trans e1);refine⟨cs,h1,h2,λi v hv=>?_⟩;obtain⟨u,hu,hok⟩:=e3 i v hv;have:=List.all_eq_true.1 hall u (List.mem_of_getElem? hu);unfold Cell.ok at hok;split at this
 rename_i k hk
 rw[hk] at hok;cases v <;> simp only at hok
 rename_i k' n
 exact⟨u,k,n,hu,hk,by rw[hok.1]⟩;cases this
theorem qxp(hs:W.ShapedOpen Tryz.prog):qpq W 0 3 1 [3]:=qso hs 0 3 1 [3] zk zk zk zk zk
theorem qxN(hs:W.ShapedOpen Tryz.prog):Asm.GM W:=by
 obtain⟨cs,h1,h2,h3⟩:=qxp hs;have h4:0<cs.size:=by omega
 obtain⟨u,k,n,e1,e2,e3⟩:=h3 0 cs[0] (by simp[h4]);have e4:u=3:=by simpa using e1.symm
 subst e4;have e5:Tryz.prog.underlying 3=some (.int .i64):=Tryz.underlying3;rw[e5] at e2;cases e2;exact⟨n,by simp[World.cell?,h1,h4,e3]⟩
open Go.ChangeShapes Go.WideShapes Go.ChangeAt Go.RowKit Go.Deep Go.Joins
open Go.GL (LV Live Rep RepL RepC qaj)
variable{b base fuel k off:Nat}
def allL(W:World):Live:=λb=>match W.heap[b]? with
 |some (.cells c _ _)=>c.size
 |_=>0
theorem qsz{x:Value}(h:W.cell? ⟨b,off,none⟩=some x):off<allL W b:=by
 unfold World.cell? at h;unfold allL;split at h
 rename_i c t z hb
 simp only[hb];simp only[Option.isSome_none,zRn,if_false] at h;exact(Array.getElem?_eq_some_iff.1 h).1;cases h
theorem qtV(h:W.heap.size<=b):allL W b=0:=by
 unfold allL;rw[Array.getElem?_eq_none h]
theorem qtc{W:World}{b:Nat}:∀ (cs:List LV) (vs:List Value) (off:Nat),RepL W (allL W) cs vs->(∀ i (h:i<vs.length),W.cell? ⟨b,off+i,none⟩=some vs[i])->RepC W (allL W) b off cs
 |[],vs,off,_,_=>by simp only[RepC]
 |c::cs,vs,off,h,hc=>by
  simp only[RepL] at h;obtain⟨y,ys,rfl,h1,h2⟩:=h;have h0:=hc 0 (by simp);simp only[add_zero,List.getElem_cons_zero] at h0;simp only[RepC];refine⟨qsz h0,⟨y,h0,h1⟩,qtc cs ys (off+1) h2 λi hi=>?_⟩;have:=hc (i+1) (by simpa using hi);rw[show off+(i+1)=off+1+i by omega] at this;simpa using this
theorem qmV{sp:Option Nat}{vs:List Value}(hk:0<k)(h:W.cells? base ⟨b,off,sp⟩ k=some vs):sp=none/\vs.length=k/\∀ i (hi:i<vs.length),W.cell? ⟨b,off+i,none⟩=some vs[i]:=by
 unfold World.cells? at h;split at h;have hl:=mapM_some_length h;rw[List.length_range] at hl;have hg:∀ i,i<k->W.cell? (Addr.add ⟨b,off,sp⟩ i)=vs[i]? := λi hi=>mapM_some_get h i i (by simp[hi]);have h0:=hg 0 hk;rw[zRl (by omega)] at h0
 have hsp:sp=none:=by
  cases sp with
  |none=>rfl
  |some z=>
   unfold Addr.add World.cell? at h0;simp at h0;split at h0 <;> simp_all
 subst hsp;refine⟨rfl,by omega,λi hi=>?_⟩;have:=hg i (by omega);rw[zRl hi] at this;unfold Addr.add at this;split at this
 rename_i h
 subst h;exact this;exact this;cases h
theorem qxz(h8:8<=W.heap.size):Go.GL.RelH (KC 8 W) W (allL W) []:=qw1 h8 λb hb=>qtV hb
section
variable{W:World}
theorem qa7{c:LV}{cs:List LV}(h:RepL W (allL W) [c] [v])(h2:RepL W (allL W) cs vs):RepL W (allL W) (c::cs) (v::vs):=by
 simp only[RepL] at h ⊢;obtain⟨y,ys,e,h1,rfl⟩:=h;simp only[List.cons.injEq] at e;obtain⟨rfl,_⟩:=e;exact⟨v,vs,rfl,h1,h2⟩
theorem qg4:RepL W (allL W) [] []:=by simp only[RepL]
end
section
variable{H:Type}{enc:TypeId×Value->H}{W:World}
theorem qkL{A:Type}{e:TypeId}{k:Nat}(hk0:0<k)(el:A->LV)(fields:A->List LV)(m:A->Nat)(Pd:A->Prop){n b:Nat}
  (row:∀ (a:A) (vs:List Value) (off:Nat) (rest:List LV),RepL W (allL W) (fields a) vs->vs.length=k->(∀ i (h:i<vs.length),W.cell? ⟨b,off+i,none⟩=some vs[i])->qaj W (allL W) b k (off+k) rest->qaj W (allL W) b k off (el a::rest))
  (each:∀ cs y,DataW.trod enc Tryz.prog W 0 (λ_=>true) true n e cs=some y->∃ a,RepL W (allL W) (fields a) cs/\Pd a/\m a<=Rows.uptoBulk y.1) :
  ∀ (ys:List (DataW H×List MemPlace)) (off:Nat),(∀ i,i<ys.length->(W.cells? 0 ⟨b,off+i * k,none⟩ k).bind (DataW.trod enc Tryz.prog W 0 (λ_=>true) true n e)=ys[i]?) ->
   ∃ l:List A,l.length=ys.length/\qaj W (allL W) b k off (l.map el)/\(∀ a∈l,Pd a)/\(l.map m).sum<=Rows.uptoBulkAll (ys.map (·.1))
 |[],off,_=>⟨[],rfl,by simp only[map_nil,qaj],λa h=>(not_mem_nil h).elim,zero_le _⟩
 |y::ys,off,h=>by
  have h0:=h 0 (by simp);rw[Nat.zero_mul,add_zero,zRj] at h0;obtain⟨vs,hv,hy⟩:=Option.bind_eq_some_iff.1 h0;obtain⟨_,hl,hc⟩:=qmV hk0 hv;obtain⟨a,h1,h2,h3⟩:=each vs y hy
  obtain⟨l,q1,q2,q3,q4⟩:=qkL hk0 el fields m Pd row each ys (off+k) λi hi=>by
   have:=h (i+1) (by simpa using hi);rw[zRk,Nat.succ_mul,show off+(i * k+k)=off+k+i * k by omega] at this;exact this
  refine⟨a::l,by simp[q1],row a vs off _ h1 hl hc q2,λx hx=>?_,?_⟩;rcases zMi.1 hx with rfl|hx;exact h2;exact q3 x hx;rw[zMc,sum_cons,zMc,Rows.uptoBulkAll];omega
theorem qcR{A:Type}{t e:TypeId}(ht:Tryz.prog.underlying t=some (.slice e))(hk:Tryz.prog.cellsOf e=k)(hk0:0<k)(el:A->LV)(fields:A->List LV)(m:A->Nat)(Pd:A->Prop)
  (row:∀ (b:Nat) (a:A) (vs:List Value) (off:Nat) (rest:List LV),RepL W (allL W) (fields a) vs->vs.length=k->(∀ i (h:i<vs.length),W.cell? ⟨b,off+i,none⟩=some vs[i])->qaj W (allL W) b k (off+k) rest->qaj W (allL W) b k off (el a::rest))
  (each:∀ n,n<fuel->∀ cs y,DataW.trod enc Tryz.prog W 0 (λ_=>true) true n e cs=some y->∃ a,RepL W (allL W) (fields a) cs/\Pd a/\m a<=Rows.uptoBulk y.1)
  {cs:List Value} {x:DataW H×List MemPlace} (h:DataW.trod enc Tryz.prog W 0 (λ_=>true) true fuel t cs=some x) :
  ∃ l:List A,RepL W (allL W) [.list (l.map el)] cs/\(∀ a∈l,Pd a)/\(l.map m).sum+1<=Rows.uptoBulk x.1:=by
 rcases DataW.trod_slice ht h with⟨rfl,rfl⟩|⟨a,len,cap,elems,rest,n,hfu,rfl,rfl,_,hl,hm,hlen,hel,_,_⟩;refine⟨[],?_,λa h=>(not_mem_nil h).elim,?_⟩;simp only[RepL,Rep,map_nil];exact⟨_,_,rfl,⟨none,0,rfl,zero_le _,λh=>absurd rfl h⟩,rfl⟩;rw[Rows.uptoBulk];exact zNr _;rw[hk] at hel;have hbulk:Rows.uptoBulk (.slice (elems.map (·.1)) (rest.map (·.1)):DataW H)=Rows.uptoBulkAll (elems.map (·.1))+Rows.uptoBulkAll (rest.map (·.1))+1:=by rw[Rows.uptoBulk]
 by_cases h0:len=0
 subst h0;refine⟨[],?_,λa h=>(not_mem_nil h).elim,?_⟩;simp only[RepL,Rep,map_nil];exact⟨_,_,rfl,⟨some a,cap,rfl,zero_le _,λh=>absurd rfl h⟩,rfl⟩;simp only[hbulk,map_nil,sum_nil];omega;obtain⟨b,off,sp⟩:=a;have e0:=hel 0 (by omega);rw[zRl (by omega),Nat.zero_mul] at e0;obtain⟨vs,hv,_⟩:=Option.bind_eq_some_iff.1 e0;obtain⟨hsp,_,_⟩:=qmV (b:=b) (off:=off) (sp:=sp) hk0 (by simpa [Addr.add] using hv);subst hsp
 obtain⟨l,q1,q2,q3,q4⟩:=qkL (W:=W) (enc:=enc) (b:=b) (n:=n) (e:=e) hk0 el fields m Pd (row b) (each n (by omega)) elems off λi hi=>by
  have:=hel i (by omega);unfold Addr.add at this;split at this
  rename_i hz
  rw[hz,add_zero];exact this;exact this
 refine⟨l,?_,q3,?_⟩;simp only[RepL,Rep];refine⟨_,_,rfl,⟨some ⟨b,off,none⟩,cap,by rw[zLm,q1,hlen],by rw[zLm,q1,hlen];exact hl,λ_=>⟨b,off,k,rfl,q2⟩⟩,rfl⟩;simp only[hbulk];omega
theorem qhW{cs:List LV}{vs:List Value}{rest:List LV}(h:RepL W (allL W) cs vs)(hl:vs.length=k)(hc:∀ i (h:i<vs.length),W.cell? ⟨b,off+i,none⟩=some vs[i])(hr:qaj W (allL W) b k (off+k) rest)(hcs:cs.length=k):qaj W (allL W) b k off (.agg cs::rest):=by
 simp only[qaj];exact⟨⟨hcs,qtc cs vs off h hc⟩,hr⟩
theorem qpV{vs:List Value}{rest:List LV}(h:RepL W (allL W) [.atom v] vs)(hc:∀ i (h:i<vs.length),W.cell? ⟨b,off+i,none⟩=some vs[i])(hr:qaj W (allL W) b 1 (off+1) rest):qaj W (allL W) b 1 off (.atom v::rest):=by
 simp only[RepL] at h;obtain⟨y,ys,rfl,h1,rfl⟩:=h;have h0:=hc 0 (by simp);simp only[add_zero,List.getElem_cons_zero] at h0;simp only[qaj];exact⟨⟨trivial,qsz h0,y,h0,h1⟩,hr⟩
end
open Go.Stele
variable{cs:List Value}{n:Nat}
noncomputable def chkFs(t:TypeId)(ts:List TypeId):Bool:=match Tryz.prog.underlying t with
 |some (.struct fs)=>oneCellFields Tryz.prog fs && (fs.toList.map (·.type) == ts)
 |_=>false
section
variable{H:Type}{enc:TypeId×Value->H}{W:World}
theorem qd7{t:TypeId}{ts:List TypeId}(h:chkFs t ts=true)(hC:Tryz.prog.cellsOf t=ts.length){x:DataW H×List MemPlace}(hx:DataW.trod enc Tryz.prog W 0 (λ_=>true) true fuel t cs=some x) :
  ∃ (ys:List (DataW H×List MemPlace)) (n:Nat),fuel=n+1/\x.1=.agg (ys.map (·.1))/\cs.length=ts.length/\ys.length=ts.length/\∀ (i:Nat) (u:TypeId),ts[i]? = some u->∃ v y,cs[i]? = some v/\ys[i]? = some y/\DataW.trod enc Tryz.prog W 0 (λ_=>true) true n u [v]=some y:=by
 unfold chkFs at h;split at h
 rename_i fs hu
 simp only[zBa,beq_iff_eq] at h;obtain⟨hone,hts⟩:=h;obtain⟨ys,n,hf,hxe,hl,hy,hg⟩:=DataW.trod_struct hu hx;have hsz:fs.size=ts.length:=by rw[<-hts];simp
 refine⟨ys,n,hf,by rw[hxe],hl.trans hC,hy.trans hsz,λi u hi=>?_⟩;have hi':i<ts.length:=(List.getElem?_eq_some_iff.1 hi).1;have hfi:fs[i]? = some fs[i]:=Array.getElem?_eq_getElem (by omega)
 have hfu:(fs[i]'(by omega)).type=u:=by
  have:(fs.toList.map (·.type))[i]? = some u:=by rw[hts];exact hi
  rw[List.getElem?_map,Array.getElem?_toList,hfi] at this;simpa using this
 obtain⟨o1,o2⟩:=hone_of hone i _ hfi;have h1:=hg i _ hfi;rw[o1,o2,hfu,zRl (by omega)] at h1;have hcl:i<cs.length:=by omega
 have hd:(cs.drop i).take 1=[cs[i]]:=by
  rw[List.drop_eq_getElem_cons hcl];rfl
 rw[hd] at h1;exact⟨cs[i],ys[i]'(by omega),zRl hcl,zRl (by omega),h1⟩;cases h
theorem qkK:∀ ds:List (DataW H),Rows.uptoBulkAll ds=(ds.map Rows.uptoBulk).sum
 |[]=>by rw[Rows.uptoBulkAll];rfl
 |d::ds=>by rw[Rows.uptoBulkAll,qkK ds,zMc,sum_cons]
theorem qg7(ds:List (DataW H)):Rows.uptoBulk (.agg ds)=(ds.map Rows.uptoBulk).sum+1:=by rw[Rows.uptoBulk,qkK]
theorem qf8{y:DataW H×List MemPlace}(h:DataW.trod enc Tryz.prog W 0 (λ_=>true) true n 9 cs=some y):∃ s:List UInt8,RepL W (allL W) [Go.GL.str s] cs/\True/\s.length+1<=Rows.uptoBulk y.1:=by
 obtain⟨s,rfl,rfl,_⟩:=DataW.trod_string Tryz.underlying9 h;refine⟨s.data.toList,?_,trivial,by simp only[Rows.uptoBulk];exact zNr _⟩;simp only[RepL,Rep,Go.GL.str];exact⟨_,_,rfl,rfl,rfl⟩
theorem qjy{x:DataW H×List MemPlace}(h:DataW.trod enc Tryz.prog W 0 (λ_=>true) true fuel 24 cs=some x):∃ l:List (List UInt8),RepL W (allL W) [.list (l.map Go.GL.str)] cs/\szNs l+1<=Rows.uptoBulk x.1:=by
 obtain⟨l,h1,hz,h3⟩:=qcR (t:=24) (e:=9) (k:=1) zk zk zDd Go.GL.str (λs=>[Go.GL.str s]) (λs=>s.length+1) (λ_=>True) (λb a vs off rest q1 q2 q3 q4=>qpV q1 q3 q4) (λn _ cs y hy=>qf8 hy) h;refine⟨l,h1,?_⟩;rw[qhu];omega
end
theorem qkd:∀ l:List Ex,(∀ x∈l,numE x)->qcB l
 |[],_=>trivial
 |x::l,h=>⟨h x zMs,qkd l λy hy=>h y (zMo _ hy)⟩
section
variable{H:Type}{enc:TypeId×Value->H}{W:World}
theorem qpz{y:DataW H×List MemPlace}(h:DataW.trod enc Tryz.prog W 0 (λ_=>true) true n 84 cs=some y):∃ a:Nat,RepL W (allL W) [Inp.u32 a] cs/\Lt a:=by
 obtain⟨m,rfl,_,w⟩:=DataW.trod_int (show Tryz.prog.underlying 84=some (.int .u32) from zk) h;obtain⟨a,rfl,ha⟩:=qxQ w;refine⟨a,?_,ha⟩;simp only[RepL,Rep,Inp.u32,Go.GL.int];exact⟨_,_,rfl,rfl,rfl⟩
def exF(x:Ex):List LV:=[Go.GL.str (exOp x),Inp.u32 (qeE x),Go.GL.str (qcM x),.list ((qxK x).map encE)]
theorem qvs(x:Ex):encE x=.agg (exF x):=by
 obtain⟨o,n,m,a⟩:=x;rw[qcH];rfl
theorem qvH:∀ (fuel:Nat) (cs:List Value) (y:DataW H×List MemPlace),DataW.trod enc Tryz.prog W 0 (λ_=>true) true fuel 170 cs=some y->∃ x:Ex,RepL W (allL W) (exF x) cs/\numE x/\szE x<=Rows.uptoBulk y.1:=λfuel=>by
 induction fuel using Nat.strongRecOn with
 |ind fuel ih=>
  intro cs y h;obtain⟨ys,n,rfl,hb,hl,hyl,hg⟩:=qd7 (ts:=[9,84,9,166]) zk zk h;obtain⟨v0,y0,c0,d0,t0⟩:=hg 0 _ rfl;obtain⟨v1,y1,c1,d1,t1⟩:=hg 1 _ rfl;obtain⟨v2,y2,c2,d2,t2⟩:=hg 2 _ rfl;obtain⟨v3,y3,c3,d3,t3⟩:=hg 3 _ rfl;obtain⟨o,r0,_,b0⟩:=qf8 t0;obtain⟨a,r1,ha⟩:=qpz t1;obtain⟨m,r2,_,b2⟩:=qf8 t2
  obtain⟨l,r3,hP,b3⟩:=qcR (t:=166) (e:=170) (k:=4) zk zk zDd encE exF szE numE (λb x vs off rest q1 q2 q3 q4=>by
   rw[qvs]
   exact qhW q1 q2 q3 q4 rfl) (λn' hn'=>ih n' (by omega)) t3
  obtain rfl:cs=[v0,v1,v2,v3]:=by
   match cs,hl with
   |[w0,w1,w2,w3],_=>
    simp only[zRj,zRk,zRh] at c0 c1 c2 c3;rw[c0,c1,c2,c3]
  obtain rfl:ys=[y0,y1,y2,y3]:=by
   match ys,hyl with
   |[w0,w1,w2,w3],_=>
    simp only[zRj,zRk,zRh] at d0 d1 d2 d3;rw[d0,d1,d2,d3]
  refine⟨.mk o a m l,qa7 r0 (qa7 r1 (qa7 r2 (qa7 r3 qg4))),⟨ha,qkd l hP⟩,?_⟩;rw[hb,qg7,szE,qgh];simp only[zMc,map_nil,sum_cons,sum_nil];omega
theorem qoR{x:DataW H×List MemPlace}(h:DataW.trod enc Tryz.prog W 0 (λ_=>true) true fuel 166 cs=some x):∃ l:List Ex,RepL W (allL W) [.list (l.map encE)] cs/\qcB l/\szEs l+1<=Rows.uptoBulk x.1:=by
 obtain⟨l,r3,hP,b3⟩:=qcR (t:=166) (e:=170) (k:=4) zk zk zDd encE exF szE numE (λb x vs off rest q1 q2 q3 q4=>by
  rw[qvs]
  exact qhW q1 q2 q3 q4 rfl) (λn' _=>qvH n') h
 exact⟨l,r3,qkd l hP,by rw[qgh];exact b3⟩
end
theorem qhm:∀ l:List Sm,(∀ x∈l,numS x)->qbu l
 |[],_=>trivial
 |x::l,h=>⟨h x zMs,qhm l λy hy=>h y (zMo _ hy)⟩
section
variable{H:Type}{enc:TypeId×Value->H}{W:World}
theorem qoV{y:DataW H×List MemPlace}(h:DataW.trod enc Tryz.prog W 0 (λ_=>true) true n 3 cs=some y):∃ a:Int,RepL W (allL W) [Go.GL.int .i64 a] cs /\ -9223372036854775808<=a/\a<9223372036854775808:=by
 obtain⟨m,rfl,_,w⟩:=DataW.trod_int Tryz.underlying3 h;refine⟨m,?_,?_⟩;simp only[RepL,Rep,Go.GL.int];exact⟨_,_,rfl,rfl,rfl⟩;simp[Lit.wf] at w;simp[IntKind.has,IntKind.min,IntKind.max,IntKind.signed,IntKind.bits] at w;omega
def smF(x:Sm):List LV:=[Go.GL.int .i64 (qrk x),Go.GL.str (qsa x),.list ((qnP x).map encE),.list ((qoj x).map encE),.list ((qxZ x).map encS),.list ((qxk x).map encS)]
theorem qvp(x:Sm):encS x=.agg (smF x):=by
 obtain⟨k,n,i,v,t,e⟩:=x;rw[qca];rfl
theorem qwD:∀ (fuel:Nat) (cs:List Value) (y:DataW H×List MemPlace),DataW.trod enc Tryz.prog W 0 (λ_=>true) true fuel 168 cs=some y->∃ x:Sm,RepL W (allL W) (smF x) cs/\numS x/\szS x<=Rows.uptoBulk y.1:=λfuel=>by
 induction fuel using Nat.strongRecOn with
 |ind fuel ih=>
  intro cs y h;obtain⟨ys,n,rfl,hb,hl,hyl,hg⟩:=qd7 (ts:=[3,9,166,166,87,87]) zk zk h;obtain⟨v0,y0,c0,d0,t0⟩:=hg 0 _ rfl;obtain⟨v1,y1,c1,d1,t1⟩:=hg 1 _ rfl;obtain⟨v2,y2,c2,d2,t2⟩:=hg 2 _ rfl;obtain⟨v3,y3,c3,d3,t3⟩:=hg 3 _ rfl;obtain⟨v4,y4,c4,d4,t4⟩:=hg 4 _ rfl;obtain⟨v5,y5,c5,d5,t5⟩:=hg 5 _ rfl;obtain⟨k,r0,_⟩:=qoV t0;obtain⟨m,r1,_,b1⟩:=qf8 t1;obtain⟨i,r2,p2,b2⟩:=qoR t2;obtain⟨v,r3,p3,b3⟩:=qoR t3
  have row:∀ (b:Nat) (a:Sm) (vs:List Value) (off:Nat) (rest:List LV),RepL W (allL W) (smF a) vs->vs.length=6->(∀ i (h:i<vs.length),W.cell? ⟨b,off+i,none⟩=some vs[i])->qaj W (allL W) b 6 (off+6) rest->qaj W (allL W) b 6 off (encS a::rest):=λb x vs off rest q1 q2 q3 q4=>by
   rw[qvp];exact qhW q1 q2 q3 q4 rfl
  obtain⟨l4,r4,p4,b4⟩:=qcR (t:=87) (e:=168) (k:=6) zk zk zDd encS smF szS numS row (λn' hn'=>ih n' (by omega)) t4;obtain⟨l5,r5,p5,b5⟩:=qcR (t:=87) (e:=168) (k:=6) zk zk zDd encS smF szS numS row (λn' hn'=>ih n' (by omega)) t5
  obtain rfl:cs=[v0,v1,v2,v3,v4,v5]:=by
   match cs,hl with
   |[w0,w1,w2,w3,w4,w5],_=>
    simp only[zRj,zRk,zRh] at c0 c1 c2 c3 c4 c5;rw[c0,c1,c2,c3,c4,c5]
  obtain rfl:ys=[y0,y1,y2,y3,y4,y5]:=by
   match ys,hyl with
   |[w0,w1,w2,w3,w4,w5],_=>
    simp only[zRj,zRk,zRh] at d0 d1 d2 d3 d4 d5;rw[d0,d1,d2,d3,d4,d5]
  refine⟨.mk k m i v l4 l5,qa7 r0 (qa7 r1 (qa7 r2 (qa7 r3 (qa7 r4 (qa7 r5 qg4))))),⟨p2,p3,qhm l4 p4,qhm l5 p5⟩,?_⟩;rw[hb,qg7,szS,qff,qff];simp only[zMc,map_nil,sum_cons,sum_nil];omega
theorem qtI{x:DataW H×List MemPlace}(h:DataW.trod enc Tryz.prog W 0 (λ_=>true) true fuel 87 cs=some x):∃ l:List Sm,RepL W (allL W) [.list (l.map encS)] cs/\qbu l/\szSs l+1<=Rows.uptoBulk x.1:=by
 obtain⟨l,r3,hP,b3⟩:=qcR (t:=87) (e:=168) (k:=6) zk zk zDd encS smF szS numS (λb x vs off rest q1 q2 q3 q4=>by
  rw[qvp]
  exact qhW q1 q2 q3 q4 rfl) (λn' _=>qwD n') h
 exact⟨l,r3,qhm l hP,by rw[qff];exact b3⟩
def fnF(f:FnD):List LV:=[Go.GL.str f.name,.list (f.params.map Go.GL.str),.list (f.locals.map Go.GL.str),.list (f.body.map encS)]
theorem qw5{y:DataW H×List MemPlace}(h:DataW.trod enc Tryz.prog W 0 (λ_=>true) true fuel 89 cs=some y):∃ f:FnD,RepL W (allL W) (fnF f) cs/\qbu f.body/\szF f<=Rows.uptoBulk y.1:=by
 obtain⟨ys,n,rfl,hb,hl,hyl,hg⟩:=qd7 (ts:=[9,24,24,87]) zk zk h;obtain⟨v0,y0,c0,d0,t0⟩:=hg 0 _ rfl;obtain⟨v1,y1,c1,d1,t1⟩:=hg 1 _ rfl;obtain⟨v2,y2,c2,d2,t2⟩:=hg 2 _ rfl;obtain⟨v3,y3,c3,d3,t3⟩:=hg 3 _ rfl;obtain⟨m,r0,_,b0⟩:=qf8 t0;obtain⟨ps,r1,b1⟩:=qjy t1;obtain⟨ls,r2,b2⟩:=qjy t2;obtain⟨l,r3,hP,b3⟩:=qtI t3
 obtain rfl:cs=[v0,v1,v2,v3]:=by
  match cs,hl with
  |[w0,w1,w2,w3],_=>
   simp only[zRj,zRk,zRh] at c0 c1 c2 c3;rw[c0,c1,c2,c3]
 obtain rfl:ys=[y0,y1,y2,y3]:=by
  match ys,hyl with
  |[w0,w1,w2,w3],_=>
   simp only[zRj,zRk,zRh] at d0 d1 d2 d3;rw[d0,d1,d2,d3]
 refine⟨⟨m,ps,ls,l⟩,qa7 r0 (qa7 r1 (qa7 r2 (qa7 r3 qg4))),hP,?_⟩;rw[hb,qg7,szF];simp only[zMc,map_nil,sum_cons,sum_nil];omega
theorem qu9{y:DataW H×List MemPlace}(h:DataW.trod enc Tryz.prog W 0 (λ_=>true) true fuel 86 cs=some y):∃ a:Nm×Int,RepL W (allL W) [Go.GL.str a.1,Go.GL.int .i64 a.2] cs/\(-9223372036854775808<=a.2/\a.2<9223372036854775808)/\a.1.length+1<=Rows.uptoBulk y.1:=by
 obtain⟨ys,n,rfl,hb,hl,hyl,hg⟩:=qd7 (ts:=[9,3]) zk zk h;obtain⟨v0,y0,c0,d0,t0⟩:=hg 0 _ rfl;obtain⟨v1,y1,c1,d1,t1⟩:=hg 1 _ rfl;obtain⟨m,r0,_,b0⟩:=qf8 t0;obtain⟨z,r1,hz⟩:=qoV t1
 obtain rfl:cs=[v0,v1]:=by
  match cs,hl with
  |[w0,w1],_=>
   simp only[zRj,zRk,zRh] at c0 c1;rw[c0,c1]
 obtain rfl:ys=[y0,y1]:=by
  match ys,hyl with
  |[w0,w1],_=>
   simp only[zRj,zRk,zRh] at d0 d1;rw[d0,d1]
 refine⟨(m,z),qa7 r0 (qa7 r1 qg4),hz,?_⟩;show m.length+1<=_;rw[hb,qg7];simp only[zMc,map_nil,sum_cons,sum_nil];omega
end
theorem qxE{l:List FnD}{f:FnD}(h:f∈l):ndF f<=ndFs l:=by
 induction l with
 |nil=>exact(not_mem_nil h).elim
 |cons x l ih=>
  rw[ndFs];rcases zMi.1 h with rfl|h;omega;have:=ih h;omega
theorem qkX{fs:List FnD}(h:ndFs fs<=2000000)(hn:∀ f∈fs,qbu f.body):∀ f∈fs,SmF f:=
 (SzP.small (p:=⟨[],[],fs⟩) (n:=2000000) ⟨zero_le _,zero_le _,λa ha=>(not_mem_nil ha).elim,h,hn⟩ (zNr _)).each
section
variable{H:Type}{enc:TypeId×Value->H}{W:World}
theorem qtd{d:DataW H}{ps:List MemPlace}(hval:Value.okWide Tryz.prog W .any base 28 v)(hd:DataW.Trod enc Tryz.prog W 0 (λ_=>true) true 28 v d ps) :
  ∃ (vars:List Nm) (arrays:List (Nm×Int)) (fs:List FnD),RepL W (allL W) [Chk.encPrG vars arrays fs] [v]/\szNs vars<=Rows.uptoBulk d/\szAs arrays<=Rows.uptoBulk d/\(∀ a∈arrays,-9223372036854775808<=a.2/\a.2<9223372036854775808)/\szFs fs<=Rows.uptoBulk d/\∀ f∈fs,qbu f.body:=by
 obtain⟨fs0,hu⟩:∃ fs,Tryz.prog.underlying 28=some (.struct fs):=by
  have h:(match Tryz.prog.underlying 28 with|some (.struct _)=>true|_=>false)=true:=by kernel_rfl
  split at h;exact⟨_,by assumption⟩;cases h
 obtain⟨cs,rfl,hsz⟩:=okWide_struct hu hval;obtain⟨fuel,hf⟩:=hd;have hf':DataW.trod enc Tryz.prog W 0 (λ_=>true) true fuel 28 cs.toList=some (d,ps):=by simpa [Value.cells] using hf
 obtain⟨ys,n,rfl,hb,hl,hyl,hg⟩:=qd7 (ts:=[24,25,26]) zk zk hf';obtain⟨v0,y0,c0,d0,t0⟩:=hg 0 _ rfl;obtain⟨v1,y1,c1,d1,t1⟩:=hg 1 _ rfl;obtain⟨v2,y2,c2,d2,t2⟩:=hg 2 _ rfl;obtain⟨vars,r0,b0⟩:=qjy t0;obtain⟨arrays,r1,p1,b1⟩:=qcR (t:=25) (e:=86) (k:=2) zk zk zDd Chk.encArG (λa=>[Go.GL.str a.1,Go.GL.int .i64 a.2]) (λa=>a.1.length+1) (λa => -9223372036854775808<=a.2/\a.2<9223372036854775808) (λb x vs off rest q1 q2 q3 q4=>qhW q1 q2 q3 q4 rfl) (λn' _ _ _ hy=>qu9 hy) t1;obtain⟨fs,r2,p2,b2⟩:=qcR (t:=26) (e:=89) (k:=4) zk zk zDd qaM fnF szF (λf=>qbu f.body) (λb x vs off rest q1 q2 q3 q4=>qhW q1 q2 q3 q4 rfl) (λn' _ _ _ hy=>qw5 hy) t2
 obtain⟨w0,w1,w2,rfl⟩:∃ w0 w1 w2,cs=#[w0,w1,w2]:=by
  obtain⟨l⟩:=cs
  match l,hl with
  |[w0,w1,w2],_=>exact⟨w0,w1,w2,rfl⟩
 simp only[zRj,zRk,zRh] at c0 c1 c2;subst c0 c1 c2
 obtain rfl:ys=[y0,y1,y2]:=by
  match ys,hyl with
  |[w0,w1,w2],_=>
   simp only[zRj,zRk,zRh] at d0 d1 d2;rw[d0,d1,d2]
 have b1':szAs arrays+1<=Rows.uptoBulk y1.1:=by rw[qhn];exact b1
 have hbd:Rows.uptoBulk d=Rows.uptoBulk y0.1+(Rows.uptoBulk y1.1+(Rows.uptoBulk y2.1+0))+1:=by
  rw[show d=_ from hb,qg7];rfl
 refine⟨vars,arrays,fs,?_,by omega,by omega,p1,?_,p2⟩;have h3:=qa7 r0 (qa7 r1 (qa7 r2 qg4));simp only[Chk.encPrG];rw[RepL];refine⟨_,_,rfl,?_,by simp only[RepL]⟩;rw[Rep];exact⟨_,rfl,h3⟩;rw[qhi];omega
theorem qtB{d:DataW H}{ps:List MemPlace}(hval:Value.okWide Tryz.prog W .any base 22 v)(hd:DataW.Trod enc Tryz.prog W 0 (λ_=>true) true 22 v d ps) :
  ∃ l:List Nat,(∀ x∈l,Lt x)/\RepL W (allL W) [.list (l.map Inp.u32)] [v]:=by
 obtain⟨a0,len0,cap0,rfl⟩:=okWide_slice (show Tryz.prog.underlying 22=some (.slice 84) from zk) hval;obtain⟨fuel,hf⟩:=hd;have hf':DataW.trod enc Tryz.prog W 0 (λ_=>true) true fuel 22 [.slice a0 len0 cap0]=some (d,ps):=by simpa [Value.cells] using hf
 obtain⟨l,r,p,_⟩:=qcR (t:=22) (e:=84) (k:=1) zk zk zDd Inp.u32 (λa=>[Inp.u32 a]) (λ_=>0) Lt (λb x vs off rest q1 q2 q3 q4=>qpV q1 q3 q4) (λn' _ _ _ hy=>by
  obtain⟨a,h1,h2⟩:=qpz hy
  exact⟨a,h1,h2,zero_le _⟩) hf'
 exact⟨l,p,r⟩
theorem qsp{d:DataW H}{ps:List MemPlace}{sp:Nat->Bool}(hd:DataW.Trod enc Tryz.prog W 0 (λ_=>true) true 28 v d ps)(hb:Below W.heap.size W W')(hlt:∀ x∈ps,x.block<W.heap.size)(hsp:∀ p∈ps,sp p.block=true):DataW.Trod enc Tryz.prog W' 0 sp true 28 v d ps:=
 WideElems.Trod_stays qsF zk (zRi zk) hd (λx hx=>hb.same (hlt x hx)) hsp
theorem qrS{d:DataW H}{ps:List MemPlace}{sp:Nat->Bool}(hd:DataW.Trod enc Tryz.prog W 0 (λ_=>true) true 22 v d ps)(hb:Below W.heap.size W W')(hlt:∀ x∈ps,x.block<W.heap.size)(hsp:∀ p∈ps,sp p.block=true):DataW.Trod enc Tryz.prog W' 0 sp true 22 v d ps:=
 WideElems.Trod_stays qsF zk (zRi zk) hd (λx hx=>hb.same (hlt x hx)) hsp
end
end Go.Proofs.YtegmklafpoldgaaGreatDoor
namespace Go.Proofs.YtegmklafpoldgaaGreatDoor.Jn
open Go
theorem j2:laidOutB Tryz.prog=true:=zk
theorem j3:mapsRowed Tryz.prog=true:=zk
theorem j7:(Tryz.prog.stops == [])=true:=zk
theorem j9:(Tryz.prog.stopKnobs == [])=true:=zk
theorem j22:(Rows.peepholePreservesRow.plainKeys == Tryz.prog.plainKeys)=true:=zk
theorem j23b:Tryz.prog.stopsHeard=true:=zk
theorem j24:Tryz.prog.mayEnter=true:=zk
theorem j24b:(Rows.peepholePreservesRow.lifted == Tryz.prog.liftsFinal)=true:=zk
theorem j24c:(Tryz.prog.make == some Rows.peepholePreservesRow.make)=true:=zk
theorem joined{f:FuncId}{fn:Func}{s:ChangeSpec}{c:OpenClaim}
  (e22:c.plainKeys=Rows.peepholePreservesRow.plainKeys) (e24b:c.lifted=Rows.peepholePreservesRow.lifted) (e24c:c.make=Rows.peepholePreservesRow.make)
  (k1:c.wf (OpenSpec.ofChange s)=true) (k4:(fn.params.all (Tryz.prog.readableRec ·))=true) (k5:namedTie Tryz.prog c.named s.vars=true)
  (k6:(c.stops == [])=true) (k8:(c.knobs == [])=true)
  (k10:(c.inPlace == Tryz.prog.inPlace f)=true) (k11:(c.unfollowed == Tryz.prog.unfollowed f)=true) (k12:(c.recurses == Tryz.prog.recurses f)=true) (k13:(c.named == Tryz.prog.varsNamed f)=true)
  (k14:(c.maps == (fn.params.toList++s.plain.varTypes Tryz.prog).any (Tryz.prog.mapsRec ·))=true) (k15:(c.ifaces == (fn.params.toList++s.plain.varTypes Tryz.prog).any (Tryz.prog.ifacesRec ·))=true)
  (k16:(c.mapsOut == Tryz.prog.mapsAmong fn.resultTypes.toList)=true)
  (k17:(c.loops == (fn.params.toList++s.plain.varTypes Tryz.prog).any (Tryz.prog.loopsFrom ·))=true) (k17b:(c.wideKeys == (fn.params.toList++s.plain.varTypes Tryz.prog++fn.resultTypes.toList).any (Tryz.prog.wideKeysFrom ·))=true)
  (k18:s.vars.all (Tryz.prog.varReadable ·)=true) (k19:fn.resultTypes.all (λt=>Tryz.prog.readableRec t && decide (t<Tryz.prog.types.size))=true)
  (k20:(c.ifacesOut == fn.resultTypes.toList.any (Tryz.prog.ifacesRec ·))=true) (k21:(c.loopsOut == fn.resultTypes.toList.any (Tryz.prog.loopsFrom ·))=true)
  (k23:c.shortTexts.isNone=true) (k25:(c.kinds == (if c.domain.isEmpty then [] else fn.params.toList.map λt=>match Tryz.prog.underlying t with|some (.int k)=>some k|_=>none))=true)
  (k26:(c.pinned == c.pinnedBy)=true) (k27:(c.veiled == (fn.params.toList++s.plain.varTypes Tryz.prog++fn.resultTypes.toList).any (Tryz.prog.veiledRec ·))=true)
  (k28:c.veiledFits Tryz.prog fn.params.toList (fn.params.toList++s.plain.varTypes Tryz.prog++fn.resultTypes.toList)=true) :
  joinedFacts Tryz.prog f fn s c=true:=by
 have m22:(c.plainKeys == Tryz.prog.plainKeys)=true:=by rw[e22];exact j22
 have m24b:(c.lifted == Tryz.prog.liftsFinal)=true:=by rw[e24b];exact j24b
 have m24c:(Tryz.prog.make == some c.make)=true:=by rw[e24c];exact j24c
 unfold joinedFacts;simp only[zBa];exact⟨⟨⟨⟨⟨⟨⟨⟨⟨⟨⟨⟨⟨⟨⟨⟨⟨⟨⟨⟨⟨⟨⟨⟨⟨⟨⟨⟨⟨⟨⟨k1,j2⟩,j3⟩,k4⟩,k5⟩,k6⟩,j7⟩,k8⟩,j9⟩,k10⟩,k11⟩,k12⟩,k13⟩,k14⟩,k15⟩,k16⟩,k17⟩,k17b⟩,k18⟩,k19⟩,k20⟩,k21⟩,m22⟩,k23⟩,j23b⟩,j24⟩,m24b⟩,m24c⟩,k25⟩,k26⟩,k27⟩,k28⟩
end Go.Proofs.YtegmklafpoldgaaGreatDoor.Jn
namespace Go.Proofs.YtegmklafpoldgaaGreatDoor
open Go.ChangeShapes Go.WideShapes Go.ChangeAt Go.RowKit Go.Deep Go.Joins
theorem qx0{W:World}(h:laidMetH Tryz.prog lst W)(hs:W.ShapedOpen Tryz.prog):Pp.GW 8 W:=by
 have h0:laidMet Tryz.prog lst W:=h
 have he : laidMet Tryz.prog [("strconv.ErrSyntax", Rows.laid_strconv_ErrSyntax)] W := h0.filter (fun x => x.1 == "strconv.ErrSyntax")
 obtain⟨ps,⟨g,t,cs,fuel,p,q,hg,ht,hvar,hd,_,_⟩,_⟩:=he
 have hg' : Tryz.prog.globalNamed "strconv.ErrSyntax" = some 4 := by kernel_rfl
 obtain rfl:=Option.some.inj (hg'.symm.trans hg);have ht':(Tryz.prog.globals[4]?).map (·.type)=some 137:=by kernel_rfl
 obtain rfl:=Option.some.inj (ht'.symm.trans ht);obtain⟨ms,hms⟩:∃ ms,Tryz.prog.underlying 137=some (.interface ms):=(inferInstance:Go.GL.TIface Tryz.prog 137).und;refine⟨(qle h hs).1,qxN hs,?_⟩;obtain⟨_,u,v,hcs,_,_⟩:=iface_of_trod hms hd;refine⟨u,v,?_⟩;rw[hvar];congr 1;exact Array.ext' (by simpa using hcs)
end Go.Proofs.YtegmklafpoldgaaGreatDoor
