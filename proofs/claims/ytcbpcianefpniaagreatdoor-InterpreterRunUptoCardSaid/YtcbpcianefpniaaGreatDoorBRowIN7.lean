/- Texts joined: InpLift, InpLif2, RunSz, RunSz2, RC1, RI1, RI2, RI3, RI4, RI5, RI6, RC2. -/
import Derived.Test.YtcbpcianefpniaaGreatDoorCards
import Derived.Test.YtcbpcianefpniaaGreatDoorTie
import Derived.WalkKit
import Derived.ProofKit
import Derived.OpenShut
import Derived.ChangeMaps5
import Derived.Deep.DeepHandedRow
import Derived.Lib.LaidTab
import Derived.ChangeSlices
import Derived.WideKeyArgs
import Derived.Test.YtcbpcianefpniaaGreatDoorBRowIN1
import Derived.Test.YtcbpcianefpniaaGreatDoorBRowIN2
import Derived.Test.YtcbpcianefpniaaGreatDoorBRowIN3
import Derived.Test.YtcbpcianefpniaaGreatDoorBRowIN5
import Derived.Test.YtcbpcianefpniaaGreatDoorBRowIN6
set_option linter.unusedVariables false
set_option linter.unusedSimpArgs false
namespace Go.Proofs.YtcbpcianefpniaaGreatDoor
open Go.ChangeShapes Go.WideShapes Go.ChangeAt Go.RowKit
set_option maxRecDepth 100000
theorem own:ownKnob Tryz.prog.godebug=none:=by kernel_rfl
def lst : List (String × DataW Unit) := [("math/bits.deBruijn32tab", Rows.laid_math_bits_deBruijn32tab), ("math/bits.deBruijn64tab", Rows.laid_math_bits_deBruijn64tab), ("internal/strconv.uint64pow10", Rows.laid_internal_strconv_uint64pow10), ("strconv.ErrRange", Rows.laid_strconv_ErrRange), ("strconv.ErrSyntax", Rows.laid_strconv_ErrSyntax)]
theorem gw_of_laid {W:World} (h:laidMetH Tryz.prog lst W):GW 8 W∧8≤W.heap.size:=by
 have h0:laidMet Tryz.prog lst W:=h
 have hp : laidMet Tryz.prog [("internal/strconv.uint64pow10", Rows.laid_internal_strconv_uint64pow10)] W := h0.filter (fun x => x.1 == "internal/strconv.uint64pow10")
 have he : laidMet Tryz.prog [("strconv.ErrRange", Rows.laid_strconv_ErrRange)] W := h0.filter (fun x => x.1 == "strconv.ErrRange")
 obtain ⟨ps,⟨g,t,cs,fuel,p,q,hg,ht,hvar,hd,_,_⟩,_⟩:=he
 have hg' : Tryz.prog.globalNamed "strconv.ErrRange" = some 7 := by kernel_rfl
 obtain rfl:=Option.some.inj (hg'.symm.trans hg)
 have ht':(Tryz.prog.globals[7]?).map (·.type)=some 146:=by kernel_rfl
 obtain rfl:=Option.some.inj (ht'.symm.trans ht)
 obtain ⟨ms,hms⟩:∃ ms,Tryz.prog.underlying 146=some (.interface ms):=(inferInstance:Go.GL.TIface Tryz.prog 146).und
 have h8:7<W.heap.size:=by
  have hvar':=hvar
  unfold World.var? at hvar'
  rw[hg'] at hvar'
  rcases Nat.lt_or_ge 7 W.heap.size with h1|h1
  ·exact h1
  ·simp[Array.getElem?_eq_none h1] at hvar'
 refine ⟨⟨?_,?_,Nat.le_refl _⟩,h8⟩
 ·exact Lib.tabIs_of_head (g:=1) (t:=205) (e:=84) (n:=20) (rest:=[]) (by kernel_rfl) (by kernel_rfl) (by kernel_rfl) (by kernel_rfl) (by kernel_rfl) (by kernel_rfl) hp
 ·obtain ⟨_,u,v,hcs,_,_⟩:=iface_of_trod hms hd
  refine ⟨u,v,?_⟩
  rw[hvar]
  congr 1
  exact Array.ext' (by simpa using hcs)
theorem relH_of {W:World} {L:Go.GL.Live} (h8:8≤W.heap.size) (h2:∀ b,W.heap.size≤b→L b=0):Go.GL.RelH (KC 8 W) W L []:=
 ⟨Below.refl _ _,trivial,h8,h2,List.nodup_nil,by simp⟩
theorem lift_at {f:FuncId} {args:List Go.GL.LV} {vs:List Value} {W:World} {L:Go.GL.Live} (h:Go.GL.LCalls (KC 8 W) f args [] (Go.GL.Ret (Go.GL.bool true))) (hr:Go.GL.RepL W L args vs) (hR:Go.GL.RelH (KC 8 W) W L []):Calls Tryz.prog f vs.toArray W fun e W'=>e=.returned (.bool true)∧Below W.heap.size W W':=by
 refine (h vs W L hr hR).mono ?_
 intro e W' he
 cases e with
 |returned v=>
  obtain ⟨lv,H',L',h1,h2,h3,h4,_⟩:=he
  injection h4 with h4
  subst h4
  simp only[Go.GL.Rep] at h3
  subst h3
  exact ⟨rfl,h1.os,h1.tape,h1.output,h1.ext.size,fun k hk=>h1.block k hk (by simp[Go.GL.keys])⟩
 |panicked ch=>
  obtain ⟨H',L',h1,h2,h3,_⟩:=he
  cases h3
 |outgrown=>exact he.elim
theorem u32_of {n:Int} (h:(Lit.int .u32 n).wf=true):∃ a:Nat,n=(a:Int)∧a<4294967296:=by
 simp[Lit.wf] at h
 refine ⟨n.toNat,?_,?_⟩
 all_goals have:=h
 all_goals simp[IntKind.has,IntKind.min,IntKind.max,IntKind.signed,IntKind.bits] at this
 all_goals omega
theorem post_of_below {H:Type} {enc:TypeId×Value→H} {P:Program} {f:Func} {s:ChangeSpec} {apart fresh handsOn again:Bool} {W W':World} {args:Array Value} {v:Value} {ds gs:List (DataW H)} {before pa pv:List MemPlace}
  (hW:DataW.Whole enc P f.params.toList s.vars apart W args.toList ds gs before)
  (hres:∀ (b:Nat) (sp:Nat→Bool) (hd:Bool),DataW.TrodAll enc P W' b sp hd f.resultTypes.toList (v.resultList f.resultTypes.size) (s.fn H (ds++gs)).results [])
  (hargs:∀ sp:Nat→Bool,(∀ p∈before,sp p.block=true)→DataW.TrodAll enc P W' 0 sp true f.params.toList args.toList (s.fn H (ds++gs)).args pa)
  (hvars:∀ sp:Nat→Bool,(∀ p∈before,sp p.block=true)→DataW.TrodVars enc P W' sp s.vars (s.fn H (ds++gs)).vars pv)
  (hps:before=pa++pv) (hb:Below W.heap.size W W')
  (hok:∀ (j:Nat) (t:TypeId) (r:Value),f.resultTypes[j]? = some t→(v.resultList f.resultTypes.size)[j]? = some r→Value.okWide P W' .any 0 t r) :
  s.post enc P f apart fresh handsOn again W args v W':=by
 have hold:∀ p∈before,(fun b=>decide (b<W.heap.size)) p.block=true:=fun p hp=>by simpa using hW.lt p hp
 have hlt:=hW.lt
 refine ⟨ds,gs,before,[],pa,pv,hW,hres _ _ _,hargs _ hold,hvars _ hold,World.keptBut_mono (fun p hp=>⟨hp,?_⟩) (hb.frame (·∈before)),fun _=>?_⟩
 ·rw[hps,List.mem_append] at hp
  exact Or.inr hp
 ·obtain ⟨_,_,_,_,_,hz,hn⟩:=hW
  refine ⟨hok,_,_,([]++pa)++pv,⟨[]++pa,pv,trodAll_append (hargs _ (fun _ _=>rfl)) (hres _ _ _),hvars _ (fun _ _=>rfl),rfl,?_,?_⟩,?_⟩
  ·intro b off hp
   have hp':MemPlace.cell b off∈before:=by rw[hps];simpa using hp
   rw[hb.frozen (p:=⟨b,off,none⟩) (hlt _ hp')]
   exact hz b off hp'
  ·intro ha
   have:=hn ha
   rw[hps] at this
   simpa using this
  ·intro p hp _
   rw[hps]
   simpa using hp
noncomputable def low:Nat:=(World.holding Tryz.prog default ⟨#[],#[],[]⟩).heap.size
noncomputable def laidWorld (os:Os):World:=
 let w0:=World.holding Tryz.prog os ⟨#[.cells #[.string ⟨#[118,97,108,117,101,32,111,117,116,32,111,102,32,114,97,110,103,101]⟩] 256,.cells #[.string ⟨#[105,110,118,97,108,105,100,32,115,121,110,116,97,120]⟩] 256],#[],[]⟩
 let put (h:Array Obj) (g:Nat) (cs:Array Value):Array Obj:=h.modify g fun
  |.cells _ t frozen=>.cells cs t frozen
  |o=>o
 { w0 with heap:=put (put (put (put (put w0.heap 4 #[.int .u8 0,.int .u8 1,.int .u8 28,.int .u8 2,.int .u8 29,.int .u8 14,.int .u8 24,.int .u8 3,.int .u8 30,.int .u8 22,.int .u8 20,.int .u8 15,.int .u8 25,.int .u8 17,.int .u8 4,.int .u8 8,.int .u8 31,.int .u8 27,.int .u8 13,.int .u8 23,.int .u8 21,.int .u8 19,.int .u8 16,.int .u8 7,.int .u8 26,.int .u8 12,.int .u8 18,.int .u8 6,.int .u8 11,.int .u8 5,.int .u8 10,.int .u8 9]) 5 #[.int .u8 0,.int .u8 1,.int .u8 56,.int .u8 2,.int .u8 57,.int .u8 49,.int .u8 28,.int .u8 3,.int .u8 61,.int .u8 58,.int .u8 42,.int .u8 50,.int .u8 38,.int .u8 29,.int .u8 17,.int .u8 4,.int .u8 62,.int .u8 47,.int .u8 59,.int .u8 36,.int .u8 45,.int .u8 43,.int .u8 51,.int .u8 22,.int .u8 53,.int .u8 39,.int .u8 33,.int .u8 30,.int .u8 24,.int .u8 18,.int .u8 12,.int .u8 5,.int .u8 63,.int .u8 55,.int .u8 48,.int .u8 27,.int .u8 60,.int .u8 41,.int .u8 37,.int .u8 16,.int .u8 46,.int .u8 35,.int .u8 44,.int .u8 21,.int .u8 52,.int .u8 32,.int .u8 23,.int .u8 11,.int .u8 54,.int .u8 26,.int .u8 40,.int .u8 15,.int .u8 34,.int .u8 20,.int .u8 31,.int .u8 10,.int .u8 25,.int .u8 14,.int .u8 19,.int .u8 9,.int .u8 13,.int .u8 8,.int .u8 7,.int .u8 6]) 1 #[.int .u64 1,.int .u64 10,.int .u64 100,.int .u64 1000,.int .u64 10000,.int .u64 100000,.int .u64 1000000,.int .u64 10000000,.int .u64 100000000,.int .u64 1000000000,.int .u64 10000000000,.int .u64 100000000000,.int .u64 1000000000000,.int .u64 10000000000000,.int .u64 100000000000000,.int .u64 1000000000000000,.int .u64 10000000000000000,.int .u64 100000000000000000,.int .u64 1000000000000000000,.int .u64 10000000000000000000]) 7 #[.iface 254 (.pointer (some ⟨low,0,none⟩))]) 6 #[.iface 254 (.pointer (some ⟨low+1,0,none⟩))] }
theorem laid_met (os:Os) (args:Array Value):laidMet Tryz.prog lst ((laidWorld os).forCall (fun _ _=>0) ⟨#[],args,[]⟩).memory:=
 laidMet_of_run' 8 (by kernel_rfl) (by kernel_rfl)
end Go.Proofs.YtcbpcianefpniaaGreatDoor
namespace Go.Proofs.YtcbpcianefpniaaGreatDoor
open Go.ChangeShapes Go.WideShapes Go.ChangeAt Go.RowKit
set_option maxRecDepth 100000
theorem laidOut:laidOutB Tryz.prog=true:=by kernel_rfl
theorem stay_nums {H:Type} {enc:TypeId×Value→H} {W W':World} {v:Value} {d:DataW H} {ps:List MemPlace} {sp:Nat→Bool} (hd:DataW.Trod enc Tryz.prog W 0 (fun _=>true) true 22 v d ps) (hb:Below W.heap.size W W') (hlt:∀ x∈ps,x.block<W.heap.size) (hsp:∀ p∈ps,sp p.block=true):DataW.Trod enc Tryz.prog W' 0 sp true 22 v d ps:=
 WideElems.Trod_stays laidOut (by kernel_rfl) (of_decide_eq_true (by kernel_rfl)) hd (fun x hx=>hb.same (hlt x hx)) hsp
end Go.Proofs.YtcbpcianefpniaaGreatDoor
namespace Go.Proofs.YtcbpcianefpniaaGreatDoor.Inp
open Go.GL Go.RowKit Go.Stele
set_option maxRecDepth 100000
set_option maxHeartbeats 4000000
def goZ {A:Type} (f:A→Nat):List A→Nat→Nat
 |[],n=>n
 |x::l,n=>if 1000<n+(1+f x) then n+(1+f x) else goZ f l (n+(1+f x))
def exZ:Nat→List Ex→Nat
 |0,_=>1000
 |d+1,l=>goZ (fun x=>exZ d (exArgs x)) l 0
def smZ:Nat→List Sm→Nat
 |0,_=>1000
 |d+1,l=>goZ (fun s=>exZ (d+1) (smIndex s)+exZ (d+1) (smValue s)+smZ d (smThen s)+smZ d (smElse s)) l 0
theorem goZ_le {A:Type} {f:A→Nat} {b:Nat} (hf:∀ x,f x≤b):∀ (l:List A) (n:Nat),n≤1000→goZ f l n≤1001+b
 |[],n,hn=>by unfold goZ;omega
 |x::l,n,hn=>by
  have:=hf x
  unfold goZ
  split
  ·omega
  ·exact goZ_le hf l _ zo
theorem exZ_le:∀ (d:Nat) (l:List Ex),exZ d l≤1001 * (d+1)
 |0,l=>by unfold exZ;omega
 |d+1,l=>by
  unfold exZ
  have:=goZ_le (f:=fun x=>exZ d (exArgs x)) (b:=1001 * (d+1)) (fun x=>exZ_le d _) l 0 zo
  omega
theorem smZ_le:∀ (d:Nat) (l:List Sm),d≤40→smZ d l+90000≤100000 * 2 ^ d
 |0,l,_=>by unfold smZ;omega
 |d+1,l,hd=>by
  unfold smZ
  have h:∀ s:Sm,exZ (d+1) (smIndex s)+exZ (d+1) (smValue s)+smZ d (smThen s)+smZ d (smElse s)≤2 * (1001 * 41)+2 * (100000 * 2 ^ d-90000):=fun s=>by
   have h1:=exZ_le (d+1) (smIndex s)
   have h2:=exZ_le (d+1) (smValue s)
   have h3:=smZ_le d (smThen s) zo
   have h4:=smZ_le d (smElse s) zo
   omega
  have:=goZ_le h l 0 zo
  have h5:=smZ_le d [] zo
  rw[Nat.pow_succ]
  omega
theorem pow40 {d:Nat} (h:d≤40):100000 * 2 ^ d≤109951162777600000:=
 Nat.le_trans (Nat.mul_le_mul_left _ (Nat.pow_le_pow_right (by decide) h)) (by decide)
attribute [local irreducible] LOps LCode LStep LCalls Go.GL.Pure QThen QBlock RetPost LQ LAny LLate LLateOp LS
section
variable {B0:Nat} {w0:World}
theorem exprs_spec:∀ (d:Nat),d≤40→∀ l:List Ex,LCalls (KC B0 w0) 56 [.list (l.map encE),int .i64 (d:Int)] [] (Ret (int .i64 ((exZ d l:Nat):Int)))
 |0,_,l=>by
  refine cI Tryz.func56 rfl (n:=29) rfl rfl rfl ?_
  refine gac ?_
  refine oC rfl (fun _=>?_) (fun hc=>by cases hc)
  refine gau ?_
  exact retRet rfl (zra rfl) rfl
 |d+1,hd,l=>by
  have ih:=exprs_spec d zo
  refine cI Tryz.func56 rfl (n:=29) rfl rfl rfl ?_
  refine gac ?_
  refine oC rfl (fun hc=>absurd (zt hc) zo) (fun _=>?_)
  refine gac ?_
  refine oL (fun kk ls H'=>∃ (pre l1:List Ex) (n:Nat),l=pre++l1∧kk=l1.length∧ls=[(1,int .i64 ((d+1:Nat):Int)),(5,int .i64 (n:Int)),(10,.list (l.map encE)),(11,int .i64 ((l.map encE).length:Int)),(12,int .i64 (pre.length:Int))]∧H'=[]∧pre.length≤n∧n≤1000∧goZ (fun x=>exZ d (exArgs x)) l1 n=exZ (d+1) l)
   ⟨_,_,_,⟨[],l,0,rfl,rfl,rfl,rfl,Nat.le_refl _,by omega,rfl⟩,⟨rfl,rfl,rfl,rfl,rfl,trivial⟩,HSub.refl _⟩ ?_
  rintro kk ls H' ⟨pre,l1,n,hLe,rfl,rfl,rfl,hn1,hn2,hI⟩ j hj
  refine gak ?_
  refine oC rfl (fun hc=>?_) (fun hc=>?_)
  ·have hlen:=zt hc
   rw[List.length_map,hLe,List.length_append] at hlen
   obtain ⟨x,l2,rfl⟩:∃ a l2,l1=a::l2:=by
    cases l1 with
    |nil=>simp at hlen
    |cons a l2=>exact ⟨a,l2,rfl⟩
   obtain ⟨op,num,name,args⟩:=x
   have hb:=exZ_le d args
   refine gal ?_
   refine oP (xR (el':=encE (.mk op num name args)) (cs:=[_,_,_,_]) rfl rfl zo (by rw[hLe];exact get_mid encE pre _ l2) rfl rfl) rfl ?_
   refine gax ?_
   refine oS (S.alloc fun b7=>?_) rfl
   refine gaa ?_
   refine oS (S.fn [_,_] (show [LV.list (encArgs (.mk op num name args)),int .i64 (((d+1:Nat):Int)-1)]=[.list (args.map encE),int .i64 (d:Int)] by rw[show encArgs (.mk op num name args)=args.map encE from encArgs_map ..,show ((d+1:Nat):Int)-1=(d:Int) by omega]) (ih args) ?_) rfl
   have hI:(if 1000<n+(1+exZ d args) then n+(1+exZ d args) else goZ (fun x=>exZ d (exArgs x)) l2 (n+(1+exZ d args)))=exZ (d+1) l:=hI
   refine gaa ?_
   by_cases h1:1000<n+(1+exZ d args)
   ·refine oC rfl (fun _=>?_) (fun hc=>absurd (show (1000:Int)<((n:Nat):Int)+(1+((exZ d args:Nat):Int)) by omega) (zf hc))
    rw[if_pos h1] at hI
    refine gap ?_
    exact retRet hj (zra rfl) (int_eq (by rw[←hI];rfl))
   ·refine oC rfl (fun hc=>absurd (show (1000:Int)<((n:Nat):Int)+(1+((exZ d args:Nat):Int)) from zt hc) zo) (fun _=>?_)
    rw[if_neg h1] at hI
    refine gar ?_
    exact ⟨l2.length,_,_,Nat.lt_succ_self _,⟨pre++[.mk op num name args],l2,n+(1+exZ d args),by rw[hLe];simp,rfl,rfl,rfl,by rw[List.length_append,List.length_singleton];omega,by omega,hI⟩,⟨rfl,rfl,rfl,rfl,int_eq (by simp),trivial⟩,HSub.nil _,hj⟩
  have hlen:=zf hc
  rw[List.length_map,hLe,List.length_append] at hlen
  obtain rfl:l1=[]:=by
   cases l1 with
   |nil=>rfl
   |cons a l2=>simp at hlen;omega
  refine gac ?_
  exact retRet hj (zra rfl) (int_eq (by rw[←hI];rfl))
end
end Go.Proofs.YtcbpcianefpniaaGreatDoor.Inp
namespace Go.Proofs.YtcbpcianefpniaaGreatDoor.Inp
open Go.GL Go.RowKit Go.Stele
set_option maxRecDepth 100000
set_option maxHeartbeats 4000000
theorem encThen_eq (x:Sm):encThen x=(smThen x).map encS:=by
 cases x
 rw[encThen,encSs_map]
 rfl
theorem encElse_eq (x:Sm):encElse x=(smElse x).map encS:=by
 cases x
 rw[encElse,encSs_map]
 rfl
theorem pred_eq (d:Nat):int .i64 (((d+1:Nat):Int)-1)=int .i64 (d:Int):=int_eq zo
attribute [local irreducible] LOps LCode LStep LCalls Go.GL.Pure QThen QBlock RetPost LQ LAny LLate LLateOp LS
section
variable {B0:Nat} {w0:World}
theorem blockZ_spec:∀ (d:Nat),d≤40→∀ l:List Sm,LCalls (KC B0 w0) 28 [.list (l.map encS),int .i64 (d:Int)] [] (Ret (int .i64 ((smZ d l:Nat):Int)))
 |0,_,l=>by
  refine cI Tryz.func28 rfl (n:=45) rfl rfl rfl ?_
  refine gac ?_
  refine oC rfl (fun _=>?_) (fun hc=>by cases hc)
  refine gau ?_
  exact retRet rfl (zra rfl) rfl
 |d+1,hd,l=>by
  have ih:=blockZ_spec d zo
  refine cI Tryz.func28 rfl (n:=45) rfl rfl rfl ?_
  refine gac ?_
  refine oC rfl (fun hc=>absurd (zt hc) zo) (fun _=>?_)
  refine gac ?_
  refine oL (fun kk ls H'=>∃ (pre l1:List Sm) (n:Nat),l=pre++l1∧kk=l1.length∧ls=[(1,int .i64 ((d+1:Nat):Int)),(5,int .i64 (n:Int)),(10,.list (l.map encS)),(11,int .i64 ((l.map encS).length:Int)),(12,int .i64 (pre.length:Int))]∧H'=[]∧pre.length≤n∧n≤1000∧goZ (fun s=>exZ (d+1) (smIndex s)+exZ (d+1) (smValue s)+smZ d (smThen s)+smZ d (smElse s)) l1 n=smZ (d+1) l)
   ⟨_,_,_,⟨[],l,0,rfl,rfl,rfl,rfl,Nat.le_refl _,by omega,rfl⟩,⟨rfl,rfl,rfl,rfl,rfl,trivial⟩,HSub.refl _⟩ ?_
  rintro kk ls H' ⟨pre,l1,n,hLe,rfl,rfl,rfl,hn1,hn2,hI⟩ j hj
  refine gak ?_
  refine oC rfl (fun hc=>?_) (fun hc=>?_)
  ·have hlen:=zt hc
   rw[List.length_map,hLe,List.length_append] at hlen
   obtain ⟨x,l2,rfl⟩:∃ a l2,l1=a::l2:=by
    cases l1 with
    |nil=>simp at hlen
    |cons a l2=>exact ⟨a,l2,rfl⟩
   have hI:(if 1000<n+(1+(exZ (d+1) (smIndex x)+exZ (d+1) (smValue x)+smZ d (smThen x)+smZ d (smElse x))) then n+(1+(exZ (d+1) (smIndex x)+exZ (d+1) (smValue x)+smZ d (smThen x)+smZ d (smElse x))) else goZ (fun s=>exZ (d+1) (smIndex s)+exZ (d+1) (smValue s)+smZ d (smThen s)+smZ d (smElse s)) l2 (n+(1+(exZ (d+1) (smIndex x)+exZ (d+1) (smValue x)+smZ d (smThen x)+smZ d (smElse x)))))=smZ (d+1) l:=hI
   have hs1:=exprs_spec (B0:=B0) (w0:=w0) (d+1) hd (smIndex x)
   have hs2:=exprs_spec (B0:=B0) (w0:=w0) (d+1) hd (smValue x)
   have hs3:=ih (smThen x)
   have hs4:=ih (smElse x)
   rw[←encThen_eq,←pred_eq] at hs3
   rw[←encElse_eq,←pred_eq] at hs4
   have hp:=pow40 (d:=d) zo
   have hb1:=exZ_le (d+1) (smIndex x)
   have hb2:=exZ_le (d+1) (smValue x)
   have hb3:=smZ_le d (smThen x) zo
   have hb4:=smZ_le d (smElse x) zo
   generalize exZ (d+1) (smIndex x)=a1 at hs1 hb1 hI
   generalize exZ (d+1) (smValue x)=a2 at hs2 hb2 hI
   generalize smZ d (smThen x)=a3 at hs3 hb3 hI
   generalize smZ d (smElse x)=a4 at hs4 hb4 hI
   have hb3:a3≤109951162777600000:=by omega
   have hb4:a4≤109951162777600000:=by omega
   clear hp
   refine gal ?_
   refine oP (xR (el':=encS x) (cs:=[_,_,_,_,_,_]) rfl rfl zo (by rw[hLe];exact get_mid encS pre _ l2) rfl rfl) rfl ?_
   refine gab ?_
   refine oS (S.alloc fun b7=>?_) rfl
   refine gab ?_
   refine LCode.draw (m:=25) rfl [(b7,.cells 128 [int .i64 (smKind x),str (smName x),.list ((smIndex x).map encE),.list ((smValue x).map encE),.list (encThen x),.list (encElse x)])] ?_
   refine aT 0 rfl rfl (Pure.mv (lv:=.atom _) rfl) ?_
   refine aT 1 rfl rfl (Pure.fieldH rfl) ?_
   refine aT 2 rfl rfl (Pure.loadH (c:=.list _) rfl zm0 rfl) ?_
   refine aT 3 rfl rfl (Pure.mv (lv:=.atom _) rfl) ?_
   refine aT 6 rfl rfl (Pure.fieldH rfl) ?_
   refine aT 7 rfl rfl (Pure.loadH (c:=.list _) rfl zm0 rfl) ?_
   refine aT 8 rfl rfl (Pure.mv (lv:=.atom _) rfl) ?_
   refine aT 11 rfl rfl (Pure.fieldH rfl) ?_
   refine aT 12 rfl rfl (Pure.loadH (c:=.list _) rfl zm0 rfl) ?_
   refine aT 13 rfl rfl (Pure.mv (lv:=.atom _) rfl) ?_
   refine aT 14 rfl rfl (Pure.sub rfl rfl zo) ?_
   refine aT 17 rfl rfl (Pure.fieldH rfl) ?_
   refine aT 18 rfl rfl (Pure.loadH (c:=.list _) rfl zm0 rfl) ?_
   refine aT 19 rfl rfl (Pure.mv (lv:=.atom _) rfl) ?_
   refine aT 20 rfl rfl (Pure.sub rfl rfl zo) ?_
   refine LAny.late ?_ zhr
   refine zl1 (i:=4) zk ?_
   refine lS (H1:=[]) rfl (.inl rfl) rfl zpr zhr (S.fn [_,_] rfl hs1 ?_)
   refine LLate.two (i:=5) (j:=9) zk ?_ ?_
   ·refine lH rfl rfl (Pure.add rfl rfl zo) ?_
    refine zl1 (i:=9) zk ?_
    refine lS (H1:=[]) rfl (.inl rfl) rfl zpr zhr (S.fn [_,_] rfl hs2 ?_)
    refine LLate.two (i:=10) (j:=15) zk ?_ ?_
    ·refine lH rfl rfl (Pure.add rfl rfl zo) ?_
     refine zl1 (i:=15) zk ?_
     refine lS (H1:=[]) rfl (.inl rfl) rfl zpr zhr (S.fn [_,_] rfl hs3 ?_)
     refine LLate.two (i:=16) (j:=21) zk ?_ ?_
     ·refine lH rfl rfl (Pure.add rfl rfl zo) ?_
      refine zl1 (i:=21) zk ?_
      refine lS (H1:=[]) rfl (.inl rfl) rfl zpr zhr (S.fn [_,_] rfl hs4 ?_)
      refine zl1 (i:=22) zk ?_
      refine lH rfl rfl (Pure.add rfl rfl zo) ?_
      refine zl1 (i:=23) zk ?_
      refine lH rfl rfl (Pure.add rfl rfl zo) ?_
      refine zl1 (i:=24) zk ?_
      refine lH rfl rfl (Pure.as (lv:=.atom _) rfl) ?_
      refine lD zk ?_
      refine gaa ?_
      by_cases h1:1000<n+(1+(a1+a2+a3+a4))
      ·refine oC rfl (fun _=>?_) (fun hc=>absurd (show (1000:Int)<(n:Int)+(1+(a1:Int)+(a2:Int)+(a3:Int)+(a4:Int)) by omega) (zf hc))
       rw[if_pos h1] at hI
       refine gap ?_
       exact retRet hj (zra rfl) (int_eq (show (n:Int)+(1+(a1:Int)+(a2:Int)+(a3:Int)+(a4:Int))=_ by rw[←hI];omega))
      ·refine oC rfl (fun hc=>absurd (show (1000:Int)<(n:Int)+(1+(a1:Int)+(a2:Int)+(a3:Int)+(a4:Int)) from zt hc) zo) (fun _=>?_)
       rw[if_neg h1] at hI
       refine gar ?_
       exact ⟨l2.length,_,_,Nat.lt_succ_self _,⟨pre++[x],l2,n+(1+(a1+a2+a3+a4)),by rw[hLe];simp,rfl,rfl,rfl,by rw[List.length_append,List.length_singleton];omega,by omega,hI⟩,⟨rfl,int_eq (show (n:Int)+(1+(a1:Int)+(a2:Int)+(a3:Int)+(a4:Int))=_ by omega),rfl,rfl,int_eq (by simp),trivial⟩,HSub.nil _,hj⟩
     ·refine lS (H1:=[]) rfl (.inl rfl) rfl zpr zhr (S.fn [_,_] rfl hs4 ?_)
      refine zl1 (i:=16) zk ?_
      refine lH rfl rfl (Pure.add rfl rfl zo) ?_
      refine zl1 (i:=22) zk ?_
      refine lH rfl rfl (Pure.add rfl rfl zo) ?_
      refine zl1 (i:=23) zk ?_
      refine lH rfl rfl (Pure.add rfl rfl zo) ?_
      refine zl1 (i:=24) zk ?_
      refine lH rfl rfl (Pure.as (lv:=.atom _) rfl) ?_
      refine lD zk ?_
      refine gaa ?_
      by_cases h1:1000<n+(1+(a1+a2+a3+a4))
      ·refine oC rfl (fun _=>?_) (fun hc=>absurd (show (1000:Int)<(n:Int)+(1+(a1:Int)+(a2:Int)+(a3:Int)+(a4:Int)) by omega) (zf hc))
       rw[if_pos h1] at hI
       refine gap ?_
       exact retRet hj (zra rfl) (int_eq (show (n:Int)+(1+(a1:Int)+(a2:Int)+(a3:Int)+(a4:Int))=_ by rw[←hI];omega))
      ·refine oC rfl (fun hc=>absurd (show (1000:Int)<(n:Int)+(1+(a1:Int)+(a2:Int)+(a3:Int)+(a4:Int)) from zt hc) zo) (fun _=>?_)
       rw[if_neg h1] at hI
       refine gar ?_
       exact ⟨l2.length,_,_,Nat.lt_succ_self _,⟨pre++[x],l2,n+(1+(a1+a2+a3+a4)),by rw[hLe];simp,rfl,rfl,rfl,by rw[List.length_append,List.length_singleton];omega,by omega,hI⟩,⟨rfl,int_eq (show (n:Int)+(1+(a1:Int)+(a2:Int)+(a3:Int)+(a4:Int))=_ by omega),rfl,rfl,int_eq (by simp),trivial⟩,HSub.nil _,hj⟩
    ·refine lS (H1:=[]) rfl (.inl rfl) rfl zpr zhr (S.fn [_,_] rfl hs3 ?_)
     refine LLate.two (i:=10) (j:=21) zk ?_ ?_
     ·refine lH rfl rfl (Pure.add rfl rfl zo) ?_
      refine LLate.two (i:=16) (j:=21) zk ?_ ?_
      ·refine lH rfl rfl (Pure.add rfl rfl zo) ?_
       refine zl1 (i:=21) zk ?_
       refine lS (H1:=[]) rfl (.inl rfl) rfl zpr zhr (S.fn [_,_] rfl hs4 ?_)
       refine zl1 (i:=22) zk ?_
       refine lH rfl rfl (Pure.add rfl rfl zo) ?_
       refine zl1 (i:=23) zk ?_
       refine lH rfl rfl (Pure.add rfl rfl zo) ?_
       refine zl1 (i:=24) zk ?_
       refine lH rfl rfl (Pure.as (lv:=.atom _) rfl) ?_
       refine lD zk ?_
       refine gaa ?_
       by_cases h1:1000<n+(1+(a1+a2+a3+a4))
       ·refine oC rfl (fun _=>?_) (fun hc=>absurd (show (1000:Int)<(n:Int)+(1+(a1:Int)+(a2:Int)+(a3:Int)+(a4:Int)) by omega) (zf hc))
        rw[if_pos h1] at hI
        refine gap ?_
        exact retRet hj (zra rfl) (int_eq (show (n:Int)+(1+(a1:Int)+(a2:Int)+(a3:Int)+(a4:Int))=_ by rw[←hI];omega))
       ·refine oC rfl (fun hc=>absurd (show (1000:Int)<(n:Int)+(1+(a1:Int)+(a2:Int)+(a3:Int)+(a4:Int)) from zt hc) zo) (fun _=>?_)
        rw[if_neg h1] at hI
        refine gar ?_
        exact ⟨l2.length,_,_,Nat.lt_succ_self _,⟨pre++[x],l2,n+(1+(a1+a2+a3+a4)),by rw[hLe];simp,rfl,rfl,rfl,by rw[List.length_append,List.length_singleton];omega,by omega,hI⟩,⟨rfl,int_eq (show (n:Int)+(1+(a1:Int)+(a2:Int)+(a3:Int)+(a4:Int))=_ by omega),rfl,rfl,int_eq (by simp),trivial⟩,HSub.nil _,hj⟩
      ·refine lS (H1:=[]) rfl (.inl rfl) rfl zpr zhr (S.fn [_,_] rfl hs4 ?_)
       refine zl1 (i:=16) zk ?_
       refine lH rfl rfl (Pure.add rfl rfl zo) ?_
       refine zl1 (i:=22) zk ?_
       refine lH rfl rfl (Pure.add rfl rfl zo) ?_
       refine zl1 (i:=23) zk ?_
       refine lH rfl rfl (Pure.add rfl rfl zo) ?_
       refine zl1 (i:=24) zk ?_
       refine lH rfl rfl (Pure.as (lv:=.atom _) rfl) ?_
       refine lD zk ?_
       refine gaa ?_
       by_cases h1:1000<n+(1+(a1+a2+a3+a4))
       ·refine oC rfl (fun _=>?_) (fun hc=>absurd (show (1000:Int)<(n:Int)+(1+(a1:Int)+(a2:Int)+(a3:Int)+(a4:Int)) by omega) (zf hc))
        rw[if_pos h1] at hI
        refine gap ?_
        exact retRet hj (zra rfl) (int_eq (show (n:Int)+(1+(a1:Int)+(a2:Int)+(a3:Int)+(a4:Int))=_ by rw[←hI];omega))
       ·refine oC rfl (fun hc=>absurd (show (1000:Int)<(n:Int)+(1+(a1:Int)+(a2:Int)+(a3:Int)+(a4:Int)) from zt hc) zo) (fun _=>?_)
        rw[if_neg h1] at hI
        refine gar ?_
        exact ⟨l2.length,_,_,Nat.lt_succ_self _,⟨pre++[x],l2,n+(1+(a1+a2+a3+a4)),by rw[hLe];simp,rfl,rfl,rfl,by rw[List.length_append,List.length_singleton];omega,by omega,hI⟩,⟨rfl,int_eq (show (n:Int)+(1+(a1:Int)+(a2:Int)+(a3:Int)+(a4:Int))=_ by omega),rfl,rfl,int_eq (by simp),trivial⟩,HSub.nil _,hj⟩
     ·refine lS (H1:=[]) rfl (.inl rfl) rfl zpr zhr (S.fn [_,_] rfl hs4 ?_)
      refine zl1 (i:=10) zk ?_
      refine lH rfl rfl (Pure.add rfl rfl zo) ?_
      refine zl1 (i:=16) zk ?_
      refine lH rfl rfl (Pure.add rfl rfl zo) ?_
      refine zl1 (i:=22) zk ?_
      refine lH rfl rfl (Pure.add rfl rfl zo) ?_
      refine zl1 (i:=23) zk ?_
      refine lH rfl rfl (Pure.add rfl rfl zo) ?_
      refine zl1 (i:=24) zk ?_
      refine lH rfl rfl (Pure.as (lv:=.atom _) rfl) ?_
      refine lD zk ?_
      refine gaa ?_
      by_cases h1:1000<n+(1+(a1+a2+a3+a4))
      ·refine oC rfl (fun _=>?_) (fun hc=>absurd (show (1000:Int)<(n:Int)+(1+(a1:Int)+(a2:Int)+(a3:Int)+(a4:Int)) by omega) (zf hc))
       rw[if_pos h1] at hI
       refine gap ?_
       exact retRet hj (zra rfl) (int_eq (show (n:Int)+(1+(a1:Int)+(a2:Int)+(a3:Int)+(a4:Int))=_ by rw[←hI];omega))
      ·refine oC rfl (fun hc=>absurd (show (1000:Int)<(n:Int)+(1+(a1:Int)+(a2:Int)+(a3:Int)+(a4:Int)) from zt hc) zo) (fun _=>?_)
       rw[if_neg h1] at hI
       refine gar ?_
       exact ⟨l2.length,_,_,Nat.lt_succ_self _,⟨pre++[x],l2,n+(1+(a1+a2+a3+a4)),by rw[hLe];simp,rfl,rfl,rfl,by rw[List.length_append,List.length_singleton];omega,by omega,hI⟩,⟨rfl,int_eq (show (n:Int)+(1+(a1:Int)+(a2:Int)+(a3:Int)+(a4:Int))=_ by omega),rfl,rfl,int_eq (by simp),trivial⟩,HSub.nil _,hj⟩
   ·refine lS (H1:=[]) rfl (.inl rfl) rfl zpr zhr (S.fn [_,_] rfl hs2 ?_)
    refine LLate.two (i:=5) (j:=15) zk ?_ ?_
    ·refine lH rfl rfl (Pure.add rfl rfl zo) ?_
     refine LLate.two (i:=10) (j:=15) zk ?_ ?_
     ·refine lH rfl rfl (Pure.add rfl rfl zo) ?_
      refine zl1 (i:=15) zk ?_
      refine lS (H1:=[]) rfl (.inl rfl) rfl zpr zhr (S.fn [_,_] rfl hs3 ?_)
      refine LLate.two (i:=16) (j:=21) zk ?_ ?_
      ·refine lH rfl rfl (Pure.add rfl rfl zo) ?_
       refine zl1 (i:=21) zk ?_
       refine lS (H1:=[]) rfl (.inl rfl) rfl zpr zhr (S.fn [_,_] rfl hs4 ?_)
       refine zl1 (i:=22) zk ?_
       refine lH rfl rfl (Pure.add rfl rfl zo) ?_
       refine zl1 (i:=23) zk ?_
       refine lH rfl rfl (Pure.add rfl rfl zo) ?_
       refine zl1 (i:=24) zk ?_
       refine lH rfl rfl (Pure.as (lv:=.atom _) rfl) ?_
       refine lD zk ?_
       refine gaa ?_
       by_cases h1:1000<n+(1+(a1+a2+a3+a4))
       ·refine oC rfl (fun _=>?_) (fun hc=>absurd (show (1000:Int)<(n:Int)+(1+(a1:Int)+(a2:Int)+(a3:Int)+(a4:Int)) by omega) (zf hc))
        rw[if_pos h1] at hI
        refine gap ?_
        exact retRet hj (zra rfl) (int_eq (show (n:Int)+(1+(a1:Int)+(a2:Int)+(a3:Int)+(a4:Int))=_ by rw[←hI];omega))
       ·refine oC rfl (fun hc=>absurd (show (1000:Int)<(n:Int)+(1+(a1:Int)+(a2:Int)+(a3:Int)+(a4:Int)) from zt hc) zo) (fun _=>?_)
        rw[if_neg h1] at hI
        refine gar ?_
        exact ⟨l2.length,_,_,Nat.lt_succ_self _,⟨pre++[x],l2,n+(1+(a1+a2+a3+a4)),by rw[hLe];simp,rfl,rfl,rfl,by rw[List.length_append,List.length_singleton];omega,by omega,hI⟩,⟨rfl,int_eq (show (n:Int)+(1+(a1:Int)+(a2:Int)+(a3:Int)+(a4:Int))=_ by omega),rfl,rfl,int_eq (by simp),trivial⟩,HSub.nil _,hj⟩
      ·refine lS (H1:=[]) rfl (.inl rfl) rfl zpr zhr (S.fn [_,_] rfl hs4 ?_)
       refine zl1 (i:=16) zk ?_
       refine lH rfl rfl (Pure.add rfl rfl zo) ?_
       refine zl1 (i:=22) zk ?_
       refine lH rfl rfl (Pure.add rfl rfl zo) ?_
       refine zl1 (i:=23) zk ?_
       refine lH rfl rfl (Pure.add rfl rfl zo) ?_
       refine zl1 (i:=24) zk ?_
       refine lH rfl rfl (Pure.as (lv:=.atom _) rfl) ?_
       refine lD zk ?_
       refine gaa ?_
       by_cases h1:1000<n+(1+(a1+a2+a3+a4))
       ·refine oC rfl (fun _=>?_) (fun hc=>absurd (show (1000:Int)<(n:Int)+(1+(a1:Int)+(a2:Int)+(a3:Int)+(a4:Int)) by omega) (zf hc))
        rw[if_pos h1] at hI
        refine gap ?_
        exact retRet hj (zra rfl) (int_eq (show (n:Int)+(1+(a1:Int)+(a2:Int)+(a3:Int)+(a4:Int))=_ by rw[←hI];omega))
       ·refine oC rfl (fun hc=>absurd (show (1000:Int)<(n:Int)+(1+(a1:Int)+(a2:Int)+(a3:Int)+(a4:Int)) from zt hc) zo) (fun _=>?_)
        rw[if_neg h1] at hI
        refine gar ?_
        exact ⟨l2.length,_,_,Nat.lt_succ_self _,⟨pre++[x],l2,n+(1+(a1+a2+a3+a4)),by rw[hLe];simp,rfl,rfl,rfl,by rw[List.length_append,List.length_singleton];omega,by omega,hI⟩,⟨rfl,int_eq (show (n:Int)+(1+(a1:Int)+(a2:Int)+(a3:Int)+(a4:Int))=_ by omega),rfl,rfl,int_eq (by simp),trivial⟩,HSub.nil _,hj⟩
     ·refine lS (H1:=[]) rfl (.inl rfl) rfl zpr zhr (S.fn [_,_] rfl hs3 ?_)
      refine LLate.two (i:=10) (j:=21) zk ?_ ?_
      ·refine lH rfl rfl (Pure.add rfl rfl zo) ?_
       refine LLate.two (i:=16) (j:=21) zk ?_ ?_
       ·refine lH rfl rfl (Pure.add rfl rfl zo) ?_
        refine zl1 (i:=21) zk ?_
        refine lS (H1:=[]) rfl (.inl rfl) rfl zpr zhr (S.fn [_,_] rfl hs4 ?_)
        refine zl1 (i:=22) zk ?_
        refine lH rfl rfl (Pure.add rfl rfl zo) ?_
        refine zl1 (i:=23) zk ?_
        refine lH rfl rfl (Pure.add rfl rfl zo) ?_
        refine zl1 (i:=24) zk ?_
        refine lH rfl rfl (Pure.as (lv:=.atom _) rfl) ?_
        refine lD zk ?_
        refine gaa ?_
        by_cases h1:1000<n+(1+(a1+a2+a3+a4))
        ·refine oC rfl (fun _=>?_) (fun hc=>absurd (show (1000:Int)<(n:Int)+(1+(a1:Int)+(a2:Int)+(a3:Int)+(a4:Int)) by omega) (zf hc))
         rw[if_pos h1] at hI
         refine gap ?_
         exact retRet hj (zra rfl) (int_eq (show (n:Int)+(1+(a1:Int)+(a2:Int)+(a3:Int)+(a4:Int))=_ by rw[←hI];omega))
        ·refine oC rfl (fun hc=>absurd (show (1000:Int)<(n:Int)+(1+(a1:Int)+(a2:Int)+(a3:Int)+(a4:Int)) from zt hc) zo) (fun _=>?_)
         rw[if_neg h1] at hI
         refine gar ?_
         exact ⟨l2.length,_,_,Nat.lt_succ_self _,⟨pre++[x],l2,n+(1+(a1+a2+a3+a4)),by rw[hLe];simp,rfl,rfl,rfl,by rw[List.length_append,List.length_singleton];omega,by omega,hI⟩,⟨rfl,int_eq (show (n:Int)+(1+(a1:Int)+(a2:Int)+(a3:Int)+(a4:Int))=_ by omega),rfl,rfl,int_eq (by simp),trivial⟩,HSub.nil _,hj⟩
       ·refine lS (H1:=[]) rfl (.inl rfl) rfl zpr zhr (S.fn [_,_] rfl hs4 ?_)
        refine zl1 (i:=16) zk ?_
        refine lH rfl rfl (Pure.add rfl rfl zo) ?_
        refine zl1 (i:=22) zk ?_
        refine lH rfl rfl (Pure.add rfl rfl zo) ?_
        refine zl1 (i:=23) zk ?_
        refine lH rfl rfl (Pure.add rfl rfl zo) ?_
        refine zl1 (i:=24) zk ?_
        refine lH rfl rfl (Pure.as (lv:=.atom _) rfl) ?_
        refine lD zk ?_
        refine gaa ?_
        by_cases h1:1000<n+(1+(a1+a2+a3+a4))
        ·refine oC rfl (fun _=>?_) (fun hc=>absurd (show (1000:Int)<(n:Int)+(1+(a1:Int)+(a2:Int)+(a3:Int)+(a4:Int)) by omega) (zf hc))
         rw[if_pos h1] at hI
         refine gap ?_
         exact retRet hj (zra rfl) (int_eq (show (n:Int)+(1+(a1:Int)+(a2:Int)+(a3:Int)+(a4:Int))=_ by rw[←hI];omega))
        ·refine oC rfl (fun hc=>absurd (show (1000:Int)<(n:Int)+(1+(a1:Int)+(a2:Int)+(a3:Int)+(a4:Int)) from zt hc) zo) (fun _=>?_)
         rw[if_neg h1] at hI
         refine gar ?_
         exact ⟨l2.length,_,_,Nat.lt_succ_self _,⟨pre++[x],l2,n+(1+(a1+a2+a3+a4)),by rw[hLe];simp,rfl,rfl,rfl,by rw[List.length_append,List.length_singleton];omega,by omega,hI⟩,⟨rfl,int_eq (show (n:Int)+(1+(a1:Int)+(a2:Int)+(a3:Int)+(a4:Int))=_ by omega),rfl,rfl,int_eq (by simp),trivial⟩,HSub.nil _,hj⟩
      ·refine lS (H1:=[]) rfl (.inl rfl) rfl zpr zhr (S.fn [_,_] rfl hs4 ?_)
       refine zl1 (i:=10) zk ?_
       refine lH rfl rfl (Pure.add rfl rfl zo) ?_
       refine zl1 (i:=16) zk ?_
       refine lH rfl rfl (Pure.add rfl rfl zo) ?_
       refine zl1 (i:=22) zk ?_
       refine lH rfl rfl (Pure.add rfl rfl zo) ?_
       refine zl1 (i:=23) zk ?_
       refine lH rfl rfl (Pure.add rfl rfl zo) ?_
       refine zl1 (i:=24) zk ?_
       refine lH rfl rfl (Pure.as (lv:=.atom _) rfl) ?_
       refine lD zk ?_
       refine gaa ?_
       by_cases h1:1000<n+(1+(a1+a2+a3+a4))
       ·refine oC rfl (fun _=>?_) (fun hc=>absurd (show (1000:Int)<(n:Int)+(1+(a1:Int)+(a2:Int)+(a3:Int)+(a4:Int)) by omega) (zf hc))
        rw[if_pos h1] at hI
        refine gap ?_
        exact retRet hj (zra rfl) (int_eq (show (n:Int)+(1+(a1:Int)+(a2:Int)+(a3:Int)+(a4:Int))=_ by rw[←hI];omega))
       ·refine oC rfl (fun hc=>absurd (show (1000:Int)<(n:Int)+(1+(a1:Int)+(a2:Int)+(a3:Int)+(a4:Int)) from zt hc) zo) (fun _=>?_)
        rw[if_neg h1] at hI
        refine gar ?_
        exact ⟨l2.length,_,_,Nat.lt_succ_self _,⟨pre++[x],l2,n+(1+(a1+a2+a3+a4)),by rw[hLe];simp,rfl,rfl,rfl,by rw[List.length_append,List.length_singleton];omega,by omega,hI⟩,⟨rfl,int_eq (show (n:Int)+(1+(a1:Int)+(a2:Int)+(a3:Int)+(a4:Int))=_ by omega),rfl,rfl,int_eq (by simp),trivial⟩,HSub.nil _,hj⟩
    ·refine lS (H1:=[]) rfl (.inl rfl) rfl zpr zhr (S.fn [_,_] rfl hs3 ?_)
     refine LLate.two (i:=5) (j:=21) zk ?_ ?_
     ·refine lH rfl rfl (Pure.add rfl rfl zo) ?_
      refine LLate.two (i:=10) (j:=21) zk ?_ ?_
      ·refine lH rfl rfl (Pure.add rfl rfl zo) ?_
       refine LLate.two (i:=16) (j:=21) zk ?_ ?_
       ·refine lH rfl rfl (Pure.add rfl rfl zo) ?_
        refine zl1 (i:=21) zk ?_
        refine lS (H1:=[]) rfl (.inl rfl) rfl zpr zhr (S.fn [_,_] rfl hs4 ?_)
        refine zl1 (i:=22) zk ?_
        refine lH rfl rfl (Pure.add rfl rfl zo) ?_
        refine zl1 (i:=23) zk ?_
        refine lH rfl rfl (Pure.add rfl rfl zo) ?_
        refine zl1 (i:=24) zk ?_
        refine lH rfl rfl (Pure.as (lv:=.atom _) rfl) ?_
        refine lD zk ?_
        refine gaa ?_
        by_cases h1:1000<n+(1+(a1+a2+a3+a4))
        ·refine oC rfl (fun _=>?_) (fun hc=>absurd (show (1000:Int)<(n:Int)+(1+(a1:Int)+(a2:Int)+(a3:Int)+(a4:Int)) by omega) (zf hc))
         rw[if_pos h1] at hI
         refine gap ?_
         exact retRet hj (zra rfl) (int_eq (show (n:Int)+(1+(a1:Int)+(a2:Int)+(a3:Int)+(a4:Int))=_ by rw[←hI];omega))
        ·refine oC rfl (fun hc=>absurd (show (1000:Int)<(n:Int)+(1+(a1:Int)+(a2:Int)+(a3:Int)+(a4:Int)) from zt hc) zo) (fun _=>?_)
         rw[if_neg h1] at hI
         refine gar ?_
         exact ⟨l2.length,_,_,Nat.lt_succ_self _,⟨pre++[x],l2,n+(1+(a1+a2+a3+a4)),by rw[hLe];simp,rfl,rfl,rfl,by rw[List.length_append,List.length_singleton];omega,by omega,hI⟩,⟨rfl,int_eq (show (n:Int)+(1+(a1:Int)+(a2:Int)+(a3:Int)+(a4:Int))=_ by omega),rfl,rfl,int_eq (by simp),trivial⟩,HSub.nil _,hj⟩
       ·refine lS (H1:=[]) rfl (.inl rfl) rfl zpr zhr (S.fn [_,_] rfl hs4 ?_)
        refine zl1 (i:=16) zk ?_
        refine lH rfl rfl (Pure.add rfl rfl zo) ?_
        refine zl1 (i:=22) zk ?_
        refine lH rfl rfl (Pure.add rfl rfl zo) ?_
        refine zl1 (i:=23) zk ?_
        refine lH rfl rfl (Pure.add rfl rfl zo) ?_
        refine zl1 (i:=24) zk ?_
        refine lH rfl rfl (Pure.as (lv:=.atom _) rfl) ?_
        refine lD zk ?_
        refine gaa ?_
        by_cases h1:1000<n+(1+(a1+a2+a3+a4))
        ·refine oC rfl (fun _=>?_) (fun hc=>absurd (show (1000:Int)<(n:Int)+(1+(a1:Int)+(a2:Int)+(a3:Int)+(a4:Int)) by omega) (zf hc))
         rw[if_pos h1] at hI
         refine gap ?_
         exact retRet hj (zra rfl) (int_eq (show (n:Int)+(1+(a1:Int)+(a2:Int)+(a3:Int)+(a4:Int))=_ by rw[←hI];omega))
        ·refine oC rfl (fun hc=>absurd (show (1000:Int)<(n:Int)+(1+(a1:Int)+(a2:Int)+(a3:Int)+(a4:Int)) from zt hc) zo) (fun _=>?_)
         rw[if_neg h1] at hI
         refine gar ?_
         exact ⟨l2.length,_,_,Nat.lt_succ_self _,⟨pre++[x],l2,n+(1+(a1+a2+a3+a4)),by rw[hLe];simp,rfl,rfl,rfl,by rw[List.length_append,List.length_singleton];omega,by omega,hI⟩,⟨rfl,int_eq (show (n:Int)+(1+(a1:Int)+(a2:Int)+(a3:Int)+(a4:Int))=_ by omega),rfl,rfl,int_eq (by simp),trivial⟩,HSub.nil _,hj⟩
      ·refine lS (H1:=[]) rfl (.inl rfl) rfl zpr zhr (S.fn [_,_] rfl hs4 ?_)
       refine zl1 (i:=10) zk ?_
       refine lH rfl rfl (Pure.add rfl rfl zo) ?_
       refine zl1 (i:=16) zk ?_
       refine lH rfl rfl (Pure.add rfl rfl zo) ?_
       refine zl1 (i:=22) zk ?_
       refine lH rfl rfl (Pure.add rfl rfl zo) ?_
       refine zl1 (i:=23) zk ?_
       refine lH rfl rfl (Pure.add rfl rfl zo) ?_
       refine zl1 (i:=24) zk ?_
       refine lH rfl rfl (Pure.as (lv:=.atom _) rfl) ?_
       refine lD zk ?_
       refine gaa ?_
       by_cases h1:1000<n+(1+(a1+a2+a3+a4))
       ·refine oC rfl (fun _=>?_) (fun hc=>absurd (show (1000:Int)<(n:Int)+(1+(a1:Int)+(a2:Int)+(a3:Int)+(a4:Int)) by omega) (zf hc))
        rw[if_pos h1] at hI
        refine gap ?_
        exact retRet hj (zra rfl) (int_eq (show (n:Int)+(1+(a1:Int)+(a2:Int)+(a3:Int)+(a4:Int))=_ by rw[←hI];omega))
       ·refine oC rfl (fun hc=>absurd (show (1000:Int)<(n:Int)+(1+(a1:Int)+(a2:Int)+(a3:Int)+(a4:Int)) from zt hc) zo) (fun _=>?_)
        rw[if_neg h1] at hI
        refine gar ?_
        exact ⟨l2.length,_,_,Nat.lt_succ_self _,⟨pre++[x],l2,n+(1+(a1+a2+a3+a4)),by rw[hLe];simp,rfl,rfl,rfl,by rw[List.length_append,List.length_singleton];omega,by omega,hI⟩,⟨rfl,int_eq (show (n:Int)+(1+(a1:Int)+(a2:Int)+(a3:Int)+(a4:Int))=_ by omega),rfl,rfl,int_eq (by simp),trivial⟩,HSub.nil _,hj⟩
     ·refine lS (H1:=[]) rfl (.inl rfl) rfl zpr zhr (S.fn [_,_] rfl hs4 ?_)
      refine zl1 (i:=5) zk ?_
      refine lH rfl rfl (Pure.add rfl rfl zo) ?_
      refine zl1 (i:=10) zk ?_
      refine lH rfl rfl (Pure.add rfl rfl zo) ?_
      refine zl1 (i:=16) zk ?_
      refine lH rfl rfl (Pure.add rfl rfl zo) ?_
      refine zl1 (i:=22) zk ?_
      refine lH rfl rfl (Pure.add rfl rfl zo) ?_
      refine zl1 (i:=23) zk ?_
      refine lH rfl rfl (Pure.add rfl rfl zo) ?_
      refine zl1 (i:=24) zk ?_
      refine lH rfl rfl (Pure.as (lv:=.atom _) rfl) ?_
      refine lD zk ?_
      refine gaa ?_
      by_cases h1:1000<n+(1+(a1+a2+a3+a4))
      ·refine oC rfl (fun _=>?_) (fun hc=>absurd (show (1000:Int)<(n:Int)+(1+(a1:Int)+(a2:Int)+(a3:Int)+(a4:Int)) by omega) (zf hc))
       rw[if_pos h1] at hI
       refine gap ?_
       exact retRet hj (zra rfl) (int_eq (show (n:Int)+(1+(a1:Int)+(a2:Int)+(a3:Int)+(a4:Int))=_ by rw[←hI];omega))
      ·refine oC rfl (fun hc=>absurd (show (1000:Int)<(n:Int)+(1+(a1:Int)+(a2:Int)+(a3:Int)+(a4:Int)) from zt hc) zo) (fun _=>?_)
       rw[if_neg h1] at hI
       refine gar ?_
       exact ⟨l2.length,_,_,Nat.lt_succ_self _,⟨pre++[x],l2,n+(1+(a1+a2+a3+a4)),by rw[hLe];simp,rfl,rfl,rfl,by rw[List.length_append,List.length_singleton];omega,by omega,hI⟩,⟨rfl,int_eq (show (n:Int)+(1+(a1:Int)+(a2:Int)+(a3:Int)+(a4:Int))=_ by omega),rfl,rfl,int_eq (by simp),trivial⟩,HSub.nil _,hj⟩
  have hlen:=zf hc
  rw[List.length_map,hLe,List.length_append] at hlen
  obtain rfl:l1=[]:=by
   cases l1 with
   |nil=>rfl
   |cons a l2=>simp at hlen;omega
  refine gac ?_
  exact retRet hj (zra rfl) (int_eq (by rw[←hI];rfl))
end
end Go.Proofs.YtcbpcianefpniaaGreatDoor.Inp
namespace Go.Proofs.YtcbpcianefpniaaGreatDoor.RC
open Go.GL Go.RowKit Go.Stele
set_option maxRecDepth 100000
set_option maxHeartbeats 4000000
theorem get_mid {A B:Type} (g:A→B) (pre:List A) (a:A) (l:List A):((pre++a::l).map g)[((pre.length:Nat):Int).toNat]? = some (g a):=by
 rw[Int.toNat_natCast,List.getElem?_map,List.getElem?_append_right (Nat.le_refl _),Nat.sub_self]
 rfl
theorem more {A B:Type} {g:A→B} {L pre l1:List A} (hL:L=pre++l1) (h:decide ((pre.length:Int)<((L.map g).length:Int))=true):∃ a l2,l1=a::l2:=by
 have:=zt h
 rw[List.length_map,hL,List.length_append] at this
 cases l1 with
 |nil=>simp at this
 |cons a l2=>exact ⟨a,l2,rfl⟩
theorem none_left {A B:Type} {g:A→B} {L pre l1:List A} (hL:L=pre++l1) (h:decide ((pre.length:Int)<((L.map g).length:Int))=false):l1=[]:=by
 have:=zf h
 rw[List.length_map,hL,List.length_append] at this
 cases l1 with
 |nil=>rfl
 |cons a l2=>simp at this;omega
theorem pre_le {A:Type} {L pre l1:List A} {n:Nat} (hL:L=pre++l1) (h:L.length≤n):pre.length≤n:=by
 rw[hL,List.length_append] at h
 omega
theorem snoc {A:Type} {L pre l2:List A} {a:A} (hL:L=pre++a::l2):L=(pre++[a])++l2:=by rw[hL];simp
def kwL:List Nm:=[[97,114,114,97,121],[101,108,115,101],[102,117,110,99],[104,97,108,116],[105,102],[105,110],[111,117,116],[114,101,116,117,114,110],[118,97,114],[119,104,105,108,101]]
theorem kwL_eq (s:Nm):s∈kwL ↔ s∈noName:=by
 have h1:∀ x∈kwL,x∈noName:=by decide +kernel
 have h2:∀ x∈noName,x∈kwL:=by decide +kernel
 exact ⟨h1 s,h2 s⟩
def b01 (b:Bool):Int:=if b=true then 1 else 0
theorem nm_kw {s:Nm} (h:s∈kwL):isNm s=false:=by
 have h1:noName.contains s=true:=List.elem_eq_true_of_mem ((kwL_eq s).1 h)
 unfold isNm
 rw[h1]
 simp
theorem nm_bad {s:Nm} (h:s=[]∨24<s.length):isNm s=false:=by
 unfold isNm
 rcases h with rfl|h
 ·simp
 ·rw[decide_eq_false zo];rfl
theorem nm_eq {c:UInt8} {r:List UInt8} (h0:(c::r) ∉ kwL) (h1:(c::r).length≤24):isNm (c::r)=(isLetter c && r.all isInner):=by
 have h2:noName.contains (c::r)=false:=by
  rw[Bool.eq_false_iff]
  intro h
  exact h0 ((kwL_eq _).2 (List.contains_iff_mem.1 h))
 unfold isNm
 rw[decide_eq_true h1,h2]
 rfl
theorem mem_snoc {A:Type} {s x:A} {pre:List A} (h:s ∉ pre) (hx:¬ s=x):s ∉ pre++[x]:=fun hm=>by
 rcases List.mem_append.1 hm with h1|h1
 ·exact h h1
 ·exact hx (List.mem_singleton.1 h1)
theorem freshE_congr:∀ (l k k':List Nm),(∀ x,x∈k ↔ x∈k')→freshE k l=freshE k' l
 |[],k,k',_=>rfl
 |s::l,k,k',h=>by
  rw[freshE,freshE]
  split
  ·rfl
  ·by_cases h1:s∈k
   ·rw[if_pos h1,if_pos ((h s).1 h1)]
   ·rw[if_neg h1,if_neg fun h2=>h1 ((h s).2 h2)]
    exact freshE_congr l _ _ fun x=>by simp only[List.mem_cons,h x]
theorem mem_shift {A:Type} {x a:A} {k p:List A}:x∈a::(k++p) ↔ x∈k++(p++[a]):=by
 rw[←List.append_assoc,List.mem_cons,List.mem_append (t:=[a]),List.mem_singleton,or_comm]
def PostF (known l:List Nm) (r:LRes) (H:Heap):Prop:=H=[]∧∃ nm,(freshE known l=0→r=.ret (.tuple [.list ((known++l).map str),.agg [str nm,int .i64 0]]))∧(freshE known l≠0→r=.ret (.tuple [.list [],.agg [str nm,int .i64 (freshE known l)]]))
attribute [local irreducible] LOps LCode LStep LCalls Go.GL.Pure QThen QBlock RetPost LQ LAny LLate LLateOp LS
section
variable {B0:Nat} {w0:World}
theorem has_spec (l:List Nm) (s:Nm) (hl:l.length≤1000000000):LCalls (KC B0 w0) 100 [.list (l.map str),str s] [] (Ret (bool (decide (s∈l)))):=by
 refine cI Tryz.func100 rfl (n:=17) rfl rfl rfl ?_
 refine gac ?_
 refine oL (fun k ls H'=>∃ pre l1,l=pre++l1∧k=l1.length∧ls=[(1,str s),(7,.list (l.map str)),(8,int .i64 ((l.map str).length:Int)),(9,int .i64 (pre.length:Int))]∧H'=[]∧s ∉ pre)
  ⟨_,_,_,⟨[],l,rfl,rfl,rfl,rfl,List.not_mem_nil⟩,⟨rfl,rfl,rfl,rfl,trivial⟩,HSub.refl _⟩ ?_
 rintro k ls H' ⟨pre,l1,hL,rfl,rfl,rfl,hn⟩ j hj
 have hb:=pre_le hL hl
 refine gak ?_
 refine oC rfl (fun hc=>?_) (fun hc=>?_)
 ·obtain ⟨a,l2,rfl⟩:=more hL hc
  refine gal ?_
  refine oP (xR (el':=str a) (cs:=[_]) rfl rfl zo (by rw[hL];exact get_mid str pre a l2) rfl rfl) rfl ?_
  refine gaa ?_
  refine oC rfl (fun hd=>?_) (fun hd=>?_)
  ·have he:a=s:=zt hd
   refine gap ?_
   exact retRet hj (zra rfl) (bool_eq (decide_eq_true (by rw[hL,he];simp)).symm)
  ·have he:¬ a=s:=zf hd
   refine gar ?_
   exact ⟨l2.length,_,_,Nat.lt_succ_self _,⟨pre++[a],l2,snoc hL,rfl,rfl,rfl,mem_snoc hn fun h=>he h.symm⟩,⟨rfl,rfl,rfl,int_eq (by simp),trivial⟩,HSub.refl _,hj⟩
 ·obtain rfl:=none_left hL hc
  refine gac ?_
  exact retRet hj (zra rfl) (bool_eq (decide_eq_false (by rw[hL,List.append_nil];exact hn)).symm)
theorem Name_spec (s:Nm):LCalls (KC B0 w0) 99 [str s] [] (Ret (int .i64 (b01 (isNm s)))):=by
 refine cI Tryz.func99 rfl (n:=68) rfl rfl rfl ?_
 refine gai ?_
 refine oS (S.lit (es:=kwL.map str) [_,_,_,_,_,_,_,_,_,_] rfl (by
  intro v hv
  obtain ⟨x,_,rfl⟩:=List.mem_map.1 hv
  exact ⟨rfl,rfl⟩) rfl rfl rfl ?_) rfl
 refine gad ?_
 refine oL (fun k ls H'=>∃ pre l1,kwL=pre++l1∧k=l1.length∧ls=[(0,str s),(6,.list (kwL.map str)),(7,int .i64 ((kwL.map str).length:Int)),(8,int .i64 (pre.length:Int))]∧H'=[]∧s ∉ pre)
  ⟨_,_,_,⟨[],kwL,rfl,rfl,rfl,rfl,List.not_mem_nil⟩,⟨rfl,rfl,rfl,rfl,trivial⟩,HSub.refl _⟩ ?_
 rintro k ls H' ⟨pre,l1,hL,rfl,rfl,rfl,hn⟩ j hj
 have hb:=pre_le hL (show kwL.length≤10 by decide)
 have retF:∀ (h:isNm s=false) {e:Env} {C:Ctx} {n:Nat},e.ds=[]→e.s 2=int .i64 0→RetPost C n [ResultVar.tmp 2] (Ret (int .i64 (b01 (isNm s)))) .ret e []:=fun h {e C n} hd he=>by
  rw[h]
  exact retRet hd (rC (rT he zsr) rN) rfl
 refine gak ?_
 refine oC rfl (fun hc=>?_) (fun hc=>?_)
 ·obtain ⟨a,l2,rfl⟩:=more hL hc
  refine gal ?_
  refine oP (xR (el':=str a) (cs:=[_]) rfl rfl zo (by rw[hL];exact get_mid str pre a l2) rfl rfl) rfl ?_
  refine gaa ?_
  refine oC rfl (fun hd=>?_) (fun hd=>?_)
  ·have he:s=a:=zt hd
   refine gap ?_
   exact retF (nm_kw (by rw[hL,he];simp)) hj rfl
  ·have he:¬ s=a:=zf hd
   refine gar ?_
   exact ⟨l2.length,_,_,Nat.lt_succ_self _,⟨pre++[a],l2,snoc hL,rfl,rfl,rfl,mem_snoc hn he⟩,⟨rfl,rfl,rfl,int_eq (by simp),trivial⟩,HSub.refl _,hj⟩
 obtain rfl:=none_left hL hc
 rw[List.append_nil] at hL
 rw[←hL] at hn
 clear hL hb hc
 refine gaa ?_
 refine oB 19 rfl (fun h1=>?_) (fun h1=>?_)
 ·have h0:s=[]:=by
   have:=zt h1
   exact List.length_eq_zero_iff.1 zo
  refine gad ?_
  refine oC rfl (fun _=>?_) (fun hc=>by cases hc)
  refine gau ?_
  exact retF (nm_bad (.inl h0)) hj rfl
 obtain ⟨c,r,rfl⟩:∃ c r,s=c::r:=by
  cases s with
  |nil=>exact absurd rfl (zf h1)
  |cons c r=>exact ⟨c,r,rfl⟩
 refine gab ?_
 refine oB 24 rfl (fun h2=>?_) (fun h2=>?_)
 ·have:=zt h2
  refine gad ?_
  refine oC rfl (fun _=>?_) (fun hc=>by cases hc)
  refine gau ?_
  exact retF (nm_bad (.inr zo)) hj rfl
 have hl:(c::r).length≤24:=by
  have:=zf h2
  omega
 have heq:=nm_eq hn hl
 have hcvc:cv c=(c.toNat:Int):=rfl
 refine gao ?_
 refine oP (Pure.sindex (c:=c) rfl rfl zo rfl) rfl ?_
 refine gad ?_
 refine oB 29 rfl (fun h3=>?_) (fun h3=>?_)
 ·have h4:isLetter c=false:=by
   have:=zt h3
   unfold isLetter
   rw[decide_eq_false zo,Bool.false_and]
  refine gad ?_
  refine oC rfl (fun _=>?_) (fun hc=>by cases hc)
  refine gau ?_
  exact retF (by rw[heq,h4,Bool.false_and]) hj rfl
 refine gao ?_
 refine oP (Pure.sindex (c:=c) rfl rfl zo rfl) rfl ?_
 refine gab ?_
 refine oC rfl (fun h5=>?_) (fun h5=>?_)
 ·have h4:isLetter c=false:=by
   have:=zt h5
   unfold isLetter
   rw[Bool.and_eq_false_iff]
   exact .inr (decide_eq_false zo)
  refine gau ?_
  exact retF (by rw[heq,h4,Bool.false_and]) hj rfl
 have h4:isLetter c=true:=by
  have g1:=zf h3
  have g2:=zf h5
  unfold isLetter
  rw[decide_eq_true zo,decide_eq_true zo]
  rfl
 rw[h4,Bool.true_and] at heq
 refine gac ?_
 refine oL (fun k ls H'=>∃ pre l1,c::r=pre++l1∧1≤pre.length∧k=l1.length∧ls=[(0,str (c::r)),(5,int .i64 (pre.length:Int))]∧H'=[]∧isNm (c::r)=l1.all isInner)
  ⟨_,_,_,⟨[c],r,rfl,Nat.le_refl _,rfl,rfl,rfl,heq⟩,⟨rfl,rfl,trivial⟩,HSub.refl _⟩ ?_
 rintro k ls H' ⟨pre,l1,hL,hp1,rfl,rfl,rfl,hI⟩ j2 hj2
 have hb:=pre_le hL hl
 refine gaa ?_
 refine oC rfl (fun hc=>?_) (fun hc=>?_)
 rotate_left
 ·have hlen:=zf hc
  rw[hL,List.length_append] at hlen
  obtain rfl:l1=[]:=by
   cases l1 with
   |nil=>rfl
   |cons a l2=>simp at hlen;omega
  refine gac ?_
  exact retRet (hj2.trans hj) (zra rfl) (by rw[hI];rfl)
 have hlen:=zt hc
 rw[hL,List.length_append] at hlen
 obtain ⟨a,l2,rfl⟩:∃ a l2,l1=a::l2:=by
  cases l1 with
  |nil=>simp at hlen
  |cons a l2=>exact ⟨a,l2,rfl⟩
 have hget:(c::r)[((pre.length:Nat):Int).toNat]? = some a:=by
  rw[Int.toNat_natCast,hL,List.getElem?_append_right (Nat.le_refl _),Nat.sub_self]
  rfl
 have hcva:cv a=(a.toNat:Int):=rfl
 have nl:∀ {b1 b2 b3:Bool},isLetter a=false→b1=decide (48≤cv a)→b2=decide (cv a≤57)→b3=decide (cv a=95)→isInner a=((b1 && b2) || b3):=fun h h1 h2 h3=>by
  unfold isInner
  rw[h,h1,h2,h3]
  first|rfl|simp[isDigit]
 refine gac ?_
 refine LOps.cut [(0,str (c::r)),(5,int .i64 (pre.length:Int)),(67,bool (!isInner a))] ?_ (fun j3 hj3=>?_)
 ·refine oP (Pure.sindex (c:=a) rfl rfl zo hget) rfl ?_
  refine gad ?_
  refine oB 44 rfl (fun h6=>?_) (fun h6=>?_)
  ·have hlet:isLetter a=false:=by have:=zt h6;unfold isLetter;rw[decide_eq_false zo];rfl
   refine gad ?_
   refine oP (Pure.sindex (c:=a) rfl rfl zo hget) rfl ?_
   refine gad ?_
   refine oB 55 rfl (fun h8=>?_) (fun h8=>?_)
   ·refine gad ?_
    refine oP (Pure.sindex (c:=a) rfl rfl zo hget) rfl ?_
    refine gab ?_
    exact ⟨⟨rfl,rfl,bool_eq (by
     have:=zt h8
     rw[nl hlet (decide_eq_false (show ¬ 48≤cv a by omega)).symm rfl rfl]
     simp),trivial⟩,rfl,rfl⟩
   have g8:=zf h8
   refine gao ?_
   refine oP (Pure.sindex (c:=a) rfl rfl zo hget) rfl ?_
   refine gab ?_
   refine oB 62 rfl (fun h9=>?_) (fun h9=>?_)
   ·refine gao ?_
    refine oP (Pure.sindex (c:=a) rfl rfl zo hget) rfl ?_
    refine gab ?_
    exact ⟨⟨rfl,rfl,bool_eq (by
     have:=zt h9
     rw[nl hlet rfl (decide_eq_false (show ¬ cv a≤57 by omega)).symm rfl]
     simp),trivial⟩,rfl,rfl⟩
   ·refine gah ?_
    exact ⟨⟨rfl,rfl,bool_eq (by
     have:=zf h9
     rw[nl hlet (decide_eq_true (show 48≤cv a by omega)).symm (decide_eq_true (show cv a≤57 by omega)).symm rfl]
     rfl),trivial⟩,rfl,rfl⟩
  have g6:=zf h6
  refine gao ?_
  refine oP (Pure.sindex (c:=a) rfl rfl zo hget) rfl ?_
  refine gab ?_
  refine oB 50 rfl (fun h7=>?_) (fun h7=>?_)
  ·have hlet:isLetter a=false:=by have:=zt h7;unfold isLetter;rw[decide_eq_false (show ¬ cv a≤122 by omega),Bool.and_false]
   refine gao ?_
   refine oP (Pure.sindex (c:=a) rfl rfl zo hget) rfl ?_
   refine gad ?_
   refine oB 55 rfl (fun h8=>?_) (fun h8=>?_)
   ·refine gad ?_
    refine oP (Pure.sindex (c:=a) rfl rfl zo hget) rfl ?_
    refine gab ?_
    exact ⟨⟨rfl,rfl,bool_eq (by
     have:=zt h8
     rw[nl hlet (decide_eq_false (show ¬ 48≤cv a by omega)).symm rfl rfl]
     simp),trivial⟩,rfl,rfl⟩
   have g8:=zf h8
   refine gao ?_
   refine oP (Pure.sindex (c:=a) rfl rfl zo hget) rfl ?_
   refine gab ?_
   refine oB 62 rfl (fun h9=>?_) (fun h9=>?_)
   ·refine gao ?_
    refine oP (Pure.sindex (c:=a) rfl rfl zo hget) rfl ?_
    refine gab ?_
    exact ⟨⟨rfl,rfl,bool_eq (by
     have:=zt h9
     rw[nl hlet rfl (decide_eq_false (show ¬ cv a≤57 by omega)).symm rfl]
     simp),trivial⟩,rfl,rfl⟩
   ·refine gah ?_
    exact ⟨⟨rfl,rfl,bool_eq (by
     have:=zf h9
     rw[nl hlet (decide_eq_true (show 48≤cv a by omega)).symm (decide_eq_true (show cv a≤57 by omega)).symm rfl]
     rfl),trivial⟩,rfl,rfl⟩
  have g7:=zf h7
  have hlet:isLetter a=true:=by unfold isLetter;rw[decide_eq_true (show 97≤cv a by omega),decide_eq_true (show cv a≤122 by omega)];rfl
  refine gab ?_
  exact ⟨⟨rfl,rfl,bool_eq (by unfold isInner;rw[hlet];rfl),trivial⟩,rfl,rfl⟩
 refine oC rfl (fun h10=>?_) (fun h10=>?_)
 ·have hin:isInner a=false:=by simpa using h10
  refine gap ?_
  exact retF (by rw[hI,List.all_cons,hin,Bool.false_and]) (hj3.trans (hj2.trans hj)) rfl
 ·have hin:isInner a=true:=by simpa using h10
  refine gac ?_
  exact ⟨l2.length,_,_,Nat.lt_succ_self _,⟨pre++[a],l2,snoc hL,by simp,rfl,rfl,rfl,by rw[hI,List.all_cons,hin,Bool.true_and]⟩,⟨rfl,int_eq (by simp),trivial⟩,HSub.refl _,hj3.trans hj2⟩
theorem fresh_spec (known l:List Nm) (hk:known.length≤100000000) (hl:l.length≤100000000):LCalls (KC B0 w0) 52 [.list (known.map str),.list (l.map str)] [] (PostF known l):=by
 refine cI Tryz.func52 rfl (n:=33) rfl rfl rfl ?_
 refine gai ?_
 refine oS (S.alloc fun b5=>?_) rfl
 refine gac ?_
 refine oL (fun k ls H'=>∃ pre l1,l=pre++l1∧k=l1.length∧ls=[(0,.list ((known++pre).map str)),(5,ptr b5 0),(8,.list (l.map str)),(9,int .i64 ((l.map str).length:Int)),(10,int .i64 (pre.length:Int))]∧H'=[(b5,.cells 117 [str [],int .i64 0])]∧freshE known l=freshE (known++pre) l1)
  ⟨_,_,_,⟨[],l,rfl,rfl,rfl,rfl,by rw[List.append_nil]⟩,⟨by rw[List.append_nil];rfl,rfl,rfl,rfl,rfl,trivial⟩,HSub.refl _⟩ ?_
 rintro k ls H' ⟨pre,l1,hL,rfl,rfl,rfl,hI⟩ j hj
 have hb:=pre_le hL hl
 refine gak ?_
 refine oC rfl (fun hc=>?_) (fun hc=>?_)
 rotate_left
 ·obtain rfl:=none_left hL hc
  rw[List.append_nil] at hL
  subst hL
  refine gaa ?_
  refine rR hj (rC (rT (v:=.list ((known++l).map str)) rfl zsr) (rC (rA (k:=2) rfl zm0 rfl zsr) rN)) zhn ⟨rfl,[],fun _=>rfl,fun h=>absurd (hI.trans rfl) h⟩
 obtain ⟨a,l2,rfl⟩:=more hL hc
 rw[freshE] at hI
 refine gal ?_
 refine oP (xR (el':=str a) (cs:=[_]) rfl rfl zo (by rw[hL];exact get_mid str pre a l2) rfl rfl) rfl ?_
 refine gaa ?_
 refine oS (S.fn [_] rfl (Name_spec a) ?_) rfl
 refine gad ?_
 refine oC rfl (fun h1=>?_) (fun h1=>?_)
 ·have hn:isNm a=false:=by
   cases h:isNm a with
   |false=>rfl
   |true=>rw[h] at h1;cases h1
  rw[if_pos hn] at hI
  refine gaa ?_
  refine rR hj (rC (rT (v:=nilSlice) rfl LV.Sub.nil) (rC (rA (k:=2) rfl zm0 rfl zsr) rN)) zhn ⟨rfl,a,fun h=>(by rw[hI] at h;cases h),fun _=>by rw[hI];rfl⟩
 have hn:isNm a=true:=by
  cases h:isNm a with
  |true=>rfl
  |false=>rw[h] at h1;cases h1
 rw[if_neg (by rw[hn];decide)] at hI
 refine gac ?_
 refine oS (S.fn [_,_] rfl (has_spec (known++pre) a (by rw[List.length_append];omega)) ?_) rfl
 refine gaf ?_
 refine oC rfl (fun h2=>?_) (fun h2=>?_)
 ·have hm:a∈known++pre:=zt h2
  rw[if_pos hm] at hI
  refine gaa ?_
  refine rR hj (rC (rT (v:=nilSlice) rfl LV.Sub.nil) (rC (rA (k:=2) rfl zm0 rfl zsr) rN)) zhn ⟨rfl,a,fun h=>(by rw[hI] at h;cases h),fun _=>by rw[hI];rfl⟩
 have hm:a ∉ known++pre:=zf h2
 rw[if_neg hm] at hI
 refine gal ?_
 refine oS (S.litA (es:=[]) [] rfl eN rfl rfl rfl fun b6=>?_) rfl
 refine gad ?_
 refine oS (S.accF (A:=[_]) (H1:=[(b6,.row 0)]) zpr rfl Acc.row rfl (strs_len _) (strs_ok _) (by simp;omega) fun v2 H2 h2=>?_) rfl
 refine gao ?_
 refine oS (S.lit (es:=[a].map str) [_] rfl (eC rfl rfl eN) rfl rfl rfl ?_) rfl
 refine oS (S.accF (A:=[_]) (H1:=H2) (List.perm_append_comm (l₁:=[_])) rfl h2 rfl (strs_len _) (strs_ok _) (by simp;omega) fun v3 H3 h3=>?_) rfl
 refine LOps.sub 29 rfl h3.sub ?_
 refine LOps.weak (H':=[(b5,.cells 117 [str [],int .i64 0])]) zhp ?_
 refine gaa ?_
 exact ⟨l2.length,_,_,Nat.lt_succ_self _,⟨pre++[a],l2,snoc hL,rfl,rfl,rfl,by
  rw[hI]
  exact freshE_congr _ _ _ fun x=>mem_shift⟩,⟨(by show LV.list ([]++(known++pre).map str++[a].map str)=_;simp),rfl,rfl,rfl,int_eq (by simp),trivial⟩,HSub.refl _,hj⟩
end
end Go.Proofs.YtcbpcianefpniaaGreatDoor.RC
namespace Go.Proofs.YtcbpcianefpniaaGreatDoor.RI
open Go.GL Go.RowKit Go.Stele
open Go.Proofs.YtcbpcianefpniaaGreatDoor.Inp (u32 u32_eq wrapU b2n_dec b2n_not arKV arH Cfg CfgOk Good xor_u32 neg_u32)
open Go.Proofs.YtcbpcianefpniaaGreatDoor.RC (get_mid more none_left pre_le snoc mem_snoc)
set_option maxRecDepth 100000
set_option maxHeartbeats 4000000
def ScR (m:KV) (s:IS):Prop:=∀ k,GL.kvGet m k=some (u32 (s.sc k))∨(GL.kvGet m k=none∧s.sc k=0)
@[reducible] def runRC (c:Cfg) (s:IS) (v:LV):List LV:=[.list (c.p.vars.map str),.list (c.p.arrays.map encAr),.list (c.p.funcs.map encFn),.atom (.map (some c.sm)),.atom (.map (some c.am)),.list (s.inp.map u32),v,int .i64 ((c.lim-s.left:Nat):Int),int .i64 (c.lim:Int)]
@[reducible] def stRH (c:Cfg) (s:IS) (v:LV) (m:KV) (ck:Nat) (Ha:Heap):Heap:=(c.rb,.cells 79 (runRC c s v))::(c.sm,.map (kvs m) ck)::(c.am,.map (kvs (arKV c.ab)) c.ac)::(arH c.ab s++Ha)
def StR (c:Cfg) (s:IS) (H:Heap):Prop:=(∀ q∈c.ab,(s.ar q.1).length=q.2.2)∧s.left≤c.lim∧∃ v Ha m ck,Acc 1 v (byts s.out) Ha []∧ScR m s∧H=stRH c s v m ck Ha
@[reducible] def resV (v:Nat) (en er:Int):LV:=.agg [u32 v,int .i64 en,int .i64 er]
@[reducible] def resH (b:Nat) (v:Nat) (en er:Int):Nat×LObj:=(b,.cells 81 [u32 v,int .i64 en,int .i64 er])
@[reducible] def fnH (b:Nat) (f:FnD):Nat×LObj:=(b,.cells 63 [str f.name,.list (f.params.map str),.list (f.locals.map str),.list (f.body.map encS)])
@[reducible] def exH (b:Nat) (op:Nm) (num:Nat) (name:Nm) (args:List Ex):Nat×LObj:=(b,.cells 170 [str op,int .u32 (num:Int),str name,.list (args.map encE)])
@[reducible] def smH (b:Nat) (kind:Int) (name:Nm) (index value:List Ex) (thn els:List Sm):Nat×LObj:=(b,.cells 128 [int .i64 kind,str name,.list (index.map encE),.list (value.map encE),.list (thn.map encS),.list (els.map encS)])
def stopE (e:Int):Int:=if e=0 then 2 else 3
def encV (v:Nat):Nat×Int:=(v,0)
def encO:Option Nat→Nat×Int
 |none=>(0,0)
 |some v=>(v,1)
def PostR {A:Type} (c:Cfg) (enc:A→Nat×Int) (r:IR A) (res:LRes) (H:Heap):Prop:=match r with
 |.ok v s=>res=.ret (resV (enc v).1 (enc v).2 0)∧StR c s H
 |.stop e s=>res=.ret (resV 0 (stopE e) e)∧StR c s H
theorem resV_inj {v w:Nat} {a b x y:Int} (h:LRes.ret (resV v a x)=.ret (resV w b y)):v=w∧a=b∧x=y:=by
 simp only[resV,LRes.ret.injEq,LV.agg.injEq,List.cons.injEq,LV.atom.injEq,Value.int.injEq,and_true,true_and] at h
 exact ⟨by omega,h.2.1,h.2.2⟩
theorem PostR.ok {A:Type} {c:Cfg} {enc:A→Nat×Int} {w:A} {s:IS} {v:Nat} {en er:Int} {H:Heap} (h:PostR c enc (.ok w s) (.ret (resV v en er)) H):v=(enc w).1∧en=(enc w).2∧er=0∧StR c s H:=by
 obtain ⟨h1,h2⟩:=h
 obtain ⟨a,b,d⟩:=resV_inj h1
 exact ⟨a,b,d,h2⟩
theorem PostR.stop {A:Type} {c:Cfg} {enc:A→Nat×Int} {e:Int} {s:IS} {v:Nat} {en er:Int} {H:Heap} (h:PostR c enc (.stop e s) (.ret (resV v en er)) H):v=0∧en=stopE e∧er=e∧StR c s H:=by
 obtain ⟨h1,h2⟩:=h
 obtain ⟨a,b,d⟩:=resV_inj h1
 exact ⟨a,b,d,h2⟩
theorem stopE_ne (e:Int):stopE e≠0∧stopE e≠1:=by unfold stopE;split <;> decide
section steps
variable {C:Ctx} {n:Nat} {e:Env} {H:Heap} {dst:Option Nat} {ty:TypeId} {pos:String} {aft:Array Edge} {g:Option (Nat×Bool)} {K:LV→Heap→Prop} {X:List PanicEntry→Heap→Prop}
theorem S.callR {A:Type} {c:Cfg} {enc:A→Nat×Int} {r:IR A} {f:FuncId} [TEnter C.P f] (args:List Operand) {ats:Array TypeId} {av:List LV} {H1 F:Heap} (has:args.map e.ev=av) (hp:H.Perm (H1++F))
  (hc:LCalls C f av H1 (PostR c enc r)) (hk:∀ v en er H',PostR c enc r (.ret (resV v en er)) H'→K (resV v en er) (H'++F)) :
  LStep C ⟨dst,.call { callee:=.value (.func f),args:=args.toArray,argTypes:=ats },ty,pos,aft,g⟩ e H K X:=by
 refine S.callH args has hp hc ?_ ?_
 ·intro v H' h
  cases r with
  |ok w s=>
   have h0:=h
   obtain ⟨h1,_⟩:=h
   cases h1
   exact hk _ _ _ _ h0
  |stop er s=>
   have h0:=h
   obtain ⟨h1,_⟩:=h
   cases h1
   exact hk _ _ _ _ h0
 ·intro ch H' h
  cases r with
  |ok w s=>obtain ⟨h1,_⟩:=h;cases h1
  |stop er s=>obtain ⟨h1,_⟩:=h;cases h1
theorem LStep.callR {A:Type} {c:Cfg} {enc:A→Nat×Int} {r:IR A} {f:FuncId} [TEnter C.P f] (args:List Operand) {ats:Array TypeId} {av:List LV} (has:args.map e.ev=av)
  (hc:LCalls C f av H (PostR c enc r)) (hk:∀ v en er H',PostR c enc r (.ret (resV v en er)) H'→K (resV v en er) H') :
  LStep C ⟨dst,.call { callee:=.value (.func f),args:=args.toArray,argTypes:=ats },ty,pos,aft,g⟩ e H K X:=by
 refine LStep.conseq (S.callR (F:=[]) (K:=fun lv H'=>K lv H') (X:=X) args has (by rw[List.append_nil]) hc (fun v en er H' h=>by rw[List.append_nil];exact hk v en er H' h)) (fun lv H' h=>⟨lv,H',LV.Sub.refl _,HSub.refl _,h⟩)
theorem retR {A:Type} {c:Cfg} {enc:A→Nat×Int} {r:IR A} {rs:List ResultVar} {vs:List LV} {v:Nat} {en er:Int} {H':Heap} (hd:e.ds=[]) (h:AllRes C n e H rs vs) (hv:resLV vs=resV v en er) (hH:HSub H' H) (hp:PostR c enc r (.ret (resV v en er)) H') :
  RetPost C n rs (PostR c enc r) .ret e H:=rR hd h hH (by rw[hv];exact hp)
instance:TMap Tryz.prog 77 43 (.int .u32 0) (u32 0):=⟨⟨9,by kernel_rfl,by kernel_rfl⟩,fun w=>(Go.zero_of_info (P:=Tryz.prog) (n:=1) zk).1 w,fun _ _=>rep_atom⟩
theorem Pure.to {C:Ctx} {o:Oper} {lv lv':LV} (h:GL.Pure C o e H lv) (he:lv=lv'):GL.Pure C o e H lv':=he▸h
theorem Pure.scGet {B0:Nat} {w0:World} {x y:Operand} {b ck:Nat} {m:KV} {s:IS} {k:Nm} (hm:e.ev x=.atom (.map (some b))) (hx:e.ev y=str k) (hb:(b,.map (kvs m) ck)∈H) (hs:ScR m s):GL.Pure (KC B0 w0) ⟨dst,.lookup 77 x y false,ty,pos,aft,g⟩ e H (u32 (s.sc k)):=by
 rcases hs k with h|⟨h,h0⟩
 ·exact Pure.kvHit hm hx hb h
 ·rw[h0]
  exact Pure.kvMiss hm hx hb h
end steps
theorem ScR.put {m:KV} {s:IS} (h:ScR m s) (k:Nm) (v:Nat):ScR (GL.kvPut m k (u32 v)) (setSc s k v):=fun x=>by
 rw[kvGet_put]
 by_cases hx:k=x
 ·subst hx
  rw[if_pos rfl]
  exact .inl (by show some (u32 v)=some (u32 (if k=k then v else s.sc k));rw[if_pos rfl])
 ·rw[if_neg hx]
  have e:(setSc s k v).sc x=s.sc x:=by
   show (if x=k then v else s.sc x)=_
   rw[if_neg (Ne.symm hx)]
  rw[e]
  exact h x
theorem find_fn {P:Pr} {f:FnD} (h:(P.funcs.map (·.name)).Nodup) (hf:f∈P.funcs):P.funcs.find? (fun g=>decide (g.name=f.name))=some f:=by
 have:=fnI_mem h hf
 unfold fnI at this
 cases hg:P.funcs.find? fun g=>decide (g.name=f.name) with
 |none=>exact absurd (List.find?_eq_none.1 hg f hf) (by simp)
 |some g=>rw[hg] at this;exact congrArg some this
theorem quo_u32 {a b:Nat} (ha:a<4294967296):IntKind.u32.wrap ((a:Int).tdiv (b:Int))=((a / b:Nat):Int):=by
 have h2:a / b≤a:=Nat.div_le_self a b
 have h3:(a:Int).tdiv (b:Int)=((a / b:Nat):Int):=by
  rw[Int.tdiv_eq_ediv_of_nonneg zo]
  rfl
 rw[h3,wrapU]
 generalize a / b=q at h2 ⊢
 omega
theorem rem_u32 {a b:Nat}:(a:Int).tmod (b:Int)=((a % b:Nat):Int):=by
 rw[Int.tmod_eq_emod_of_nonneg zo]
 rfl
attribute [local irreducible] LOps LCode LStep LCalls Go.GL.Pure QThen QBlock RetPost LQ LAny LLate LLateOp LS
section
variable {B0:Nat} {w0:World} {H:Heap}
theorem fail_spec (er:Int):LCalls (KC B0 w0) 111 [int .i64 er] [] (Ret (resV 0 3 er)):=by
 refine cI Tryz.func111 rfl (n:=5) rfl rfl rfl ?_
 refine gag ?_
 refine oS (S.alloc fun b2=>?_) rfl
 refine gaa ?_
 exact retRet rfl (rC (rA (k:=3) rfl zm0 rfl zsr) rN) rfl
theorem one_spec (b:Bool):LCalls (KC B0 w0) 161 [bool b] [] (Ret (u32 (b2n b))):=by
 refine cI Tryz.func161 rfl (n:=4) rfl rfl rfl ?_
 refine gay ?_
 refine oC rfl (fun hc=>?_) (fun hc=>?_)
 ·refine gau ?_
  exact retRet rfl (zra rfl) (by rw[hc];rfl)
 ·refine gac ?_
  exact retRet rfl (zra rfl) (by rw[hc];rfl)
def PostT (c:Cfg) (s:IS) (r:LRes) (H':Heap):Prop:=match tick s with
 |.ok _ s'=>r=.ret (bool true)∧StR c s' H'
 |.stop _ s'=>r=.ret (bool false)∧StR c s' H'
theorem count_spec {c:Cfg} (hC:CfgOk c) {s:IS} (hs:StR c s H):LCalls (KC B0 w0) 110 [ptr c.rb 0] H (PostT c s):=by
 have hs0:=hs
 have hlim:=hC.lim
 obtain ⟨hl,hle,v,Ha,m,ck,hacc,hsc,rfl⟩:=hs
 refine cI Tryz.func110 rfl (n:=19) rfl rfl rfl ?_
 refine gai ?_
 refine LCode.quiet zk ?_
 refine gaz ?_
 refine oC rfl (fun hc=>?_) (fun hc=>?_)
 ·have h0:s.left=0:=by have:=zt hc;omega
  refine gau ?_
  refine rR rfl (zra rfl) zhr ?_
  unfold PostT
  rw[tick,if_pos h0]
  exact ⟨rfl,hs0⟩
 ·have h0:¬ s.left=0:=by have:=zf hc;omega
  refine gaa ?_
  have e2:((c.lim-s.left:Nat):Int)+1=((c.lim-(s.left-1):Nat):Int):=by omega
  rw[e2]
  refine rR rfl (zra rfl) zhr ?_
  unfold PostT
  rw[tick,if_neg h0]
  exact ⟨rfl,hl,by show s.left-1≤c.lim;omega,v,Ha,m,ck,hacc,hsc,rfl⟩
theorem key_spec {c:Cfg} (hC:CfgOk c) {f:FnD} (hf:f∈c.p.funcs) (name:Nm):LCalls (KC B0 w0) 113 [encFn f,str name] [] (Ret (str (keyI f name))):=by
 have hpl:f.params.length≤2000000:=(hC.small.each f hf).params
 have hll:f.locals.length≤2000000:=(hC.small.each f hf).locals
 have hfs:=hC.fshort f hf
 have own:name∈f.params++f.locals→name.length≤49:=fun h=>by
  have:=hC.short _ ((own_key hC.valid.names hf name).2 h)
  simp only[List.length_append,List.length_cons,List.length_nil] at this
  omega
 refine cI Tryz.func113 rfl (n:=46) rfl rfl rfl ?_
 refine gag ?_
 refine oS (S.box rfl fun b2=>?_) rfl
 refine gac ?_
 refine oL (fun k ls H'=>∃ pre l1,f.params=pre++l1∧k=l1.length∧ls=[(1,str name),(2,ptr b2 0),(5,int .i64 (pre.length:Int))]∧H'=[fnH b2 f]∧name ∉ pre)
  ⟨_,_,_,⟨[],f.params,rfl,rfl,rfl,rfl,List.not_mem_nil⟩,⟨rfl,rfl,rfl,trivial⟩,HSub.refl _⟩ ?_
 rintro k ls H' ⟨pre,l1,hL,rfl,rfl,rfl,hn⟩ j hj
 have hb:=pre_le hL hpl
 refine gac ?_
 refine oC rfl (fun hc=>?_) (fun hc=>?_)
 ·obtain ⟨a,l2,rfl⟩:=more (g:=str) hL hc
  refine gac ?_
  refine oP (xR (el':=str a) (cs:=[_]) rfl rfl zo (by rw[hL];exact get_mid str pre a l2) rfl rfl) rfl ?_
  refine gab ?_
  refine oC rfl (fun hd=>?_) (fun hd=>?_)
  ·have he:a=name:=zt hd
   have hm:name∈f.params:=by rw[hL,he];simp
   have:=own (List.mem_append_left _ hm)
   refine gaa ?_
   exact retRet hj (zra rfl) (str_eq (by unfold keyI;rw[if_pos (.inl hm)]))
  ·have he:¬ a=name:=zf hd
   refine gac ?_
   exact ⟨l2.length,_,_,Nat.lt_succ_self _,⟨pre++[a],l2,snoc hL,rfl,rfl,rfl,mem_snoc hn fun h=>he h.symm⟩,⟨rfl,rfl,int_eq (by simp),trivial⟩,HSub.refl _,hj⟩
 obtain rfl:=none_left (g:=str) hL hc
 rw[List.append_nil] at hL
 rw[←hL] at hn
 refine gac ?_
 refine oL (fun k ls H'=>∃ pre l1,f.locals=pre++l1∧k=l1.length∧ls=[(1,str name),(2,ptr b2 0),(6,int .i64 (pre.length:Int))]∧H'=[fnH b2 f]∧name ∉ pre)
  ⟨_,_,_,⟨[],f.locals,rfl,rfl,rfl,rfl,List.not_mem_nil⟩,⟨rfl,rfl,rfl,trivial⟩,HSub.refl _⟩ ?_
 rintro k ls H' ⟨pre2,l1,hL2,rfl,rfl,rfl,hn2⟩ j2 hj2
 have hb2:=pre_le hL2 hll
 refine gac ?_
 refine oC rfl (fun hc2=>?_) (fun hc2=>?_)
 ·obtain ⟨a,l2,rfl⟩:=more (g:=str) hL2 hc2
  refine gac ?_
  refine oP (xR (el':=str a) (cs:=[_]) rfl rfl zo (by rw[hL2];exact get_mid str pre2 a l2) rfl rfl) rfl ?_
  refine gab ?_
  refine oC rfl (fun hd=>?_) (fun hd=>?_)
  ·have he:a=name:=zt hd
   have hm:name∈f.locals:=by rw[hL2,he];simp
   have:=own (List.mem_append_right _ hm)
   refine gaa ?_
   exact retRet (hj2.trans hj) (zra rfl) (str_eq (by unfold keyI;rw[if_pos (.inr hm)]))
  ·have he:¬ a=name:=zf hd
   refine gac ?_
   exact ⟨l2.length,_,_,Nat.lt_succ_self _,⟨pre2++[a],l2,snoc hL2,rfl,rfl,rfl,mem_snoc hn2 fun h=>he h.symm⟩,⟨rfl,rfl,int_eq (by simp),trivial⟩,HSub.refl _,hj2⟩
 obtain rfl:=none_left (g:=str) hL2 hc2
 rw[List.append_nil] at hL2
 rw[←hL2] at hn2
 refine gac ?_
 exact retRet (hj2.trans hj) (zra rfl) (str_eq (by unfold keyI;rw[if_neg (fun h=>h.elim hn hn2)]))
theorem function_spec {p:Pr} {name:Nm} {f:FnD} (hfl:p.funcs.length≤2000000) (hfind:p.funcs.find? (fun g=>decide (g.name=name))=some f):LCalls (KC B0 w0) 188 [encPr p,str name] [] (Ret (encFn f)):=by
 unfold encPr
 refine cI Tryz.func188 rfl (n:=27) rfl rfl rfl ?_
 refine gag ?_
 refine oS (S.box rfl fun b2=>?_) rfl
 refine oS (S.alloc fun b4=>?_) rfl
 refine gac ?_
 refine oL (fun k ls H'=>∃ pre l1,p.funcs=pre++l1∧k=l1.length∧ls=[(1,str name),(2,ptr b2 0),(4,ptr b4 0),(5,int .i64 (pre.length:Int))]∧H'=[(b4,.cells 63 [str [],nilSlice,nilSlice,nilSlice]),(b2,.cells 33 [.list (p.vars.map str),.list (p.arrays.map encAr),.list (p.funcs.map encFn)])]∧l1.find? (fun g=>decide (g.name=name))=some f)
  ⟨_,_,_,⟨[],p.funcs,rfl,rfl,rfl,rfl,hfind⟩,⟨rfl,rfl,rfl,rfl,trivial⟩,HSub.refl _⟩ ?_
 rintro k ls H' ⟨pre,l1,hL,rfl,rfl,rfl,hfi⟩ j hj
 have hb:=pre_le hL hfl
 refine gaa ?_
 refine oC rfl (fun hc=>?_) (fun hc=>?_)
 rotate_left
 ·obtain rfl:=none_left (g:=encFn) hL hc
  cases hfi
 obtain ⟨a,l2,rfl⟩:=more (g:=encFn) hL hc
 rw[List.find?_cons] at hfi
 refine gaa ?_
 refine oP (xR (el':=encFn a) (cs:=[_,_,_,_]) rfl rfl zo (by rw[hL];exact get_mid encFn pre a l2) rfl rfl) rfl ?_
 refine gab ?_
 by_cases he:a.name=name
 ·rw[decide_eq_true he] at hfi
  have haf:a=f:=Option.some.inj hfi
  subst haf
  refine oC rfl (fun _=>?_) (fun hd=>absurd he (zf hd))
  refine gaa ?_
  refine oP (xR (el':=encFn a) (cs:=[_,_,_,_]) rfl rfl zo (by rw[hL];exact get_mid encFn pre a l2) rfl rfl) rfl ?_
  refine gab ?_
  exact retRet hj (rC (rA rfl zm0 rfl zsr) rN) rfl
 ·rw[decide_eq_false he] at hfi
  refine oC rfl (fun hd=>absurd (zt hd) he) (fun _=>?_)
  refine gac ?_
  exact ⟨l2.length,_,_,Nat.lt_succ_self _,⟨pre++[a],l2,snoc hL,rfl,rfl,rfl,hfi⟩,⟨rfl,rfl,rfl,int_eq (by simp),trivial⟩,HSub.refl _,hj⟩
end
end Go.Proofs.YtcbpcianefpniaaGreatDoor.RI
namespace Go.Proofs.YtcbpcianefpniaaGreatDoor.RI
open Go.GL Go.RowKit Go.Stele
open Go.Proofs.YtcbpcianefpniaaGreatDoor.Inp (u32 u32_eq wrapU b2n_dec b2n_not xor_u32)
set_option maxRecDepth 100000
set_option maxHeartbeats 4000000
def resB:Option Nat→LV
 |some v=>.tuple [u32 v,bool true]
 |none=>.tuple [u32 0,bool false]
theorem resB_eq {o:Option Nat} {v:Nat} {x:LV} (h:o=some v) (hx:x=u32 v):LV.tuple [x,bool true]=resB o:=by rw[h,hx];rfl
attribute [local irreducible] LOps LCode LStep LCalls Go.GL.Pure QThen QBlock RetPost LQ LAny LLate LLateOp LS
section
variable {B0:Nat} {w0:World}
theorem binary_spec {op:Nm} (hop:op∈binOps) {a b:Nat} (ha:a<4294967296) (hb:b<4294967296):LCalls (KC B0 w0) 163 [str op,u32 a,u32 b] [] (Ret (resB (binI op a b))):=by
 refine cI Tryz.func163 rfl (n:=93) rfl rfl rfl ?_
 refine gac ?_
 by_cases h1:op=[43]
 ·subst h1
  refine oC rfl (fun _=>?_) (fun hc=>by cases hc)
  refine gaj ?_
  refine oP (Pure.addW rfl rfl) rfl ?_
  refine gan ?_
  exact retRet rfl (rC (zrt rfl) (zra rfl)) (resB_eq (v:=(a+b) % 4294967296) rfl (u32_eq (by rw[wrapU];omega)))
 refine oC rfl (fun hc=>absurd (zt hc) h1) (fun _=>?_)
 refine gai ?_
 by_cases h2:op=[45]
 ·subst h2
  refine oC rfl (fun _=>?_) (fun hc=>by cases hc)
  refine gaj ?_
  refine oP (Pure.subW rfl rfl) rfl ?_
  refine gan ?_
  exact retRet rfl (rC (zrt rfl) (zra rfl)) (resB_eq (v:=(a+4294967296-b) % 4294967296) rfl (u32_eq (by rw[wrapU];omega)))
 refine oC rfl (fun hc=>absurd (zt hc) h2) (fun _=>?_)
 refine gai ?_
 by_cases h3:op=[42]
 ·subst h3
  refine oC rfl (fun _=>?_) (fun hc=>by cases hc)
  refine gaj ?_
  refine oP (Pure.mulW rfl rfl) rfl ?_
  refine gan ?_
  exact retRet rfl (rC (zrt rfl) (zra rfl)) (resB_eq (v:=a * b % 4294967296) rfl (u32_eq (by rw[wrapU,←Int.natCast_mul];generalize a * b=q;omega)))
 refine oC rfl (fun hc=>absurd (zt hc) h3) (fun _=>?_)
 refine gai ?_
 by_cases h4:op=[94]
 ·subst h4
  refine oC rfl (fun _=>?_) (fun hc=>by cases hc)
  refine gaj ?_
  refine oP (Pure.xorW rfl rfl) rfl ?_
  refine gan ?_
  exact retRet rfl (rC (zrt rfl) (zra rfl)) (resB_eq (v:=a ^^^ b) rfl (u32_eq (xor_u32 ha hb)))
 refine oC rfl (fun hc=>absurd (zt hc) h4) (fun _=>?_)
 refine gai ?_
 by_cases h5:op=[61,61]
 ·subst h5
  refine oC rfl (fun _=>?_) (fun hc=>by cases hc)
  refine gac ?_
  refine oS (S.fn [_] rfl (one_spec _) ?_) rfl
  refine gan ?_
  exact retRet rfl (rC (zrt rfl) (zra rfl)) (resB_eq (v:=b2n (decide (a=b))) rfl (congrArg u32 (b2n_dec zo)))
 refine oC rfl (fun hc=>absurd (zt hc) h5) (fun _=>?_)
 refine gai ?_
 by_cases h6:op=[33,61]
 ·subst h6
  refine oC rfl (fun _=>?_) (fun hc=>by cases hc)
  refine gaa ?_
  refine oS (S.fn [_] rfl (one_spec _) ?_) rfl
  refine gan ?_
  exact retRet rfl (rC (zrt rfl) (zra rfl)) (resB_eq (v:=b2n (decide (a≠b))) rfl (congrArg u32 b2n_not))
 refine oC rfl (fun hc=>absurd (zt hc) h6) (fun _=>?_)
 refine gai ?_
 by_cases h7:op=[60]
 ·subst h7
  refine oC rfl (fun _=>?_) (fun hc=>by cases hc)
  refine gac ?_
  refine oS (S.fn [_] rfl (one_spec _) ?_) rfl
  refine gan ?_
  exact retRet rfl (rC (zrt rfl) (zra rfl)) (resB_eq (v:=b2n (decide (a<b))) rfl (congrArg u32 (b2n_dec zo)))
 refine oC rfl (fun hc=>absurd (zt hc) h7) (fun _=>?_)
 refine gai ?_
 by_cases h8:op=[62]
 ·subst h8
  refine oC rfl (fun _=>?_) (fun hc=>by cases hc)
  refine gaa ?_
  refine oS (S.fn [_] rfl (one_spec _) ?_) rfl
  refine gan ?_
  exact retRet rfl (rC (zrt rfl) (zra rfl)) (resB_eq (v:=b2n (decide (b<a))) rfl (congrArg u32 (b2n_dec zo)))
 refine oC rfl (fun hc=>absurd (zt hc) h8) (fun _=>?_)
 refine gai ?_
 by_cases h9:op=[60,61]
 ·subst h9
  refine oC rfl (fun _=>?_) (fun hc=>by cases hc)
  refine gaa ?_
  refine oS (S.fn [_] rfl (one_spec _) ?_) rfl
  refine gan ?_
  exact retRet rfl (rC (zrt rfl) (zra rfl)) (resB_eq (v:=b2n (decide (a≤b))) rfl (congrArg u32 (b2n_dec zo)))
 refine oC rfl (fun hc=>absurd (zt hc) h9) (fun _=>?_)
 refine gai ?_
 by_cases h10:op=[62,61]
 ·subst h10
  refine oC rfl (fun _=>?_) (fun hc=>by cases hc)
  refine gaa ?_
  refine oS (S.fn [_] rfl (one_spec _) ?_) rfl
  refine gan ?_
  exact retRet rfl (rC (zrt rfl) (zra rfl)) (resB_eq (v:=b2n (decide (b≤a))) rfl (congrArg u32 (b2n_dec zo)))
 refine oC rfl (fun hc=>absurd (zt hc) h10) (fun _=>?_)
 refine gai ?_
 have ne0:∀ {x:Nat},(!decide ((x:Int)=0))=decide (x≠0):=fun {x}=>by rw[←decide_not];exact decide_eq_decide.2 zo
 by_cases h11:op=[38,38]
 ·subst h11
  refine oC rfl (fun _=>?_) (fun hc=>by cases hc)
  refine gaa ?_
  refine oB 69 (b:=!decide ((a:Int)=0)) rfl (fun g=>?_) (fun g=>?_)
  ·rw[ne0] at g
   refine gab ?_
   refine oS (S.fn [_] rfl (one_spec _) ?_) rfl
   refine gan ?_
   exact retRet rfl (rC (zrt rfl) (zra rfl)) (resB_eq (v:=b2n (decide (a≠0∧b≠0))) rfl (congrArg u32 (by rw[ne0];exact b2n_dec ⟨fun h=>⟨zt g,h⟩,fun h=>h.2⟩)))
  ·rw[ne0] at g
   refine gah ?_
   refine oS (S.fn [_] rfl (one_spec _) ?_) rfl
   refine gan ?_
   exact retRet rfl (rC (zrt rfl) (zra rfl)) (resB_eq (v:=b2n (decide (a≠0∧b≠0))) rfl (congrArg u32 (by rw[decide_eq_false (fun h:a≠0∧b≠0=>zf g h.1)])))
 refine oC rfl (fun hc=>absurd (zt hc) h11) (fun _=>?_)
 refine gai ?_
 by_cases h12:op=[124,124]
 ·subst h12
  refine oC rfl (fun _=>?_) (fun hc=>by cases hc)
  refine gaa ?_
  refine oB 78 (b:=!decide ((a:Int)=0)) rfl (fun g=>?_) (fun g=>?_)
  ·rw[ne0] at g
   refine gad ?_
   refine oS (S.fn [_] rfl (one_spec _) ?_) rfl
   refine gan ?_
   exact retRet rfl (rC (zrt rfl) (zra rfl)) (resB_eq (v:=b2n (decide (a≠0∨b≠0))) rfl (congrArg u32 (by rw[decide_eq_true (show a≠0∨b≠0 from .inl (zt g))])))
  ·rw[ne0] at g
   refine gab ?_
   refine oS (S.fn [_] rfl (one_spec _) ?_) rfl
   refine gan ?_
   exact retRet rfl (rC (zrt rfl) (zra rfl)) (resB_eq (v:=b2n (decide (a≠0∨b≠0))) rfl (congrArg u32 (by rw[ne0];exact b2n_dec ⟨.inr,fun h=>h.elim (fun h=>absurd h (zf g)) id⟩)))
 refine oC rfl (fun hc=>absurd (zt hc) h12) (fun _=>?_)
 refine gac ?_
 have hlast:op=[47]∨op=[37]:=by
  simp only[binOps,List.mem_cons,List.not_mem_nil,or_false] at hop
  rcases hop with h|h|h|h|h|h|h|h|h|h|h|h|h|h
  all_goals first|exact .inl h|exact .inr h|contradiction
 refine oC rfl (fun hz=>?_) (fun hz=>?_)
 ·have hb0:b=0:=by have:=zt hz;omega
  refine gau ?_
  refine retRet rfl (rC (zrt rfl) (zra rfl)) ?_
  rcases hlast with rfl|rfl <;> rw[hb0] <;> rfl
 have hb0:¬ b=0:=by have:=zf hz;omega
 refine gac ?_
 rcases hlast with rfl|rfl
 ·refine oC rfl (fun _=>?_) (fun hc=>by cases hc)
  refine gaj ?_
  refine oP (Pure.quoW rfl rfl zo) rfl ?_
  refine gan ?_
  exact retRet rfl (rC (zrt rfl) (zra rfl)) (resB_eq (v:=a / b) (by show (if b=0 then none else _)=_;rw[if_neg hb0];rfl) (u32_eq (quo_u32 ha)))
 ·refine oC rfl (fun hc=>by cases hc) (fun _=>?_)
  refine gac ?_
  refine oP (Pure.remW rfl rfl zo) rfl ?_
  refine gaf ?_
  exact retRet rfl (rC (zrt rfl) (zra rfl)) (resB_eq (v:=a % b) (by show (if b=0 then none else _)=_;rw[if_neg hb0];rfl) (u32_eq rem_u32))
end
end Go.Proofs.YtcbpcianefpniaaGreatDoor.RI
namespace Go.Proofs.YtcbpcianefpniaaGreatDoor.RI
open Go.GL Go.RowKit Go.Stele
open Go.Proofs.YtcbpcianefpniaaGreatDoor.Inp (u32 u32_eq wrapU Cfg CfgOk Good cenv st_good ev_good blk_good bind_ok bind_stop)
open Go.Proofs.YtcbpcianefpniaaGreatDoor.RC (get_mid more none_left pre_le snoc)
set_option maxRecDepth 100000
set_option maxHeartbeats 4000000
def REvalH (B0:Nat) (w0:World) (c:Cfg) (n:Nat):Prop:=∀ (f:FnD) (kn:List FSum) (x:Ex) (s:IS) (H:Heap),f∈c.p.funcs→Known c.p.funcs kn→errE (cenv c kn f) x=0→numE x→smE x→Inp.Good c n s→StR c s H →
 LCalls (KC B0 w0) 112 [ptr c.rb 0,encFn f,encE x] H (PostR c encV (evI c.p n f x s))
def RStmtH (B0:Nat) (w0:World) (c:Cfg) (n:Nat):Prop:=∀ (f:FnD) (kn:List FSum) (x:Sm) (s:IS) (H:Heap),f∈c.p.funcs→Known c.p.funcs kn→errS (cenv c kn f) x=0→numS x→smS x→Inp.Good c n s→StR c s H →
 LCalls (KC B0 w0) 77 [ptr c.rb 0,encFn f,encS x] H (PostR c encO (stI c.p n f x s))
def RBlkH (B0:Nat) (w0:World) (c:Cfg) (n:Nat):Prop:=∀ (f:FnD) (kn:List FSum) (l:List Sm) (s:IS) (H:Heap),f∈c.p.funcs→Known c.p.funcs kn→errSs (cenv c kn f) l=0→numSs l→Few6 l.length→smSs l→Inp.Good c n s→StR c s H →
 LCalls (KC B0 w0) 32 [ptr c.rb 0,encFn f,.list (l.map encS)] H (PostR c encO (blkR (stI c.p n f) l s))
theorem hsub_left {H F:Heap}:HSub H (H++F):=⟨F,List.Perm.refl _⟩
theorem hsub_right {H F:Heap}:HSub F (H++F):=⟨H,List.perm_append_comm⟩
theorem hsubC {p:Nat×LObj} {A B:Heap}:HSub (p::(A++B)) (p::(B++A)):=⟨[],by simpa using List.Perm.cons p List.perm_append_comm⟩
theorem PostR.none {c:Cfg} {s:IS} {v:Nat} {en er:Int} {H:Heap} (h:PostR c encO (.ok none s) (.ret (resV v en er)) H):v=0∧en=0∧er=0∧StR c s H:=h.ok
theorem PostR.some {c:Cfg} {s:IS} {v w:Nat} {en er:Int} {H:Heap} (h:PostR c encO (.ok (some w) s) (.ret (resV v en er)) H):v=w∧en=1∧er=0∧StR c s H:=h.ok
theorem PostR.val {c:Cfg} {s:IS} {v w:Nat} {en er:Int} {H:Heap} (h:PostR c encV (.ok w s) (.ret (resV v en er)) H):v=w∧en=0∧er=0∧StR c s H:=h.ok
theorem post_stop {A:Type} {c:Cfg} {enc:A→Nat×Int} {R:IR A} {er:Int} {s:IS} {H:Heap} (hR:R=.stop er s) (hs:StR c s H):PostR c enc R (.ret (resV 0 (stopE er) er)) H:=by
 rw[hR]
 exact ⟨rfl,hs⟩
theorem post_none {c:Cfg} {R:IR (Option Nat)} {s:IS} {H:Heap} (hR:R=.ok none s) (hs:StR c s H):PostR c encO R (.ret (resV 0 0 0)) H:=by
 rw[hR]
 exact ⟨rfl,hs⟩
theorem post_some {c:Cfg} {R:IR (Option Nat)} {s:IS} {v:Nat} {H:Heap} (hR:R=.ok (some v) s) (hs:StR c s H):PostR c encO R (.ret (resV v 1 0)) H:=by
 rw[hR]
 exact ⟨rfl,hs⟩
theorem post_val {c:Cfg} {R:IR Nat} {s:IS} {v:Nat} {H:Heap} (hR:R=.ok v s) (hs:StR c s H):PostR c encV R (.ret (resV v 0 0)) H:=by
 rw[hR]
 exact ⟨rfl,hs⟩
theorem stop_cond {e:Int}:(!decide (stopE e=0))=true:=by
 rw[decide_eq_false (stopE_ne e).1]
 rfl
theorem LCode.midB {C:Ctx} {n:Nat} {e:Env} {H:Heap} {Q:Post} {c c2:Code} {Q2:Post} (l:Nat→List (Nat×LV)) (H1:Nat→Nat→Int→Int→Heap→Heap) (F:Nat→Int→Int→Heap→Prop)
  (hx:LCode C n c (QThen (fun e' H'=>∃ b v en er G,F v en er G∧AllSlots e' (l b)∧HSub (H1 b v en er G) H'∧e'.ds=e.ds) Q) e H) (hy:∀ b v en er G,F v en er G→∀ j:Env,j.ds=e.ds→LCode C n c2 Q2 (Env.slots j (l b)) (H1 b v en er G)):LCode C n c (QThen (fun e H=>LCode C n c2 Q2 e H) Q) e H:=by
 refine LCode.midC (A:=Nat×Nat×Int×Int×Heap) (fun a=>l a.1) (fun a=>H1 a.1 a.2.1 a.2.2.1 a.2.2.2.1 a.2.2.2.2) (fun a=>F a.2.1 a.2.2.1 a.2.2.2.1 a.2.2.2.2) ?_ (fun a hF j hj=>hy _ _ _ _ _ hF j hj)
 refine LCode.conseq hx ?_
 rintro ex e' H' hq
 cases ex with
 |normal=>
  obtain ⟨b,v,en,er,G,h⟩:=hq
  exact ⟨(b,v,en,er,G),h⟩
 |exit id=>exact hq
 |goto id=>exact hq
 |ret=>exact hq
 |panic ch=>exact hq
 |outgrown=>exact hq
attribute [local irreducible] LOps LCode LStep LCalls Go.GL.Pure QThen QBlock RetPost LQ LAny LLate LLateOp LS
section
variable {B0:Nat} {w0:World}
theorem rblock_spec {c:Cfg} (hC:CfgOk c) {n:Nat} (hX:RStmtH B0 w0 c n):RBlkH B0 w0 c n:=by
 intro f kn l s H hf hk hv hnum hlen6 hsm hg hs
 generalize hR:blkR (stI c.p n f) l s=R
 have hl6:l.length≤2000000:=hlen6
 refine cI Tryz.func32 rfl (n:=27) rfl rfl rfl ?_
 refine gag ?_
 refine oS (S.box rfl fun b4=>?_) rfl
 refine oS (S.alloc fun b6=>?_) rfl
 refine gac ?_
 refine oL (fun k ls H'=>∃ (pre l1:List Sm) (s1:IS) (Hs:Heap),l=pre++l1∧k=l1.length∧ls=[(0,ptr c.rb 0),(2,.list (l.map encS)),(4,ptr b4 0),(6,ptr b6 0),(7,int .i64 (pre.length:Int))]∧H'=resH b6 0 0 0::fnH b4 f::Hs∧StR c s1 Hs∧Inp.Good c n s1∧errSs (cenv c kn f) l1=0∧numSs l1∧smSs l1∧blkR (stI c.p n f) l1 s1=R)
  ⟨l.length,_,_,⟨[],l,s,H,rfl,rfl,rfl,rfl,hs,hg,hv,hnum,hsm,hR⟩,⟨rfl,rfl,rfl,rfl,rfl,trivial⟩,HSub.refl _⟩ ?_
 rintro k ls H' ⟨pre,l1,s1,Hs,hL,rfl,rfl,rfl,hs1,hg1,hv1,hn1,hm1,hI⟩ j hj
 have hb:=pre_le hL hl6
 refine gac ?_
 refine oC rfl (fun hc=>?_) (fun hc=>?_)
 rotate_left
 ·obtain rfl:=none_left (g:=encS) hL hc
  refine gaa ?_
  exact retR hj (rC (rA rfl zm0 rfl zsr) rN) rfl (zhD (zhD zhr)) (post_none hI.symm hs1)
 obtain ⟨a,l2,rfl⟩:=more (g:=encS) hL hc
 rw[errSs] at hv1
 obtain ⟨hva,hvl⟩:=orE_zero.1 hv1
 rw[blkR] at hI
 refine gad ?_
 refine LCode.midB (fun b9=>[(0,ptr c.rb 0),(2,.list (l.map encS)),(4,ptr b4 0),(6,ptr b6 0),(7,int .i64 (pre.length:Int)),(8,ptr b9 0)]) (fun b9 v1 en er G=>resH b9 v1 en er::([resH b6 0 0 0,fnH b4 f]++G)) (fun v1 en er G=>PostR c encO (stI c.p n f a s1) (.ret (resV v1 en er)) G) ?_ ?_
 ·refine LCode.draw (m:=9) rfl [resH b6 0 0 0,fnH b4 f] ?_
  refine aT 0 rfl rfl (Pure.mv (lv:=.atom _) rfl) ?_
  refine aT 1 rfl rfl (Pure.ldHAgg (cs':=[_,_,_,_]) rfl zm1 rfl rfl) ?_
  refine aT 2 rfl rfl (Pure.mv (lv:=.list _) rfl) ?_
  refine aT 3 rfl rfl (Pure.mv (lv:=.atom _) rfl) ?_
  refine LAny.take (i:=4) hsub_left rfl zk zk zk rfl (xR (el':=encS a) (cs:=[_,_,_,_,_,_]) rfl rfl zo (by rw[hL];exact get_mid encS pre a l2) rfl rfl) ?_
  refine aT 5 rfl rfl (Pure.ldRefAgg (cs':=[_,_,_,_,_,_]) rfl rfl rfl) ?_
  refine LAny.late ?_ hsub_left
  refine LLate.two (i:=6) (j:=7) zk ?_ ?_
  ·refine lS (H1:=Hs) (F:=[resH b6 0 0 0,fnH b4 f]) rfl (.inl rfl) rfl (List.perm_append_comm (l₁:=[_,_])) zhr (LStep.callR [_,_,_] rfl (hX f kn a s1 Hs hf hk hva hn1.1 hm1.1 hg1 hs1) (fun v en er H2 hP=>?_))
   refine lO 7 (lS (H1:=[]) rfl (.inl rfl) rfl zpr hsub_right (S.alloc fun b8=>?_))
   refine lO 8 (lS (H1:=[_]) rfl (.inl rfl) rfl zpr hsub_right (S.store (n:=3) (cs':=[_,_,_]) rfl pH rfl rfl rfl rfl rfl ?_))
   refine lD zk ?_
   refine QThen.normal ?_
   exact ⟨b8,v,en,er,H2,hP,⟨rfl,rfl,rfl,rfl,rfl,rfl,trivial⟩,hsubC,rfl⟩
  ·refine lS (H1:=[]) rfl (.inl rfl) rfl zpr hsub_left (S.alloc fun b8=>?_)
   refine lO 6 (lS (H1:=Hs) (F:=_::[resH b6 0 0 0,fnH b4 f]) rfl (.inl rfl) rfl (List.perm_append_comm (l₁:=_::[_,_])) (zhD zhr) (LStep.callR [_,_,_] rfl (hX f kn a s1 Hs hf hk hva hn1.1 hm1.1 hg1 hs1) (fun v en er H2 hP=>?_)))
   refine lO 8 (lS (H1:=[_]) (F:=H2++[_,_]) rfl (.inl rfl) rfl List.perm_middle hsub_right (S.store (n:=3) (cs':=[_,_,_]) rfl pH rfl rfl rfl rfl rfl ?_))
   refine lD zk ?_
   refine QThen.normal ?_
   exact ⟨b8,v,en,er,H2,hP,⟨rfl,rfl,rfl,rfl,rfl,rfl,trivial⟩,hsubC,rfl⟩
 rintro b8 v en er H2 hP j2 hj2
 cases hr:stI c.p n f a s1 with
 |ok r s2=>
  obtain ⟨hg2,_⟩:=st_good hC hn1.1 hg1 hr
  rw[hr] at hI hP
  cases r with
  |none=>
   obtain ⟨rfl,rfl,rfl,hs2⟩:=hP.none
   refine gaa ?_
   refine oC rfl (fun hd=>by cases hd) (fun _=>?_)
   refine gac ?_
   exact ⟨l2.length,_,_,Nat.lt_succ_self _,⟨pre++[a],l2,s2,H2,snoc hL,rfl,rfl,rfl,hs2,hg2,hvl,hn1.2,hm1.2,hI⟩,⟨rfl,rfl,rfl,rfl,int_eq (by simp),trivial⟩,zhD zhr,hj2.trans hj⟩
  |some w=>
   obtain ⟨rfl,rfl,rfl,hs2⟩:=hP.some
   refine gaa ?_
   refine oC rfl (fun _=>?_) (fun hd=>by cases hd)
   refine gaa ?_
   exact retR (hj2.trans hj) (rC (rA (k:=3) rfl zb0 rfl zsr) rN) rfl (zhD (zhD (zhD zhr))) (post_some hI.symm hs2)
 |stop e s2=>
  rw[hr] at hI hP
  obtain ⟨rfl,rfl,rfl,hs2⟩:=hP.stop
  refine gaa ?_
  refine oC rfl (fun _=>?_) (fun hd=>absurd (hd.symm.trans stop_cond) (by decide))
  refine gaa ?_
  exact retR (hj2.trans hj) (rC (rA (k:=3) rfl zb0 rfl zsr) rN) rfl (zhD (zhD (zhD zhr))) (post_stop hI.symm hs2)
end
end Go.Proofs.YtcbpcianefpniaaGreatDoor.RI
namespace Go.Proofs.YtcbpcianefpniaaGreatDoor.RI
open Go.GL Go.RowKit Go.Stele
open Go.Proofs.YtcbpcianefpniaaGreatDoor.Inp (u32 u32_eq wrapU arKV arH Cfg CfgOk Good cenv st_good ev_good blk_good bind_ok bind_stop errS_parts form_value form_index whl_step ar_pick setAr setL_one fst_inj)
open Go.Proofs.YtcbpcianefpniaaGreatDoor.RC (get_mid more none_left pre_le snoc)
set_option maxRecDepth 100000
set_option maxHeartbeats 4000000
theorem str_ar {c:Cfg} (hC:CfgOk c) {s:IS} {v:LV} {Ha:Heap} {m:KV} {ck:Nat} {k:List UInt8} {b n:Nat} (hb:(k,b,n)∈c.ab) (hl:∀ q∈c.ab,(s.ar q.1).length=q.2.2) (hle:s.left≤c.lim) (hacc:Acc 1 v (byts s.out) Ha []) (hsc:ScR m s) :
  (s.ar k).length=n∧∃ G,(stRH c s v m ck Ha).Perm ((b,.cells 43 ((s.ar k).map u32))::G)∧∀ l,l.length=n→∃ H',StR c (setAr s k l) H'∧List.Perm ((b,.cells 43 (l.map u32))::G) H':=by
 have hn:=hl _ hb
 simp only at hn
 refine ⟨hn,?_⟩
 obtain ⟨F,h1,h2⟩:=ar_pick s hC.akeys hb
 have key:∀ (X S R:Heap) (p:Nat×LObj),S.Perm (p::F)→List.Perm (X++(S++R)) (p::(X++(F++R))):=fun X S R p h=>((h.append_right R).append_left X).trans List.perm_middle
 refine ⟨_,key [_,_,_] _ Ha _ h1,fun l hln=>⟨stRH c (setAr s k l) v m ck Ha,⟨fun q hq=>?_,hle,v,Ha,m,ck,hacc,hsc,rfl⟩,(key [_,_,_] _ Ha _ (h2 l)).symm⟩⟩
 show ((if q.1=k then l else s.ar q.1)).length=q.2.2
 split
 ·rename_i he
  have:q=(k,b,n):=fst_inj c.ab hC.akeys hq hb he
  rw[this]
  exact hln
 ·exact hl q hq
attribute [local irreducible] LOps LCode LStep LCalls Go.GL.Pure QThen QBlock RetPost LQ LAny LLate LLateOp LS
section
variable {B0:Nat} {w0:World}
theorem rstmt_spec {c:Cfg} (hC:CfgOk c) {n:Nat} (hE:REvalH B0 w0 c n) (hB:RBlkH B0 w0 c n):RStmtH B0 w0 c (n+1):=by
 intro f kn x s H hf hk hv hnum hsm hg hs
 obtain ⟨kind,name,index,value,thn,els⟩:=x
 obtain ⟨hform,hval,hidx,hname,hthn,hels⟩:=errS_parts hv
 obtain ⟨hn1,hn2,hn3,hn4⟩:=hnum
 obtain ⟨hm1,hm2,hm3,hm4,hm5,hm6,hm7,hm8⟩:=hsm
 generalize hI:stI c.p (n+1) f (Sm.mk kind name index value thn els) s=R
 rw[stI] at hI
 rw[encS_mk]
 refine cI Tryz.func77 rfl (n:=127) rfl rfl rfl ?_
 refine gag ?_
 refine oS (S.box rfl fun b4=>?_) rfl
 refine oS (S.box rfl fun b5=>?_) rfl
 refine oS (S.alloc fun b6=>?_) rfl
 refine gat ?_
 refine oS (S.callH (H1:=H) (F:=[_,_,_]) [_] rfl (List.perm_append_comm (l₁:=[_,_,_])) (count_spec hC hs) ?_ ?_) rfl
 rotate_left
 ·intro ch H' h
  unfold PostT at h
  split at h <;> cases h.1
 intro lv H1 hT
 unfold PostT at hT
 cases hr:tick s with
 |stop e s1=>
  rw[hr] at hI hT
  obtain ⟨hlv,hs1⟩:=hT
  cases hlv
  have he13:e=13:=by
   unfold tick at hr
   split at hr
   ·cases hr;rfl
   ·cases hr
  subst he13
  refine LOps.perm (List.perm_append_comm (l₂:=[_,_,_])) ?_
  refine gab ?_
  refine oC rfl (fun _=>?_) (fun hd=>by cases hd)
  refine gag ?_
  refine oS (S.fn [_] rfl (fail_spec 13) ?_) rfl
  refine gab ?_
  exact retR rfl (rC (rA rfl zm0 rfl zsr) rN) rfl (zhD (zhD (zhD zhr))) (post_stop hI.symm hs1)
 |ok u s1=>
 rw[hr,bind_ok] at hI
 rw[hr] at hT
 obtain ⟨hlv,hs1⟩:=hT
 cases hlv
 have hg1:Inp.Good c n s1:=by
  have h1:=tick_less hr
  have h2:=tick_bd hg.1
  rw[hr] at h2
  have h3:s1.out=s.out:=by
   unfold tick at hr
   split at hr
   ·cases hr
   ·cases hr;rfl
  exact ⟨h2.2,by have:=hg.2.1;omega,by rw[h3];have:=hg.2.2;omega⟩
 refine LOps.perm (List.perm_append_comm (l₂:=[_,_,_])) ?_
 refine gab ?_
 refine oC rfl (fun hd=>by cases hd) (fun _=>?_)
 refine gaa ?_
 refine oC rfl (fun hc=>?_) (fun hc=>?_)
 ·have h7:kind=7:=zt hc
  rw[if_pos h7] at hI
  refine gaa ?_
  exact retR rfl (rC (rA rfl zm0 rfl zsr) rN) rfl (zhD (zhD (zhD zhr))) (post_stop hI.symm hs1)
 have h7:¬ kind=7:=zf hc
 rw[if_neg h7] at hI
 obtain ⟨x0,rfl⟩:=form_value hform h7
 rw[errEs] at hval
 obtain ⟨hv0,_⟩:=orE_zero.1 hval
 refine gad ?_
 refine LCode.midB (fun b9=>[(0,ptr c.rb 0),(4,ptr b4 0),(5,ptr b5 0),(6,ptr b6 0),(7,ptr b9 0)]) (fun b9 v1 en er G=>resH b9 v1 en er::([resH b6 0 0 0,smH b5 kind name index [x0] thn els,fnH b4 f]++G)) (fun v1 en er G=>PostR c encV (evI c.p n f x0 s1) (.ret (resV v1 en er)) G) ?_ ?_
 ·refine LCode.draw (m:=9) rfl [resH b6 0 0 0,smH b5 kind name index [x0] thn els,fnH b4 f] ?_
  refine aT 0 rfl rfl (Pure.mv (lv:=.atom _) rfl) ?_
  refine aT 1 rfl rfl (Pure.ldHAgg (cs':=[_,_,_,_]) rfl zm2 rfl rfl) ?_
  refine aT 2 rfl rfl (Pure.fieldH rfl) ?_
  refine aT 3 rfl rfl (Pure.loadH (c:=.list _) rfl zm1 rfl) ?_
  refine LAny.take (i:=4) hsub_left rfl zk zk zk rfl (xR (el':=encE x0) (cs:=[_,_,_,_]) rfl rfl zo rfl rfl rfl) ?_
  refine aT 5 rfl rfl (Pure.ldRefAgg (cs':=[_,_,_,_]) rfl rfl rfl) ?_
  refine LAny.late ?_ hsub_left
  refine LLate.two (i:=6) (j:=7) zk ?_ ?_
  ·refine lS (H1:=H1) (F:=[resH b6 0 0 0,smH b5 kind name index [x0] thn els,fnH b4 f]) rfl (.inl rfl) rfl (List.perm_append_comm (l₁:=[_,_,_])) zhr (LStep.callR [_,_,_] rfl (hE f kn x0 s1 H1 hf hk hv0 hn2.1 hm6.1 hg1 hs1) (fun v1 en er H9 hP=>?_))
   refine lO 7 (lS (H1:=[]) rfl (.inl rfl) rfl zpr hsub_right (S.alloc fun b7=>?_))
   refine lO 8 (lS (H1:=[_]) rfl (.inl rfl) rfl zpr hsub_right (S.store (n:=3) (cs':=[_,_,_]) rfl pH rfl rfl rfl rfl rfl ?_))
   refine lD zk ?_
   refine QThen.normal ?_
   exact ⟨b7,v1,en,er,H9,hP,⟨rfl,rfl,rfl,rfl,rfl,trivial⟩,hsubC,rfl⟩
  ·refine lS (H1:=[]) rfl (.inl rfl) rfl zpr hsub_left (S.alloc fun b7=>?_)
   refine lO 6 (lS (H1:=H1) (F:=_::[resH b6 0 0 0,smH b5 kind name index [x0] thn els,fnH b4 f]) rfl (.inl rfl) rfl (List.perm_append_comm (l₁:=_::[_,_,_])) (zhD zhr) (LStep.callR [_,_,_] rfl (hE f kn x0 s1 H1 hf hk hv0 hn2.1 hm6.1 hg1 hs1) (fun v1 en er H9 hP=>?_)))
   refine lO 8 (lS (H1:=[_]) (F:=H9++[_,_,_]) rfl (.inl rfl) rfl List.perm_middle hsub_right (S.store (n:=3) (cs':=[_,_,_]) rfl pH rfl rfl rfl rfl rfl ?_))
   refine lD zk ?_
   refine QThen.normal ?_
   exact ⟨b7,v1,en,er,H9,hP,⟨rfl,rfl,rfl,rfl,rfl,trivial⟩,hsubC,rfl⟩
 rintro b7 v en er H2 hP j2 hj2
 rw[show ([x0]:List Ex).headD default=x0 from rfl] at hI
 cases hr2:evI c.p n f x0 s1 with
 |stop e s2=>
  rw[hr2] at hI hP
  obtain ⟨rfl,rfl,rfl,hs2⟩:=hP.stop
  refine gaa ?_
  refine oC rfl (fun _=>?_) (fun hd=>absurd (hd.symm.trans stop_cond) (by decide))
  refine gaa ?_
  exact retR hj2 (rC (rA (k:=3) rfl zb0 rfl zsr) rN) rfl (zhD (zhD (zhD (zhD zhr)))) (post_stop hI.symm hs2)
 |ok v2 s2=>
 obtain ⟨hg2,hv2,hlt2⟩:=ev_good hC hn2.1 hg1 hr2
 rw[hr2,bind_ok] at hI
 rw[hr2] at hP
 obtain ⟨rfl,rfl,rfl,hs2⟩:=hP.val
 refine gaa ?_
 refine oC rfl (fun hd=>by cases hd) (fun _=>?_)
 refine gaa ?_
 by_cases hk1:kind=1
 ·rw[if_pos hk1] at hI
  obtain ⟨hl,hle,va,Ha,m,ck,hacc,hsc,rfl⟩:=hs2
  refine oC rfl (fun _=>?_) (fun hc=>absurd hk1 (zf hc))
  refine LCode.draw (m:=11) rfl [resH b7 v 0 0,resH b6 0 0 0,smH b5 kind name index [x0] thn els,fnH b4 f,(c.rb,.cells 79 (runRC c s2 va))] ?_
  refine aT 0 rfl rfl (Pure.mv (lv:=.atom _) rfl) ?_
  refine LAny.take (i:=1) hsub_left rfl zk zk zk rfl (Pure.nilCheckH rfl) ?_
  refine aT 2 rfl rfl (Pure.fieldH rfl) ?_
  refine aT 3 rfl rfl (Pure.loadH (c:=.atom _) rfl zm4 rfl) ?_
  refine aT 4 rfl rfl (Pure.ldHAgg (cs':=[_,_,_,_]) rfl zm3 rfl rfl) ?_
  refine aT 5 rfl rfl (Pure.fieldH rfl) ?_
  refine aT 6 rfl rfl (Pure.loadH (c:=.atom _) rfl zm2 rfl) ?_
  refine aT 8 rfl rfl (Pure.fieldH rfl) ?_
  refine aT 9 rfl rfl (Pure.loadH (c:=.atom _) rfl zm0 rfl) ?_
  refine LAny.late ?_ hsub_left
  refine lO 7 (lS (H1:=[]) rfl (.inl rfl) rfl zpr hsub_left (S.fn [_,_] rfl (key_spec hC hf name) ?_))
  refine lO 10 (lS (H1:=[(c.sm,.map (kvs m) ck)]) (F:=[resH b7 v 0 0,resH b6 0 0 0,smH b5 kind name index [x0] thn els,fnH b4 f,(c.rb,.cells 79 (runRC c s2 va))]++((c.am,.map (kvs (arKV c.ab)) c.ac)::(arH c.ab s2++Ha))) rfl (.inl rfl) rfl (List.perm_middle (l₁:=[_,_,_,_,_])) hsub_left (S.kvSet (k:=keyI f name) (lv:=u32 v) rfl rfl rfl pH fun ck2=>?_))
  refine lD zk ?_
  refine gad ?_
  refine LCode.perm (List.perm_middle (l₁:=[_,_,_,_,_])).symm ?_
  refine gaa ?_
  exact retR hj2 (rC (rA (k:=3) rfl zb0 rfl zsr) rN) rfl (zhD (zhD (zhD (zhD zhr)))) (post_none hI.symm ⟨hl,hle,va,Ha,_,ck2,hacc,hsc.put _ _,rfl⟩)
 refine oC rfl (fun hc=>absurd (zt hc) hk1) (fun _=>?_)
 rw[if_neg hk1] at hI hname
 refine gas ?_
 by_cases hk2:kind=2
 ·subst hk2
  rw[if_pos rfl] at hI hname
  obtain ⟨i0,rfl⟩:=form_index hform
  rw[errEs] at hidx
  obtain ⟨hi0,_⟩:=orE_zero.1 hidx
  have hpl:name∈c.p.arrays.map (·.name):=by
   unfold arrayE at hname
   split at hname
   ·rename_i h
    exact h
   ·split at hname <;> cases hname
  obtain ⟨b,m,hb1,hb2⟩:=hC.arr hpl
  have hmz:=hC.asz _ hb1
  simp only at hmz
  refine oC rfl (fun hc=>?_) (fun hc=>by cases hc)
  refine gad ?_
  refine LCode.midB (fun b9=>[(0,ptr c.rb 0),(4,ptr b4 0),(5,ptr b5 0),(6,ptr b6 0),(7,ptr b7 0),(8,ptr b9 0)]) (fun b9 v1 en er G=>resH b9 v1 en er::([resH b7 v 0 0,resH b6 0 0 0,smH b5 2 name [i0] [x0] thn els,fnH b4 f]++G)) (fun v1 en er G=>PostR c encV (evI c.p n f i0 s2) (.ret (resV v1 en er)) G) ?_ ?_
  ·refine LCode.draw (m:=9) rfl [resH b7 v 0 0,resH b6 0 0 0,smH b5 2 name [i0] [x0] thn els,fnH b4 f] ?_
   refine aT 0 rfl rfl (Pure.mv (lv:=.atom _) rfl) ?_
   refine aT 1 rfl rfl (Pure.ldHAgg (cs':=[_,_,_,_]) rfl zm3 rfl rfl) ?_
   refine aT 2 rfl rfl (Pure.fieldH rfl) ?_
   refine aT 3 rfl rfl (Pure.loadH (c:=.list _) rfl zm2 rfl) ?_
   refine LAny.take (i:=4) hsub_left rfl zk zk zk rfl (xR (el':=encE i0) (cs:=[_,_,_,_]) rfl rfl zo rfl rfl rfl) ?_
   refine aT 5 rfl rfl (Pure.ldRefAgg (cs':=[_,_,_,_]) rfl rfl rfl) ?_
   refine LAny.late ?_ hsub_left
   refine LLate.two (i:=6) (j:=7) zk ?_ ?_
   ·refine lS (H1:=H2) (F:=[resH b7 v 0 0,resH b6 0 0 0,smH b5 2 name [i0] [x0] thn els,fnH b4 f]) rfl (.inl rfl) rfl (List.perm_append_comm (l₁:=[_,_,_,_])) zhr (LStep.callR [_,_,_] rfl (hE f kn i0 s2 H2 hf hk hi0 hn1.1 hm5.1 hg2 hs2) (fun v1 en er H9 hP=>?_))
    refine lO 7 (lS (H1:=[]) rfl (.inl rfl) rfl zpr hsub_right (S.alloc fun b8=>?_))
    refine lO 8 (lS (H1:=[_]) rfl (.inl rfl) rfl zpr hsub_right (S.store (n:=3) (cs':=[_,_,_]) rfl pH rfl rfl rfl rfl rfl ?_))
    refine lD zk ?_
    refine QThen.normal ?_
    exact ⟨b8,v1,en,er,H9,hP,⟨rfl,rfl,rfl,rfl,rfl,rfl,trivial⟩,hsubC,rfl⟩
   ·refine lS (H1:=[]) rfl (.inl rfl) rfl zpr hsub_left (S.alloc fun b8=>?_)
    refine lO 6 (lS (H1:=H2) (F:=_::[resH b7 v 0 0,resH b6 0 0 0,smH b5 2 name [i0] [x0] thn els,fnH b4 f]) rfl (.inl rfl) rfl (List.perm_append_comm (l₁:=_::[_,_,_,_])) (zhD zhr) (LStep.callR [_,_,_] rfl (hE f kn i0 s2 H2 hf hk hi0 hn1.1 hm5.1 hg2 hs2) (fun v1 en er H9 hP=>?_)))
    refine lO 8 (lS (H1:=[_]) (F:=H9++[_,_,_,_]) rfl (.inl rfl) rfl List.perm_middle hsub_right (S.store (n:=3) (cs':=[_,_,_]) rfl pH rfl rfl rfl rfl rfl ?_))
    refine lD zk ?_
    refine QThen.normal ?_
    exact ⟨b8,v1,en,er,H9,hP,⟨rfl,rfl,rfl,rfl,rfl,rfl,trivial⟩,hsubC,rfl⟩
  rintro b8 i en er H3 hP3 j3 hj3
  rw[show ([i0]:List Ex).headD default=i0 from rfl] at hI
  cases hr3:evI c.p n f i0 s2 with
  |stop e s3=>
   rw[hr3] at hI hP3
   obtain ⟨rfl,rfl,rfl,hs3⟩:=hP3.stop
   refine gaa ?_
   refine oC rfl (fun _=>?_) (fun hd=>absurd (hd.symm.trans stop_cond) (by decide))
   refine gaa ?_
   exact retR (hj3.trans hj2) (rC (rA (k:=3) rfl zb0 rfl zsr) rN) rfl (zhD (zhD (zhD (zhD (zhD zhr))))) (post_stop hI.symm hs3)
  |ok i2 s3=>
  obtain ⟨hg3,hv3,_⟩:=ev_good hC hn1.1 hg2 hr3
  rw[hr3,bind_ok] at hI
  rw[hr3] at hP3
  obtain ⟨rfl,rfl,rfl,hs3⟩:=hP3.val
  obtain ⟨hl,hle,va,Ha,m1,ck,hacc,hsc,rfl⟩:=hs3
  obtain ⟨hlen,G,hG1,hG2⟩:=str_ar hC (ck:=ck) hb1 hl hle hacc hsc
  have hA:∀ {H:Heap},(c.am,LObj.map (kvs (arKV c.ab)) c.ac)∈H→(c.am,LObj.map (kvs (arKV c.ab)) c.ac)∈H:=id
  refine gaa ?_
  refine oC rfl (fun hd=>by cases hd) (fun _=>?_)
  refine gad ?_
  refine LCode.quiet zk ?_
  refine gaz ?_
  refine LQ.pure (Pure.kvHit rfl rfl zm7 hb2) rfl ?_
  refine LQ.pure (Pure.rowLen rfl) rfl ?_
  refine gaz ?_
  have hwr:IntKind.i64.wrap (i:Int)=i:=wrap_i64 zo
  by_cases hin:i<m
  rotate_left
  ·have hget:(s3.ar name)[i]? = none:=List.getElem?_eq_none zo
   rw[hget] at hI
   refine oC rfl (fun _=>?_) (fun hd=>by have h2:=zf hd;rw[hwr] at h2;omega)
   refine gag ?_
   refine oS (S.fn [_] rfl (fail_spec 2) ?_) rfl
   refine gab ?_
   exact retR (hj3.trans hj2) (rC (rA (k:=3) rfl zb0 rfl zsr) rN) rfl (zhD (zhD (zhD (zhD (zhD zhr))))) (post_stop (er:=2) hI.symm ⟨hl,hle,va,Ha,m1,ck,hacc,hsc,rfl⟩)
  have hget:(s3.ar name)[i]? = some (s3.ar name)[i]:=List.getElem?_eq_getElem zo
  rw[hget] at hI
  refine oC rfl (fun hd=>by have h2:=zt hd;rw[hwr] at h2;omega) (fun _=>?_)
  refine gav ?_
  refine LCode.tail 12 zk ?_
  refine gab ?_
  refine LS.pure (Pure.kvHit rfl rfl zm7 hb2) rfl ?_
  refine gaz ?_
  refine LS.pure (Pure.indexRow rfl rfl zo zo) rfl ?_
  refine gaz ?_
  obtain ⟨H4,hs4,hp4⟩:=hG2 ((s3.ar name).set i v) (by rw[List.length_set];exact hlen)
  refine oS (S.store (cs':=((s3.ar name).set i v).map u32) rfl (show List.Perm _ (_::([_,_,_,_,_]++G)) from (hG1.append_left [_,_,_,_,_]).trans List.perm_middle) rfl rfl ?_ rfl ?_ ?_) rfl
  ·rw[List.length_map,hlen]
   simp
   omega
  ·rw[setL_one _ _ _ (by rw[List.length_map];simp;omega),List.map_set]
   simp
  refine LOps.perm (H':=[_,_,_,_,_]++H4) ((List.perm_middle (l₁:=[_,_,_,_,_])).symm.trans (hp4.append_left [_,_,_,_,_])) ?_
  refine gaa ?_
  exact retR (hj3.trans hj2) (rC (rA (k:=3) rfl zb0 rfl zsr) rN) rfl (zhD (zhD (zhD (zhD (zhD zhr))))) (post_none hI.symm hs4)
 refine oC rfl (fun hc=>absurd (zt hc) hk2) (fun _=>?_)
 rw[if_neg hk2] at hI
 refine gas ?_
 have fin:∀ {r:IR (Option Nat)} {v en er:_} {H3:Heap},r=R→PostR c encO r (.ret (resV v en er)) H3→PostR c encO R (.ret (resV v en er)) H3:=fun h1 h2=>by rw[←h1];exact h2
 by_cases hk3:kind=3
 ·subst hk3
  rw[if_neg (by decide),if_pos rfl] at hI
  refine oC rfl (fun _=>?_) (fun hc=>by cases hc)
  refine gaa ?_
  by_cases hv0':v≠0
  ·rw[if_pos hv0'] at hI
   refine oC rfl (fun _=>?_) (fun hd=>?_)
   rotate_left
   ·have h2:(!decide ((v:Int)=0))=false:=hd
    simp at h2
    omega
   refine gaa ?_
   refine oS (S.callR (F:=[_,_,_,_]) [_,_,_] rfl (List.perm_append_comm (l₁:=[_,_,_,_])) (hB f kn thn s2 H2 hf hk hthn hn3 hm3 hm7 hg2 hs2) (fun v1 en er H3 hP3=>?_)) rfl
   refine LOps.perm (List.perm_append_comm (l₂:=[_,_,_,_])) ?_
   refine gab ?_
   exact retR hj2 (rC (rA (k:=3) rfl zb0 rfl zsr) rN) rfl (zhD (zhD (zhD (zhD zhr)))) (fin hI hP3)
  ·rw[if_neg hv0'] at hI
   refine oC rfl (fun hd=>?_) (fun _=>?_)
   ·have h2:(!decide ((v:Int)=0))=true:=hd
    simp at h2
    omega
   refine gaa ?_
   refine oS (S.callR (F:=[_,_,_,_]) [_,_,_] rfl (List.perm_append_comm (l₁:=[_,_,_,_])) (hB f kn els s2 H2 hf hk hels hn4 hm4 hm8 hg2 hs2) (fun v1 en er H3 hP3=>?_)) rfl
   refine LOps.perm (List.perm_append_comm (l₂:=[_,_,_,_])) ?_
   refine gab ?_
   exact retR hj2 (rC (rA (k:=3) rfl zb0 rfl zsr) rN) rfl (zhD (zhD (zhD (zhD zhr)))) (fin hI hP3)
 refine oC rfl (fun hc=>absurd (zt hc) hk3) (fun _=>?_)
 refine gas ?_
 by_cases hk4:kind=4
 ·subst hk4
  rw[if_neg (by decide),if_neg (by decide),if_pos rfl] at hI
  refine oC rfl (fun _=>?_) (fun hc=>by cases hc)
  refine gad ?_
  refine oL (fun k ls H'=>∃ (m:Nat) (v1:Nat) (s3:IS) (Hs:Heap),k=s3.left∧s3.left≤m∧v1<4294967296∧ls=[(0,ptr c.rb 0),(4,ptr b4 0),(5,ptr b5 0),(6,ptr b6 0),(7,ptr b7 0)]∧H'=resH b7 v1 0 0::resH b6 0 0 0::smH b5 4 name index [x0] thn els::fnH b4 f::Hs∧StR c s3 Hs∧Inp.Good c n s3∧whlR (evI c.p n f x0) (blkR (stI c.p n f) thn) m v1 s3=R)
   ⟨_,_,_,⟨n,v,s2,H2,rfl,hg2.2.1,hv2,rfl,rfl,hs2,hg2,hI⟩,⟨rfl,rfl,rfl,rfl,rfl,trivial⟩,HSub.refl _⟩ ?_
  rintro k ls H' ⟨m,v1,s3,Hs,rfl,hm,hv1,rfl,rfl,hs3,hg3,hI3⟩ j3 hj3
  refine gaa ?_
  by_cases hv0':v1=0
  ·subst hv0'
   rw[whlR_zero] at hI3
   refine oC rfl (fun hc=>by cases hc) (fun _=>?_)
   refine gaa ?_
   exact retR (hj3.trans hj2) (rC (rA (k:=3) rfl zb0 rfl zsr) rN) rfl (zhD (zhD (zhD (zhD zhr)))) (post_none hI3.symm hs3)
  rw[whl_step hm hv0'] at hI3
  refine oC rfl (fun _=>?_) (fun hd=>?_)
  rotate_left
  ·have h2:(!decide ((v1:Int)=0))=false:=hd
   simp at h2
   omega
  refine gaa ?_
  refine oS (S.callR (F:=[_,_,_,_]) [_,_,_] rfl (List.perm_append_comm (l₁:=[_,_,_,_])) (hB f kn thn s3 Hs hf hk hthn hn3 hm3 hm7 hg3 hs3) (fun v4 en er H4 hP4=>?_)) rfl
  refine LOps.perm (List.perm_append_comm (l₂:=[_,_,_,_])) ?_
  refine oS (S.alloc fun b9=>?_) rfl
  refine gaa ?_
  cases hr4:blkR (stI c.p n f) thn s3 with
  |stop e s4=>
   rw[hr4] at hI3 hP4
   obtain ⟨rfl,rfl,rfl,hs4⟩:=hP4.stop
   refine oC rfl (fun _=>?_) (fun hd=>absurd (hd.symm.trans stop_cond) (by decide))
   refine gaa ?_
   exact retR (hj3.trans hj2) (rC (rA (k:=3) rfl zb0 rfl zsr) rN) rfl (zhD (zhD (zhD (zhD (zhD zhr))))) (post_stop hI3.symm hs4)
  |ok r s4=>
  obtain ⟨hg4,_⟩:=blk_good hC hn3 hg3 hr4
  have hlt4:=(blkR_grow ((grow_all c.p n).2 f) thn s3).2
  rw[hr4] at hlt4 hI3 hP4
  rw[bind_ok] at hI3
  cases r with
  |some y=>
   obtain ⟨rfl,rfl,rfl,hs4⟩:=hP4.some
   refine oC rfl (fun _=>?_) (fun hd=>by cases hd)
   refine gaa ?_
   exact retR (hj3.trans hj2) (rC (rA (k:=3) rfl zb0 rfl zsr) rN) rfl (zhD (zhD (zhD (zhD (zhD zhr))))) (post_some hI3.symm hs4)
  |none=>
  obtain ⟨rfl,rfl,rfl,hs4⟩:=hP4.none
  refine oC rfl (fun hd=>by cases hd) (fun _=>?_)
  refine gad ?_
  have hlt4':s4.left≤s3.left:=hlt4
  refine LCode.tail 6 zk ?_
  refine gab ?_
  refine LS.pure (xR (el':=encE x0) (cs:=[_,_,_,_]) rfl rfl zo rfl rfl rfl) rfl ?_
  refine gab ?_
  refine oS (S.callR (F:=[_,_,_,_,_]) [_,_,_] rfl (List.perm_append_comm (l₁:=[_,_,_,_,_])) (hE f kn x0 s4 H4 hf hk hv0 hn2.1 hm6.1 hg4 hs4) (fun v5 en er H5 hP5=>?_)) rfl
  refine LOps.perm (List.perm_append_comm (l₂:=[_,_,_,_,_])) ?_
  refine gaa ?_
  have hI4:(evI c.p n f x0 s4).bind (fun v s=>whlR (evI c.p n f x0) (blkR (stI c.p n f) thn) (m-1) v s)=R:=hI3
  cases hr5:evI c.p n f x0 s4 with
  |stop e s5=>
   rw[hr5] at hI4 hP5
   obtain ⟨rfl,rfl,rfl,hs5⟩:=hP5.stop
   refine oC rfl (fun _=>?_) (fun hd=>absurd (hd.symm.trans stop_cond) (by decide))
   refine gaa ?_
   exact retR (hj3.trans hj2) (rC (rA (k:=3) rfl zb0 rfl zsr) rN) rfl (zhD (zhD (zhD (zhD (zhD zhr))))) (post_stop hI4.symm hs5)
  |ok v6 s5=>
  obtain ⟨hg5,hv5,hlt5⟩:=ev_good hC hn2.1 hg4 hr5
  rw[hr5,bind_ok] at hI4
  rw[hr5] at hP5
  obtain ⟨rfl,rfl,rfl,hs5⟩:=hP5.val
  refine oC rfl (fun hd=>by cases hd) (fun _=>?_)
  refine gad ?_
  exact ⟨s5.left,_,_,by omega,⟨m-1,v5,s5,H5,rfl,by omega,hv5,rfl,rfl,hs5,hg5,hI4⟩,⟨rfl,rfl,rfl,rfl,rfl,trivial⟩,zhP pH (zhD zhr),hj3⟩
 refine oC rfl (fun hc=>absurd (zt hc) hk4) (fun _=>?_)
 refine gas ?_
 by_cases hk5:kind=5
 ·subst hk5
  rw[if_pos rfl] at hI
  refine oC rfl (fun _=>?_) (fun hc=>by cases hc)
  refine gaa ?_
  exact retR hj2 (rC (rA (k:=3) rfl zb0 rfl zsr) rN) rfl (zhD (zhD (zhD (zhD zhr)))) (post_some hI.symm hs2)
 rw[if_neg hk5,if_neg hk3,if_neg hk4] at hI
 refine oC rfl (fun hc=>absurd (zt hc) hk5) (fun _=>?_)
 refine gaa ?_
 exact retR hj2 (rC (rA (k:=3) rfl zb0 rfl zsr) rN) rfl (zhD (zhD (zhD (zhD zhr)))) (post_none hI.symm hs2)
end
end Go.Proofs.YtcbpcianefpniaaGreatDoor.RI
namespace Go.Proofs.YtcbpcianefpniaaGreatDoor.RI
open Go.GL Go.RowKit Go.Stele
open Go.Proofs.YtcbpcianefpniaaGreatDoor.Inp (u32 u32_eq wrapU arKV arH Cfg CfgOk Good cenv blk_good bind_ok bind_stop Pure.ltail wrap_u8 acc_one u32_cells)
open Go.Proofs.YtcbpcianefpniaaGreatDoor.RC (get_mid more none_left pre_le snoc)
set_option maxRecDepth 100000
set_option maxHeartbeats 4000000
theorem out_permR (c:Cfg) (s:IS) (v:LV) (m:KV) (ck:Nat) (Ha:Heap) (p:Nat×LObj):(p::stRH c s v m ck Ha).Perm (Ha++(p::(c.rb,.cells 79 (runRC c s v))::(c.sm,.map (kvs m) ck)::(c.am,.map (kvs (arKV c.ab)) c.ac)::arH c.ab s)):=
 List.perm_append_comm (l₁:=p::(c.rb,.cells 79 (runRC c s v))::(c.sm,.map (kvs m) ck)::(c.am,.map (kvs (arKV c.ab)) c.ac)::arH c.ab s) (l₂:=Ha)
theorem byte_mod (a:Nat):int .u8 (IntKind.u8.wrap ((a % 256:Nat):Int))=int .u8 ((UInt8.ofNat a).toNat:Int):=by
 rw[wrap_u8]
 congr 2
 simp
attribute [local irreducible] LOps LCode LStep LCalls Go.GL.Pure QThen QBlock RetPost LQ LAny LLate LLateOp LS
section
variable {B0:Nat} {w0:World}
theorem rcall_spec {c:Cfg} (hC:CfgOk c) {n:Nat} (hB:RBlkH B0 w0 c n) {f0:FnD} {kn:List FSum} (hk0:Known c.p.funcs kn) {name:List UInt8} {vs:List Nat} {s:IS} {H:Heap} (hv:callE (cenv c kn f0) name vs.length=0) (hvs:∀ v∈vs,Lt v)
  (hbd:Bnd s) (hleft:s.left≤n) (hroom:s.out.length+s.left+1≤c.lim) (hs:StR c s H):LCalls (KC B0 w0) 162 [ptr c.rb 0,str name,.list (vs.map u32)] H (PostR c encV (callI c.p (stI c.p n) name vs s)):=by
 have hs0:=hs
 have hlim:=hC.lim
 generalize hI:callI c.p (stI c.p n) name vs s=R
 unfold callI at hI
 obtain ⟨hl,hle,v,Ha,m,ck,hacc,hsc,rfl⟩:=hs
 refine cI Tryz.func162 rfl (n:=99) rfl rfl rfl ?_
 refine gag ?_
 refine oS (S.alloc fun b6=>?_) rfl
 refine gac ?_
 by_cases hin:name=[105,110]
 ·subst hin
  rw[if_pos rfl] at hI
  refine oC rfl (fun hc=>?_) (fun hc=>by cases hc)
  refine gaa ?_
  have hcas:s.inp=[]∨∃ a r,s.inp=a::r:=by
   cases s.inp with
   |nil=>exact .inl rfl
   |cons a r=>exact .inr ⟨a,r,rfl⟩
  rcases hcas with hinp|⟨a,r,hinp⟩
  ·rw[hinp] at hI
   refine oC rfl (fun hc=>?_) (fun hc=>?_)
   ·refine gaa ?_
    exact retR rfl (rC (rA (k:=3) rfl zb0 rfl zsr) rN) rfl (zhD zhr) (post_val (v:=4294967295) hI.symm hs0)
   ·have h2:=zf hc
    exact absurd (by rw[hinp];rfl) h2
  ·rw[hinp] at hI
   refine oC rfl (fun hc=>?_) (fun hc=>?_)
   ·have h2:=zt hc
    rw[hinp] at h2
    simp at h2
    omega
   ·refine gaa ?_
    refine oP (xR (el':=u32 a) (cs:=[u32 a]) rfl rfl zo (by rw[hinp];rfl) rfl rfl) rfl ?_
    refine gaa ?_
    refine oP (Pure.ltail (a:=u32 a) (es:=r.map u32) (by rw[show elems _=some (s.inp.map u32) from rfl,hinp];rfl) rfl (u32_cells (a::r))) rfl ?_
    refine gaa ?_
    exact retR rfl (rC (rA (k:=3) rfl zb0 rfl zsr) rN) rfl (zhP zp1 (zhD zhr)) (post_val (v:=a) hI.symm ⟨hl,hle,v,Ha,m,ck,hacc,hsc,rfl⟩)
 refine oC rfl (fun hc=>absurd (zt hc) hin) (fun _=>?_)
 rw[if_neg hin] at hI
 unfold callE at hv
 rw[if_neg hin] at hv
 refine gai ?_
 by_cases hout:name=[111,117,116]
 ·subst hout
  rw[if_pos rfl] at hI hv
  obtain ⟨a,rfl⟩:∃ a,vs=[a]:=by
   match vs,hv with
   |[],hv=>cases hv
   |[a],_=>exact ⟨a,rfl⟩
   |_::_::_,hv=>
    split at hv
    ·rename_i h
     simp at h
    ·cases hv
  have ha:a<4294967296:=hvs a (List.mem_cons_self ..)
  refine oC rfl (fun hc=>?_) (fun hc=>by cases hc)
  refine gad ?_
  refine LCode.draw (m:=15) rfl [] ?_
  refine aT 0 rfl rfl (Pure.mv (lv:=.atom _) rfl) ?_
  refine aT 1 rfl rfl (Pure.mv (lv:=.atom _) rfl) ?_
  refine aT 2 rfl rfl (Pure.nilCheckH rfl) ?_
  refine aT 3 rfl rfl (Pure.fieldH rfl) ?_
  refine aT 5 rfl rfl (Pure.mv (lv:=.list _) rfl) ?_
  refine aT 6 rfl rfl (xR (el':=u32 a) (cs:=[u32 a]) rfl rfl zo rfl rfl rfl) ?_
  refine aT 7 rfl rfl (Pure.loadRef (c:=.atom _) rfl rfl) ?_
  refine aT 8 rfl rfl (Pure.to (Pure.remW rfl rfl zo) (u32_eq (b:=a % 256) rem_u32)) ?_
  refine aT 9 rfl rfl (Pure.to (Pure.cvt rfl) (byte_mod a)) ?_
  refine LAny.late ?_ zhn
  have e1:byts s.out++[int .u8 ((UInt8.ofNat a).toNat:Int)]=byts (s.out++[UInt8.ofNat a]):=by
   rw[byts_app]
   rfl
  have hroom2:((byts s.out).length+[int .u8 ((UInt8.ofNat a).toNat:Int)].length) * 1≤140737488355328:=by
   simp only[byts_len,List.length_cons,List.length_nil]
   omega
  refine LLate.two (i:=4) (j:=10) zk ?_ ?_
  ·refine lH rfl rfl (Pure.loadH (c:=v) rfl zm1 rfl) ?_
   refine zl1 (i:=10) zk ?_
   refine lW rfl (.inl rfl) rfl (S.lit (es:=[int .u8 ((UInt8.ofNat a).toNat:Int)]) [_] rfl (eC rfl rfl eN) rfl rfl rfl ?_)
   refine zl1 (i:=11) zk ?_
   refine lW rfl (.inl rfl) rfl (S.accF (out_permR c s v m ck Ha _) rfl hacc rfl (fun v hv=>by rw[List.mem_singleton.1 hv];rfl) rfl hroom2 fun v' H' hacc'=>?_)
   rw[e1] at hacc'
   refine zl1 (i:=12) zk ?_
   refine lH rfl rfl (Pure.nilCheckH rfl) ?_
   refine zl1 (i:=13) zk ?_
   refine lH rfl rfl (Pure.fieldH rfl) ?_
   refine zl1 (i:=14) zk ?_
   refine lW rfl (.inl rfl) rfl (S.store (n:=1) (vs:=[v']) (cs':=[_,_,_,_,_,_,v',_,_]) rfl zp1 (acc_one hacc').1 rfl rfl (acc_one hacc').2 rfl ?_)
   refine lD zk ?_
   refine gaa ?_
   exact retR rfl (rC (rA (k:=3) rfl zb0 rfl zsr) rN) rfl (H':=stRH c { s with out:=s.out++[UInt8.ofNat a] } v' m ck H') (zhP zp1 (zhD zhr)) (post_val (v:=0) hI.symm ⟨hl,hle,v',H',m,ck,hacc',hsc,rfl⟩)
  ·refine lW rfl (.inl rfl) rfl (S.lit (es:=[int .u8 ((UInt8.ofNat a).toNat:Int)]) [_] rfl (eC rfl rfl eN) rfl rfl rfl ?_)
   refine zl1 (i:=4) zk ?_
   refine lH rfl rfl (Pure.loadH (c:=v) rfl zm1 rfl) ?_
   refine zl1 (i:=11) zk ?_
   refine lW rfl (.inl rfl) rfl (S.accF (out_permR c s v m ck Ha _) rfl hacc rfl (fun v hv=>by rw[List.mem_singleton.1 hv];rfl) rfl hroom2 fun v' H' hacc'=>?_)
   rw[e1] at hacc'
   refine zl1 (i:=12) zk ?_
   refine lH rfl rfl (Pure.nilCheckH rfl) ?_
   refine zl1 (i:=13) zk ?_
   refine lH rfl rfl (Pure.fieldH rfl) ?_
   refine zl1 (i:=14) zk ?_
   refine lW rfl (.inl rfl) rfl (S.store (n:=1) (vs:=[v']) (cs':=[_,_,_,_,_,_,v',_,_]) rfl zp1 (acc_one hacc').1 rfl rfl (acc_one hacc').2 rfl ?_)
   refine lD zk ?_
   refine gaa ?_
   exact retR rfl (rC (rA (k:=3) rfl zb0 rfl zsr) rN) rfl (H':=stRH c { s with out:=s.out++[UInt8.ofNat a] } v' m ck H') (zhP zp1 (zhD zhr)) (post_val (v:=0) hI.symm ⟨hl,hle,v',H',m,ck,hacc',hsc,rfl⟩)
 refine oC rfl (fun hc=>absurd (zt hc) hout) (fun _=>?_)
 rw[if_neg hout] at hI
 have hcv:=call_valid (p:=c.p) (f:=f0) (kn:=kn) hC.valid hk0 (name:=name) (n:=vs.length) (by unfold callE;rw[if_neg hin];exact hv) hin hout
 generalize fnI c.p name=gf at hI hcv
 obtain ⟨hgm,hgn,hgl⟩:=hcv
 subst hgn
 obtain ⟨kn2,hvb,hk2⟩:=hC.valid.bodies gf hgm
 have hsm:=hC.small.each gf hgm
 have hpl:gf.params.length≤2000000:=hsm.params
 have hfind:=find_fn (List.nodup_append.1 (fresh_zero _ _ hC.valid.names).1).2.1 hgm
 have hfun:LCalls (KC B0 w0) 188 [.agg [.list (c.p.vars.map str),.list (c.p.arrays.map encAr),.list (c.p.funcs.map encFn)],str gf.name] [] (Ret (encFn gf)):=function_spec hC.small.funcs hfind
 refine gaa ?_
 refine oS (S.fn [_,_] rfl hfun ?_) rfl
 refine oS (S.alloc fun b8=>?_) rfl
 refine gaa ?_
 refine oL (fun k ls H'=>∃ (pre ps:List (List UInt8)) (vpre vs1:List Nat) (s1:IS) (Hs:Heap),gf.params=pre++ps∧vs=vpre++vs1∧vpre.length=pre.length∧k=ps.length∧ls=[(0,ptr c.rb 0),(2,.list (vs.map u32)),(6,ptr b6 0),(8,ptr b8 0),(9,int .i64 (pre.length:Int))]∧H'=fnH b8 gf::resH b6 0 0 0::Hs∧StR c s1 Hs∧setPs gf gf.params vs s=setPs gf ps vs1 s1)
  ⟨_,_,_,⟨[],gf.params,[],vs,s,_,rfl,rfl,rfl,rfl,rfl,rfl,hs0,rfl⟩,⟨rfl,rfl,rfl,rfl,rfl,trivial⟩,HSub.refl _⟩ ?_
 rintro k ls H' ⟨pre,ps,vpre,vs1,s1,Hs,hps,hvs1,hvl,rfl,rfl,rfl,hst1,hset⟩ j hj
 have hb:=pre_le hps hpl
 have hpl2:ps.length=vs1.length:=by
  rw[hps,hvs1,List.length_append,List.length_append] at hgl
  omega
 refine gac ?_
 refine oC rfl (fun hc=>?_) (fun hc=>?_)
 ·obtain ⟨p,ps,rfl⟩:=more (g:=str) hps hc
  obtain ⟨x,vs1,rfl⟩:∃ a l,vs1=a::l:=by
   cases vs1 with
   |nil=>simp at hpl2
   |cons a l2=>exact ⟨a,l2,rfl⟩
  rw[setPs] at hset
  obtain ⟨hl1,hle1,v1,Ha1,m1,ck1,hacc1,hsc1,rfl⟩:=hst1
  refine gad ?_
  refine LCode.draw (m:=16) rfl [fnH b8 gf,resH b6 0 0 0,(c.rb,.cells 79 (runRC c s1 v1))] ?_
  refine aT 0 rfl rfl (Pure.mv (lv:=.atom _) rfl) ?_
  refine aT 1 rfl rfl (Pure.nilCheckH rfl) ?_
  refine aT 2 rfl rfl (Pure.fieldH rfl) ?_
  refine aT 3 rfl rfl (Pure.loadH (c:=.atom _) rfl zm2 rfl) ?_
  refine aT 4 rfl rfl (Pure.ldHAgg (cs':=[_,_,_,_]) rfl zm0 rfl rfl) ?_
  refine aT 5 rfl rfl (Pure.fieldH rfl) ?_
  refine aT 6 rfl rfl (Pure.loadH (c:=.list _) rfl zm0 rfl) ?_
  refine aT 7 rfl rfl (Pure.mv (lv:=.atom _) rfl) ?_
  refine aT 8 rfl rfl (xR (el':=str p) (cs:=[str p]) rfl rfl zo (by rw[hps];exact get_mid str pre p ps) rfl rfl) ?_
  refine aT 9 rfl rfl (Pure.loadRef (c:=.atom _) rfl rfl) ?_
  refine aT 11 rfl rfl (Pure.mv (lv:=.list _) rfl) ?_
  refine aT 12 rfl rfl (Pure.mv (lv:=.atom _) rfl) ?_
  refine aT 13 rfl rfl (xR (el':=u32 x) (cs:=[u32 x]) rfl rfl zo (by rw[hvs1,←hvl];exact get_mid u32 vpre x vs1) rfl rfl) ?_
  refine aT 14 rfl rfl (Pure.loadRef (c:=.atom _) rfl rfl) ?_
  refine LAny.late ?_ hsub_left
  refine lO 10 (lS (H1:=[]) rfl (.inl rfl) rfl zpr hsub_left (S.fn [_,_] rfl (key_spec hC hgm p) ?_))
  refine lO 15 (lS (H1:=[(c.sm,.map (kvs m1) ck1)]) (F:=[fnH b8 gf,resH b6 0 0 0,(c.rb,.cells 79 (runRC c s1 v1))]++((c.am,.map (kvs (arKV c.ab)) c.ac)::(arH c.ab s1++Ha1))) rfl (.inl rfl) rfl (List.perm_middle (l₁:=[_,_,_])) hsub_left (S.kvSet (k:=keyI gf p) (lv:=u32 x) rfl rfl rfl pH fun ck2=>?_))
  refine lD zk ?_
  refine gad ?_
  refine LCode.perm (List.perm_middle (l₁:=[_,_,_])).symm ?_
  refine gac ?_
  exact ⟨ps.length,_,_,Nat.lt_succ_self _,⟨pre++[p],ps,vpre++[x],vs1,setSc s1 (keyI gf p) x,_,snoc hps,by rw[hvs1];simp,by simp[hvl],rfl,rfl,rfl,⟨hl1,hle1,v1,Ha1,_,ck2,hacc1,hsc1.put (keyI gf p) x,rfl⟩,hset⟩,⟨rfl,rfl,rfl,rfl,int_eq (by simp),trivial⟩,HSub.refl _,hj⟩
 obtain rfl:=none_left (g:=str) hps hc
 obtain rfl:vs1=[]:=List.length_eq_zero_iff.1 hpl2.symm
 replace hset:setPs gf gf.params vs s=s1:=hset.trans rfl
 have hb1:=setPs_bd gf gf.params vs s hvs hbd
 obtain ⟨ho,hlf,_⟩:=setPs_same gf gf.params vs s
 rw[hset] at hI hb1 ho hlf
 have hg1:Inp.Good c n s1:=⟨hb1,by rw[hlf];exact hleft,by rw[ho,hlf];omega⟩
 refine gaa ?_
 refine oS (S.callR (F:=[_,_]) [_,_,_] rfl (List.perm_append_comm (l₁:=[_,_])) (hB gf kn2 gf.body s1 Hs hgm hk2 hvb (hC.nums gf hgm) hsm.body hsm.stmts hg1 hst1) (fun v9 en er H3 hP=>?_)) rfl
 refine LOps.perm (List.perm_append_comm (l₂:=[_,_])) ?_
 refine oS (S.alloc fun b10=>?_) rfl
 refine gaa ?_
 cases hr:blkR (stI c.p n gf) gf.body s1 with
 |stop e s2=>
  rw[hr,bind_stop] at hI
  rw[hr] at hP
  obtain ⟨rfl,rfl,rfl,hs2⟩:=hP.stop
  refine oB 90 (b:=decide (stopE er=1)) rfl (fun h=>absurd (zt h) (stopE_ne er).2) (fun _=>?_)
  refine gad ?_
  refine oC rfl (fun h=>absurd (zt h) (stopE_ne er).1) (fun _=>?_)
  refine gaa ?_
  exact retR hj (rC (rA (k:=3) rfl zb0 rfl zsr) rN) rfl (zhD (zhD (zhD zhr))) (post_stop hI.symm hs2)
 |ok r s2=>
  rw[hr,bind_ok] at hI
  rw[hr] at hP
  cases r with
  |none=>
   obtain ⟨rfl,rfl,rfl,hs2⟩:=hP.none
   refine gad ?_
   refine oC rfl (fun _=>?_) (fun h=>by cases h)
   refine gaa ?_
   exact retR hj (rC (rA (k:=3) rfl zb0 rfl zsr) rN) rfl (zhD (zhD (zhD zhr))) (post_val (v:=0) hI.symm hs2)
  |some w=>
   obtain ⟨rfl,rfl,rfl,hs2⟩:=hP.some
   refine gad ?_
   refine oC rfl (fun _=>?_) (fun h=>by cases h)
   refine gaa ?_
   exact retR hj (rC (rA (k:=3) rfl zb0 rfl zsr) rN) rfl (zhD (zhD (zhD zhr))) (post_val (v:=v9) hI.symm hs2)
end
end Go.Proofs.YtcbpcianefpniaaGreatDoor.RI
namespace Go.Proofs.YtcbpcianefpniaaGreatDoor.RI
open Go.GL Go.RowKit Go.Stele
open Go.Proofs.YtcbpcianefpniaaGreatDoor.Inp (u32 u32_eq wrapU arKV arH Cfg CfgOk Good cenv ev_good bind_ok bind_stop errE_parts one_of two_of neg_u32 mapR_step b2n_dec u32_cells)
open Go.Proofs.YtcbpcianefpniaaGreatDoor.RC (get_mid more none_left pre_le snoc)
set_option maxRecDepth 100000
set_option maxHeartbeats 4000000
theorem perm_four {a b d e:Nat×LObj} {A B:Heap}:List.Perm (a::b::d::e::(A++B)) (A++(a::b::d::e::B)):=by
 have h:List.Perm (([a,b,d,e]++A)++B) ((A++[a,b,d,e])++B):=List.perm_append_comm.append_right B
 rw[List.append_assoc A] at h
 exact h
theorem resB_two (o:Option Nat):∃ y ok,resB o=.tuple [u32 y,bool ok]∧(ok=true→o=some y)∧(ok=false→o=none):=by
 cases o with
 |none=>exact ⟨0,false,rfl,fun h=>(by cases h),fun _=>rfl⟩
 |some y=>exact ⟨y,true,rfl,fun _=>rfl,fun h=>(by cases h)⟩
theorem u32_ok (l:List Nat):((l.map u32).flatMap LV.cells).all cellOk=true:=by
 induction l with
 |nil=>rfl
 |cons a l ih=>
  simp only[List.map_cons,List.flatMap_cons,List.all_append,ih,Bool.and_true]
  rfl
attribute [local irreducible] LOps LCode LStep LCalls Go.GL.Pure QThen QBlock RetPost LQ LAny LLate LLateOp LS
section
variable {B0:Nat} {w0:World}
theorem reval_spec {c:Cfg} (hC:CfgOk c) {n:Nat} (hE:REvalH B0 w0 c n) (hB:RBlkH B0 w0 c n):REvalH B0 w0 c (n+1):=by
 intro f kn x s H hf hk hv hnum hsm hg hs
 obtain ⟨op,num,name,args⟩:=x
 obtain ⟨hop,hargs,huse⟩:=errE_parts hv
 obtain ⟨hn1,hn2⟩:=hnum
 obtain ⟨hm1,hm2⟩:=hsm
 have hal:args.length≤2000000:=hm1
 generalize hI:evI c.p (n+1) f (Ex.mk op num name args) s=R
 rw[evI] at hI
 rw[encE_mk]
 refine cI Tryz.func112 rfl (n:=124) rfl rfl rfl ?_
 refine gag ?_
 refine oS (S.box rfl fun b4=>?_) rfl
 refine oS (S.box rfl fun b5=>?_) rfl
 refine oS (S.alloc fun b6=>?_) rfl
 refine gat ?_
 refine oS (S.callH (H1:=H) (F:=[_,_,_]) [_] rfl (List.perm_append_comm (l₁:=[_,_,_])) (count_spec hC hs) ?_ ?_) rfl
 rotate_left
 ·intro ch H' h
  unfold PostT at h
  split at h <;> cases h.1
 intro lv H1 hT
 unfold PostT at hT
 cases hr:tick s with
 |stop e s1=>
  rw[hr] at hI hT
  obtain ⟨hlv,hs1⟩:=hT
  cases hlv
  have he13:e=13:=by
   unfold tick at hr
   split at hr
   ·cases hr;rfl
   ·cases hr
  subst he13
  refine LOps.perm (List.perm_append_comm (l₂:=[_,_,_])) ?_
  refine gab ?_
  refine oC rfl (fun _=>?_) (fun hd=>by cases hd)
  refine gag ?_
  refine oS (S.fn [_] rfl (fail_spec 13) ?_) rfl
  refine gab ?_
  exact retR rfl (rC (rA rfl zm0 rfl zsr) rN) rfl (zhD (zhD (zhD zhr))) (post_stop hI.symm hs1)
 |ok u s1=>
 rw[hr,bind_ok] at hI
 rw[hr] at hT
 obtain ⟨hlv,hs1⟩:=hT
 cases hlv
 have hg1:Inp.Good c n s1∧s1.out.length+s1.left+1≤c.lim:=by
  have h1:=tick_less hr
  have h2:=tick_bd hg.1
  rw[hr] at h2
  have h3:s1.out=s.out:=by
   unfold tick at hr
   split at hr
   ·cases hr
   ·cases hr;rfl
  have h4:=hg.2.1
  have h5:=hg.2.2
  exact ⟨⟨h2.2,by omega,by rw[h3];omega⟩,by rw[h3];omega⟩
 refine LOps.perm (List.perm_append_comm (l₂:=[_,_,_])) ?_
 refine gab ?_
 refine oC rfl (fun hd=>by cases hd) (fun _=>?_)
 refine gal ?_
 refine oS (S.litA (es:=[]) [] rfl eN rfl rfl rfl fun b7=>?_) rfl
 refine gaa ?_
 refine oL (fun k ls H'=>∃ (pre l1:List Ex) (vs:List Nat) (s2:IS) (Hs Ha:Heap) (v:LV),args=pre++l1∧vs.length=pre.length∧(∀ v∈vs,Lt v)∧k=l1.length∧ls=[(0,ptr c.rb 0),(4,ptr b4 0),(5,ptr b5 0),(6,ptr b6 0),(7,v),(8,int .i64 (pre.length:Int))] ∧
   H'=resH b6 0 0 0::exH b5 op num name args::fnH b4 f::(Ha++Hs)∧GL.Acc 1 v (vs.map u32) Ha [] ∧
   StR c s2 Hs∧Inp.Good c n s2∧s2.out.length+s2.left+1≤c.lim∧errEs (cenv c kn f) l1=0∧numEs l1∧smEs l1∧(mapR (evI c.p n f) l1 s2).bind (fun vs' s=>opI c.p (stI c.p n) f op num name (vs++vs') s)=R)
  ⟨args.length,_,_,⟨[],args,[],s1,H1,[(b7,.row 0)],.app b7 0 1 [],rfl,rfl,fun v hv=>(List.not_mem_nil hv).elim,rfl,rfl,rfl,Acc.row,hs1,hg1.1,hg1.2,hargs,hn2,hm2,hI⟩,⟨rfl,rfl,rfl,rfl,rfl,rfl,trivial⟩,⟨[],by rw[List.append_nil];exact (List.perm_middle (l₁:=[_,_,_])).symm⟩⟩ ?_
 rintro k ls H' ⟨pre,l1,vs,s2,Hs,Ha,v,hL,hvl,hvlt,rfl,rfl,rfl,hacc,hs2,hg2,hroom,he2,hnn2,hmm2,hI2⟩ j hj
 have hb:=pre_le hL hal
 refine gaa ?_
 refine oC rfl (fun hc=>?_) (fun hc=>?_)
 ·obtain ⟨a,l2,rfl⟩:=more (g:=encE) hL hc
  rw[errEs] at he2
  obtain ⟨hea,hel⟩:=orE_zero.1 he2
  rw[mapR_step] at hI2
  refine gad ?_
  refine LCode.midB (fun b9=>[(0,ptr c.rb 0),(4,ptr b4 0),(5,ptr b5 0),(6,ptr b6 0),(7,v),(8,int .i64 (pre.length:Int)),(9,ptr b9 0)]) (fun b9 v1 en er G=>resH b9 v1 en er::((resH b6 0 0 0::exH b5 op num name args::fnH b4 f::Ha)++G)) (fun v1 en er G=>PostR c encV (evI c.p n f a s2) (.ret (resV v1 en er)) G) ?_ ?_
  ·refine LCode.draw (m:=10) rfl (resH b6 0 0 0::exH b5 op num name args::fnH b4 f::Ha) ?_
   refine aT 0 rfl rfl (Pure.mv (lv:=.atom _) rfl) ?_
   refine aT 1 rfl rfl (Pure.ldHAgg (cs':=[_,_,_,_]) rfl zm2 rfl rfl) ?_
   refine aT 2 rfl rfl (Pure.fieldH rfl) ?_
   refine aT 3 rfl rfl (Pure.loadH (c:=.list _) rfl zm1 rfl) ?_
   refine aT 4 rfl rfl (Pure.mv (lv:=.atom _) rfl) ?_
   refine aT 5 rfl rfl (xR (el':=encE a) (cs:=[_,_,_,_]) rfl rfl zo (by rw[hL];exact get_mid encE pre a l2) rfl rfl) ?_
   refine aT 6 rfl rfl (Pure.ldRefAgg (cs':=[_,_,_,_]) rfl rfl rfl) ?_
   refine LAny.late ?_ hsub_left
   refine LLate.two (i:=7) (j:=8) zk ?_ ?_
   ·refine lS (H1:=Hs) (F:=(resH b6 0 0 0::exH b5 op num name args::fnH b4 f::Ha)) rfl (.inl rfl) rfl (List.perm_append_comm (l₁:=(resH b6 0 0 0::exH b5 op num name args::fnH b4 f::Ha))) zhr (LStep.callR [_,_,_] rfl (hE f kn a s2 Hs hf hk hea hnn2.1 hmm2.1 hg2 hs2) (fun v1 en er G hP=>?_))
    refine lO 8 (lS (H1:=[]) rfl (.inl rfl) rfl zpr hsub_right (S.alloc fun b9=>?_))
    refine lO 9 (lS (H1:=[_]) rfl (.inl rfl) rfl zpr hsub_right (S.store (n:=3) (cs':=[_,_,_]) rfl pH rfl rfl rfl rfl rfl ?_))
    refine lD zk ?_
    refine QThen.normal ?_
    exact ⟨b9,v1,en,er,G,hP,⟨rfl,rfl,rfl,rfl,rfl,rfl,rfl,trivial⟩,hsubC,rfl⟩
   ·refine lS (H1:=[]) rfl (.inl rfl) rfl zpr hsub_left (S.alloc fun b9=>?_)
    refine lO 7 (lS (H1:=Hs) (F:=_::(resH b6 0 0 0::exH b5 op num name args::fnH b4 f::Ha)) rfl (.inl rfl) rfl (List.perm_append_comm (l₁:=_::(resH b6 0 0 0::exH b5 op num name args::fnH b4 f::Ha))) (zhD zhr) (LStep.callR [_,_,_] rfl (hE f kn a s2 Hs hf hk hea hnn2.1 hmm2.1 hg2 hs2) (fun v1 en er G hP=>?_)))
    refine lO 9 (lS (H1:=[_]) (F:=G++(resH b6 0 0 0::exH b5 op num name args::fnH b4 f::Ha)) rfl (.inl rfl) rfl List.perm_middle hsub_right (S.store (n:=3) (cs':=[_,_,_]) rfl pH rfl rfl rfl rfl rfl ?_))
    refine lD zk ?_
    refine QThen.normal ?_
    exact ⟨b9,v1,en,er,G,hP,⟨rfl,rfl,rfl,rfl,rfl,rfl,rfl,trivial⟩,hsubC,rfl⟩
  rintro b9 w en er H3 hP j2 hj2
  cases hr3:evI c.p n f a s2 with
  |stop e s3=>
   rw[hr3,bind_stop] at hI2
   rw[hr3] at hP
   obtain ⟨rfl,rfl,rfl,hs3⟩:=hP.stop
   refine gaa ?_
   refine oC rfl (fun _=>?_) (fun hd=>absurd (hd.symm.trans stop_cond) (by decide))
   refine gaa ?_
   exact retR (hj2.trans hj) (rC (rA (k:=3) rfl zb0 rfl zsr) rN) rfl (H':=H3) (zhD (zhD (zhD (zhD hsub_right)))) (post_stop hI2.symm hs3)
  |ok w2 s3=>
  obtain ⟨hg3,hv3,_⟩:=ev_good hC hnn2.1 hg2 hr3
  have hf3:=(few_all c.p n).1 f a s2
  rw[hr3] at hf3 hP
  have hf3':s3.out.length+s3.left≤s2.out.length+s2.left+0:=hf3
  rw[hr3,bind_ok] at hI2
  obtain ⟨rfl,rfl,rfl,hs3⟩:=hP.val
  refine gaa ?_
  refine oC rfl (fun hd=>by cases hd) (fun _=>?_)
  refine gal ?_
  refine oP (Pure.mv (lv:=v) rfl) rfl ?_
  refine gad ?_
  refine oS (S.lit (es:=[w].map u32) [_] rfl (eC rfl rfl eN) rfl rfl rfl ?_) rfl
  refine oS (S.accF (A:=_::_::_::_::H3) (H1:=Ha) perm_four rfl hacc rfl (u32_cells _) (u32_ok _) (by rw[List.length_map,List.length_map,List.length_singleton];omega) fun v5 H5 hacc5=>?_) rfl
  refine oP (Pure.as (lv:=v5) rfl) rfl ?_
  refine gac ?_
  exact ⟨l2.length,_,_,Nat.lt_succ_self _,⟨pre++[a],l2,vs++[w],s3,H3,H5,v5,snoc hL,by simp[hvl],fun y hy=>by
   rcases List.mem_append.1 hy with h1|h1
   ·exact hvlt y h1
   ·rw[List.mem_singleton.1 h1];exact hv3,rfl,rfl,rfl,by rw[List.map_append];exact hacc5,hs3,hg3,by omega,hel,hnn2.2,hmm2.2,by
    rw[←hI2]
    simp only[List.append_assoc,List.singleton_append]⟩,⟨rfl,rfl,rfl,rfl,rfl,int_eq (by simp),trivial⟩,zhD ⟨[],by simpa using (List.perm_append_comm (l₁:=H3) (l₂:=H5))⟩,hj2.trans hj⟩
 obtain rfl:=none_left (g:=encE) hL hc
 rw[mapR,bind_ok,List.append_nil] at hI2
 have hvn:vs.length=args.length:=by rw[hvl,hL,List.append_nil]
 have hI:=hI2
 clear hI2
 refine gad ?_
 refine LCode.sub (d:=7) rfl hacc.sub ?_
 refine LCode.weak (H':=resH b6 0 0 0::exH b5 op num name args::fnH b4 f::Hs) ⟨Ha,(List.perm_append_comm (l₁:=Ha) (l₂:=Hs)).append_left [_,_,_]⟩ ?_
 rw[←hvn] at hop huse
 unfold opI at hI
 obtain ⟨hb2,hl2,_⟩:=hg2
 refine gaa ?_
 by_cases h1:op=[110,117,109]
 ·subst h1
  rw[if_pos rfl] at hI
  refine oC rfl (fun hc=>?_) (fun hc=>by cases hc)
  refine gaa ?_
  exact retR hj (rC (rA (k:=3) rfl zb0 rfl zsr) rN) rfl (zhD (zhD (zhD zhr))) (post_val (v:=num) hI.symm hs2)
 refine oC rfl (fun hc=>absurd (zt hc) h1) (fun _=>?_)
 rw[if_neg h1] at hI
 refine gai ?_
 by_cases h2:op=[118,97,114]
 ·subst h2
  rw[if_pos rfl] at hI
  obtain ⟨hl,hle,va,Hb,m,ck,hacc2,hsc,rfl⟩:=hs2
  refine oC rfl (fun hc=>?_) (fun hc=>by cases hc)
  refine LCode.seq ?_
  refine LCode.perm (H':=exH b5 [118,97,114] num name args::fnH b4 f::(c.rb,.cells 79 (runRC c s2 va))::resH b6 0 0 0::(c.sm,.map (kvs m) ck)::(c.am,.map (kvs (arKV c.ab)) c.ac)::(arH c.ab s2++Hb)) ((List.perm_middle (l₁:=[_,_,_])).symm) ?_
  refine LCode.draw (m:=11) rfl [exH b5 [118,97,114] num name args,fnH b4 f,(c.rb,.cells 79 (runRC c s2 va))] ?_
  refine aT 0 rfl rfl (Pure.mv (lv:=.atom _) rfl) ?_
  refine aT 1 rfl rfl (Pure.nilCheckH rfl) ?_
  refine aT 2 rfl rfl (Pure.fieldH rfl) ?_
  refine aT 3 rfl rfl (Pure.loadH (c:=.atom _) rfl zm2 rfl) ?_
  refine aT 4 rfl rfl (Pure.ldHAgg (cs':=[_,_,_,_]) rfl zm1 rfl rfl) ?_
  refine aT 5 rfl rfl (Pure.fieldH rfl) ?_
  refine aT 6 rfl rfl (Pure.loadH (c:=.atom _) rfl zm0 rfl) ?_
  refine LAny.late ?_ hsub_left
  refine lO 7 (lS (H1:=[]) rfl (.inl rfl) rfl zpr hsub_left (S.fn [_,_] rfl (key_spec hC hf name) ?_))
  refine lO 8 (lH rfl rfl (Pure.scGet rfl rfl zm4 hsc) ?_)
  refine lO 9 (lH rfl rfl (Pure.bld _ (cs:=[_,_,_]) rfl) ?_)
  refine lO 10 (lS (H1:=[resH b6 0 0 0]) (F:=[exH b5 [118,97,114] num name args,fnH b4 f,(c.rb,.cells 79 (runRC c s2 va))]++((c.sm,.map (kvs m) ck)::(c.am,.map (kvs (arKV c.ab)) c.ac)::(arH c.ab s2++Hb))) rfl (.inl rfl) rfl (List.perm_middle (l₁:=[_,_,_])) hsub_left (S.store (n:=3) (cs':=[_,_,_]) rfl pH rfl rfl rfl rfl rfl ?_))
  refine lD zk ?_
  refine gan ?_
  exact retR hj (rC (rA (k:=3) rfl zb0 rfl zsr) rN) rfl (zhD (zhD (zhD zhr))) (post_val (v:=s2.sc (keyI f name)) hI.symm ⟨hl,hle,va,Hb,m,ck,hacc2,hsc,rfl⟩)
 refine oC rfl (fun hc=>absurd (zt hc) h2) (fun _=>?_)
 rw[if_neg h2] at hI
 refine gai ?_
 by_cases h3:op=[101,108,101,109]
 ·subst h3
  rw[if_pos rfl] at hI
  unfold useE at huse
  rw[if_neg (by decide),if_pos (show ([101,108,101,109]:List UInt8)=nElem from rfl)] at huse
  have hpl:name∈c.p.arrays.map (·.name):=by
   unfold arrayE at huse
   split at huse
   ·rename_i h
    exact h
   ·split at huse <;> cases huse
  obtain ⟨b,m,hb1,hb3⟩:=hC.arr hpl
  have hmz:=hC.asz _ hb1
  simp only at hmz
  obtain ⟨hl,hle,va,Hb,m2,ck,hacc2,hsc,rfl⟩:=hs2
  obtain ⟨hlen2,G,hG1,_⟩:=str_ar hC (ck:=ck) hb1 hl hle hacc2 hsc
  obtain ⟨a,rfl⟩:∃ a,vs=[a]:=one_of (by
   rcases hop with h|h
   ·exact absurd h (by decide)
   ·have h9:(1:Int)=(vs.length:Int):=h
    omega)
  have ha:a<4294967296:=hvlt a (List.mem_cons_self ..)
  have hwr:IntKind.i64.wrap (a:Int)=a:=wrap_i64 zo
  refine oC rfl (fun hc=>?_) (fun hc=>by cases hc)
  refine gad ?_
  refine LCode.quiet zk ?_
  refine gab ?_
  refine LQ.pure (Pure.kvHit rfl rfl zm5 hb3) rfl ?_
  refine gaa ?_
  refine oP (xR (el':=u32 a) (cs:=[u32 a]) rfl rfl zo rfl rfl rfl) rfl ?_
  refine gab ?_
  refine oP (Pure.rowLen rfl) rfl ?_
  refine gab ?_
  have hI':(match (s2.ar name)[a]? with
   |some v=>IR.ok v s2
   |none=>.stop 2 s2)=R:=hI
  by_cases hin:a<m
  rotate_left
  ·have hget:(s2.ar name)[a]? = none:=List.getElem?_eq_none zo
   rw[hget] at hI'
   refine oC rfl (fun _=>?_) (fun hd=>by have h2:=zf hd;rw[hwr] at h2;omega)
   refine gag ?_
   refine oS (S.fn [_] rfl (fail_spec 2) ?_) rfl
   refine gab ?_
   exact retR hj (rC (rA (k:=3) rfl zb0 rfl zsr) rN) rfl (zhD (zhD (zhD zhr))) (post_stop (er:=2) hI'.symm ⟨hl,hle,va,Hb,m2,ck,hacc2,hsc,rfl⟩)
  have hget:(s2.ar name)[a]? = some (s2.ar name)[a]:=List.getElem?_eq_getElem zo
  rw[hget] at hI'
  refine oC rfl (fun hd=>by have h2:=zt hd;rw[hwr] at h2;omega) (fun _=>?_)
  refine gac ?_
  refine oP (xR (el':=u32 a) (cs:=[u32 a]) rfl rfl zo rfl rfl rfl) rfl ?_
  refine gab ?_
  refine oP (Pure.indexRow rfl rfl zo zo) rfl ?_
  refine oP (Pure.loadH (c:=u32 (s2.ar name)[a]) rfl (List.mem_append_right [_,_,_] (hG1.mem_iff.2 (List.mem_cons_self ..))) (by rw[List.getElem?_map];simp[hget])) rfl ?_
  refine gab ?_
  exact retR hj (rC (rA (k:=3) rfl zb0 rfl zsr) rN) rfl (zhD (zhD (zhD zhr))) (post_val (v:=(s2.ar name)[a]) hI'.symm ⟨hl,hle,va,Hb,m2,ck,hacc2,hsc,rfl⟩)
 refine oC rfl (fun hc=>absurd (zt hc) h3) (fun _=>?_)
 rw[if_neg h3] at hI
 refine gai ?_
 by_cases h4:op=[110,101,103]
 ·subst h4
  rw[if_pos rfl] at hI
  obtain ⟨a,rfl⟩:∃ a,vs=[a]:=one_of (by
   rcases hop with h|h
   ·exact absurd h (by decide)
   ·have h9:(1:Int)=(vs.length:Int):=h
    omega)
  have ha:a<4294967296:=hvlt a (List.mem_cons_self ..)
  refine oC rfl (fun hc=>?_) (fun hc=>by cases hc)
  refine gac ?_
  refine oP (xR (el':=u32 a) (cs:=[u32 a]) rfl rfl zo rfl rfl rfl) rfl ?_
  refine gab ?_
  refine oP (Pure.to (Pure.negW rfl) (int_eq (neg_u32 ha))) rfl ?_
  refine gab ?_
  exact retR hj (rC (rA (k:=3) rfl zb0 rfl zsr) rN) rfl (zhD (zhD (zhD zhr))) (post_val (v:=(4294967296-a) % 4294967296) hI.symm hs2)
 refine oC rfl (fun hc=>absurd (zt hc) h4) (fun _=>?_)
 rw[if_neg h4] at hI
 refine gai ?_
 by_cases h5:op=[110,111,116]
 ·subst h5
  rw[if_pos rfl] at hI
  obtain ⟨a,rfl⟩:∃ a,vs=[a]:=one_of (by
   rcases hop with h|h
   ·exact absurd h (by decide)
   ·have h9:(1:Int)=(vs.length:Int):=h
    omega)
  refine oC rfl (fun hc=>?_) (fun hc=>by cases hc)
  refine gac ?_
  refine oP (xR (el':=u32 a) (cs:=[u32 a]) rfl rfl zo rfl rfl rfl) rfl ?_
  refine gab ?_
  refine oS (S.fn [_] rfl (one_spec _) ?_) rfl
  rw[show b2n (decide ((a:Int)=0))=b2n (decide (a=0)) from b2n_dec zo]
  refine gab ?_
  exact retR hj (rC (rA (k:=3) rfl zb0 rfl zsr) rN) rfl (zhD (zhD (zhD zhr))) (post_val (v:=b2n (decide (a=0))) hI.symm hs2)
 refine oC rfl (fun hc=>absurd (zt hc) h5) (fun _=>?_)
 rw[if_neg h5] at hI
 refine gai ?_
 by_cases h6:op=[99,97,108,108]
 ·subst h6
  rw[if_pos rfl] at hI
  unfold useE at huse
  rw[if_neg (by decide),if_neg (by decide),if_pos (show ([99,97,108,108]:List UInt8)=nCall from rfl)] at huse
  refine oC rfl (fun hc=>?_) (fun hc=>by cases hc)
  refine gaa ?_
  refine oS (S.callR (F:=[_,_,_]) [_,_,_] rfl (List.perm_append_comm (l₁:=[_,_,_])) (rcall_spec hC hB hk huse hvlt hb2 hl2 hroom hs2) (fun v9 en er H3 hP=>?_)) rfl
  refine LOps.perm (List.perm_append_comm (l₂:=[_,_,_])) ?_
  refine gab ?_
  exact retR hj (rC (rA (k:=3) rfl zb0 rfl zsr) rN) rfl (zhD (zhD (zhD zhr))) (by rw[←hI];exact hP)
 refine oC rfl (fun hc=>absurd (zt hc) h6) (fun _=>?_)
 rw[if_neg h6] at hI
 refine gad ?_
 have hbin:op∈binOps∧vs.length=2:=by
  unfold opnds at hop
  rw[if_neg (fun h=>h.elim h1 h2),if_neg (fun h=>h.elim h3 (fun h=>h.elim h4 h5)),if_neg (show ¬ op=nCall from h6)] at hop
  split at hop
  ·rename_i h
   refine ⟨h,?_⟩
   rcases hop with h|h <;> omega
  ·rcases hop with h|h <;> omega
 obtain ⟨hbo,hv2⟩:=hbin
 obtain ⟨a,b2,rfl⟩:=two_of hv2
 have ha:a<4294967296:=hvlt a (List.mem_cons_self ..)
 have hb:b2<4294967296:=hvlt b2 (List.mem_cons_of_mem _ (List.mem_cons_self ..))
 have hbs:=binary_spec (B0:=B0) (w0:=w0) hbo ha hb
 obtain ⟨y,ok,hyo,hy1,hy2⟩:=resB_two (binI op a b2)
 rw[hyo] at hbs
 have hI':(match binI op a b2 with
  |some v=>IR.ok v s2
  |none=>.stop 12 s2)=R:=hI
 refine LCode.midC (A:=Unit) (fun _=>[(4,ptr b4 0),(5,ptr b5 0),(6,ptr b6 0),(11,u32 y),(12,bool ok)]) (fun _=>resH b6 0 0 0::exH b5 op num name args::fnH b4 f::Hs) (fun _=>True) ?_ ?_
 ·refine LCode.draw (m:=14) rfl [resH b6 0 0 0,exH b5 op num name args] ?_
  refine aT 0 rfl rfl (Pure.fieldH rfl) ?_
  refine aT 1 rfl rfl (Pure.loadH (c:=.atom _) rfl zm1 rfl) ?_
  refine aT 2 rfl rfl (Pure.mv (lv:=.list _) rfl) ?_
  refine aT 3 rfl rfl (xR (el':=u32 a) (cs:=[u32 a]) rfl rfl zo rfl rfl rfl) ?_
  refine aT 4 rfl rfl (Pure.loadRef (c:=.atom _) rfl rfl) ?_
  refine aT 5 rfl rfl (Pure.mv (lv:=.list _) rfl) ?_
  refine aT 6 rfl rfl (xR (el':=u32 b2) (cs:=[u32 b2]) rfl rfl zo rfl rfl rfl) ?_
  refine aT 7 rfl rfl (Pure.loadRef (c:=.atom _) rfl rfl) ?_
  refine LAny.late ?_ hsub_left
  refine zl1 (i:=8) zk ?_
  refine lS (H1:=[]) rfl (.inl rfl) rfl zpr hsub_left (S.fn [_,_,_] rfl hbs ?_)
  refine zl1 (i:=9) zk ?_
  refine lH rfl rfl (Pure.mv (lv:=.tuple _) rfl) ?_
  refine LLate.two (i:=10) (j:=11) zk ?_ ?_
  ·refine lH rfl rfl (Pure.extract (c:=.atom _) rfl rfl) ?_
   refine LLate.two (i:=11) (j:=12) zk ?_ ?_
   ·refine lH rfl rfl (Pure.extract (c:=.atom _) rfl rfl) ?_
    refine zl1 (i:=12) zk ?_
    refine lH rfl rfl (Pure.as (lv:=.atom _) rfl) ?_
    refine zl1 (i:=13) zk ?_
    refine lH rfl rfl (Pure.as (lv:=.atom _) rfl) ?_
    refine lD zk ?_
    refine QThen.normal ?_
    exact ⟨(),trivial,⟨rfl,rfl,rfl,rfl,rfl,trivial⟩,HSub.refl _,rfl⟩
   ·refine lH rfl rfl (Pure.as (lv:=.atom _) rfl) ?_
    refine zl1 (i:=11) zk ?_
    refine lH rfl rfl (Pure.extract (c:=.atom _) rfl rfl) ?_
    refine zl1 (i:=13) zk ?_
    refine lH rfl rfl (Pure.as (lv:=.atom _) rfl) ?_
    refine lD zk ?_
    refine QThen.normal ?_
    exact ⟨(),trivial,⟨rfl,rfl,rfl,rfl,rfl,trivial⟩,HSub.refl _,rfl⟩
  ·refine lH rfl rfl (Pure.extract (c:=.atom _) rfl rfl) ?_
   refine zl1 (i:=10) zk ?_
   refine lH rfl rfl (Pure.extract (c:=.atom _) rfl rfl) ?_
   refine zl1 (i:=12) zk ?_
   refine lH rfl rfl (Pure.as (lv:=.atom _) rfl) ?_
   refine zl1 (i:=13) zk ?_
   refine lH rfl rfl (Pure.as (lv:=.atom _) rfl) ?_
   refine lD zk ?_
   refine QThen.normal ?_
   exact ⟨(),trivial,⟨rfl,rfl,rfl,rfl,rfl,trivial⟩,HSub.refl _,rfl⟩
 rintro _ _ j3 hj3
 refine gaa ?_
 cases ok with
 |true=>
  rw[hy1 rfl] at hI'
  refine oC rfl (fun hd=>by cases hd) (fun _=>?_)
  refine gaa ?_
  exact retR (hj3.trans hj) (rC (rA (k:=3) rfl zb0 rfl zsr) rN) rfl (zhD (zhD (zhD zhr))) (post_val (v:=y) hI'.symm hs2)
 |false=>
  rw[hy2 rfl] at hI'
  refine oC rfl (fun _=>?_) (fun hd=>by cases hd)
  refine gag ?_
  refine oS (S.fn [_] rfl (fail_spec 12) ?_) rfl
  refine gab ?_
  exact retR (hj3.trans hj) (rC (rA (k:=3) rfl zb0 rfl zsr) rN) rfl (zhD (zhD (zhD zhr))) (post_stop (er:=12) hI'.symm hs2)
theorem reval_zero {c:Cfg} (hC:CfgOk c):REvalH B0 w0 c 0:=by
 intro f kn x s H hf hk hv hnum hsm hg hs
 have ht:tick s=.stop 13 s:=by rw[tick,if_pos (Nat.le_zero.1 hg.2.1)]
 obtain ⟨op,num,name,args⟩:=x
 have h0:evI c.p 0 f (.mk op num name args) s=.stop 13 s:=by rw[evI]
 rw[encE_mk]
 refine cI Tryz.func112 rfl (n:=124) rfl rfl rfl ?_
 refine gag ?_
 refine oS (S.box rfl fun b4=>?_) rfl
 refine oS (S.box rfl fun b5=>?_) rfl
 refine oS (S.alloc fun b6=>?_) rfl
 refine gat ?_
 refine oS (S.callH (H1:=H) (F:=[_,_,_]) [_] rfl (List.perm_append_comm (l₁:=[_,_,_])) (count_spec hC hs) ?_ ?_) rfl
 rotate_left
 ·intro ch H' h
  unfold PostT at h
  split at h <;> cases h.1
 intro lv H1 hT
 unfold PostT at hT
 rw[ht] at hT
 obtain ⟨hlv,hs1⟩:=hT
 cases hlv
 refine LOps.perm (List.perm_append_comm (l₂:=[_,_,_])) ?_
 refine gab ?_
 refine oC rfl (fun _=>?_) (fun hd=>by cases hd)
 refine gag ?_
 refine oS (S.fn [_] rfl (fail_spec 13) ?_) rfl
 refine gab ?_
 exact retR rfl (rC (rA rfl zm0 rfl zsr) rN) rfl (zhD (zhD (zhD zhr))) (post_stop h0 hs1)
theorem rstmt_zero {c:Cfg} (hC:CfgOk c):RStmtH B0 w0 c 0:=by
 intro f kn x s H hf hk hv hnum hsm hg hs
 have ht:tick s=.stop 13 s:=by rw[tick,if_pos (Nat.le_zero.1 hg.2.1)]
 obtain ⟨kind,name,index,value,thn,els⟩:=x
 have h0:stI c.p 0 f (.mk kind name index value thn els) s=.stop 13 s:=by rw[stI]
 rw[encS_mk]
 refine cI Tryz.func77 rfl (n:=127) rfl rfl rfl ?_
 refine gag ?_
 refine oS (S.box rfl fun b4=>?_) rfl
 refine oS (S.box rfl fun b5=>?_) rfl
 refine oS (S.alloc fun b6=>?_) rfl
 refine gat ?_
 refine oS (S.callH (H1:=H) (F:=[_,_,_]) [_] rfl (List.perm_append_comm (l₁:=[_,_,_])) (count_spec hC hs) ?_ ?_) rfl
 rotate_left
 ·intro ch H' h
  unfold PostT at h
  split at h <;> cases h.1
 intro lv H1 hT
 unfold PostT at hT
 rw[ht] at hT
 obtain ⟨hlv,hs1⟩:=hT
 cases hlv
 refine LOps.perm (List.perm_append_comm (l₂:=[_,_,_])) ?_
 refine gab ?_
 refine oC rfl (fun _=>?_) (fun hd=>by cases hd)
 refine gag ?_
 refine oS (S.fn [_] rfl (fail_spec 13) ?_) rfl
 refine gab ?_
 exact retR rfl (rC (rA rfl zm0 rfl zsr) rN) rfl (zhD (zhD (zhD zhr))) (post_stop h0 hs1)
theorem rrun_all {c:Cfg} (hC:CfgOk c):∀ n:Nat,REvalH B0 w0 c n∧RStmtH B0 w0 c n
 |0=>⟨reval_zero hC,rstmt_zero hC⟩
 |n+1=>by
  obtain ⟨h1,h2⟩:=rrun_all hC n
  have hB:=rblock_spec hC h2
  exact ⟨reval_spec hC h1 hB,rstmt_spec hC h1 hB⟩
end
end Go.Proofs.YtcbpcianefpniaaGreatDoor.RI
namespace Go.Proofs.YtcbpcianefpniaaGreatDoor.RC
open Go.GL Go.RowKit Go.Stele
set_option maxRecDepth 100000
set_option maxHeartbeats 4000000
def scV (own:Nm) (c:CEnv) (fs:List FnD):LV:=.agg [str own,.list (c.own.map str),.list (c.vars.map str),.list (c.arrays.map str),.list (fs.map encFn),.list (c.later.map str)]
structure ScOk (c:CEnv) (fs:List FnD):Prop where
 fns:c.funcs.map (fun s=>(s.name,s.params))=fs.map (fun f=>(f.name,f.params.length))
 own:c.own.length≤1000000000
 vars:c.vars.length≤1000000000
 arrays:c.arrays.length≤1000000000
 later:c.later.length≤1000000000
 funs:fs.length≤1000000000
 pars:∀ f∈fs,f.params.length≤1000000000
def PostB (e:Int) (r:LRes) (H:Heap):Prop:=H=[]∧∃ nm,r=.ret (.agg [str nm,int .i64 e])
def FnIx (c:CEnv) (fs:List FnD) (name:Nm) (i:Int):Prop:=(∃ s pre f post,c.fn name=some s∧fs=pre++f::post∧i=(pre.length:Int)∧s.params=f.params.length)∨(c.fn name=none∧i = -1)
section
variable {C:Ctx} {n:Nat} {e:Env} {H:Heap} {dst:Option Nat} {ty:TypeId} {pos:String} {aft:Array Edge} {g:Option (Nat×Bool)} {K:LV→Heap→Prop} {X:List PanicEntry→Heap→Prop}
theorem S.pb {f:FuncId} [TEnter C.P f] (args:List Operand) {ats:Array TypeId} {avs:List LV} {er:Int} (has:args.map e.ev=avs) (hc:LCalls C f avs [] (PostB er)) (hk:∀ nm,K (.agg [str nm,int .i64 er]) H) :
  LStep C ⟨dst,.call { callee:=.value (.func f),args:=args.toArray,argTypes:=ats },ty,pos,aft,g⟩ e H K X:=
 S.callH (H1:=[]) args has zpr hc (by rintro v H' ⟨rfl,nm,h⟩;cases h;exact hk nm) (by rintro ch H' ⟨_,nm,h⟩;cases h)
theorem retB {rs:List ResultVar} {vs:List LV} {nm:Nm} {er:Int} (hd:e.ds=[]) (h:AllRes C n e H rs vs) (hv:resLV vs=.agg [str nm,int .i64 er]):RetPost C n rs (PostB er) .ret e H:=
 rR hd h zhn ⟨rfl,nm,by rw[hv]⟩
end
attribute [local irreducible] LOps LCode LStep LCalls Go.GL.Pure QThen QBlock RetPost LQ LAny LLate LLateOp LS
section
variable {B0:Nat} {w0:World}
theorem Binary_spec (op:Nm):LCalls (KC B0 w0) 185 [str op] [] (Ret (int .i64 (b01 (decide (op∈binOps))))):=by
 refine cI Tryz.func185 rfl (n:=6) rfl rfl rfl ?_
 refine gai ?_
 refine oS (S.lit (es:=binOps.map str) [_,_,_,_,_,_,_,_,_,_,_,_,_,_] rfl (by
  intro v hv
  obtain ⟨x,_,rfl⟩:=List.mem_map.1 hv
  exact ⟨rfl,rfl⟩) rfl rfl rfl ?_) rfl
 refine gao ?_
 refine oS (S.fn [_,_] rfl (has_spec binOps op (by decide)) ?_) rfl
 refine gaf ?_
 refine oC rfl (fun hc=>?_) (fun hc=>?_)
 ·refine gau ?_
  exact retRet rfl (zra rfl) (by rw[show decide (op∈binOps)=true from hc];rfl)
 ·refine gac ?_
  exact retRet rfl (zra rfl) (by rw[show decide (op∈binOps)=false from hc];rfl)
theorem shape_spec (x:Ex):LCalls (KC B0 w0) 153 [encE x] [] (Ret (bool (decide (opnds (exOp x) = -1∨opnds (exOp x)=((exArgs x).length:Int))))):=by
 obtain ⟨op,num,name,args⟩:=x
 have hlen:((args.map encE).length:Int)=(args.length:Int):=by rw[List.length_map]
 rw[encE_mk]
 show LCalls _ _ _ _ (Ret (bool (decide (opnds op = -1∨opnds op=(args.length:Int)))))
 generalize hI:decide (opnds op = -1∨opnds op=(args.length:Int))=R
 refine cI Tryz.func153 rfl (n:=32) rfl rfl rfl ?_
 refine gag ?_
 refine oS (S.box rfl fun b1=>?_) rfl
 refine gac ?_
 by_cases h1:op=[110,117,109]
 ·subst h1
  refine oC rfl (fun _=>?_) (fun hc=>by cases hc)
  refine gav ?_
  refine oC rfl (fun _=>?_) (fun hc=>by cases hc)
  refine gac ?_
  exact retRet rfl (zra rfl) (bool_eq (by rw[←hI,hlen];exact decide_eq_decide.2 (by rw[show opnds [110,117,109]=0 from rfl];omega)))
 refine oC rfl (fun hc=>absurd (zt hc) h1) (fun _=>?_)
 refine gai ?_
 by_cases h2:op=[118,97,114]
 ·subst h2
  refine oC rfl (fun _=>?_) (fun hc=>by cases hc)
  refine gac ?_
  exact retRet rfl (zra rfl) (bool_eq (by rw[←hI,hlen];exact decide_eq_decide.2 (by rw[show opnds [118,97,114]=0 from rfl];omega)))
 refine oC rfl (fun hc=>absurd (zt hc) h2) (fun _=>?_)
 refine gai ?_
 by_cases h3:op=[101,108,101,109]
 ·subst h3
  refine oC rfl (fun _=>?_) (fun hc=>by cases hc)
  refine gav ?_
  refine oC rfl (fun _=>?_) (fun hc=>by cases hc)
  refine gac ?_
  exact retRet rfl (zra rfl) (bool_eq (by rw[←hI,hlen];exact decide_eq_decide.2 (by rw[show opnds [101,108,101,109]=1 from rfl];omega)))
 refine oC rfl (fun hc=>absurd (zt hc) h3) (fun _=>?_)
 refine gai ?_
 by_cases h4:op=[110,101,103]
 ·subst h4
  refine oC rfl (fun _=>?_) (fun hc=>by cases hc)
  refine gav ?_
  refine oC rfl (fun _=>?_) (fun hc=>by cases hc)
  refine gac ?_
  exact retRet rfl (zra rfl) (bool_eq (by rw[←hI,hlen];exact decide_eq_decide.2 (by rw[show opnds [110,101,103]=1 from rfl];omega)))
 refine oC rfl (fun hc=>absurd (zt hc) h4) (fun _=>?_)
 refine gai ?_
 by_cases h5:op=[110,111,116]
 ·subst h5
  refine oC rfl (fun _=>?_) (fun hc=>by cases hc)
  refine gac ?_
  exact retRet rfl (zra rfl) (bool_eq (by rw[←hI,hlen];exact decide_eq_decide.2 (by rw[show opnds [110,111,116]=1 from rfl];omega)))
 refine oC rfl (fun hc=>absurd (zt hc) h5) (fun _=>?_)
 refine gai ?_
 by_cases h6:op=[99,97,108,108]
 ·subst h6
  refine oC rfl (fun _=>?_) (fun hc=>by cases hc)
  refine gap ?_
  exact retRet rfl (zra rfl) (bool_eq (by rw[←hI];exact (decide_eq_true (.inl rfl)).symm))
 refine oC rfl (fun hc=>absurd (zt hc) h6) (fun _=>?_)
 refine gac ?_
 refine oS (S.fn [_] rfl (Binary_spec op) ?_) rfl
 have ho:opnds op=if op∈binOps then 2 else -2:=by
  unfold opnds
  rw[if_neg (fun h=>h.elim h1 h2),if_neg (fun h=>h.elim h3 (fun h=>h.elim h4 h5)),if_neg (show ¬ op=nCall from h6)]
 by_cases h7:op∈binOps
 ·rw[if_pos h7] at ho
  rw[decide_eq_true h7]
  refine gad ?_
  exact retRet rfl (zra rfl) (bool_eq (by rw[←hI,hlen];exact decide_eq_decide.2 (by rw[ho];omega)))
 ·rw[if_neg h7] at ho
  rw[decide_eq_false h7]
  refine gad ?_
  exact retRet rfl (zra rfl) (bool_eq (by rw[←hI];exact (decide_eq_false (by rw[ho];omega)).symm))
theorem fn_cons {c:CEnv} {name:Nm} {s:FSum} {l:List FSum}:(s::l).find? (fun f=>decide (f.name=name))=if s.name=name then some s else l.find? (fun f=>decide (f.name=name)):=by
 rw[List.find?_cons]
 by_cases h:s.name=name
 ·rw[decide_eq_true h,if_pos h]
 ·rw[decide_eq_false h,if_neg h]
theorem function_spec {own:Nm} {c:CEnv} {fs:List FnD} (h:ScOk c fs) (name:Nm):LCalls (KC B0 w0) 186 [scV own c fs,str name] [] (RetIf fun v=>∃ i,v=int .i64 i∧FnIx c fs name i):=by
 unfold scV
 refine cI Tryz.func186 rfl (n:=21) rfl rfl rfl ?_
 refine gag ?_
 refine oS (S.box rfl fun b2=>?_) rfl
 refine gac ?_
 refine oL (fun k ls H'=>∃ (pre l1:List FnD) (cl:List FSum),fs=pre++l1∧k=l1.length∧ls=[(1,str name),(8,.list (fs.map encFn)),(9,int .i64 ((fs.map encFn).length:Int)),(10,int .i64 (pre.length:Int))]∧H'=[]∧cl.map (fun s=>(s.name,s.params))=l1.map (fun f=>(f.name,f.params.length))∧c.fn name=cl.find? (fun f=>decide (f.name=name)))
  ⟨_,_,_,⟨[],fs,c.funcs,rfl,rfl,rfl,rfl,h.fns,rfl⟩,⟨rfl,rfl,rfl,rfl,trivial⟩,HSub.nil _⟩ ?_
 rintro k ls H' ⟨pre,l1,cl,hL,rfl,rfl,rfl,hcl,hI⟩ j hj
 have hb:=pre_le hL h.funs
 refine gak ?_
 refine oC rfl (fun hc=>?_) (fun hc=>?_)
 ·obtain ⟨a,l2,rfl⟩:=more hL hc
  obtain ⟨s,cl,rfl⟩:∃ s l,cl=s::l:=by
   cases cl with
   |nil=>simp at hcl
   |cons s l=>exact ⟨s,l,rfl⟩
  rw[List.map_cons,List.map_cons] at hcl
  injection hcl with hs hcl
  injection hs with hs1 hs2
  rw[fn_cons (c:=c)] at hI
  refine gac ?_
  refine oP (xR (el':=encFn a) (cs:=[_,_,_,_]) rfl rfl zo (by rw[hL];exact get_mid encFn pre a l2) rfl rfl) rfl ?_
  refine gax ?_
  refine oS (S.alloc fun b6=>?_) rfl
  refine gaa ?_
  refine oC rfl (fun hd=>?_) (fun hd=>?_)
  ·have he:a.name=name:=zt hd
   rw[if_pos (hs1.trans he)] at hI
   refine gap ?_
   exact retRetIf hj (zra rfl) ⟨_,rfl,.inl ⟨s,pre,a,l2,hI,hL,rfl,hs2⟩⟩
  ·have he:¬ a.name=name:=zf hd
   rw[if_neg (fun g=>he (hs1.symm.trans g))] at hI
   refine gar ?_
   exact ⟨l2.length,_,_,Nat.lt_succ_self _,⟨pre++[a],l2,cl,snoc hL,rfl,rfl,rfl,hcl,hI⟩,⟨rfl,rfl,rfl,int_eq (by simp),trivial⟩,HSub.nil _,hj⟩
 ·obtain rfl:=none_left hL hc
  have hcl0:cl=[]:=by
   cases cl with
   |nil=>rfl
   |cons s l=>simp at hcl
  subst hcl0
  refine gac ?_
  exact retRetIf hj (zra rfl) ⟨_,rfl,.inr ⟨hI,rfl⟩⟩
theorem scalar_spec {own:Nm} {c:CEnv} {fs:List FnD} (h:ScOk c fs) (name:Nm):LCalls (KC B0 w0) 103 [scV own c fs,str name] [] (PostB (scalarE c name)):=by
 unfold scV
 generalize hI:scalarE c name=R
 unfold scalarE CEnv.globals at hI
 refine cI Tryz.func103 rfl (n:=30) rfl rfl rfl ?_
 refine gag ?_
 refine oS (S.box rfl fun b2=>?_) rfl
 refine oS (S.alloc fun b4=>?_) rfl
 refine gaa ?_
 refine oS (S.fn [_,_] rfl (has_spec c.own name h.own) ?_) rfl
 refine gao ?_
 by_cases h1:name∈c.own
 ·rw[if_pos (.inr h1)] at hI
  refine oB 9 rfl (fun _=>?_) (fun g=>absurd h1 (zf g))
  refine gad ?_
  refine oC rfl (fun _=>?_) (fun hc=>by cases hc)
  refine gaa ?_
  exact retB (nm:=[]) rfl (rC (rA rfl zm0 rfl zsr) rN) (by rw[←hI];rfl)
 refine oB 9 rfl (fun g=>absurd (zt g) h1) (fun _=>?_)
 refine gab ?_
 refine oS (S.fn [_,_] rfl (has_spec c.vars name h.vars) ?_) rfl
 refine gah ?_
 refine oC rfl (fun h2=>?_) (fun h2=>?_)
 ·rw[if_pos (.inl (zt h2))] at hI
  refine gaa ?_
  exact retB (nm:=[]) rfl (rC (rA rfl zm0 rfl zsr) rN) (by rw[←hI];rfl)
 have h2':name ∉ c.vars:=zf h2
 rw[if_neg (fun g=>g.elim h2' h1)] at hI
 simp only[List.mem_append,h2',false_or] at hI
 refine gaa ?_
 refine oS (S.fn [_,_] rfl (has_spec c.arrays name h.arrays) ?_) rfl
 refine gao ?_
 by_cases h3:name∈c.arrays
 ·rw[if_pos (.inl h3)] at hI
  refine oB 20 rfl (fun _=>?_) (fun g=>absurd h3 (zf g))
  refine gad ?_
  refine oC rfl (fun _=>?_) (fun hc=>by cases hc)
  refine gaa ?_
  exact retB (nm:=name) rfl (rC (rA rfl zm0 rfl zsr) rN) (by rw[←hI];rfl)
 refine oB 20 rfl (fun g=>absurd (zt g) h3) (fun _=>?_)
 refine gab ?_
 refine oS (S.fn [_,_] rfl (has_spec c.later name h.later) ?_) rfl
 refine gah ?_
 refine oC rfl (fun h4=>?_) (fun h4=>?_)
 ·rw[if_pos (.inr (zt h4))] at hI
  refine gaa ?_
  exact retB (nm:=name) rfl (rC (rA rfl zm0 rfl zsr) rN) (by rw[←hI];rfl)
 ·rw[if_neg (fun g=>g.elim h3 (zf h4))] at hI
  refine gaa ?_
  exact retB (nm:=name) rfl (rC (rA rfl zm0 rfl zsr) rN) (by rw[←hI];rfl)
theorem indexed_spec {own:Nm} {c:CEnv} {fs:List FnD} (h:ScOk c fs) (name:Nm):LCalls (KC B0 w0) 104 [scV own c fs,str name] [] (PostB (arrayE c name)):=by
 unfold scV
 generalize hI:arrayE c name=R
 unfold arrayE CEnv.globals at hI
 refine cI Tryz.func104 rfl (n:=30) rfl rfl rfl ?_
 refine gag ?_
 refine oS (S.box rfl fun b2=>?_) rfl
 refine oS (S.alloc fun b4=>?_) rfl
 refine gaa ?_
 refine oS (S.fn [_,_] rfl (has_spec c.arrays name h.arrays) ?_) rfl
 refine gaf ?_
 refine oC rfl (fun h1=>?_) (fun h1=>?_)
 ·rw[if_pos (zt h1)] at hI
  refine gaa ?_
  exact retB (nm:=[]) rfl (rC (rA rfl zm0 rfl zsr) rN) (by rw[←hI];rfl)
 have h1':name ∉ c.arrays:=zf h1
 rw[if_neg h1'] at hI
 simp only[List.mem_append,h1',or_false] at hI
 refine gaa ?_
 refine oS (S.fn [_,_] rfl (has_spec c.own name h.own) ?_) rfl
 refine gao ?_
 by_cases h2:name∈c.own
 ·rw[if_pos (.inr h2)] at hI
  refine oB 14 rfl (fun _=>?_) (fun g=>absurd h2 (zf g))
  refine gad ?_
  refine oC rfl (fun _=>?_) (fun hc=>by cases hc)
  refine gaa ?_
  exact retB (nm:=name) rfl (rC (rA rfl zm0 rfl zsr) rN) (by rw[←hI];rfl)
 refine oB 14 rfl (fun g=>absurd (zt g) h2) (fun _=>?_)
 refine gab ?_
 refine oS (S.fn [_,_] rfl (has_spec c.vars name h.vars) ?_) rfl
 refine gah ?_
 by_cases h3:name∈c.vars
 ·rw[if_pos (.inl (.inl h3))] at hI
  refine oB 20 rfl (fun _=>?_) (fun g=>absurd h3 (zf g))
  refine gad ?_
  refine oC rfl (fun _=>?_) (fun hc=>by cases hc)
  refine gaa ?_
  exact retB (nm:=name) rfl (rC (rA rfl zm0 rfl zsr) rN) (by rw[←hI];rfl)
 refine oB 20 rfl (fun g=>absurd (zt g) h3) (fun _=>?_)
 refine gab ?_
 refine oS (S.fn [_,_] rfl (has_spec c.later name h.later) ?_) rfl
 refine gah ?_
 refine oC rfl (fun h4=>?_) (fun h4=>?_)
 ·rw[if_pos (.inl (.inr (zt h4)))] at hI
  refine gaa ?_
  exact retB (nm:=name) rfl (rC (rA rfl zm0 rfl zsr) rN) (by rw[←hI];rfl)
 ·rw[if_neg (fun g=>g.elim (fun g=>g.elim h3 (zf h4)) h2)] at hI
  refine gaa ?_
  exact retB (nm:=name) rfl (rC (rA rfl zm0 rfl zsr) rN) (by rw[←hI];rfl)
end
end Go.Proofs.YtcbpcianefpniaaGreatDoor.RC
