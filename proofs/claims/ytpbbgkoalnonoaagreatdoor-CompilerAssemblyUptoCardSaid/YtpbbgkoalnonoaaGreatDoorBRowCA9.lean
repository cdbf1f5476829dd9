/- Texts joined: AsmA, PeepM, AsmB, AsmC, GlFour, CmpSpec, CmpLab, AsmD, CmpKn, CmpTrn, CmpCln, CmpCln2, CmpSize. -/
import Derived.Lib.SplitLaws
import Derived.Shelf.Strings.SlTrimAscii
import Derived.Test.YtpbbgkoalnonoaaGreatDoorBRowCA2
import Derived.Test.YtpbbgkoalnonoaaGreatDoorBRowCA3
import Derived.Test.YtpbbgkoalnonoaaGreatDoorBRowCA4
import Derived.Test.YtpbbgkoalnonoaaGreatDoorBRowCA5
import Derived.Test.YtpbbgkoalnonoaaGreatDoorBRowCA8
set_option linter.unusedVariables false
set_option linter.unusedSimpArgs false
set_option maxRecDepth 100000
set_option maxHeartbeats 4000000
namespace Go.GL
open Go.RowKit
theorem elemsOk_strs:∀ l:List (List UInt8),elemsOk 1 (l.map str)
 |[]=>eN
 |a::l=>zeC rfl rfl (elemsOk_strs l)
theorem LCalls.ret_strs {C:Ctx} {f:FuncId} {vs:List Value} {l:List (List UInt8)} {t:TypeId}
  (h:∀ w,Below C.B0 C.w0 w→Calls C.P f vs.toArray w (fun e w'=>e=.returned (.slice (some ⟨w.heap.size,0,none⟩) l.length l.length)∧w'=w.alloc (.cells (l.map fun s=>Value.string ⟨s.toArray⟩).toArray t))):LCalls C f (vs.map .atom) [] (Ret (.list (l.map str))):=fun xs w L hv hH=>by
 have hx:xs=vs:=by
  clear h hH
  induction vs generalizing xs with
  |nil=>simpa [RepL] using hv
  |cons v vs ih=>
   simp only[zMc,RepL,Rep] at hv
   obtain ⟨y,ys,rfl,rfl,hv⟩:=hv
   rw[ih _ hv]
 subst hx
 refine (h w hH.base).mono fun e w' he=>?_
 obtain ⟨rfl,rfl⟩:=he
 have hr:RepL w L (l.map str) (l.map fun s=>Value.string ⟨s.toArray⟩):=by
  have:=repL_atoms (w:=w) (L:=L) (l.map fun s=>Value.string ⟨s.toArray⟩)
  rw[List.map_map] at this
  exact this
 have hok:elemsOk 1 (l.map str):=elemsOk_strs l
 have hl:(l.map str).length=l.length:=zLm _
 have:=left_newRow (K:=fun lv H=>∃ b,lv=.app b l.length 1 (l.map str)) (t:=t) (cap:=l.length) (rest:=[]) hH hr hok zo (by simp) fun b=>⟨b,rfl⟩
 have e1:((l.map fun s=>Value.string ⟨s.toArray⟩).flatMap fun v=>v.cells.toList)++[]=l.map fun s=>Value.string ⟨s.toArray⟩:=by
  rw[zLz]
  clear this hok hr h hv hl
  induction l with
  |nil=>rfl
  |cons a l ih=>rw[zMc,List.flatMap_cons,ih];try rfl
 rw[e1,hl] at this
 obtain ⟨lv,H',L',r1,r2,r3,b,rfl⟩:=this
 exact ⟨.list (l.map str),[],L',r1.weak zhn,r2.weak zhn,LV.Sub.app _ _ _ _ _ _ _ r3,rfl,rfl⟩
end Go.GL
namespace Go.Proofs.YtpbbgkoalnonoaaGreatDoor
open Go.GL Go.RowKit Go.Stele
namespace Asm
def GM (w0:World):Prop:=∃ m,w0.cell? ⟨0,0,none⟩=some (.int .i64 m)
theorem cells_rows {w:World} {L:Live} {b:Nat}:∀ (k off:Nat) (ws:List (List UInt8)),RepRows w L b k off (ws.map str)→∀ (j:Nat) x,(ws.map fun l=>(⟨l.toArray⟩:ByteArray))[j]? = some x→k=1∧w.cell? ⟨b,off+j,none⟩=some (.string x)
 |k,off,[],_,j,x,h=>by simp at h
 |k,off,s::ws,h,0,x,hx=>by
  simp only[zMc,RepRows] at h
  obtain ⟨⟨hk,_,y,hy,hr⟩,_⟩:=h
  simp only[Rep] at hr
  simp at hx
  rw[←hx,Nat.add_zero,hy,hr]
  exact ⟨hk.symm,rfl⟩
 |k,off,s::ws,h,j+1,x,hx=>by
  simp only[zMc,RepRows] at h
  obtain ⟨⟨hk,_⟩,h2⟩:=h
  have:=cells_rows k (off+k) ws h2 j x (by simpa using hx)
  refine ⟨hk.symm,?_⟩
  rw[←this.2,←hk,Nat.add_assoc,Nat.add_comm 1 j]
section
variable {B0:Nat} {w0:World}
theorem cutPrefix_spec (s p:List UInt8):LCalls (KC B0 w0) 179 [str s,str p] [] (Ret (.tuple [str (Go.Lib.trimPrefix s p),bool (Go.Lib.hasPrefix s p)])):=by
 refine LCalls.mono (LCalls.of_belowT (vs:=[.string ⟨s.toArray⟩,.string ⟨p.toArray⟩]) (p:=fun us=>us=[.string ⟨(Go.Lib.trimPrefix s p).toArray⟩,.bool (Go.Lib.hasPrefix s p)]) fun w hw=>?_) ?_
 ·refine (Tryz.strings_CutPrefix ⟨s.toArray⟩ ⟨p.toArray⟩ w).mono fun e w' he=>⟨_,he.1,rfl,by rw[he.2];exact Below.refl _ _⟩
 ·rintro r H ⟨v,rfl,⟨us,rfl,rfl⟩,rfl⟩
  exact ⟨rfl,rfl⟩
theorem cutSuffix_spec (s p:List UInt8) (hs:s.length≤1000000000):LCalls (KC B0 w0) 177 [str s,str p] [] (Ret (.tuple [str (Go.Lib.trimSuffix s p),bool (Go.Lib.hasSuffix s p)])):=by
 refine LCalls.mono (LCalls.of_belowT (vs:=[.string ⟨s.toArray⟩,.string ⟨p.toArray⟩]) (p:=fun us=>us=[.string ⟨(Go.Lib.trimSuffix s p).toArray⟩,.bool (Go.Lib.hasSuffix s p)]) fun w hw=>?_) ?_
 ·refine (Tryz.strings_CutSuffix ⟨s.toArray⟩ ⟨p.toArray⟩ w (by show s.toArray.size≤_;simp;omega)).mono fun e w' he=>⟨_,he.1,rfl,by rw[he.2];exact Below.refl _ _⟩
 ·rintro r H ⟨v,rfl,⟨us,rfl,rfl⟩,rfl⟩
  exact ⟨rfl,rfl⟩
theorem joinS_spec (sep:List UInt8) (ws:List (List UInt8)) (hn:ws.length≤1000000000) (hl:(Go.Lib.join ws sep).length≤1000000000):LCalls (KC B0 w0) 29 [.list (ws.map str),str sep] [] (Ret (str (Go.Lib.join ws sep))):=fun xs w L hv hH=>by
 simp only[RepL] at hv
 obtain ⟨y,ys,rfl,hy,z,zs,rfl,hz,rfl⟩:=hv
 simp only[Rep] at hy hz
 obtain ⟨a,cap,rfl,hcap,hrows⟩:=hy
 subst hz
 rw[zLm] at hcap
 have hmap:(ws.map fun l=>(⟨l.toArray⟩:ByteArray)).map (·.data.toList)=ws:=by
  rw[List.map_map]
  conv=>rhs;rw[←List.map_id ws]
  rfl
 have hc:Calls Tryz.prog 29 #[.slice a ws.length cap,.string ⟨sep.toArray⟩] w fun e w'=>e=.returned (.string ⟨(Go.Lib.join ws sep).toArray⟩)∧Below w.heap.size w w':=by
  by_cases hne:ws=[]
  ·subst hne
   exact (Tryz.strings_Join_none a cap ⟨sep.toArray⟩ w).mono fun e w' he=>⟨by rw[he.1];try rfl,by rw[he.2];exact Below.refl _ _⟩
  ·obtain ⟨b,off,k,rfl,hr⟩:=hrows (by simpa using hne)
   have hcells:=fun j x hx=>(cells_rows k off ws hr j x hx).2
   have hb:b<w.heap.size:=by
    obtain ⟨s,r,rfl⟩:=List.exists_cons_of_ne_nil hne
    have:=hcells 0 _ rfl
    exact World.block_lt_of_cell? _ _ this
   have:=Tryz.strings_Join b off cap (ws.map fun l=>(⟨l.toArray⟩:ByteArray)) ⟨sep.toArray⟩ w hcells hb (by rw[zLm];omega) (by rw[zLm];exact hcap) (by rw[hmap];show (Go.Lib.join ws sep).length≤_;omega)
   rw[zLm,hmap] at this
   exact this
 rw[zLm]
 refine hc.mono fun e w' he=>?_
 obtain ⟨rfl,hb⟩:=he
 obtain ⟨h1,h2⟩:=fr_below hH hb
 exact ⟨str (Go.Lib.join ws sep),[],L,h1,h2,rep_atom,rfl,rfl⟩
theorem GM.at (hG:GW B0 w0) (h:GM w0) {w:World} (hb:Below B0 w0 w):∃ m,w.cell? ⟨0,0,none⟩=some (.int .i64 m):=by
 obtain ⟨m,hm⟩:=h
 exact ⟨m,(cell_of_heap (hb.block 0 (Nat.lt_of_lt_of_le zDd hG.big)) 0).trans hm⟩
theorem split_spec (hG:GW B0 w0) (hM:GM w0) (s:List UInt8) (c:UInt8) (hs:s.length≤1000000000):LCalls (KC B0 w0) 112 [str s,str [c]] [] (Ret (.list ((pieces c s).map str))):=by
 rw[←split_one]
 refine LCalls.ret_strs (vs:=[.string ⟨s.toArray⟩,.string ⟨#[c]⟩]) (t:=9) fun w hw=>?_
 obtain ⟨m,hm⟩:=GM.at hG hM hw
 have h1:=Tryz.strings_Split ⟨s.toArray⟩ ⟨#[c]⟩ m w (by show s.toArray.size<_;simp;omega) hm (zNr 1)
 have e1:(Go.Lib.splitB ⟨#[c]⟩ 0 (Go.Lib.countB ⟨s.toArray⟩ ⟨#[c]⟩) ⟨s.toArray⟩).map Value.string=(Go.Lib.split s [c]).map fun s=>Value.string ⟨s.toArray⟩:=by
  have:=Go.Lib.splitB_data ⟨#[c]⟩ 0 (Go.Lib.countB ⟨s.toArray⟩ ⟨#[c]⟩) ⟨s.toArray⟩
  have e2:Go.Lib.split s [c]=Go.Lib.splitK (⟨#[c]⟩:ByteArray).data.toList 0 (Go.Lib.countB ⟨s.toArray⟩ ⟨#[c]⟩) (⟨s.toArray⟩:ByteArray).data.toList:=rfl
  rw[e2,←this,List.map_map]
  try rfl
 have e3:(Go.Lib.split s [c]).length=Go.Lib.countB ⟨s.toArray⟩ ⟨#[c]⟩+1:=by
  have:=congrArg List.length e1
  rw[zLm,zLm,Go.Lib.splitB_all ⟨#[c]⟩ (zNr 1) 0 _ _ rfl] at this
  exact this.symm
 rw[e1] at h1
 rw[e3]
 exact h1
theorem cut_spec (hG:GW B0 w0) (hM:GM w0) (s:List UInt8) (c:UInt8) (hs:s.length≤1000000000):LCalls (KC B0 w0) 113 [str s,str [c]] [] (RetIf fun lv=>∃ a b,lv=.tuple [str (s.takeWhile fun d=>decide (d≠c)),str a,bool b]):=by
 rw[←cut_one]
 refine LCalls.mono (LCalls.of_belowT (vs:=[.string ⟨s.toArray⟩,.string ⟨#[c]⟩]) (p:=fun us=>us=[.string ⟨(Go.Lib.cut s [c]).1.toArray⟩,.string ⟨(Go.Lib.cut s [c]).2.1.toArray⟩,.bool (Go.Lib.cut s [c]).2.2]) fun w hw=>?_) ?_
 ·obtain ⟨m,hm⟩:=GM.at hG hM hw
  refine (Tryz.strings_Cut ⟨s.toArray⟩ ⟨#[c]⟩ m w (by show s.toArray.size<_;simp;omega) hm).mono fun e w' he=>?_
  obtain ⟨rfl,n,rfl⟩:=he
  exact ⟨_,rfl,rfl,below_drewN (Below.refl _ _) n⟩
 ·rintro r H ⟨v,rfl,⟨us,rfl,rfl⟩,rfl⟩
  exact ⟨_,rfl,⟨_,_,rfl⟩,rfl⟩
def tokLV (p:Wd×Nat):LV:=.agg [str p.1,int .i64 p.2]
end
def nameSet2:List UInt8:=[97,98,99,100,101,102,103,104,105,106,107,108,109,110,111,112,113,114,115,116,117,118,119,120,121,122,95,48,49,50,51,52,53,54,55,56,57]
theorem set2_inner (c:UInt8):nameSet2.contains c=isInner c:=by
 have:∀ n:Nat,n<256→nameSet2.contains (UInt8.ofNat n)=isInner (UInt8.ofNat n):=by decide +kernel
 have h:=this c.toNat c.toNat_lt
 rwa [UInt8.ofNat_toNat] at h
theorem trim_gen {st:List UInt8} {p:UInt8→Bool} (he:∀ c,st.contains c=p c) (s:List UInt8):(Go.Lib.trimS s st=[]) ↔ s.all p=true:=by
 have he:(fun c=>st.contains c)=p:=funext he
 unfold Go.Lib.trimS Go.Lib.trimLeftS Go.Lib.trimRightS
 rw[he,dropWhile_nil]
 constructor
 ·intro h
  by_cases h2:s.reverse.dropWhile p=[]
  ·rw[dropWhile_nil] at h2
   rw[List.all_reverse] at h2
   exact h2
  ·exfalso
   obtain ⟨c,r,hcr⟩:=List.exists_cons_of_ne_nil h2
   have h3:p c=false:=by
    have:=List.head?_dropWhile_not p s.reverse
    rw[hcr] at this
    simpa using this
   rw[hcr,List.all_reverse,List.all_cons,h3] at h
   cases h
 ·intro h
  have h2:s.reverse.dropWhile p=[]:=by rw[dropWhile_nil,List.all_reverse];exact h
  rw[h2]
  try rfl
def OptLV (o:Option Wd) (lv:LV):Prop:=∃ s,lv=.tuple [str s,bool o.isSome]∧∀ l,o=some l→s=l
theorem OptLV.mk {o:Option Wd} {s:Wd} {b:Bool} (hb:o.isSome=b) (hs:∀ l,o=some l→s=l):OptLV o (.tuple [str s,bool b]):=⟨s,by rw[hb],hs⟩
theorem ite_some {p q:Bool} {s:Wd} {o:Option Wd} (h:o=if p=true∧q=true then some s else none):o.isSome=(p && q)∧∀ l,o=some l→s=l:=by
 subst h
 cases p <;> cases q <;> simp
attribute [local irreducible] LOps LCode LStep LCalls Go.GL.Pure QThen QBlock RetPost LQ LAny LLate LLateOp
section
variable {B0:Nat} {w0:World}
theorem trim_any (s st:List UInt8) (hs:s.length≤1000000000) (h1:st.length≤100) (h3:st.all (fun b=>decide (b.toNat<128))=true):LCalls (KC B0 w0) 180 [str s,str st] [] (Ret (str (Go.Lib.trimS s st))):=
 LCalls.ret_of (vs:=[.string ⟨s.toArray⟩,.string ⟨st.toArray⟩]) fun w hw=>(Go.Proofs.Any.strings_Trim_laid Tryz.lays160 (by kernel_rfl) ⟨s.toArray⟩ ⟨st.toArray⟩ w (by show s.toArray.size≤_;simp;omega) (by show st.toArray.size<_;simp;omega) (Go.Proofs.ascii_of_all h3))
theorem asmName_spec (s:List UInt8) (hs:s.length≤1000000000):LCalls (KC B0 w0) 178 [str s] [] (Ret (bool (nameW s))):=by
 have hT:=trim_any (B0:=B0) (w0:=w0) s nameSet2 hs zDd zDd
 have hnil:=trim_gen set2_inner s
 refine cI Tryz.func178 rfl (n:=23) rfl rfl rfl ?_
 refine gaa ?_
 refine oB 5 rfl (fun h1=>?_) (fun h1=>?_)
 ·have e:s=[]:=of_decide_eq_true h1
  subst e
  refine gad ?_
  refine oC rfl (fun h=>?_) (fun h=>by cases h)
  refine gao ?_
  exact retRet rfl (rC (rT (v:=.atom _) rfl (LV.Sub.refl _)) rN) rfl
 have h1':¬ s=[]:=of_decide_eq_false h1
 obtain ⟨c,r,rfl⟩:∃ c r,s=c::r:=by
  cases s with
  |nil=>exact absurd rfl h1'
  |cons c r=>exact ⟨c,r,rfl⟩
 have hN:=nameW_eq c r
 refine gac ?_
 refine oB 10 rfl (fun h2=>?_) (fun h2=>?_)
 ·have h2':¬ (c::r).length≤40:=by have:=of_decide_eq_true h2;omega
  rw[decide_eq_false h2',Bool.false_and,Bool.false_and] at hN
  refine gad ?_
  refine oC rfl (fun h=>?_) (fun h=>by cases h)
  refine gao ?_
  exact retRet rfl (rC (rT (v:=.atom _) rfl (LV.Sub.refl _)) rN) (bool_eq hN.symm)
 have h2':(c::r).length≤40:=by have:=of_decide_eq_false h2;omega
 rw[decide_eq_true h2',Bool.true_and] at hN
 refine gam ?_
 refine oP (Pure.sindex (c:=c) rfl rfl (by omega) rfl) rfl ?_
 refine gad ?_
 refine oB 15 rfl (fun h3=>?_) (fun h3=>?_)
 ·have h3':isLetter c=false:=by
   unfold isLetter
   rw[decide_eq_false (by have:cv c<97:=of_decide_eq_true h3;omega),Bool.false_and]
  rw[h3',Bool.false_and] at hN
  refine gad ?_
  refine oC rfl (fun h=>?_) (fun h=>by cases h)
  refine gao ?_
  exact retRet rfl (rC (rT (v:=.atom _) rfl (LV.Sub.refl _)) rN) (bool_eq hN.symm)
 refine gam ?_
 refine oP (Pure.sindex (c:=c) rfl rfl (by omega) rfl) rfl ?_
 refine gac ?_
 refine oC rfl (fun h=>?_) (fun h=>?_)
 ·have h3':isLetter c=false:=by
   unfold isLetter
   rw[decide_eq_false (p:=cv c≤122) (by have:cv c > 122:=of_decide_eq_true h;omega),Bool.and_false]
  rw[h3',Bool.false_and] at hN
  refine gao ?_
  exact retRet rfl (rC (rT (v:=.atom _) rfl (LV.Sub.refl _)) rN) (bool_eq hN.symm)
 have h3':isLetter c=true:=by
  unfold isLetter
  rw[decide_eq_true (by have:¬ cv c<97:=of_decide_eq_false h3;omega),decide_eq_true (by have:¬ cv c > 122:=of_decide_eq_false h;omega)]
  try rfl
 rw[h3',Bool.true_and] at hN
 refine gaa ?_
 refine oS (sF [_,_] rfl hT ?_) rfl
 refine gad ?_
 exact retRet rfl (rC (rT (v:=.atom _) rfl (LV.Sub.refl _)) rN) (bool_eq (by
  rw[hN,Bool.eq_iff_iff,decide_eq_true_iff]
  exact hnil))
theorem asmDef_spec (p:Wd×Nat) (hs:p.1.length≤1000000000):LCalls (KC B0 w0) 114 [tokLV p] [] (RetIf (OptLV (defW p.1))):=by
 obtain ⟨w,ln⟩:=p
 simp only at hs ⊢
 obtain ⟨r1,r2⟩:=ite_some (def_eq w)
 have hlen:(Go.Lib.trimSuffix w [58]).length≤1000000000:=by
  unfold Go.Lib.trimSuffix
  split
  ·rw[List.length_take];omega
  ·exact hs
 unfold tokLV
 refine cI Tryz.func114 rfl (n:=18) rfl rfl rfl ?_
 refine gaf ?_
 refine oS (S.box (cs:=[str w,int .i64 ln]) rfl fun b1=>?_) rfl
 refine gaa ?_
 refine oS (sF [_,_] rfl (cutSuffix_spec w [58] hs) ?_) rfl
 refine gaa ?_
 refine oB 14 rfl (fun h=>?_) (fun h=>?_)
 ·exact zT54
 ·rw[h,Bool.false_and] at r1
  refine gae ?_
  exact retRetIf rfl (rC (rT (v:=.atom _) rfl (LV.Sub.refl _)) (rC (rT (v:=.atom _) rfl (LV.Sub.refl _)) rN)) (OptLV.mk r1 r2)
theorem asmRef_spec (p:Wd×Nat) (hs:p.1.length≤1000000000):LCalls (KC B0 w0) 115 [tokLV p] [] (RetIf (OptLV (refW p.1))):=by
 obtain ⟨w,ln⟩:=p
 simp only at hs ⊢
 obtain ⟨r1,r2⟩:=ite_some (ref_eq w)
 have hlen:(Go.Lib.trimPrefix w [38]).length≤1000000000:=by
  unfold Go.Lib.trimPrefix
  split
  ·rw[List.length_drop];omega
  ·exact hs
 unfold tokLV
 refine cI Tryz.func115 rfl (n:=18) rfl rfl rfl ?_
 refine gaf ?_
 refine oS (S.box (cs:=[str w,int .i64 ln]) rfl fun b1=>?_) rfl
 refine gaa ?_
 refine oS (sF [_,_] rfl (cutPrefix_spec w [38]) ?_) rfl
 refine gaa ?_
 refine oB 14 rfl (fun h=>?_) (fun h=>?_)
 ·exact zT54
 ·rw[h,Bool.false_and] at r1
  refine gae ?_
  exact retRetIf rfl (rC (rT (v:=.atom _) rfl (LV.Sub.refl _)) (rC (rT (v:=.atom _) rfl (LV.Sub.refl _)) rN)) (OptLV.mk r1 r2)
theorem asmCode_spec (p:Wd×Nat) (hs:p.1.length≤1000000000):LCalls (KC B0 w0) 116 [tokLV p] [] (Ret (bool (codeW p.1))):=by
 obtain ⟨w,ln⟩:=p
 simp only at hs ⊢
 have hT:=trim_any (B0:=B0) (w0:=w0) w codeSet hs zDd zDd
 have hnil:(Go.Lib.trimS w codeSet=[]) ↔ codeW w=true:=trim_gen (p:=fun c=>codeSet.contains c) (fun c=>rfl) w
 unfold tokLV
 refine cI Tryz.func116 rfl (n:=7) rfl rfl rfl ?_
 refine gaf ?_
 refine oS (S.box (cs:=[str w,int .i64 ln]) rfl fun b1=>?_) rfl
 refine gaa ?_
 refine oS (sF [_,_] rfl hT ?_) rfl
 refine gad ?_
 exact retRet rfl (rC (rT (v:=.atom _) rfl (LV.Sub.refl _)) rN) (bool_eq (by
  rw[Bool.eq_iff_iff,decide_eq_true_iff]
  exact hnil))
theorem asmDigit_spec (c:UInt8):LCalls (KC B0 w0) 119 [int .u8 c.toNat] [] (Ret (bool (isDigit c))):=by
 have hD:isDigit c=(decide (48≤cv c) && decide (cv c≤57)):=rfl
 refine cI Tryz.func119 rfl (n:=9) rfl rfl rfl ?_
 refine gab ?_
 refine oB 5 rfl (fun h=>?_) (fun h=>?_)
 ·have h':cv c ≥ 48:=of_decide_eq_true h
  rw[decide_eq_true (show 48≤cv c from h'),Bool.true_and] at hD
  refine gac ?_
  exact retRet rfl (rC (rT (v:=.atom _) rfl (LV.Sub.refl _)) rN) (bool_eq hD.symm)
 ·have h':¬ cv c ≥ 48:=of_decide_eq_false h
  rw[decide_eq_false (show ¬ 48≤cv c from h'),Bool.false_and] at hD
  refine gae ?_
  exact retRet rfl (rC (rT (v:=.atom _) rfl (LV.Sub.refl _)) rN) (bool_eq hD.symm)
theorem address_spec (hG:GW B0 w0) (n:Nat) (hn:n≤1000000000000):LCalls (KC B0 w0) 118 [int .i64 n] [] (Ret (str (addrW n))):=by
 have hi:=itoa_spec hG n (by omega)
 have hne:=decDigits_ne n
 have hl:(Go.Lib.decDigits n).length≤20:=by
  rw[Go.Lib.decDigits_length]
  exact zNt (nDigits_le 12 n (by omega)) zDd
 have hA:addrW n=([48,48,48,48,48]++Go.Lib.decDigits n).drop (([48,48,48,48,48]++Go.Lib.decDigits n).length-6):=rfl
 generalize Go.Lib.decDigits n=d at hi hne hl hA
 have hpos:=List.length_pos_iff.2 hne
 have hsl:([48,48,48,48,48]++d:List UInt8).length=d.length+5:=by simp
 refine cI Tryz.func118 rfl (n:=12) rfl rfl rfl ?_
 refine gaa ?_
 refine oS (sF [_] rfl hi ?_) rfl
 refine gab ?_
 refine oP (Pure.sslice (l:=[48,48,48,48,48]++d) (i:=(([48,48,48,48,48]++d:List UInt8).length:Int)-6) (j:=(([48,48,48,48,48]++d:List UInt8).length:Int)) rfl ⟨_,rfl⟩ rfl (by omega) (by omega) (by omega)) rfl ?_
 refine gae ?_
 exact retRet rfl (rC (rT (v:=.atom _) rfl (LV.Sub.refl _)) rN) (by
  rw[hA]
  have e1:(((([48,48,48,48,48]++d:List UInt8).length:Nat):Int)-6).toNat=([48,48,48,48,48]++d:List UInt8).length-6:=by omega
  show str (List.drop (((([48,48,48,48,48]++d:List UInt8).length:Nat):Int)-6).toNat (List.take ((([48,48,48,48,48]++d:List UInt8).length:Nat):Int).toNat ([48,48,48,48,48]++d)))=_
  rw[e1,Int.toNat_natCast,List.take_length])
theorem builderLen_spec (b:Nat) (l:List UInt8) (H:Heap) (hB:BH b l H):LCalls (KC B0 w0) 117 [ptr b 0] H (fun r H'=>r=.ret (int .i64 l.length)∧H'=H):=by
 obtain ⟨p,v,Hv,hp,hacc,rfl⟩:=hB
 refine cI Tryz.func117 rfl (n:=8) rfl rfl rfl ?_
 refine gab ?_
 refine oP (Pure.blen rfl hacc) rfl ?_
 refine gae ?_
 exact rR rfl (rC (rT (v:=.atom _) rfl (LV.Sub.refl _)) rN) (zhR _) ⟨rfl,rfl⟩
theorem writeByte_spec (b:Nat) (l:List UInt8) (c:UInt8) (H:Heap) (hB:BH b l H) (hlen:l.length≤10000000000):LCalls (KC B0 w0) 120 [ptr b 0,int .u8 c.toNat] H (fun r H'=>(∃ x,r=.ret x)∧BH b (l++[c]) H'):=by
 obtain ⟨p,v,Hv,hp,hacc,rfl⟩:=hB
 refine cI Tryz.func120 rfl (n:=17) rfl rfl rfl ?_
 refine gaa ?_
 refine oS (S.callH (H1:=[(b,_)]) (F:=Hv) [_] rfl (List.Perm.refl _) (copyCheck_spec b p (.atom v) hp) (fun x H' h=>?_) (fun ch H' h=>?_)) rfl
 ·obtain ⟨⟨x',hx'⟩,rfl⟩:=h
  cases hx'
  refine gab ?_
  refine oS (sL [_] rfl (zeC rfl rfl eN) rfl rfl rfl ?_) rfl
  refine oS (S.appBL1 (q:=(b,.cells 126 [ptr b 0,.atom v])) (l:=l) (m:=[c]) rfl hacc rfl (by simp) (by simp;omega) fun v' H' hacc'=>?_) rfl
  refine gac ?_
  have hacc2:=hacc'
  generalize l++[c]=lm at hacc' hacc2 ⊢
  cases hacc' with
  |nil=>
   refine gaa ?_
   exact rR rfl (rC (rT (v:=.atom _) rfl (LV.Sub.refl _)) rN) (zhR _) ⟨⟨_,rfl⟩,ptr b 0,_,_,.inr rfl,hacc2,rfl⟩
  |row h0 h1 h2=>
   refine gaa ?_
   exact rR rfl (rC (rT (v:=.atom _) rfl (LV.Sub.refl _)) rN) (zhR _) ⟨⟨_,rfl⟩,ptr b 0,_,_,.inr rfl,hacc2,rfl⟩
 ·obtain ⟨⟨x',hx'⟩,_⟩:=h
  cases hx'
end
end Asm
end Go.Proofs.YtpbbgkoalnonoaaGreatDoor
namespace Go.GL
variable {C:Ctx} {dst:Option Nat} {ty:TypeId} {pos:String} {aft:Array Edge} {g:Option (Nat×Bool)} {e:Env} {H:Heap} {K:LV→Heap→Prop} {X:List PanicEntry→Heap→Prop}
theorem S.setPut {t kt el:TypeId} (ht:C.P.underlying t=some (.map kt el)) (hkt:C.P.underlying kt=some .string) {b clock:Nat} {es:Array MapEntry} {p:List UInt8→Bool} {F:Heap} {m z:Operand} {x:Operand} {k:List UInt8} (hm:e.ev m=.atom (.map (some b))) (hx:e.ev x=str k) (hz:e.ev z=bool true)
  (hp:Pick (b,.obj (.map es clock)) H F) (hs:SetMap es p) (hk:∀ es' clock',SetMap es' (fun s=>p s || decide (s=k))→K (.atom undef) ((b,.obj (.map es' clock'))::F)):LStep C ⟨dst,.mapUpdate t m x z,ty,pos,aft,g⟩ e H K X:=
 fun ρ w L h hH=>(S.setAdd (dst:=dst) (ty:=ty) (pos:=pos) (aft:=aft) (g:=g) (X:=X) ht hkt hm hx hz hp hs hk) ρ w L h hH
end Go.GL
namespace Go.Proofs.YtpbbgkoalnonoaaGreatDoor.Asm
open Go.GL Go.RowKit Go.Stele
abbrev txt (l:List (Wd×Nat)):List Wd:=l.map (·.1)
theorem txt_take {l:List (Wd×Nat)} {i:Nat} (h:i<l.length):txt (l.take (i+1))=txt (l.take i)++[l[i].1]:=by
 unfold txt
 rw[List.take_succ_eq_append_getElem h,zMa]
 rfl
theorem defs_some {a:List Wd} {w d:Wd} (h:defW w=some d):defs (a++[w])=defs a++[d]:=by
 rw[defs_app,defs_cons,h]
 rfl
theorem defs_no {a:List Wd} {w:Wd} (h:defW w=none):defs (a++[w])=defs a:=by
 rw[defs_app,defs_none h]
 simp[defs]
theorem set_nil:SetMap #[] (fun s=>decide (s∈([]:List Wd))):=⟨fun e he=>by simp at he,fun s h=>by simp at h⟩
theorem set_snoc {es:Array MapEntry} {ds:List Wd} {d:Wd} (h:SetMap es (fun s=>decide (s∈ds) || decide (s=d))):SetMap es (fun s=>decide (s∈ds++[d])):=
 cast (congrArg (SetMap es) (funext fun s=>by simp)) h
attribute [local irreducible] LOps LCode LStep LCalls Go.GL.Pure QThen QBlock RetPost LQ LAny LLate LLateOp
section
variable {B0:Nat} {w0:World}
theorem tokens_spec (hG:GW B0 w0) (hM:GM w0) (s:List UInt8) (hs:s.length≤400000000):LCalls (KC B0 w0) 57 [str s] [] (Ret (.list ((toksP s).map tokLV))):=by
 have hP:toksP s=toksN 0 (pieces 10 s):=rfl
 have hpl:=pieces_len 10 s
 have hpa:((pieces 10 s).map str).length=(pieces 10 s).length:=zLm _
 have htl:(toksP s).length≤s.length+1:=by
  have h1:=wordsP_len s
  rw[←toksP_fst,zLm] at h1
  exact h1
 have hsp:=split_spec hG hM s 10 zo
 refine cI Tryz.func57 rfl (n:=41) rfl rfl rfl ?_
 refine gaa ?_
 refine oS (sF [_,_] rfl hsp ?_) rfl
 refine gad ?_
 refine oL (fun k ls H=>∃ (i:Nat) (out:List (Wd×Nat)) (v:LV),i≤(pieces 10 s).length∧k=(pieces 10 s).length-i∧ls=[(3,v),(9,.list ((pieces 10 s).map str)),(10,int .i64 (pieces 10 s).length),(11,int .i64 (i:Nat))]∧Acc 2 v (out.map tokLV) H []∧out++toksN i ((pieces 10 s).drop i)=toksP s)
  ⟨_,_,_,⟨0,[],nilSlice,Nat.zero_le _,rfl,rfl,Acc.nil,rfl⟩,⟨rfl,rfl,int_eq zo,rfl,trivial⟩,zhR _⟩ ?_
 rintro k ls H ⟨i,out,v,hi,rfl,rfl,hacc,hE⟩ j hj
 refine gah ?_
 refine oC rfl (fun hc=>?_) (fun hc=>?_)
 ·have hlt:i<(pieces 10 s).length:=by have:=zt hc;omega
  have hlo:out.length≤(toksP s).length:=by rw[←hE,zLa];omega
  rw[toksN_drop hlt] at hE
  have hll:=pieces_mem_len (List.getElem_mem hlt)
  have hc1:=cut_spec hG hM (pieces 10 s)[i] 35 zo
  have hW:lineW (pieces 10 s)[i]=full (pieces 32 ((pieces 10 s)[i].takeWhile fun d=>decide (d≠35))):=rfl
  have htw:((pieces 10 s)[i].takeWhile fun d=>decide (d≠35)).length≤(pieces 10 s)[i].length:=(List.takeWhile_prefix _).length_le
  have hs2:=split_spec hG hM ((pieces 10 s)[i].takeWhile fun d=>decide (d≠35)) 32 zo
  have hql:=pieces_len 32 ((pieces 10 s)[i].takeWhile fun d=>decide (d≠35))
  generalize (pieces 10 s)[i].takeWhile (fun d=>decide (d≠35))=line at hc1 hW htw hs2 hql
  generalize hq:pieces 32 line=q at hW hs2 hql
  have hqa:(q.map str).length=q.length:=zLm _
  repeat (first|refine LOps.nil ?_|refine qN ?_|refine LCode.skip ?_)
  refine LCode.seq ?_
  refine LCode.midC (A:=List (Wd×Nat)×LV×Heap) (fun a=>[(3,a.2.1),(9,.list ((pieces 10 s).map str)),(10,int .i64 (pieces 10 s).length),(11,int .i64 (i:Nat))]) (fun a=>a.2.2) (fun a=>a.1=out++(full q).map (fun w=>(w,i+1))∧Acc 2 a.2.1 (a.1.map tokLV) a.2.2 []) ?_ ?_
  ·refine gaa ?_
   refine oP (xR (el':=str (pieces 10 s)[i]) (cs:=[str (pieces 10 s)[i]]) rfl rfl zo (map_get _ _ _ hlt) rfl rfl) rfl ?_
   refine gab ?_
   refine oS (S.fnIf [_,_] rfl hc1 ?_) rfl
   rintro lv ⟨a,b,rfl⟩
   refine gaa ?_
   refine oS (sF [_,_] rfl hs2 ?_) rfl
   refine gad ?_
   refine oL (fun k ls H=>∃ (x:Nat) (out2:List (Wd×Nat)) (v:LV),x≤q.length∧k=q.length-x∧ls=[(3,v),(4,int .i64 (i:Nat)),(9,.list ((pieces 10 s).map str)),(10,int .i64 (pieces 10 s).length),(11,int .i64 (i:Nat)),(23,.list (q.map str)),(24,int .i64 q.length),(25,int .i64 (x:Nat))]∧Acc 2 v (out2.map tokLV) H []∧out2.length≤out.length+x∧out2++(full (q.drop x)).map (fun w=>(w,i+1))=out++(full q).map (fun w=>(w,i+1)))
    ⟨_,_,_,⟨0,out,v,Nat.zero_le _,rfl,rfl,hacc,by omega,rfl⟩,⟨rfl,rfl,rfl,rfl,rfl,rfl,int_eq zo,rfl,trivial⟩,zhR _⟩ ?_
   rintro k ls H ⟨x,out2,v2,hx,rfl,rfl,hacc2,hlen2,hE2⟩ j2 hj2
   have hol2:(out2.map tokLV).length=out2.length:=zLm _
   refine gah ?_
   refine oC rfl (fun hc=>?_) (fun hc=>?_)
   ·have hlt2:x<q.length:=by have:=zt hc;omega
    rw[full_drop hlt2] at hE2
    refine gak ?_
    refine oP (xR (el':=str q[x]) (cs:=[str q[x]]) rfl rfl zo (map_get _ _ _ hlt2) rfl rfl) rfl ?_
    refine gab ?_
    refine oC rfl (fun hn=>?_) (fun hn=>?_)
    ·have hne:¬ q[x]=[]:=by simpa using hn
     rw[if_neg hne] at hE2
     refine gaf ?_
     refine oP (pM (lv:=v2) rfl) rfl ?_
     refine gac ?_
     refine oS (sL [_] rfl (zeC rfl rfl eN) rfl rfl rfl ?_) rfl
     refine oS (S.acc rfl hacc2 rfl (by simp;rfl) rfl (by simp;omega) fun v3 H3 hacc3=>?_) rfl
     refine oP (pA (lv:=v3) rfl) rfl ?_
     refine gal ?_
     exact ⟨_,_,_,by omega,⟨x+1,out2++[(q[x],i+1)],v3,by omega,rfl,rfl,by rw[zMa];exact hacc3,by simp;omega,by rw[zAs];exact hE2⟩,⟨rfl,rfl,rfl,rfl,rfl,rfl,rfl,int_eq zo,trivial⟩,zhR _,hj2⟩
    ·have hne:q[x]=[]:=by simpa using hn
     rw[if_pos hne] at hE2
     refine gaa ?_
     exact ⟨_,_,_,by omega,⟨x+1,out2,v2,by omega,rfl,rfl,hacc2,by omega,hE2⟩,⟨rfl,rfl,rfl,rfl,rfl,rfl,rfl,int_eq zo,trivial⟩,zhR _,hj2⟩
   ·have hx':x=q.length:=by have:=zf hc;omega
    subst hx'
    rw[List.drop_length] at hE2
    refine gad ?_
    exact ⟨(out2,v2,H),⟨by simpa [full] using hE2,hacc2⟩,⟨rfl,rfl,rfl,rfl,trivial⟩,zhR _,hj2⟩
  ·rintro ⟨out2,v2,H2⟩ ⟨ho,hacc2⟩ j3 hj3
   simp only at ho hacc2
   rw[hW,←zAs,←ho] at hE
   refine gal ?_
   exact ⟨_,_,_,by omega,⟨i+1,out2,v2,by omega,rfl,rfl,hacc2,by rw[←hE]⟩,⟨rfl,rfl,rfl,int_eq zo,trivial⟩,zhR _,hj3.trans hj⟩
 ·have hi':i=(pieces 10 s).length:=by have:=zf hc;omega
  subst hi'
  rw[List.drop_length,toksN,zLz] at hE
  subst hE
  refine LCode.sub (d:=3) (v:=v) rfl hacc.sub ?_
  refine LCode.weak zhn ?_
  refine gab ?_
  exact retRet hj (rC (rT (v:=.list _) rfl zsr) rN) rfl
end
theorem errT_def {all met:List Wd} {p:Wd×Nat} {x:Wd} {r:List (Wd×Nat)} (h:defW p.1=some x):errT all met (p::r)=if x∈met then (p.2,8) else errT all (met++[x]) r:=by
 obtain ⟨w,ln⟩:=p
 simp only at h
 rw[errT,h]
theorem errT_ref {all met:List Wd} {p:Wd×Nat} {x:Wd} {r:List (Wd×Nat)} (h:defW p.1=none) (h2:refW p.1=some x):errT all met (p::r)=if x∈all then errT all met r else (p.2,7):=by
 obtain ⟨w,ln⟩:=p
 simp only at h h2
 rw[errT,h,h2]
theorem errT_code {all met:List Wd} {p:Wd×Nat} {r:List (Wd×Nat)} (h:defW p.1=none) (h2:refW p.1=none):errT all met (p::r)=if codeW p.1=true then errT all met r else (p.2,3):=by
 obtain ⟨w,ln⟩:=p
 simp only at h h2
 rw[errT,h,h2]
section
variable {B0:Nat} {w0:World}
theorem check_spec (l:List (Wd×Nat)) (hl:l.length≤1000000000) (hs:∀ p∈l,p.1.length≤1000000000):LCalls (KC B0 w0) 58 [.list (l.map tokLV)] [] (Ret (.tuple [int .i64 ((errT (defs (txt l)) [] l).1:Nat),int .i64 ((errT (defs (txt l)) [] l).2:Nat)])):=by
 have hla:(l.map tokLV).length=l.length:=zLm _
 have zb:∀ w,(zeroValue 4).run (KC B0 w0).P w=.ok (.bool false) w:=fun w=>(Go.zero_of_info (P:=Tryz.prog) (n:=1) zk).1 w
 generalize hR:errT (defs (txt l)) [] l=R
 refine cI Tryz.func58 rfl (n:=70) rfl rfl rfl ?_
 refine gai ?_
 refine oS (S.makeMap fun m=>?_) rfl
 refine gaa ?_
 refine oL (fun k ls H=>∃ (i:Nat) (es:Array MapEntry) (clock:Nat),i≤l.length∧k=l.length-i∧ls=[(0,.list (l.map tokLV)),(4,.atom (.map (some m))),(17,.list (l.map tokLV)),(18,int .i64 l.length),(19,int .i64 (i:Nat))]∧H=[(m,.obj (.map es clock))]∧SetMap es (fun s=>decide (s∈defs (txt (l.take i)))))
  ⟨_,_,_,⟨0,#[],0,Nat.zero_le _,rfl,rfl,rfl,set_nil⟩,⟨rfl,rfl,rfl,int_eq zo,rfl,trivial⟩,zhR _⟩ ?_
 rintro k ls H ⟨i,es,clock,hi,rfl,rfl,rfl,hM⟩ j1 hj1
 refine gah ?_
 refine oC rfl (fun hc=>?_) (fun hc=>?_)
 ·have hlt:i<l.length:=by have:=zt hc;omega
  have kd:=asmDef_spec (B0:=B0) (w0:=w0) l[i] (by have:=hs _ (List.getElem_mem hlt);omega)
  have htt:=txt_take hlt
  refine gak ?_
  refine oP (xR (el':=tokLV l[i]) (cs:=[_,_]) rfl rfl zo (map_get _ _ _ hlt) rfl rfl) rfl ?_
  refine gac ?_
  refine oS (sA fun b6=>?_) rfl
  refine gab ?_
  refine oS (S.fnIf [_] rfl kd ?_) rfl
  rintro lv ⟨s,rfl,hs2⟩
  refine gaa ?_
  refine oC rfl (fun h=>?_) (fun h=>?_)
  ·obtain ⟨d,hd⟩:=Option.isSome_iff_exists.1 h
   obtain rfl:=hs2 d hd
   refine gaj ?_
   refine oS (S.setPut (t:=110) (kt:=9) (el:=4) zk zk rfl rfl rfl zp1 hM fun es' clock' hM'=>?_) rfl
   refine gal ?_
   exact ⟨_,_,_,by omega,⟨i+1,es',clock',by omega,rfl,rfl,rfl,by rw[htt,defs_some hd];exact set_snoc hM'⟩,⟨rfl,rfl,rfl,rfl,int_eq zo,trivial⟩,⟨[_],List.Perm.refl _⟩,hj1⟩
  ·have hn:defW l[i].1=none:=by
    cases ho:defW l[i].1 with
    |none=>rfl
    |some d=>rw[ho] at h;cases h
   refine gaa ?_
   exact ⟨_,_,_,by omega,⟨i+1,es,clock,by omega,rfl,rfl,rfl,by rw[htt,defs_no hn];exact hM⟩,⟨rfl,rfl,rfl,rfl,int_eq zo,trivial⟩,zhD zhr,hj1⟩
 ·have hi':i=l.length:=by have:=zf hc;omega
  subst hi'
  rw[List.take_length] at hM
  refine gaa ?_
  refine oS (S.makeMap fun m2=>?_) rfl
  refine gaa ?_
  refine oL (fun k ls H=>∃ (i:Nat) (es2:Array MapEntry) (clock2:Nat),i≤l.length∧k=l.length-i∧ls=[(4,.atom (.map (some m))),(9,.atom (.map (some m2))),(33,.list (l.map tokLV)),(34,int .i64 l.length),(35,int .i64 (i:Nat))]∧H=[(m2,.obj (.map es2 clock2)),(m,.obj (.map es clock))]∧SetMap es2 (fun s=>decide (s∈defs (txt (l.take i))))∧errT (defs (txt l)) (defs (txt (l.take i))) (l.drop i)=R)
   ⟨_,_,_,⟨0,#[],0,Nat.zero_le _,rfl,rfl,rfl,set_nil,hR⟩,⟨rfl,rfl,rfl,int_eq zo,rfl,trivial⟩,zhR _⟩ ?_
  rintro k ls H ⟨i,es2,clock2,hi,rfl,rfl,rfl,hM2,hE⟩ j2 hj2
  refine gah ?_
  refine oC rfl (fun hc=>?_) (fun hc=>?_)
  ·have hlt:i<l.length:=by have:=zt hc;omega
   have hsl:=hs _ (List.getElem_mem hlt)
   have kd:=asmDef_spec (B0:=B0) (w0:=w0) l[i] zo
   have kr:=asmRef_spec (B0:=B0) (w0:=w0) l[i] zo
   have kc:=asmCode_spec (B0:=B0) (w0:=w0) l[i] zo
   have htt:=txt_take hlt
   rw[List.drop_eq_getElem_cons hlt] at hE
   refine gak ?_
   refine oP (xR (el':=tokLV l[i]) (cs:=[_,_]) rfl rfl zo (map_get _ _ _ hlt) rfl rfl) rfl ?_
   refine gac ?_
   refine oS (sA fun b11=>?_) rfl
   refine gab ?_
   refine oS (S.fnIf [_] rfl kd ?_) rfl
   rintro lv ⟨s,rfl,hs2⟩
   refine gaa ?_
   refine oC rfl (fun h=>?_) (fun h=>?_)
   ·obtain ⟨d,hd⟩:=Option.isSome_iff_exists.1 h
    obtain rfl:=hs2 d hd
    refine gaj ?_
    refine oP (Pure.setGet (t:=110) (kt:=9) (el:=4) zk zk zb rfl rfl zm1 hM2) rfl ?_
    refine gae ?_
    refine oC rfl (fun h3=>?_) (fun h3=>?_)
    ·have hin:=zt h3
     refine gaa ?_
     rw[errT_def hd,if_pos hin] at hE
     exact retRet (hj2.trans hj1) (rC (zrt rfl) (zra rfl)) (by rw[←hE];rfl)
    ·have hin:=zf h3
     refine gaa ?_
     refine oS (S.setPut (t:=110) (kt:=9) (el:=4) zk zk rfl rfl rfl zp1 hM2 fun es' clock' hM'=>?_) rfl
     refine gal ?_
     exact ⟨_,_,_,by omega,⟨i+1,es',clock',by omega,rfl,rfl,rfl,by rw[htt,defs_some hd];exact set_snoc hM',by rw[htt,defs_some hd,←hE,errT_def hd,if_neg hin]⟩,⟨rfl,rfl,rfl,rfl,int_eq zo,trivial⟩,⟨[_],List.Perm.cons _ (List.Perm.swap ..)⟩,hj2⟩
   ·have hn:defW l[i].1=none:=by
     cases ho:defW l[i].1 with
     |none=>rfl
     |some d=>rw[ho] at h;cases h
    refine gab ?_
    refine oS (S.fnIf [_] rfl kr ?_) rfl
    rintro lv ⟨s,rfl,hs3⟩
    refine gaa ?_
    refine oC rfl (fun h3=>?_) (fun h3=>?_)
    ·obtain ⟨d,hd⟩:=Option.isSome_iff_exists.1 h3
     obtain rfl:=hs3 d hd
     refine gaj ?_
     refine oP (Pure.setGet (t:=110) (kt:=9) (el:=4) zk zk zb rfl rfl zm2 hM) rfl ?_
     refine gad ?_
     refine oC rfl (fun h4=>?_) (fun h4=>?_)
     ·have hin:¬ s∈defs (txt l):=by simpa using h4
      refine gaa ?_
      rw[errT_ref hn hd,if_neg hin] at hE
      exact retRet (hj2.trans hj1) (rC (zrt rfl) (zra rfl)) (by rw[←hE];rfl)
     ·have hin:s∈defs (txt l):=by simpa using h4
      refine gaa ?_
      exact ⟨_,_,_,by omega,⟨i+1,es2,clock2,by omega,rfl,rfl,rfl,by rw[htt,defs_no hn];exact hM2,by rw[htt,defs_no hn,←hE,errT_ref hn hd,if_pos hin]⟩,⟨rfl,rfl,rfl,rfl,int_eq zo,trivial⟩,zhD zhr,hj2⟩
    ·have hrn:refW l[i].1=none:=by
      cases ho:refW l[i].1 with
      |none=>rfl
      |some d=>rw[ho] at h3;cases h3
     refine gab ?_
     refine oS (sF [_] rfl kc ?_) rfl
     refine gad ?_
     refine oC rfl (fun h4=>?_) (fun h4=>?_)
     ·have hin:¬ codeW l[i].1=true:=by simpa using h4
      refine gaa ?_
      rw[errT_code hn hrn,if_neg hin] at hE
      exact retRet (hj2.trans hj1) (rC (zrt rfl) (zra rfl)) (by rw[←hE];rfl)
     ·have hin:codeW l[i].1=true:=by simpa using h4
      refine gaa ?_
      exact ⟨_,_,_,by omega,⟨i+1,es2,clock2,by omega,rfl,rfl,rfl,by rw[htt,defs_no hn];exact hM2,by rw[htt,defs_no hn,←hE,errT_code hn hrn,if_pos hin]⟩,⟨rfl,rfl,rfl,rfl,int_eq zo,trivial⟩,zhD zhr,hj2⟩
  ·have hi':i=l.length:=by have:=zf hc;omega
   subst hi'
   rw[List.drop_length,errT] at hE
   refine gaa ?_
   exact retRet (hj2.trans hj1) (rC (zrt rfl) (zra rfl)) (by rw[←hE];rfl)
end
end Go.Proofs.YtpbbgkoalnonoaaGreatDoor.Asm
namespace Go.Proofs.YtpbbgkoalnonoaaGreatDoor.Asm
open Go.GL Go.RowKit Go.Stele
def Known (km:Option Nat) (Hk:Heap) (kn:Wd→Nat):Prop:=(km=none∧Hk=[]∧∀ x,kn x=0)∨∃ b m clock,km=some b∧Hk=[(b,.map (kvs m) clock)]∧∀ x,(GL.kvGet m x).getD (int .i64 0)=int .i64 (kn x:Nat)
section
variable {C:Ctx} {e:Env} {H:Heap} {dst:Option Nat} {ty:TypeId} {pos:String} {aft:Array Edge} {g:Option (Nat×Bool)} {K:LV→Heap→Prop} {X:List PanicEntry→Heap→Prop} {x y:Operand}
theorem S.known {t kt el:TypeId} (ht:C.P.underlying t=some (.map kt el)) (hkt:C.P.underlying kt=some .string) (hz:∀ w,(zeroValue el).run C.P w=.ok (.int .i64 0) w) {km:Option Nat} {Hk:Heap} {kn:Wd→Nat} {k:List UInt8} (hK:Known km Hk kn) (hm:e.ev x=.atom (.map km)) (hx:e.ev y=str k)
  (hb:∀ q∈Hk,q∈H) (hk:K (int .i64 (kn k:Nat)) H):LStep C ⟨dst,.lookup t x y false,ty,pos,aft,g⟩ e H K X:=by
 rcases hK with ⟨rfl,rfl,h0⟩|⟨b,m,clock,rfl,rfl,hI⟩
 ·refine Pure.step (Pure.nilGet ht hkt hz hm hx) ?_
  rw[h0 k] at hk
  exact hk
 ·refine Pure.step (Pure.kvGet ht hkt hz (zl:=int .i64 0) (fun _ _=>rep_atom) hm hx (hb _ (List.mem_singleton.2 rfl))) ?_
  rw[hI k]
  exact hk
end
theorem sub_mid {a b:Heap} {q:Nat×LObj}:HSub (a++b) (a++q::b):=⟨[q],List.perm_middle.trans (List.perm_append_singleton _ _).symm⟩
theorem sub_mid' {a b:Heap} {q:Nat×LObj}:HSub (a++b) ((a++[q])++b):=by
 rw[zAs]
 exact sub_mid
theorem add_eq2 (a b:Nat):int .i64 ((a+b:Nat):Int)=int .i64 ((a:Int)+(b:Nat)):=int_eq zo
theorem perm_acc {a b:Heap} {q:Nat×LObj}:(a++q::b).Perm (b++(a++[q])):=by
 have h:=zPc (l₁:=a++[q]) (l₂:=b)
 rw[zAs] at h
 exact h
theorem acc_sub {s:Nat} {v:LV} {es:List LV} {a H F:Heap} (h:Acc s v es H F):HSub (a++F) (a++H):=by
 cases h with
 |nil=>exact zhR _
 |row=>exact sub_mid
theorem fold_le (kn:Wd→Nat) (og:Nat) (l:List Wd) (t:Wd) (labs:List (Wd×Nat)) (h:∀ w∈l,w≠[]):t.length≤(l.foldl (stepA kn og) (t,labs)).1.length:=by
 rw[stepA_fst,foldT_len kn l t h]
 omega
theorem fold_labs (kn:Wd→Nat) (og:Nat):∀ (l:List Wd) (s:Wd×List (Wd×Nat)),s.2.length≤((l.foldl (stepA kn og) s).2).length∧((l.foldl (stepA kn og) s).2).length≤s.2.length+l.length
 |[],s=>by simp
 |w::r,s=>by
  rw[List.foldl_cons]
  have:=fold_labs kn og r (stepA kn og s w)
  have h2:s.2.length≤(stepA kn og s w).2.length∧(stepA kn og s w).2.length≤s.2.length+1:=by
   unfold stepA
   cases defW w with
   |some x=>simp
   |none=>simp
  simp only[zLc]
  omega
theorem last_nil:lastD []=isDigit 32:=by decide
attribute [local irreducible] LOps LCode LStep LCalls Go.GL.Pure QThen QBlock RetPost LQ LAny LLate LLateOp
section
variable {B0:Nat} {w0:World}
theorem joined_ex (hG:GW B0 w0) (l:List (Wd×Nat)) (og:Nat) (hog:og≤1000000) (hl:l.length≤1000000000) (hs:∀ p∈l,p.1≠[]∧p.1.length≤1000000000) (kn:Wd→Nat) (hkn:∀ x,kn x≤1000000000000) (hL:((txt l).foldl (stepA kn og) ([],[])).1.length≤2000000000) (km:Option Nat) (Hk:Heap) (hK:Known km Hk kn) :
  LCalls (KC B0 w0) 59 [.list (l.map tokLV),int .i64 (og:Nat),.atom (.map km)] Hk (fun r H'=>r=.ret (.tuple [str ((txt l).foldl (stepA kn og) ([],[])).1,.list (((txt l).foldl (stepA kn og) ([],[])).2.map tokLV)])∧H'=Hk):=by
 have hla:(l.map tokLV).length=l.length:=zLm _
 have zi:∀ w,(zeroValue 3).run (KC B0 w0).P w=.ok (.int .i64 0) w:=fun w=>(Go.zero_of_info (P:=Tryz.prog) (n:=1) zk).1 w
 have hne0:∀ i,∀ w∈txt (l.drop i),w≠[]:=fun i w hw=>by
  obtain ⟨p,hp,rfl⟩:=List.mem_map.1 hw
  exact (hs p (List.mem_of_mem_drop hp)).1
 generalize hR:(txt l).foldl (stepA kn og) ([],[])=R at hL ⊢
 refine cI Tryz.func59 rfl (n:=68) rfl rfl rfl ?_
 refine gai ?_
 refine oS (sA fun bb=>?_) rfl
 refine gaa ?_
 refine oL (fun k ls H=>∃ (i:Nat) (t:List UInt8) (labs:List (Wd×Nat)) (v:LV) (last:UInt8) (HB HL:Heap),i≤l.length∧k=l.length-i∧ls=[(1,int .i64 (og:Nat)),(2,.atom (.map km)),(8,ptr bb 0),(9,v),(10,int .u8 last.toNat),(18,.list (l.map tokLV)),(19,int .i64 l.length),(20,int .i64 (i:Nat))]∧H=HB++HL∧BH bb t HB∧Acc 2 v (labs.map tokLV) HL Hk∧lastD t=isDigit last∧labs.length≤i∧(txt (l.drop i)).foldl (stepA kn og) (t,labs)=R)
  ⟨_,_,_,⟨0,[],[],nilSlice,32,[(bb,.cells 126 [.atom (.pointer none),.atom (.slice none 0 0)])],Hk,Nat.zero_le _,rfl,rfl,rfl,⟨_,_,[],.inl rfl,BRow.nil,rfl⟩,Acc.nil,last_nil,Nat.zero_le _,hR⟩,⟨rfl,rfl,rfl,rfl,rfl,rfl,int_eq zo,rfl,trivial⟩,zhR _⟩ ?_
 rintro k ls H ⟨i,t,labs,v,last,HB,HL,hi,rfl,rfl,rfl,hB,hacc,hla2,hll,hE⟩ j hj
 have hol:(labs.map tokLV).length=labs.length:=zLm _
 have htR:=fold_le kn og (txt (l.drop i)) t labs (hne0 i)
 rw[hE] at htR
 refine gah ?_
 refine oC rfl (fun hc=>?_) (fun hc=>?_)
 ·have hlt:i<l.length:=by have:=zt hc;omega
  obtain ⟨hne,hsl⟩:=hs _ (List.getElem_mem hlt)
  have kd:=asmDef_spec (B0:=B0) (w0:=w0) l[i] zo
  have kr:=asmRef_spec (B0:=B0) (w0:=w0) l[i] zo
  have hdr:txt (l.drop i)=l[i].1::txt (l.drop (i+1)):=by
   unfold txt
   rw[List.drop_eq_getElem_cons hlt,zMc]
  rw[hdr,List.foldl_cons] at hE
  refine gak ?_
  refine oP (xR (el':=tokLV l[i]) (cs:=[_,_]) rfl rfl zo (map_get _ _ _ hlt) rfl rfl) rfl ?_
  refine gac ?_
  refine oS (sA fun b12=>?_) rfl
  refine gab ?_
  refine oS (S.fnIf [_] rfl kd ?_) rfl
  rintro lv ⟨s,rfl,hs2⟩
  refine gaa ?_
  refine oC rfl (fun h=>?_) (fun h=>?_)
  ·obtain ⟨d,hd⟩:=Option.isSome_iff_exists.1 h
   obtain rfl:=hs2 d hd
   have hst:stepA kn og (t,labs) l[i].1=(t,labs++[(s,og+t.length)]):=by unfold stepA;rw[hd]
   rw[hst] at hE
   refine gaf ?_
   refine oP (pM (lv:=v) rfl) rfl ?_
   refine gav ?_
   refine oS (S.callH (H1:=HB) (F:=(b12,.cells 208 [str l[i].1,int .i64 l[i].2])::HL) [_] rfl List.perm_middle.symm (builderLen_spec bb t HB hB) (fun v' H' h=>?_) (fun ch H' h=>by obtain ⟨h,_⟩:=h;cases h)) rfl
   obtain ⟨hv,rfl⟩:=h
   cases hv
   refine gac ?_
   refine oS (sL [_] rfl (zeC rfl rfl eN) rfl rfl rfl ?_) rfl
   refine oS (S.accF (H1:=HL) (A:=H'++[(b12,.cells 208 [str l[i].1,int .i64 l[i].2])]) perm_acc rfl hacc rfl (by simp;rfl) rfl (by simp;omega) fun v' H2 hacc'=>?_) rfl
   refine oP (pA (lv:=v') rfl) rfl ?_
   refine gaa ?_
   exact ⟨_,_,_,by omega,⟨i+1,t,labs++[(s,og+t.length)],v',last,H',H2,by omega,rfl,rfl,rfl,hB,by
    rw[zMa]
    have e1:[tokLV (s,og+t.length)]=[LV.agg [str s,int .i64 ((og:Int)+(t.length:Nat))]]:=by
     unfold tokLV
     rw[add_eq2]
    rw[List.map_singleton,e1]
    exact hacc',hla2,by simp;omega,hE⟩,⟨rfl,rfl,rfl,rfl,rfl,rfl,rfl,int_eq zo,trivial⟩,sub_mid',hj⟩
  ·have hn:defW l[i].1=none:=by
    cases ho:defW l[i].1 with
    |none=>rfl
    |some d=>rw[ho] at h;cases h
   have hst:stepA kn og (t,labs) l[i].1=(addT kn t l[i].1,labs):=by unfold stepA;rw[hn]
   obtain ⟨hp0,hp1,hp2⟩:=addT_nil kn t l[i].1 hn hne
   have hadd:addT kn t l[i].1=t++(if lastD t && firstD (pieceW kn l[i].1) then [32] else [])++pieceW kn l[i].1:=by unfold addT;rw[hn]
   have htR2:=fold_le kn og (txt (l.drop (i+1))) (addT kn t l[i].1) labs (hne0 (i+1))
   rw[hst] at hE
   rw[hE] at htR2
   refine LCode.midC (A:=Wd) (fun s=>[(1,int .i64 (og:Nat)),(2,.atom (.map km)),(8,ptr bb 0),(9,v),(10,int .u8 last.toNat),(13,str s),(18,.list (l.map tokLV)),(19,int .i64 l.length),(20,int .i64 (i:Nat))]) (fun _=>(b12,.cells 208 [str l[i].1,int .i64 l[i].2])::(HB++HL)) (fun s=>s=pieceW kn l[i].1) ?_ ?_
   ·refine gab ?_
    refine oS (S.fnIf [_] rfl kr ?_) rfl
    rintro lv ⟨s,rfl,hs3⟩
    refine gaa ?_
    refine oC rfl (fun h3=>?_) (fun h3=>?_)
    ·obtain ⟨d,hd⟩:=Option.isSome_iff_exists.1 h3
     obtain rfl:=hs3 d hd
     refine gaj ?_
     refine oS (S.known (t:=62) (kt:=9) (el:=3) zk zk zi hK rfl rfl (fun q hq=>zMo _ (List.mem_append_right _ (hacc.hsub.mem q hq))) ?_) rfl
     refine oS (sF [_] rfl (address_spec hG (kn s) (hkn s)) ?_) rfl
     refine gae ?_
     exact ⟨addrW (kn s),(by unfold pieceW;rw[hd]),⟨rfl,rfl,rfl,rfl,rfl,rfl,rfl,rfl,rfl,trivial⟩,zhR _,rfl⟩
    ·have hrn:refW l[i].1=none:=by
      cases ho:refW l[i].1 with
      |none=>rfl
      |some d=>rw[ho] at h3;cases h3
     refine gar ?_
     exact ⟨l[i].1,(by unfold pieceW;rw[hrn]),⟨rfl,rfl,rfl,rfl,rfl,rfl,rfl,rfl,rfl,trivial⟩,zhR _,rfl⟩
   rintro s hpc j2 hj2
   rw[←hpc] at hp0 hp1 hp2 hadd
   have hs0:=hp0
   have hone:=one_le (isDigit last && firstD s)
   obtain ⟨c,r,hcr⟩:=List.exists_cons_of_ne_nil hs0
   have hfc:firstD s=isDigit c:=by rw[hcr];rfl
   rw[hla2] at hadd hp2
   refine LCode.seq ?_
   refine LCode.midC (A:=Heap) (fun _=>[(1,int .i64 (og:Nat)),(2,.atom (.map km)),(8,ptr bb 0),(9,v),(10,int .u8 last.toNat),(13,str s),(18,.list (l.map tokLV)),(19,int .i64 l.length),(20,int .i64 (i:Nat))]) (fun HB'=>HB'++(b12,.cells 208 [str l[i].1,int .i64 l[i].2])::HL) (fun HB'=>BH bb (t++if (isDigit last && firstD s)=true then [32] else []) HB') ?_ ?_
   ·refine gaj ?_
    refine oS (sF [_] rfl (asmDigit_spec last) ?_) rfl
    refine gav ?_
    refine oB 52 rfl (fun h4=>?_) (fun h4=>?_)
    ·have h4':isDigit last=true:=h4
     rw[h4',Bool.true_and,hfc]
     refine gam ?_
     refine oP (Pure.sindex (c:=c) rfl rfl zo (by rw[hcr];rfl)) rfl ?_
     refine gam ?_
     refine oS (sF [_] rfl (asmDigit_spec c) ?_) rfl
     refine gad ?_
     refine oC rfl (fun h5=>?_) (fun h5=>?_)
     ·refine gaf ?_
      refine oS (S.callH (H1:=HB) (F:=(b12,.cells 208 [str l[i].1,int .i64 l[i].2])::HL) [_,_] rfl List.perm_middle.symm (writeByte_spec bb t 32 HB hB zo) (fun v' H' h=>?_) (fun ch H' h=>by obtain ⟨⟨x,h⟩,_⟩:=h;cases h)) rfl
      refine gae ?_
      exact ⟨H',by rw[if_pos h5];exact h.2,⟨rfl,rfl,rfl,rfl,rfl,rfl,rfl,rfl,rfl,trivial⟩,zhR _,rfl⟩
     ·refine gar ?_
      exact ⟨HB,by rw[if_neg (by rw[h5];decide),zLz];exact hB,⟨rfl,rfl,rfl,rfl,rfl,rfl,rfl,rfl,rfl,trivial⟩,⟨[],by simpa using List.perm_middle.symm⟩,rfl⟩
    ·have h4':isDigit last=false:=h4
     rw[h4',Bool.false_and]
     refine gae ?_
     refine oC rfl (fun h5=>by cases h5) (fun h5=>?_)
     refine gar ?_
     exact ⟨HB,by rw[if_neg zDd,zLz];exact hB,⟨rfl,rfl,rfl,rfl,rfl,rfl,rfl,rfl,rfl,trivial⟩,⟨[],by simpa using List.perm_middle.symm⟩,rfl⟩
   rintro HB' hB' j3 hj3
   have hsl3:=List.length_pos_iff.2 hs0
   have hget:s[((s.length:Int)-1).toNat]? = some (s.getLast hs0):=by
    rw[show ((s.length:Int)-1).toNat=s.length-1 by omega,List.getLast_eq_getElem,List.getElem?_eq_getElem zo]
   have hlast:lastD s=isDigit (s.getLast hs0):=by
    unfold lastD
    rw[List.getLast?_eq_some_getLast hs0]
   have htl:(t++if (isDigit last && firstD s)=true then [32] else []).length+s.length≤2000000000:=by
    have:(t++if (isDigit last && firstD s)=true then [32] else []).length=t.length+one (isDigit last && firstD s):=by
     rw[zLa]
     unfold one
     split <;> rfl
    omega
   rw[hadd] at hE hp1
   generalize (t++if (isDigit last && firstD s)=true then [32] else [])=t2 at hB' htl hE hp1
   refine gaj ?_
   refine oS (S.callH (H1:=HB') (F:=(b12,.cells 208 [str l[i].1,int .i64 l[i].2])::HL) [_,_] rfl zpr (writeString_spec bb t2 s HB' hB' zo) (fun v' H' h=>?_) (fun ch H' h=>by obtain ⟨⟨x,h⟩,_⟩:=h;cases h)) rfl
   obtain ⟨⟨x,hx⟩,hB2⟩:=h
   refine gab ?_
   refine oP (Pure.sindex (c:=s.getLast hs0) rfl rfl zo hget) rfl ?_
   refine gat ?_
   exact ⟨_,_,_,by omega,⟨i+1,t2++s,labs,v,s.getLast hs0,H',HL,by omega,rfl,rfl,rfl,hB2,hacc,by rw[hp1,hlast],by omega,hE⟩,⟨rfl,rfl,rfl,rfl,rfl,rfl,rfl,int_eq zo,trivial⟩,sub_mid,hj3.trans (hj2.trans hj)⟩
 ·have hi':i=l.length:=by have:=zf hc;omega
  subst hi'
  rw[List.drop_length] at hE
  have hE':(t,labs)=R:=hE
  subst hE'
  refine LCode.sub (d:=9) (v:=v) rfl hacc.sub ?_
  refine LCode.weak (acc_sub hacc) ?_
  refine gaa ?_
  refine oS (S.callH (H1:=HB) (F:=Hk) [_] rfl zpr (string_spec bb t HB hB zo) (fun v' H' h=>?_) (fun ch H' h=>by obtain ⟨h,_⟩:=h;cases h)) rfl
  obtain ⟨hv,rfl⟩:=h
  cases hv
  refine gac ?_
  exact rR hj (rC (zrt rfl) (rC (rT (v:=.list _) rfl zsr) rN)) zhr ⟨rfl,by simp⟩
end
end Go.Proofs.YtpbbgkoalnonoaaGreatDoor.Asm
namespace Go.GL
open Go.RowKit
theorem results4 {P:Program} {fn:Func} {r s t q:ResultVar} (h:fn.results=#[r,s,t,q]) {tmps:Array Value} {w:World} {v u x y:Value} (h1:(readRes tmps r).run P w=.ok v w) (h2:(readRes tmps s).run P w=.ok u w) (h3:(readRes tmps t).run P w=.ok x w) (h4:(readRes tmps q).run P w=.ok y w) :
  (results fn tmps).run P w=.ok (.tuple #[v,u,x,y]) w:=by
 have:results fn tmps=(do let v ←readRes tmps r;let u ←readRes tmps s;let x ←readRes tmps t;let y ←readRes tmps q;Pure.pure (.tuple #[v,u,x,y])):=by
  cases r <;> cases s <;> cases t <;> cases q <;> simp[results,h,readRes]
 rw[this,bind_run h1,bind_run h2,bind_run h3,bind_run h4]
 try rfl
theorem results_of4 {C:Ctx} {n:Nat} {fn:Func} {e:Env} {H:Heap} {a:Act} {w:World} {L:Live} (hE:RelE n a e w L) (hH:RelH C w L H) {vs:List LV}
  (h:AllRes C n e H fn.results.toList vs) (h3:fn.results.size=4):∃ v,(results fn a.tmps).run C.P w=.ok v w∧Rep w L (resLV vs) v:=by
 obtain ⟨rs,hrs⟩:∃ rs,fn.results=List.toArray rs:=⟨fn.results.toList,by simp⟩
 rw[hrs] at h h3
 simp only[List.size_toArray] at h h3
 match rs,vs,h,h3,hrs with
 |[r,s,t,q],[x,y,z,o],h,_,hrs=>
  obtain ⟨v1,g1,r1⟩:=h.1 a w L hE hH
  obtain ⟨v2,g2,r2⟩:=h.2.1 a w L hE hH
  obtain ⟨v3,g3,r3⟩:=h.2.2.1 a w L hE hH
  obtain ⟨v4,g4,r4⟩:=h.2.2.2.1 a w L hE hH
  exact ⟨_,results4 hrs g1 g2 g3 g4,by simp only[resLV,Rep];exact ⟨[v1,v2,v3,v4],rfl,by simp only[RepL];exact ⟨v1,_,rfl,r1,v2,_,rfl,r2,v3,_,rfl,r3,v4,_,rfl,r4,rfl⟩⟩⟩
 |[_,_,_,_],[],h,_,_=>exact h.elim
 |[_,_,_,_],[_],h,_,_=>exact h.2.elim
 |[_,_,_,_],[_,_],h,_,_=>exact h.2.2.elim
 |[_,_,_,_],[_,_,_],h,_,_=>exact h.2.2.2.elim
 |[_,_,_,_],_::_::_::_::_::_,h,_,_=>exact h.2.2.2.2.elim
theorem LCalls.intro4 {C:Ctx} {f:FuncId} {fn:Func} {c:Code} {n:Nat} {args:List LV} {H:Heap} {R:LRes→Heap→Prop} (hf:C.P.funcs[f]? = some fn) (hb:fn.body=some c) (hn:fn.ntmps=n) (h3:Nat.beq fn.results.size 4=true)
  (hl:Nat.ble args.length n=true) (h:LCode C n c (RetPost C n fn.results.toList R) (argsEnv args) H):LCalls C f args H R:=fun vs w L hv hH=>by
 subst hn
 have hl':args.length≤fn.ntmps:=by simpa using hl
 have h3':fn.results.size=4:=Nat.eq_of_beq_eq_true h3
 have hlen:=hv.length
 refine calls_of_wp hf hb (Go.wp_mono (h _ w L ⟨?_,rfl,fun i=>?_⟩ hH) fun ex a' w' hq=>?_)
 ·simp;omega
 ·exact zT10
 ·obtain ⟨e',H',L',g1,g2,g3,g4⟩:=hq
  have ret:RelE fn.ntmps a' e' w' L'→(e'.ds=[]∧∃ vs H'',AllRes C fn.ntmps e' H' fn.results.toList vs∧HSub H'' H'∧R (.ret (resLV vs)) H'') →
    a'.defers=[]∧∃ v,(results fn a'.tmps).run C.P w'=.ok v w'∧CallPost C w L H (fun v=>R (.ret v)) (fun ch=>R (.panic ch)) (.returned v) w':=fun hE hr=>by
   obtain ⟨h1,vs',H'',h2,h4,h5⟩:=hr
   obtain ⟨v,r1,r2⟩:=results_of4 hE g2 h2 h3'
   exact ⟨hE.ds.trans h1,v,r1,resLV vs',H'',L',g1.weak h4,g2.weak h4,r2,h5⟩
  cases ex with
  |normal=>exact ret g3 g4
  |ret=>exact ret g3 g4
  |panic ch=>
   obtain ⟨h1,H'',h4,h5⟩:=g4
   exact ⟨g3.trans h1,H'',L',g1.weak h4,g2.weak h4,h5⟩
  |exit id=>exact g4.elim
  |goto id=>exact g4.elim
  |outgrown=>exact g4.elim
end Go.GL
namespace Go.Stele
open Go.Lib
structure CC where
 sc:Nm→Wd
 ar:Nm→Wd
 t0:Wd
 t1:Wd
 t2:Wd
def greaterW (c:CC):List Wd:=[c.t2,[33],c.t1,[33],c.t2,[64],c.t1,[64],[60]]
def opW (c:CC) (op:Nm) (num:Nat) (name:Nm) (l:List (List Wd)):List Wd:=
 if op=nNum then [decDigits num]
 else if op=nVar then [c.sc name,[64]]
 else if op=nElem then c.ar name::(l.headD []++[[43],[64]])
 else if op=nCall then l.flatten++(if name=[105,110] then [[44]] else if name=[111,117,116] then [[46],[48]] else [[38,102,95]++name,[58]])
 else if op=nNeg then [48]::(l.headD []++[[45]])
 else if op=nNot then l.headD []++[[49],[60]]
 else if op=[33,61] then [48]::(l.headD []++(l.drop 1).headD []++[[94],[60]])
 else if op=[38,38] then [48]::(l.headD []++[[60],[48]]++(l.drop 1).headD []++[[60],[42]])
 else if op=[124,124] then [48]::[48]::(l.headD []++[[60],[48]]++(l.drop 1).headD []++[[60],[43],[60]])
 else l.headD []++(l.drop 1).headD []++(if op=[62] then greaterW c else if op=[60,61] then greaterW c++[[49],[94]] else if op=[62,61] then [[60],[49],[94]] else if op=[61,61] then [[94],[49],[60]] else [op])
mutual
def exW (c:CC):Ex→List Wd
 |.mk op num name args=>opW c op num name (exWl c args)
def exWl (c:CC):List Ex→List (List Wd)
 |[]=>[]
 |x::l=>exW c x::exWl c l
end
def labW (n:Nat):Wd:=106::decDigits n
mutual
def stW (c:CC):Nat→Sm→List Wd×Nat
 |n,.mk kind name index value thn els=>
  if kind=1 then (exW c (value.headD default)++[c.sc name,[33]],n)
  else if kind=2 then (exW c (value.headD default)++c.ar name::(exW c (index.headD default)++[[43],[33]]),n)
  else if kind=3 then
   (match els with
   |[]=>(exW c (value.headD default)++[38::labW n,[63]]++(stWs c (n+1) thn).1++[labW n++[58]],(stWs c (n+1) thn).2)
   |_::_=>(exW c (value.headD default)++[38::labW n,[63]]++(stWs c (n+2) thn).1++[[48],38::labW (n+1),[63],labW n++[58]]++(stWs c (stWs c (n+2) thn).2 els).1++[labW (n+1)++[58]],(stWs c (stWs c (n+2) thn).2 els).2))
  else if kind=4 then ([labW n++[58]]++exW c (value.headD default)++[38::labW (n+1),[63]]++(stWs c (n+2) thn).1++[[48],38::labW n,[63],labW (n+1)++[58]],(stWs c (n+2) thn).2)
  else if kind=5 then (exW c (value.headD default)++[[59]],n)
  else if kind=6 then (exW c (value.headD default)++[c.t0,[33]],n)
  else if kind=7 then ([[36]],n)
  else ([],n)
def stWs (c:CC):Nat→List Sm→List Wd×Nat
 |n,[]=>([],n)
 |n,s::l=>((stW c n s).1++(stWs c (stW c n s).2 l).1,(stWs c (stW c n s).2 l).2)
end
def placeA (l:List Nm) (S:Int) (k:Nm):Int:=if k∈l then S+3+(l.idxOf k:Nat) else 0
def keyC (l:List Nm) (own name:Nm):Nm:=if own++[46]++name∈l then own++[46]++name else name
def arrA:Int→List (Nm×Int)→Nm→Int
 |_,[],_=>0
 |at',(x,n)::r,name=>if x=name then at' else arrA (at'+n) r name
structure Org where
 code:Int
 scalars:Int
 arrays:Int
def ccF (vars:List Nm) (arrays:List (Nm×Int)) (fs:List FnD) (o:Org) (own:Nm):CC:=
 ⟨fun s=>itoa (placeA (scalarsP vars fs) o.scalars (keyC (scalarsP vars fs) own s)),fun s=>itoa (arrA o.arrays arrays s),itoa o.scalars,itoa (o.scalars+1),itoa (o.scalars+2)⟩
def fnW (c:CC) (n:Nat) (f:FnD):List Wd×Nat:=
 ([[102,95]++f.name++[58]]++f.params.reverse.flatMap (fun p=>[c.sc p,[33]])++(stWs c n f.body).1++[[48],[59]],(stWs c n f.body).2)
def fnWs (cc:Nm→CC):Nat→List FnD→List Wd×Nat
 |n,[]=>([],n)
 |n,f::l=>((fnW (cc f.name) n f).1++(fnWs cc (fnW (cc f.name) n f).2 l).1,(fnWs cc (fnW (cc f.name) n f).2 l).2)
def prW (vars:List Nm) (arrays:List (Nm×Int)) (fs:List FnD) (o:Org):List Wd:=
 [[38,102,95,109,97,105,110],[58],itoa o.scalars,[33],[36]]++(fnWs (ccF vars arrays fs o) 0 fs).1
def insideA (a n:Int):Bool:=decide (0≤a∧a≤262144-n)
def meetsA (a n b m:Int):Bool:=decide (0<n∧0<m∧a<b+m∧b<a+n)
def fitsP (vars:List Nm) (arrays:List (Nm×Int)) (fs:List FnD) (o:Org):Bool:=
 let total:=(arrays.map (·.2)).sum
 let n:Int:=3+(scalarsP vars fs).length
 insideA o.scalars n && insideA o.code 40000 && insideA o.arrays total && !meetsA o.code 40000 o.scalars n && !meetsA o.arrays total o.scalars n && !meetsA o.arrays total o.code 40000
def cmpP (vars:List Nm) (arrays:List (Nm×Int)) (fs:List FnD) (o:Org):Except Int Wd:=
 if checkP vars arrays fs≠0 then .error (checkP vars arrays fs)
 else if fitsP vars arrays fs o=false then .error 2
 else match asmP (join (prW vars arrays fs o) [32]) o.code with
  |.error e=>.error e.2
  |.ok _=>.ok (join (prW vars arrays fs o) [32])
end Go.Stele
namespace Go.Stele
open Go.Lib
theorem errT_zero (all:List Wd):∀ (l:List (Wd×Nat)) (met:List Wd),(errT all met l).2=0→met.Nodup→(met++defs (l.map (·.1))).Nodup∧∀ w∈l.map (·.1),OkW all w
 |[],met,_,hm=>by
  simp only[List.map_nil,defs,List.filterMap_nil,zLz]
  exact ⟨hm,fun w hw=>(List.not_mem_nil hw).elim⟩
 |(w,ln)::r,met,h,hm=>by
  rw[errT] at h
  rw[zMc,defs_cons]
  cases hd:defW w with
  |some x=>
   rw[hd] at h
   simp only at h ⊢
   split at h
   ·simp at h
   ·rename_i hx
    have hn:(met++[x]).Nodup:=List.nodup_append.2 ⟨hm,by simp,fun a ha b hb=>by
     rw[List.mem_singleton.1 hb]
     exact fun e=>hx (e▸ha)⟩
    obtain ⟨h1,h2⟩:=errT_zero all r (met++[x]) h hn
    refine ⟨by rw[zAs] at h1;exact h1,fun y hy=>?_⟩
    rcases zMi.1 hy with rfl|hy
    ·unfold OkW;rw[hd];trivial
    ·exact h2 y hy
  |none=>
   rw[hd] at h
   simp only at h ⊢
   have key:OkW all w∧(errT all met r).2=0:=by
    unfold OkW
    rw[hd]
    cases hr:refW w with
    |some x=>
     rw[hr] at h
     simp only at h ⊢
     split at h
     ·rename_i hx;exact ⟨hx,h⟩
     ·simp at h
    |none=>
     rw[hr] at h
     simp only at h ⊢
     split at h
     ·rename_i hx;exact ⟨hx,h⟩
     ·simp at h
   obtain ⟨h1,h2⟩:=errT_zero all r met key.2 hm
   refine ⟨by simpa using h1,fun y hy=>?_⟩
   rcases zMi.1 hy with rfl|hy
   ·exact key.1
   ·exact h2 y hy
theorem asm_ok {src:Wd} (h:(errT (defs (wordsP src)) [] (toksP src)).2=0):AsmOk (wordsP src):=by
 have:=errT_zero _ _ _ h List.nodup_nil
 rw[toksP_fst,List.nil_append] at this
 exact this
/-! ### Labels that the assembler took -/
end Go.Stele
namespace Go.Proofs.YtpbbgkoalnonoaaGreatDoor.Asm
open Go.GL Go.RowKit Go.Stele
theorem lenW_le:∀ (l:List Wd) (d:Bool),lenW d l≤3 * tot l
 |[],d=>Nat.zero_le _
 |w::r,d=>by
  have h1:=one_le d
  have h2:=one_le (d && firstD w)
  rw[lenW,tot_cons]
  cases defW w with
  |some l=>have:=lenW_le r d;simp only;omega
  |none=>
   cases hr:refW w with
   |some l=>
    have:=lenW_le r true
    have hlen:2≤w.length:=by
     unfold refW at hr
     split at hr
     ·cases hr
     ·rename_i c q
      split at hr
      ·rename_i hc
       have:=List.length_pos_iff.2 (nameW_ne hc.2)
       simp only[zLc]
       omega
      ·cases hr
    simp only
    omega
   |none=>have:=lenW_le r (lastD w);simp only;omega
theorem labs_le (kn:Wd→Nat) (og M:Nat):∀ (l:List Wd) (s:Wd×List (Wd×Nat)),(∀ w∈l,w≠[])→((l.foldl (stepA kn og) s).1).length≤M→(∀ p∈s.2,p.2≤og+M)→∀ p∈(l.foldl (stepA kn og) s).2,p.2≤og+M
 |[],s,_,_,h=>h
 |w::r,s,hw,hM,h=>by
  rw[List.foldl_cons] at hM ⊢
  refine labs_le kn og M r _ (fun x hx=>hw x (zMo w hx)) hM ?_
  have h1:=fold_le kn og r (stepA kn og s w).1 (stepA kn og s w).2 (fun x hx=>hw x (zMo w hx))
  intro p hp
  unfold stepA at hp h1 hM
  cases hd:defW w with
  |none=>
   rw[hd] at hp
   exact h p hp
  |some x=>
   rw[hd] at hp h1 hM
   simp only at hp h1 hM
   rcases List.mem_append.1 hp with hp|hp
   ·exact h p hp
   ·rw[List.mem_singleton.1 hp]
    simp only
    omega
def labKV (labs:List (Wd×Nat)):KV:=labs.map fun p=>(p.1,int .i64 (p.2:Nat))
theorem labKV_get:∀ (labs:List (Wd×Nat)) (x:Wd),(GL.kvGet (labKV labs) x).getD (int .i64 0)=int .i64 (findL labs x:Nat)
 |[],x=>rfl
 |p::r,x=>by
  unfold labKV findL
  rw[zMc,GL.kvGet,List.find?_cons]
  by_cases h:p.1=x
  ·rw[if_pos h,decide_eq_true h]
   rfl
  ·rw[if_neg h,decide_eq_false h]
   exact labKV_get r x
theorem labKV_take {labs:List (Wd×Nat)} {i:Nat} (h:i<labs.length) (hn:(labs.map (·.1)).Nodup):GL.kvPut (labKV (labs.take i)) labs[i].1 (int .i64 (labs[i].2:Nat))=labKV (labs.take (i+1)):=by
 unfold labKV
 rw[List.take_succ_eq_append_getElem h,zMa]
 refine kv_new ?_
 rw[List.map_map]
 intro hm
 have e1:labs.map (·.1)=(labs.take i).map (·.1)++labs[i].1::(labs.drop (i+1)).map (·.1):=by
  conv=>lhs;rw[←List.take_append_drop i labs,List.drop_eq_getElem_cons h]
  rw[zMa,zMc]
 rw[e1,List.nodup_append] at hn
 exact hn.2.2 _ hm _ zMs rfl
theorem findL_le {labs:List (Wd×Nat)} {M:Nat} (h:∀ p∈labs,p.2≤M) (x:Wd):findL labs x≤M:=by
 unfold findL
 cases hf:labs.find? fun p=>decide (p.1=x) with
 |none=>exact Nat.zero_le _
 |some p=>exact h p (List.mem_of_find?_eq_some hf)
def asmLV:Except (Nat×Nat) (Wd×List (Wd×Nat))→LV
 |.error e=>.tuple [str [],.list [],int .i64 (e.1:Nat),int .i64 (e.2:Nat)]
 |.ok x=>.tuple [str x.1,.list (x.2.map tokLV),int .i64 0,int .i64 0]
attribute [local irreducible] LOps LCode LStep LCalls Go.GL.Pure QThen QBlock RetPost LQ LAny LLate LLateOp
section
variable {B0:Nat} {w0:World}
theorem assemble_spec (hG:GW B0 w0) (hM:GM w0) (src:List UInt8) (og:Int) (hs:src.length≤300000000):LCalls (KC B0 w0) 30 [str src,int .i64 og] [] (Ret (asmLV (asmP src og))):=by
 have hA:asmP src og=asmP src og:=rfl
 conv at hA=>rhs;unfold asmP
 generalize hR:asmP src og=R at hA ⊢
 refine LCalls.intro4 Tryz.func30 rfl (n:=65) rfl rfl rfl ?_
 refine gaa ?_
 refine oB 19 rfl (fun h1=>?_) (fun h1=>?_)
 ·have h1':og<0:=zt h1
  rw[if_pos (.inl h1')] at hA
  subst hA
  refine gad ?_
  refine oC rfl (fun h=>?_) (fun h=>by cases h)
  refine gao ?_
  exact retRet rfl (rC (zrt rfl) (rC (rT (v:=nilSlice) rfl LV.Sub.nil) (rC (zrt rfl) (zra rfl)))) rfl
 have h1':¬ og<0:=zf h1
 refine gac ?_
 refine oC rfl (fun h2=>?_) (fun h2=>?_)
 ·have h2':og ≥ 262144:=zt h2
  rw[if_pos (.inr h2')] at hA
  subst hA
  refine gao ?_
  exact retRet rfl (rC (zrt rfl) (rC (rT (v:=nilSlice) rfl LV.Sub.nil) (rC (zrt rfl) (zra rfl)))) rfl
 have h2':¬ og ≥ 262144:=zf h2
 rw[if_neg zo] at hA
 obtain ⟨o,rfl⟩:∃ o:Nat,og=(o:Int):=⟨og.toNat,by omega⟩
 rw[Int.toNat_natCast] at hA
 have hao:=@asm_ok src
 have hft:=toksP_fst src
 have hwt:=words_tot src
 have hwl:=wordsP_len src
 have hcl:=wordsP_clean src
 have hlw:=lenW_le (wordsP src) false
 have htk:=tokens_spec hG hM src zo
 rw[←hft] at hwt hwl hcl hlw hA hao
 rw[zLm] at hwl
 generalize toksP src=l at hwt hwl hcl hlw htk hA hao
 have hne:∀ w∈txt l,w≠[]:=fun w hw=>(hcl w hw).1
 have hsz:∀ p∈l,p.1≠[]∧p.1.length≤1000000000:=fun p hp=>by
  have hm:p.1∈l.map (·.1):=List.mem_map_of_mem hp
  have:=tot_mem hm
  exact ⟨(hcl _ hm).1,by omega⟩
 have hck:=check_spec (B0:=B0) (w0:=w0) l zo (fun p hp=>(hsz p hp).2)
 have hlen:∀ kn,((txt l).foldl (stepA kn o) ([],[])).1.length=lenW false (txt l):=fun kn=>by
  rw[stepA_fst]
  exact textA_len kn _ hne
 have hjo:=fun kn hkn km Hk hK=>joined_ex hG l o zo zo hsz kn hkn (by rw[hlen kn];show lenW false (l.map (·.1))≤_;omega) km Hk hK
 generalize hE:errT (defs (txt l)) [] l=E at hck hA hao
 have hE2:E=(E.1,E.2):=rfl
 refine gaa ?_
 refine oS (sF [_] rfl htk ?_) rfl
 refine gab ?_
 refine oS (sF [_] rfl hck ?_) rfl
 refine gab ?_
 refine oC rfl (fun h1=>?_) (fun h1=>?_)
 ·have h3:¬ E.2=0:=by simpa using h1
  rw[if_pos h3] at hA
  subst hA
  refine gaa ?_
  exact retRet rfl (rC (zrt rfl) (rC (rT (v:=nilSlice) rfl LV.Sub.nil) (rC (zrt rfl) (zra rfl)))) rfl
 have h3:E.2=0:=by simpa using h1
 rw[if_neg zo] at hA
 have hnd:=(hao h3).1
 refine gaa ?_
 refine oS (S.callH (H1:=[]) (F:=[]) [_,_,.const (.map none)] rfl zpr (hjo (fun _=>0) (fun _=>Nat.zero_le _) none [] (.inl ⟨rfl,rfl,fun _=>rfl⟩)) (fun v' H' hh=>?_) (fun ch H' hh=>by obtain ⟨h,_⟩:=hh;cases h)) rfl
 obtain ⟨hv,rfl⟩:=hh
 cases hv
 have hlabs:((txt l).foldl (stepA (fun _=>0) o) ([],[])).2=labsA (fun _=>0) o (l.map (·.1)):=rfl
 have hle:∀ p∈((txt l).foldl (stepA (fun _=>0) o) ([],[])).2,p.2≤1000000000000:=fun p hp=>by
  have:=labs_le (fun _=>0) o (lenW false (txt l)) (txt l) ([],[]) hne (by rw[hlen];exact zNr _) (fun p hp=>by cases hp) p hp
  have h5:lenW false (txt l)≤3 * tot (l.map (·.1)):=hlw
  omega
 have hnl:(((txt l).foldl (stepA (fun _=>0) o) ([],[])).2.map (·.1)).Nodup:=by
  rw[labsA_names]
  exact hnd
 have hll:=(fold_labs (fun _=>0) o (txt l) ([],[])).2
 rw[hlabs] at hle hnl hll
 generalize hLB:labsA (fun _=>0) o (l.map (·.1))=labs at hle hnl hll hA hlabs
 rw[hlabs]
 have hll2:labs.length≤l.length:=by
  have:(txt l).length=l.length:=zLm _
  simp only[zLn] at hll
  omega
 have hlab:(labs.map tokLV).length=labs.length:=zLm _
 refine gab ?_
 refine oS (S.kvNew fun m=>?_) rfl
 refine gaa ?_
 refine oL (fun k ls H=>∃ (i:Nat) (clock:Nat),i≤labs.length∧k=labs.length-i∧ls=[(1,int .i64 (o:Nat)),(8,.list (l.map tokLV)),(13,.atom (.map (some m))),(41,.list (labs.map tokLV)),(42,int .i64 labs.length),(43,int .i64 (i:Nat))]∧H=[(m,.map (kvs (labKV (labs.take i))) clock)])
  ⟨_,_,_,⟨0,0,Nat.zero_le _,rfl,rfl,rfl⟩,⟨rfl,rfl,rfl,rfl,int_eq zo,rfl,trivial⟩,zhR _⟩ ?_
 rintro k ls H ⟨i,clock,hi,rfl,rfl,rfl⟩ j hj
 refine gah ?_
 refine oC rfl (fun hc=>?_) (fun hc=>?_)
 ·have hlt:i<labs.length:=by have:=zt hc;omega
  refine gak ?_
  refine oP (xR (el':=tokLV labs[i]) (cs:=[_,_]) rfl rfl zo (map_get _ _ _ hlt) rfl rfl) rfl ?_
  refine gac ?_
  refine oS (sA fun b15=>?_) rfl
  refine gaa ?_
  refine oS (S.kvPut (t:=62) (kt:=9) (el:=3) (m:=labKV (labs.take i)) (k:=labs[i].1) (lv:=int .i64 (labs[i].2:Nat)) zk zk rfl rfl rfl zp1 fun clock'=>?_) rfl
  rw[labKV_take hlt hnl]
  refine gal ?_
  exact ⟨_,_,_,by omega,⟨i+1,clock',by omega,rfl,rfl,rfl⟩,⟨rfl,rfl,rfl,rfl,rfl,int_eq zo,trivial⟩,⟨[_],List.Perm.refl _⟩,hj⟩
 ·have hi':i=labs.length:=by have:=zf hc;omega
  subst hi'
  rw[List.take_length]
  have hkn:=findL_le hle
  refine gaa ?_
  refine oS (S.callH (H1:=[(m,.map (kvs (labKV labs)) clock)]) (F:=[]) [_,_,_] rfl zpr (hjo (findL labs) hkn (some m) _ (.inr ⟨m,labKV labs,clock,rfl,rfl,labKV_get labs⟩)) (fun v' H' hh=>?_) (fun ch H' hh=>by obtain ⟨h,_⟩:=hh;cases h)) rfl
  obtain ⟨hv,rfl⟩:=hh
  cases hv
  have e1:((txt l).foldl (stepA (findL labs) o) ([],[])).1=textA (findL labs) (l.map (·.1)):=stepA_fst _ _ _ _
  have e2:((txt l).foldl (stepA (findL labs) o) ([],[])).2=labs:=by
   show labsA (findL labs) o (l.map (·.1))=labs
   rw[labsA_any (findL labs) (fun _=>0) o (l.map (·.1)) hne]
   exact hLB
  rw[e1,e2]
  generalize textA (findL labs) (l.map (·.1))=tx at hA
  refine gab ?_
  refine oC rfl (fun h2=>?_) (fun h2=>?_)
  ·have h5:40000<tx.length:=by have:=zt h2;omega
   rw[if_pos h5] at hA
   subst hA
   refine gao ?_
   exact retRet hj (rC (zrt rfl) (rC (rT (v:=nilSlice) rfl LV.Sub.nil) (rC (zrt rfl) (zra rfl)))) rfl
  ·have h5:¬ 40000<tx.length:=by have:=zf h2;omega
   rw[if_neg h5] at hA
   subst hA
   refine gab ?_
   exact retRet hj (rC (zrt rfl) (rC (rT (v:=.list _) rfl zsr) (rC (zrt rfl) (zra rfl)))) rfl
end
end Go.Proofs.YtpbbgkoalnonoaaGreatDoor.Asm
namespace Go.Stele
open Go.Lib
section
variable (vars arrays later:List Nm)
end
section
variable {vars arrays later:List Nm}
end
/-! ### Where a function's words begin -/
/-! ### Where the arrays lie -/
def totA (l:List Ar):Nat:=(l.map (·.size)).sum
theorem totA_int (l:List Ar):((l.map fun a=>(a.name,(a.size:Int))).map (·.2)).sum=((totA l:Nat):Int):=by
 unfold totA
 induction l with
 |nil=>rfl
 |cons a l ih=>
  simp only[zMc,List.sum_cons] at ih ⊢
  rw[ih]
  omega
end Go.Stele
namespace Go.Stele
open Go.Lib
def arrsP (P:Pr):List (Nm×Int):=P.arrays.map fun a=>(a.name,(a.size:Int))
def wordsC (P:Pr) (o:Org):List Wd:=prW P.vars (arrsP P) P.funcs o
theorem itoa_pos {z:Int} (h:0≤z):itoa z=decDigits z.toNat:=by
 unfold itoa
 rw[if_neg (by omega)]
structure FitN (P:Pr) (o:Org):Prop where
 s0:0≤o.scalars
 c0:0≤o.code
 a0:0≤o.arrays
 s1:o.scalars.toNat+3+(scalarsP P.vars P.funcs).length≤262144
 c1:o.code.toNat+40000≤262144
 a1:o.arrays.toNat+totA P.arrays≤262144
 cs:o.scalars.toNat+3+(scalarsP P.vars P.funcs).length≤o.code.toNat∨o.code.toNat+40000≤o.scalars.toNat
 asA:0<totA P.arrays→o.scalars.toNat+3+(scalarsP P.vars P.funcs).length≤o.arrays.toNat∨o.arrays.toNat+totA P.arrays≤o.scalars.toNat
 ac:0<totA P.arrays→o.code.toNat+40000≤o.arrays.toNat∨o.arrays.toNat+totA P.arrays≤o.code.toNat
theorem fit_of {P:Pr} {o:Org} (h:fitsP P.vars (arrsP P) P.funcs o=true):FitN P o:=by
 unfold fitsP insideA meetsA at h
 simp only[zBa,Bool.not_eq_true',zDe,decide_eq_false_iff_not] at h
 have ht:((arrsP P).map (·.2)).sum=((totA P.arrays:Nat):Int):=totA_int P.arrays
 rw[ht] at h
 obtain ⟨⟨⟨⟨⟨h1,h2⟩,h3⟩,h4⟩,h5⟩,h6⟩:=h
 constructor <;> omega
section
variable {P:Pr} {o:Org}
end
end Go.Stele
namespace Go.Stele
open Go.Lib
def AllC (l:List Wd):Prop:=∀ w∈l,CleanW w
theorem allC_nil:AllC []:=fun w hw=>(List.not_mem_nil hw).elim
theorem allC_cons {w:Wd} {l:List Wd}:AllC (w::l) ↔ CleanW w∧AllC l:=List.forall_mem_cons
theorem allC_app {a b:List Wd}:AllC (a++b) ↔ AllC a∧AllC b:=List.forall_mem_append
def cleanB (w:Wd):Bool:=decide (w≠[]) && w.all fun c=>decide (c≠10∧c≠32∧c≠35)
theorem clean_b {w:Wd} (h:cleanB w=true):CleanW w:=by
 unfold cleanB at h
 rw[zBa,zDe,List.all_eq_true] at h
 refine ⟨h.1,fun c hc=>?_⟩
 have:=of_decide_eq_true (h.2 c hc)
 exact this
theorem allC_b {l:List Wd} (h:l.all cleanB=true):AllC l:=fun w hw=>clean_b (List.all_eq_true.1 h w hw)
theorem itoa_clean {z:Int} (h:0≤z):CleanW (itoa z):=by rw[itoa_pos h];exact dec_clean _
theorem clean_put {a b:Wd} (h:Plain a) (h2:Plain b) (hne:a≠[]):CleanW (a++b):=⟨fun h=>hne (List.append_eq_nil_iff.1 h).1,fun c hc=>(List.mem_append.1 hc).elim (h c) (h2 c)⟩
theorem ite_C {p:Prop} [Decidable p] {a b:List Wd} (h1:p→AllC a) (h2:¬ p→AllC b):AllC (if p then a else b):=by
 by_cases h:p
 ·rw[if_pos h];exact h1 h
 ·rw[if_neg h];exact h2 h
structure ClC (c:CC):Prop where
 sc:∀ n,CleanW (c.sc n)
 ar:∀ n,CleanW (c.ar n)
 t0:CleanW c.t0
 t1:CleanW c.t1
 t2:CleanW c.t2
theorem nm_plain {s:Nm} (h:isNm s=true):Plain s:=by
 unfold isNm at h
 rw[zBa] at h
 have h2:=h.2
 have hi:∀ c:UInt8,isLetter c=true∨isInner c=true→c≠10∧c≠32∧c≠35:=fun c hc=>by
  refine ⟨?_,?_,?_⟩ <;> (rintro rfl;exact absurd hc zDd)
 cases s with
 |nil=>exact fun c hc=>(List.not_mem_nil hc).elim
 |cons c r=>
  simp only[zBa] at h2
  intro d hd
  rcases zMi.1 hd with rfl|hd
  ·exact hi _ (.inl h2.1)
  ·exact hi _ (.inr (List.all_eq_true.1 h2.2 d hd))
theorem greater_clean {c:CC} (hc:ClC c):AllC (greaterW c):=by
 have hs:∀ {k:UInt8},(k≠10∧k≠32∧k≠35)→CleanW [k]:=fun h=>⟨by simp,fun x hx=>by rw[List.mem_singleton.1 hx];exact h⟩
 unfold greaterW
 repeat' first|exact hc.t1|exact hc.t2|exact hs zDd|exact allC_nil|refine allC_cons.2 ⟨?_,?_⟩
theorem opW_clean {c:CC} (hc:ClC c) {op name:Nm} {num:Nat} {l:List (List Wd)} (hl:∀ ws∈l,AllC ws) (hop:opnds op ≠ -2) (hcall:op=nCall→Plain name):AllC (opW c op num name l):=by
 have hh:AllC (l.headD []):=by
  cases l with
  |nil=>exact allC_nil
  |cons a r=>exact hl a zMs
 have h2:AllC ((l.drop 1).headD []):=by
  cases l with
  |nil=>exact allC_nil
  |cons a r=>
   cases r with
   |nil=>exact allC_nil
   |cons b r=>exact hl b (zMo _ zMs)
 have hf:AllC l.flatten:=fun w hw=>by
  obtain ⟨ws,h1,h3⟩:=List.mem_flatten.1 hw
  exact hl ws h1 w h3
 have hg:=greater_clean hc
 have hs:∀ {k:UInt8},(k≠10∧k≠32∧k≠35)→CleanW [k]:=fun h=>⟨by simp,fun x hx=>by rw[List.mem_singleton.1 hx];exact h⟩
 have hbin:¬ (op=nNum)→¬ (op=nVar)→¬ (op=nElem)→¬ (op=nCall)→¬ (op=nNeg)→¬ (op=nNot)→CleanW op:=by
  intro a1 a2 a3 a4 a5 a6
  unfold opnds at hop
  rw[if_neg (by simp[a1,a2]),if_neg (by simp[a3,a5,a6]),if_neg a4] at hop
  split at hop
  ·rename_i h
   exact allC_b (l:=binOps) zDd op h
  ·exact absurd rfl hop
 unfold opW
 refine ite_C (fun n1=>?_) fun n1=>ite_C (fun n2=>?_) fun n2=>ite_C (fun n3=>?_) fun n3=>ite_C (fun n4=>?_) fun n4=>ite_C (fun n5=>?_) fun n5=>ite_C (fun n6=>?_) fun n6=>ite_C (fun n7=>?_) fun n7=>ite_C (fun n8=>?_) fun n8=>ite_C (fun n9=>?_) fun n9=>?_
 ·exact allC_cons.2 ⟨dec_clean _,allC_nil⟩
 ·repeat' first|exact hh|exact h2|exact allC_nil|exact hc.sc _|exact hc.ar _|exact hs zDd|refine allC_cons.2 ⟨?_,?_⟩|refine allC_app.2 ⟨?_,?_⟩
 ·repeat' first|exact hh|exact h2|exact allC_nil|exact hc.sc _|exact hc.ar _|exact hs zDd|refine allC_cons.2 ⟨?_,?_⟩|refine allC_app.2 ⟨?_,?_⟩
 ·refine allC_app.2 ⟨hf,ite_C (fun _=>allC_b zDd) fun _=>ite_C (fun _=>allC_b zDd) fun _=>?_⟩
  refine allC_cons.2 ⟨clean_put (fun x hx=>?_) (hcall n4) (by simp),allC_b zDd⟩
  have:=List.all_eq_true.1 (show ([38,102,95]:Wd).all (fun c=>decide (c≠10∧c≠32∧c≠35))=true by decide) x hx
  exact of_decide_eq_true this
 ·repeat' first|exact hh|exact h2|exact allC_nil|exact hc.sc _|exact hc.ar _|exact hs zDd|refine allC_cons.2 ⟨?_,?_⟩|refine allC_app.2 ⟨?_,?_⟩
 ·repeat' first|exact hh|exact h2|exact allC_nil|exact hc.sc _|exact hc.ar _|exact hs zDd|refine allC_cons.2 ⟨?_,?_⟩|refine allC_app.2 ⟨?_,?_⟩
 ·repeat' first|exact hh|exact h2|exact allC_nil|exact hc.sc _|exact hc.ar _|exact hs zDd|refine allC_cons.2 ⟨?_,?_⟩|refine allC_app.2 ⟨?_,?_⟩
 ·repeat' first|exact hh|exact h2|exact allC_nil|exact hc.sc _|exact hc.ar _|exact hs zDd|refine allC_cons.2 ⟨?_,?_⟩|refine allC_app.2 ⟨?_,?_⟩
 ·repeat' first|exact hh|exact h2|exact allC_nil|exact hc.sc _|exact hc.ar _|exact hs zDd|refine allC_cons.2 ⟨?_,?_⟩|refine allC_app.2 ⟨?_,?_⟩
 refine allC_app.2 ⟨allC_app.2 ⟨hh,h2⟩,?_⟩
 refine ite_C (fun _=>hg) fun _=>ite_C (fun _=>allC_app.2 ⟨hg,allC_b zDd⟩) fun _=>ite_C (fun _=>allC_b zDd) fun _=>ite_C (fun _=>allC_b zDd) fun _=>?_
 exact allC_cons.2 ⟨hbin n1 n2 n3 n4 n5 n6,allC_nil⟩
mutual
theorem exW_clean {c:CC} (hc:ClC c) {env:CEnv} (hfn:∀ k∈env.funcs,Plain k.name):∀ e,errE env e=0→AllC (exW c e)
 |.mk op num name args,h=>by
  rw[errE] at h
  split at h
  ·rename_i ho
   obtain ⟨h1,h3⟩:=orE_zero.1 h
   rw[exW]
   refine opW_clean hc (exWl_clean hc hfn args h1) (by omega) (fun hcl=>?_)
   subst hcl
   unfold useE at h3
   rw[if_neg zDd,if_neg zDd,if_pos rfl] at h3
   unfold callE at h3
   split at h3
   ·rename_i e;rw[e]
    exact fun x hx=>of_decide_eq_true (List.all_eq_true.1 (show ([105,110]:Wd).all (fun c=>decide (c≠10∧c≠32∧c≠35))=true by decide) x hx)
   split at h3
   ·rename_i e;rw[e]
    exact fun x hx=>of_decide_eq_true (List.all_eq_true.1 (show ([111,117,116]:Wd).all (fun c=>decide (c≠10∧c≠32∧c≠35))=true by decide) x hx)
   unfold CEnv.fn at h3
   cases hf:env.funcs.find? fun f=>decide (f.name=name) with
   |none=>
    rw[hf] at h3
    simp only at h3
    split at h3 <;> cases h3
   |some k=>
    have e:k.name=name:=of_decide_eq_true (List.find?_some (p:=fun g:FSum=>decide (g.name=name)) hf)
    rw[←e]
    exact hfn k (List.mem_of_find?_eq_some hf)
  ·cases h
theorem exWl_clean {c:CC} (hc:ClC c) {env:CEnv} (hfn:∀ k∈env.funcs,Plain k.name):∀ l,errEs env l=0→∀ ws∈exWl c l,AllC ws
 |[],h,ws,hw=>by rw[exWl] at hw;exact (List.not_mem_nil hw).elim
 |x::l,h,ws,hw=>by
  rw[errEs] at h
  obtain ⟨h1,h2⟩:=orE_zero.1 h
  rw[exWl] at hw
  rcases zMi.1 hw with rfl|hw
  ·exact exW_clean hc hfn x h1
  ·exact exWl_clean hc hfn l h2 ws hw
end
end Go.Stele
namespace Go.Stele
open Go.Lib
theorem lab_clean (n:Nat):CleanW (labW n)∧CleanW (38::labW n)∧CleanW (labW n++[58]):=by
 have h:=(dec_clean n).2
 have h1:∀ {c:UInt8} {w:Wd},(c≠10∧c≠32∧c≠35)→Plain w→Plain (c::w):=fun hc hw x hx=>by
  rcases zMi.1 hx with rfl|hx
  ·exact hc
  ·exact hw x hx
 have h2:Plain (labW n):=h1 zDd h
 exact ⟨⟨by simp[labW],h2⟩,⟨by simp,h1 zDd h2⟩,clean_put h2 (h1 zDd fun x hx=>(List.not_mem_nil hx).elim) (by simp[labW])⟩
section
variable {c:CC} {env:CEnv}
theorem hs_clean {k:UInt8} (h:k≠10∧k≠32∧k≠35):CleanW [k]:=⟨by simp,fun x hx=>by rw[List.mem_singleton.1 hx];exact h⟩
theorem head_clean (hc:ClC c) (hfn:∀ k∈env.funcs,Plain k.name) {l:List Ex} (h1:l.length=1) (h:errEs env l=0):AllC (exW c (l.headD default)):=by
 obtain ⟨x,rfl⟩:=List.length_eq_one_iff.1 h1
 rw[errEs] at h
 exact exW_clean hc hfn x (orE_zero.1 h).1
mutual
theorem stW_clean (hc:ClC c) (hfn:∀ k∈env.funcs,Plain k.name):∀ (s:Sm) (n:Nat),errS env s=0→AllC (stW c n s).1
 |.mk kind name index value thn els,n,h=>by
  rw[errS] at h
  by_cases hf:formS (.mk kind name index value thn els)=false
  ·rw[if_pos hf] at h;cases h
  rw[if_neg hf] at h
  obtain ⟨h1,h⟩:=orE_zero.1 h
  obtain ⟨h2,h⟩:=orE_zero.1 h
  obtain ⟨h3,h⟩:=orE_zero.1 h
  obtain ⟨h4,h5⟩:=orE_zero.1 h
  rw[Bool.not_eq_false] at hf
  unfold formS at hf
  have hv:kind=1∨kind=2∨kind=3∨kind=4∨kind=5∨kind=6→AllC (exW c (value.headD default)):=fun hk=>head_clean hc hfn (by
   rcases hk with rfl|rfl|rfl|rfl|rfl|rfl <;> simp at hf <;> simp[hf]) h1
  have ht:=fun n=>stWs_clean hc hfn thn n h4
  have he:=fun n=>stWs_clean hc hfn els n h5
  unfold stW
  by_cases k1:kind=1
  ·rw[if_pos k1]
   exact allC_app.2 ⟨hv (by simp[k1]),allC_cons.2 ⟨hc.sc _,allC_b zDd⟩⟩
  rw[if_neg k1]
  by_cases k2:kind=2
  ·rw[if_pos k2]
   refine allC_app.2 ⟨hv (by simp[k2]),allC_cons.2 ⟨hc.ar _,allC_app.2 ⟨head_clean hc hfn ?_ h2,allC_b zDd⟩⟩⟩
   subst k2
   simp at hf
   simp[hf]
  rw[if_neg k2]
  by_cases k3:kind=3
  ·rw[if_pos k3]
   have h8:=hv (by simp[k3])
   cases els with
   |nil=>
    simp only
    exact allC_app.2 ⟨allC_app.2 ⟨allC_app.2 ⟨h8,allC_cons.2 ⟨(lab_clean n).2.1,allC_b zDd⟩⟩,ht _⟩,allC_cons.2 ⟨(lab_clean n).2.2,allC_nil⟩⟩
   |cons a r=>
    simp only
    exact allC_app.2 ⟨allC_app.2 ⟨allC_app.2 ⟨allC_app.2 ⟨allC_app.2 ⟨h8,allC_cons.2 ⟨(lab_clean n).2.1,allC_b zDd⟩⟩,ht _⟩,allC_cons.2 ⟨hs_clean zDd,allC_cons.2 ⟨(lab_clean (n+1)).2.1,allC_cons.2 ⟨hs_clean zDd,allC_cons.2 ⟨(lab_clean n).2.2,allC_nil⟩⟩⟩⟩⟩,he _⟩,allC_cons.2 ⟨(lab_clean (n+1)).2.2,allC_nil⟩⟩
  rw[if_neg k3]
  by_cases k4:kind=4
  ·rw[if_pos k4]
   have h8:=hv (by simp[k4])
   exact allC_app.2 ⟨allC_app.2 ⟨allC_app.2 ⟨allC_app.2 ⟨allC_cons.2 ⟨(lab_clean n).2.2,allC_nil⟩,h8⟩,allC_cons.2 ⟨(lab_clean (n+1)).2.1,allC_b zDd⟩⟩,ht _⟩,allC_cons.2 ⟨hs_clean zDd,allC_cons.2 ⟨(lab_clean n).2.1,allC_cons.2 ⟨hs_clean zDd,allC_cons.2 ⟨(lab_clean (n+1)).2.2,allC_nil⟩⟩⟩⟩⟩
  rw[if_neg k4]
  by_cases k5:kind=5
  ·rw[if_pos k5]
   exact allC_app.2 ⟨hv (by simp[k5]),allC_b zDd⟩
  rw[if_neg k5]
  by_cases k6:kind=6
  ·rw[if_pos k6]
   exact allC_app.2 ⟨hv (by simp[k6]),allC_cons.2 ⟨hc.t0,allC_b zDd⟩⟩
  rw[if_neg k6]
  by_cases k7:kind=7
  ·rw[if_pos k7]
   exact allC_cons.2 ⟨hs_clean zDd,allC_nil⟩
  ·rw[if_neg k7]
   exact allC_nil
theorem stWs_clean (hc:ClC c) (hfn:∀ k∈env.funcs,Plain k.name):∀ (l:List Sm) (n:Nat),errSs env l=0→AllC (stWs c n l).1
 |[],n,h=>by rw[stWs];exact allC_nil
 |s::l,n,h=>by
  rw[errSs] at h
  obtain ⟨h1,h2⟩:=orE_zero.1 h
  rw[stWs]
  exact allC_app.2 ⟨stW_clean hc hfn s n h1,stWs_clean hc hfn l _ h2⟩
end
theorem fnW_clean (hc:ClC c) (hfn:∀ k∈env.funcs,Plain k.name) (f:FnD) (n:Nat) (hname:Plain f.name) (h:errSs env f.body=0):AllC (fnW c n f).1:=by
 unfold fnW
 simp only
 refine allC_app.2 ⟨allC_app.2 ⟨allC_app.2 ⟨allC_cons.2 ⟨?_,allC_nil⟩,fun w hw=>?_⟩,stWs_clean hc hfn _ _ h⟩,allC_b zDd⟩
 ·rw[zAs]
  refine clean_put (fun x hx=>?_) (fun x hx=>?_) (by simp)
  ·exact of_decide_eq_true (List.all_eq_true.1 (show ([102,95]:Wd).all (fun c=>decide (c≠10∧c≠32∧c≠35))=true by decide) x hx)
  ·rcases List.mem_append.1 hx with h|h
   ·exact hname x h
   ·exact (hs_clean (k:=58) zDd).2 x h
 ·obtain ⟨p,h1,h2⟩:=List.mem_flatMap.1 hw
  rcases zMi.1 h2 with rfl|h2
  ·exact hc.sc _
  ·rw[List.mem_singleton.1 h2]
   exact hs_clean zDd
end
theorem fnWs_clean {cc:Nm→CC} (hc:∀ n,ClC (cc n)):∀ (fs:List FnD) (n:Nat),(∀ f∈fs,∀ m,AllC (fnW (cc f.name) m f).1)→AllC (fnWs cc n fs).1
 |[],n,_=>by rw[fnWs];exact allC_nil
 |f::l,n,h=>by
  rw[fnWs]
  exact allC_app.2 ⟨h f zMs n,fnWs_clean hc l _ fun g hg=>h g (zMo _ hg)⟩
section
variable {P:Pr} {o:Org}
theorem arrA_pos:∀ (l:List (Nm×Int)) (a:Int),0≤a→(∀ p∈l,0≤p.2)→∀ n,0≤arrA a l n
 |[],a,_,_,n=>by simp[arrA]
 |(x,k)::l,a,h,hl,n=>by
  rw[arrA]
  split
  ·exact h
  ·have:0≤k:=hl (x,k) zMs
   exact arrA_pos l _ (by omega) (fun p hp=>hl p (zMo _ hp)) n
theorem cc_clean (hF:FitN P o) (own:Nm):ClC (ccF P.vars (arrsP P) P.funcs o own):=by
 have s0:=hF.s0
 refine ⟨fun n=>?_,fun n=>?_,?_,?_,?_⟩
 ·refine itoa_clean ?_
  unfold placeA
  split <;> omega
 ·refine itoa_clean (arrA_pos _ _ hF.a0 (fun p hp=>?_) n)
  obtain ⟨a,_,rfl⟩:=List.mem_map.1 hp
  exact Int.natCast_nonneg _
 ·exact itoa_clean s0
 ·exact itoa_clean (z:=o.scalars+1) (by omega)
 ·exact itoa_clean (z:=o.scalars+2) (by omega)
theorem prW_clean (hc:checkPr P=0) (hfit:fitsP P.vars (arrsP P) P.funcs o=true):AllC (wordsC P o):=by
 have hv:=valid_of hc
 have hF:=fit_of hfit
 have hfr:=fresh_zero _ _ hv.names
 have hpl:∀ f∈P.funcs,Plain f.name:=fun f hf=>nm_plain (hfr.2 _ (List.mem_append.2 (.inr (List.mem_map.2 ⟨f,hf,rfl⟩)))).2
 have h1:AllC ([[38,102,95,109,97,105,110],[58],itoa o.scalars,[33],[36]]:List Wd):=allC_cons.2 ⟨clean_b zDd,allC_cons.2 ⟨clean_b zDd,allC_cons.2 ⟨itoa_clean hF.s0,allC_b zDd⟩⟩⟩
 refine allC_app.2 ⟨h1,fnWs_clean (fun n=>cc_clean hF n) P.funcs 0 fun f hf m=>?_⟩
 obtain ⟨kn,k1,k2⟩:=hv.bodies f hf
 refine fnW_clean (cc_clean hF f.name) (fun k hk=>?_) f m (hpl f hf) k1
 obtain ⟨g,g1,g2,_⟩:=k2 k hk
 rw[←g2]
 exact hpl g g1
end
end Go.Stele
namespace Go.Stele
open Go.Lib
structure ShC (c:CC):Prop where
 sc:∀ n,(c.sc n).length≤10
 ar:∀ n,(c.ar n).length≤10
 t0:c.t0.length≤10
 t1:c.t1.length≤10
 t2:c.t2.length≤10
def sumW (l:List (List Wd)):Nat:=(l.map tot).sum
theorem sumW_cons (a:List Wd) (l:List (List Wd)):sumW (a::l)=tot a+sumW l:=by simp[sumW]
theorem head_sum (l:List (List Wd)):tot (l.headD [])+tot ((l.drop 1).headD [])≤sumW l:=by
 cases l with
 |nil=>simp[tot,sumW]
 |cons a r=>
  rw[sumW_cons]
  cases r with
  |nil=>simp[tot,sumW]
  |cons b r=>rw[sumW_cons];simp only[List.headD_cons,List.drop_one,List.tail_cons];omega
theorem flat_sum:∀ l:List (List Wd),tot l.flatten=sumW l
 |[]=>rfl
 |a::l=>by rw[List.flatten_cons,tot_app,flat_sum l,sumW_cons]
theorem ite_le {p:Prop} [Decidable p] {a b:List Wd} {n:Nat} (h1:p→tot a≤n) (h2:¬ p→tot b≤n):tot (if p then a else b)≤n:=by
 by_cases h:p
 ·rw[if_pos h];exact h1 h
 ·rw[if_neg h];exact h2 h
theorem op_len {op:Nm} (h:op∈binOps):op.length≤2:=by
 have:∀ o∈binOps,o.length≤2:=by decide
 exact this op h
theorem opW_tot {c:CC} (hc:ShC c) {op name:Nm} {num:Nat} {l:List (List Wd)} (hn:num<4294967296) (hop:opnds op ≠ -2) (hcall:op=nCall→name.length≤24):tot (opW c op num name l)≤60+sumW l:=by
 have hh:=head_sum l
 have hf:=flat_sum l
 have hd:=dec_len hn
 have h0:=hc.t0
 have h1:=hc.t1
 have h2:=hc.t2
 have hs:=hc.sc name
 have ha:=hc.ar name
 have hbin:¬ (op=nNum)→¬ (op=nVar)→¬ (op=nElem)→¬ (op=nCall)→¬ (op=nNeg)→¬ (op=nNot)→op.length≤2:=by
  intro a1 a2 a3 a4 a5 a6
  unfold opnds at hop
  rw[if_neg (by simp[a1,a2]),if_neg (by simp[a3,a5,a6]),if_neg a4] at hop
  split at hop
  ·rename_i h
   exact op_len h
  ·exact absurd rfl hop
 have hg:tot (greaterW c)≤54:=by
  unfold greaterW
  simp only[tot_cons,tot_nil,zLc,zLn]
  omega
 unfold opW
 refine ite_le (fun n1=>?_) fun n1=>ite_le (fun n2=>?_) fun n2=>ite_le (fun n3=>?_) fun n3=>ite_le (fun n4=>?_) fun n4=>ite_le (fun n5=>?_) fun n5=>ite_le (fun n6=>?_) fun n6=>ite_le (fun n7=>?_) fun n7=>ite_le (fun n8=>?_) fun n8=>ite_le (fun n9=>?_) fun n9=>?_
 ·simp only[tot_cons,tot_nil];omega
 ·simp only[tot_cons,tot_nil,zLc,zLn];omega
 ·simp only[tot_cons,tot_app,tot_nil,zLc,zLn];omega
 ·have hnl:=hcall n4
  rw[tot_app,hf]
  have:tot (if name=[105,110] then ([[44]]:List Wd) else if name=[111,117,116] then [[46],[48]] else [[38,102,95]++name,[58]])≤60:=ite_le (fun _=>by decide) fun _=>ite_le (fun _=>by decide) fun _=>by
   simp only[tot_cons,tot_nil,zLa,zLc,zLn];omega
  omega
 ·simp only[tot_cons,tot_app,tot_nil,zLc,zLn];omega
 ·simp only[tot_cons,tot_app,tot_nil,zLc,zLn];omega
 ·simp only[tot_cons,tot_app,tot_nil,zLc,zLn];omega
 ·simp only[tot_cons,tot_app,tot_nil,zLc,zLn];omega
 ·simp only[tot_cons,tot_app,tot_nil,zLc,zLn];omega
 ·have hb:=hbin n1 n2 n3 n4 n5 n6
  rw[tot_app,tot_app]
  have:tot (if op=[62] then greaterW c else if op=[60,61] then greaterW c++[[49],[94]] else if op=[62,61] then ([[60],[49],[94]]:List Wd) else if op=[61,61] then [[94],[49],[60]] else [op])≤60:=ite_le (fun _=>by omega) fun _=>ite_le (fun _=>by
   simp only[tot_cons,tot_app,tot_nil,zLc,zLn];omega) fun _=>ite_le (fun _=>by decide) fun _=>ite_le (fun _=>by decide) fun _=>by
   simp only[tot_cons,tot_nil];omega
  omega
mutual
theorem exW_tot {c:CC} (hc:ShC c) {env:CEnv} (hfn:∀ k∈env.funcs,k.name.length≤24):∀ e,numE e→errE env e=0→tot (exW c e)≤60 * ndE e
 |.mk op num name args,hn,h=>by
  rw[errE] at h
  rw[numE] at hn
  rw[ndE]
  split at h
  ·rename_i ho
   obtain ⟨h1,h3⟩:=orE_zero.1 h
   rw[exW]
   have:=exWl_tot hc hfn args hn.2 h1
   have h5:=opW_tot hc (op:=op) (name:=name) (num:=num) (l:=exWl c args) hn.1 (by omega) (fun hcl=>?_)
   ·omega
   subst hcl
   unfold useE at h3
   rw[if_neg zDd,if_neg zDd,if_pos rfl] at h3
   unfold callE at h3
   split at h3
   ·rename_i e;rw[e];decide
   split at h3
   ·rename_i e;rw[e];decide
   unfold CEnv.fn at h3
   cases hf:env.funcs.find? fun f=>decide (f.name=name) with
   |none=>
    rw[hf] at h3
    simp only at h3
    split at h3 <;> cases h3
   |some k=>
    have e:k.name=name:=of_decide_eq_true (List.find?_some (p:=fun g:FSum=>decide (g.name=name)) hf)
    rw[←e]
    exact hfn k (List.mem_of_find?_eq_some hf)
  ·cases h
theorem exWl_tot {c:CC} (hc:ShC c) {env:CEnv} (hfn:∀ k∈env.funcs,k.name.length≤24):∀ l,numEs l→errEs env l=0→sumW (exWl c l)≤60 * ndEs l
 |[],_,h=>by rw[exWl];exact Nat.zero_le _
 |x::l,hn,h=>by
  rw[errEs] at h
  rw[numEs] at hn
  obtain ⟨h1,h2⟩:=orE_zero.1 h
  have a1:=exW_tot hc hfn x hn.1 h1
  have a2:=exWl_tot hc hfn l hn.2 h2
  rw[exWl,sumW_cons,ndEs]
  omega
end
theorem head_tot {c:CC} (hc:ShC c) {env:CEnv} (hfn:∀ k∈env.funcs,k.name.length≤24) {l:List Ex} (h1:l.length=1) (hn:numEs l) (h:errEs env l=0):tot (exW c (l.headD default))≤60 * ndEs l:=by
 obtain ⟨x,rfl⟩:=List.length_eq_one_iff.1 h1
 rw[errEs] at h
 rw[numEs] at hn
 have:=exW_tot hc hfn x hn.1 (orE_zero.1 h).1
 rw[ndEs]
 simp only[List.headD_cons]
 omega
theorem lab_len {n:Nat} (h:n≤4000000000):(labW n).length≤11:=by
 have:=dec_len (u:=n) (by omega)
 simp only[labW,zLc]
 omega
mutual
theorem stW_tot {c:CC} (hc:ShC c) {env:CEnv} (hfn:∀ k∈env.funcs,k.name.length≤24):∀ (s:Sm) (n:Nat),numS s→errS env s=0→n+2 * ndS s≤4000000000→tot (stW c n s).1≤60 * ndS s∧(stW c n s).2≤n+2 * ndS s
 |.mk kind name index value thn els,n,hnm,h,hN=>by
  rw[errS] at h
  rw[numS] at hnm
  rw[ndS] at hN ⊢
  obtain ⟨m1,m2,m3,m4⟩:=hnm
  by_cases hf:formS (.mk kind name index value thn els)=false
  ·rw[if_pos hf] at h;cases h
  rw[if_neg hf] at h
  obtain ⟨h1,h⟩:=orE_zero.1 h
  obtain ⟨h2,h⟩:=orE_zero.1 h
  obtain ⟨h3,h⟩:=orE_zero.1 h
  obtain ⟨h4,h5⟩:=orE_zero.1 h
  rw[Bool.not_eq_false] at hf
  unfold formS at hf
  have hv:kind=1∨kind=2∨kind=3∨kind=4∨kind=5∨kind=6→tot (exW c (value.headD default))≤60 * ndEs value:=fun hk=>head_tot hc hfn (by
   rcases hk with rfl|rfl|rfl|rfl|rfl|rfl <;> simp at hf <;> simp[hf]) m2 h1
  have ht:=fun n hn=>stWs_tot hc hfn thn n m3 h4 hn
  have he:=fun n hn=>stWs_tot hc hfn els n m4 h5 hn
  have l0:=lab_len (n:=n) (by omega)
  have l1:=lab_len (n:=n+1) (by omega)
  have t0:=hc.t0
  have ts:=hc.sc name
  have ta:=hc.ar name
  unfold stW
  by_cases k1:kind=1
  ·have:=hv (by simp[k1])
   rw[if_pos k1]
   simp only[tot_cons,tot_app,tot_nil,zLc,zLn]
   omega
  rw[if_neg k1]
  by_cases k2:kind=2
  ·have:=hv (by simp[k2])
   have hi:tot (exW c (index.headD default))≤60 * ndEs index:=by
    refine head_tot hc hfn ?_ m1 h2
    subst k2
    simp at hf
    simp[hf]
   rw[if_pos k2]
   simp only[tot_cons,tot_app,tot_nil,zLc,zLn]
   omega
  rw[if_neg k2]
  by_cases k3:kind=3
  ·rw[if_pos k3]
   have h8:=hv (by simp[k3])
   cases els with
   |nil=>
    have h9:=ht (n+1) (by omega)
    simp only[tot_cons,tot_app,tot_nil,zLc,zLn,zLa]
    omega
   |cons a r=>
    have h9:=ht (n+2) (by omega)
    have h10:=he (stWs c (n+2) thn).2 (by omega)
    simp only[tot_cons,tot_app,tot_nil,zLc,zLn,zLa]
    omega
  rw[if_neg k3]
  by_cases k4:kind=4
  ·rw[if_pos k4]
   have h8:=hv (by simp[k4])
   have h9:=ht (n+2) (by omega)
   simp only[tot_cons,tot_app,tot_nil,zLc,zLn,zLa]
   omega
  rw[if_neg k4]
  by_cases k5:kind=5
  ·have:=hv (by simp[k5])
   rw[if_pos k5]
   simp only[tot_cons,tot_app,tot_nil,zLc,zLn]
   omega
  rw[if_neg k5]
  by_cases k6:kind=6
  ·have:=hv (by simp[k6])
   rw[if_pos k6]
   simp only[tot_cons,tot_app,tot_nil,zLc,zLn]
   omega
  rw[if_neg k6]
  by_cases k7:kind=7
  ·rw[if_pos k7]
   simp only[tot_cons,tot_nil,zLc,zLn]
   omega
  ·rw[if_neg k7]
   simp only[tot_nil]
   omega
theorem stWs_tot {c:CC} (hc:ShC c) {env:CEnv} (hfn:∀ k∈env.funcs,k.name.length≤24):∀ (l:List Sm) (n:Nat),numSs l→errSs env l=0→n+2 * ndSs l≤4000000000→tot (stWs c n l).1≤60 * ndSs l∧(stWs c n l).2≤n+2 * ndSs l
 |[],n,_,h,_=>by rw[stWs];simp[tot_nil]
 |s::l,n,hnm,h,hN=>by
  rw[errSs] at h
  rw[numSs] at hnm
  rw[ndSs] at hN ⊢
  obtain ⟨h1,h2⟩:=orE_zero.1 h
  have a1:=stW_tot hc hfn s n hnm.1 h1 (by omega)
  have a2:=stWs_tot hc hfn l (stW c n s).2 hnm.2 h2 (by omega)
  rw[stWs]
  simp only[tot_app]
  omega
end
theorem param_tot {c:CC} (hc:ShC c):∀ l:List Nm,tot (l.flatMap fun p=>[c.sc p,[33]])≤20 * l.length
 |[]=>zNr _
 |p::l=>by
  have:=param_tot hc l
  have:=hc.sc p
  rw[List.flatMap_cons,tot_app]
  simp only[tot_cons,tot_nil,zLc,zLn]
  omega
theorem fnW_tot {c:CC} (hc:ShC c) {env:CEnv} (hfn:∀ k∈env.funcs,k.name.length≤24) (f:FnD) (n:Nat) (hname:f.name.length≤24) (hnm:numSs f.body) (h:errSs env f.body=0) (hN:n+2 * ndF f≤4000000000):tot (fnW c n f).1≤60 * ndF f∧(fnW c n f).2≤n+2 * ndF f:=by
 unfold ndF at hN ⊢
 have h1:=stWs_tot hc hfn f.body n hnm h (by omega)
 have h2:=param_tot hc f.params.reverse
 rw[List.length_reverse] at h2
 unfold fnW
 simp only[tot_cons,tot_app,tot_nil,zLc,zLn,zLa]
 omega
theorem fnWs_tot {cc:Nm→CC}:∀ (fs:List FnD) (n:Nat),(∀ f∈fs,∀ m,m+2 * ndF f≤4000000000→tot (fnW (cc f.name) m f).1≤60 * ndF f∧(fnW (cc f.name) m f).2≤m+2 * ndF f)→n+2 * ndFs fs≤4000000000→tot (fnWs cc n fs).1≤60 * ndFs fs∧(fnWs cc n fs).2≤n+2 * ndFs fs
 |[],n,_,_=>by rw[fnWs];simp[tot_nil]
 |f::l,n,h,hN=>by
  rw[ndFs] at hN ⊢
  have a1:=h f zMs n (by omega)
  have a2:=fnWs_tot l (fnW (cc f.name) n f).2 (fun g hg=>h g (zMo _ hg)) (by omega)
  rw[fnWs]
  simp only[tot_app]
  omega
section
variable {P:Pr} {o:Org}
theorem itoa_len {z:Int} (h:0≤z) (h2:z<4294967296):(itoa z).length≤10:=by
 rw[itoa_pos h]
 exact dec_len (by omega)
theorem arrA_le:∀ (l:List (Nm×Int)) (a:Int),0≤a→(∀ p∈l,0≤p.2)→∀ n,arrA a l n≤a+(l.map (·.2)).sum
 |[],a,h,_,n=>by simp[arrA];exact h
 |(x,k)::l,a,h,hl,n=>by
  have hk:0≤k:=hl (x,k) zMs
  have hl':=fun p hp=>hl p (zMo (x,k) hp)
  have hs:∀ m:List (Nm×Int),(∀ p∈m,0≤p.2)→0≤(m.map (·.2)).sum:=by
   intro m
   induction m with
   |nil=>intro _;simp
   |cons q m ih=>
    intro hm
    have h1:=hm q zMs
    have h2:=ih fun p hp=>hm p (zMo _ hp)
    rw[zMc,List.sum_cons]
    omega
  have hsl:=hs l hl'
  rw[arrA,zMc,List.sum_cons]
  split
  ·show a≤a+(k+_)
   omega
  ·have:=arrA_le l (a+k) (by omega) hl' n
   show _≤a+(k+_)
   omega
theorem cc_short (hF:FitN P o) (own:Nm):ShC (ccF P.vars (arrsP P) P.funcs o own):=by
 have s0:=hF.s0
 have s1:=hF.s1
 have a0:=hF.a0
 have a1:=hF.a1
 have hp:∀ p∈arrsP P,0≤p.2:=fun p hp=>by
  obtain ⟨a,_,rfl⟩:=List.mem_map.1 hp
  exact Int.natCast_nonneg _
 refine ⟨fun n=>?_,fun n=>?_,?_,?_,?_⟩
 ·refine itoa_len ?_ ?_
  ·unfold placeA
   split <;> omega
  ·unfold placeA
   split
   ·rename_i h
    have:=List.idxOf_lt_length_of_mem h
    omega
   ·omega
 ·refine itoa_len (arrA_pos _ _ a0 hp n) ?_
  have h1:=arrA_le (arrsP P) o.arrays a0 hp n
  have h2:((arrsP P).map (·.2)).sum=((totA P.arrays:Nat):Int):=totA_int P.arrays
  rw[h2] at h1
  omega
 ·exact itoa_len s0 (by omega)
 ·exact itoa_len (z:=o.scalars+1) (by omega) (by omega)
 ·exact itoa_len (z:=o.scalars+2) (by omega) (by omega)
theorem prW_tot (hc:checkPr P=0) (hnum:∀ f∈P.funcs,numSs f.body) (hfit:fitsP P.vars (arrsP P) P.funcs o=true) (hnd:ndFs P.funcs≤2000000):tot (wordsC P o)≤60+60 * ndFs P.funcs∧(fnWs (ccF P.vars (arrsP P) P.funcs o) 0 P.funcs).2≤2 * ndFs P.funcs:=by
 have hv:=valid_of hc
 have hF:=fit_of hfit
 have hfr:=fresh_zero _ _ hv.names
 have hpl:∀ f∈P.funcs,f.name.length≤24:=fun f hf=>by
  have h:=(hfr.2 _ (List.mem_append.2 (.inr (List.mem_map.2 ⟨f,hf,rfl⟩)))).2
  unfold isNm at h
  rw[zBa,zBa,zDe] at h
  exact h.1.1
 have hb:=fnWs_tot (cc:=ccF P.vars (arrsP P) P.funcs o) P.funcs 0 (fun f hf m hm=>by
  obtain ⟨kn,k1,k2⟩:=hv.bodies f hf
  refine fnW_tot (cc_short hF f.name) (fun k hk=>?_) f m (hpl f hf) (hnum f hf) k1 hm
  obtain ⟨g,g1,g2,_⟩:=k2 k hk
  rw[←g2]
  exact hpl g g1) (by omega)
 have ht:=itoa_len (z:=o.scalars) hF.s0 (by have:=hF.s1;omega)
 refine ⟨?_,by omega⟩
 unfold wordsC prW
 rw[tot_app]
 simp only[tot_cons,tot_nil,zLc,zLn]
 omega
end
end Go.Stele
