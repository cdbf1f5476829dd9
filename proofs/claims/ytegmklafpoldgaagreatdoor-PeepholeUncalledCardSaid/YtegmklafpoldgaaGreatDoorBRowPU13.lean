/- Texts joined: PtK, PtL, PtN, PtO, LawP0, PtP, WiSpec, WiKind, WmStep, WiPass, WiTy, WiSim6, WiLaw, WiUnc, ParUnc, LawPU. -/
import Derived.Laws.StructEq
import Derived.ChangeKeysEq
import Derived.Test.YtegmklafpoldgaaGreatDoorBRowPU3
import Derived.Test.YtegmklafpoldgaaGreatDoorBRowPU4
import Derived.Test.YtegmklafpoldgaaGreatDoorBRowPU5
import Derived.Test.YtegmklafpoldgaaGreatDoorBRowPU6
import Derived.Test.YtegmklafpoldgaaGreatDoorBRowPU9
import Derived.Test.YtegmklafpoldgaaGreatDoorBRowPU10
import Derived.Test.YtegmklafpoldgaaGreatDoorBRowPU11
import Derived.Test.YtegmklafpoldgaaGreatDoorBRowPU12
set_option linter.unusedVariables false
set_option linter.unusedSimpArgs false
set_option maxRecDepth 100000
set_option maxHeartbeats 4000000
namespace Go.Proofs.YtegmklafpoldgaaGreatDoor.Pp
open Go.GL Go.RowKit Go.Stele
open Asm (OptLV OptLV.mk ite_some)
def ruleL (used:Wd→Bool) (v:List Wd):List RuleW:=[rFold v,rNeutral v,rRegroup v,rSame v,rDouble v,rNever v,rNext v,rDead v,rUnused used v]
def firstR:List RuleW→RuleW
 |[]=>(0,[])
 |r::l=>if r.1≠0 then r else firstR l
theorem unused_zero {used:Wd→Bool} {v:List Wd} (h:(rUnused used v).1=0):rUnused used v=(0,[]):=by
 unfold rUnused at h ⊢
 revert h
 cases defW (wdAt v 0) with
 |none=>exact fun _=>rfl
 |some l=>
  intro h
  simp only at h ⊢
  by_cases hu:used l=true
  ·rw[if_pos hu]
  ·rw[if_neg hu] at h
   cases h
theorem ruleW_first (used:Wd→Bool) (v:List Wd):ruleW used v=firstR (ruleL used v):=by
 have hz:=@unused_zero used v
 unfold ruleW ruleL
 generalize rFold v=a1
 generalize rNeutral v=a2
 generalize rRegroup v=a3
 generalize rSame v=a4
 generalize rDouble v=a5
 generalize rNever v=a6
 generalize rNext v=a7
 generalize rDead v=a8
 generalize rUnused used v=a9 at hz
 simp only[firstR]
 by_cases h9:a9.1≠0
 ·rw[if_pos h9]
 ·rw[if_neg h9,hz (Decidable.not_not.1 h9)]
theorem firstR_drop {l:List RuleW} {i:Nat} (h:i<l.length):firstR (l.drop i)=if l[i].1≠0 then l[i] else firstR (l.drop (i+1)):=by
 rw[List.drop_eq_getElem_cons h,firstR]
theorem firstR_end {l:List RuleW} {i:Nat} (h:l.length≤i):firstR (l.drop i)=(0,[]):=by
 rw[List.drop_eq_nil_of_le h]
 try rfl
theorem ruleL_len (used:Wd→Bool) (v:List Wd):(ruleL used v).length=9:=rfl
theorem onceF_nil (used:Wd→Bool) (f:Nat):onceF used f []=[]:=by
 cases f <;> rfl
theorem onceF_cons (used:Wd→Bool) (f:Nat) (w:Wd) (r:List Wd):onceF used (f+1) (w::r)=if (ruleW used (w::r)).1=0 then w::onceF used f r else (ruleW used (w::r)).2++onceF used f ((w::r).drop (ruleW used (w::r)).1):=rfl
theorem usedW_take (l:List Wd) (k:Nat) (h:k<l.length) (s:Wd):usedW (l.take (k+1)) s=(usedW (l.take k) s || decide (refW l[k]=some s)):=by
 unfold usedW
 rw[List.take_succ_eq_append_getElem h,List.any_append]
 simp
end Go.Proofs.YtegmklafpoldgaaGreatDoor.Pp
namespace Go.Proofs.YtegmklafpoldgaaGreatDoor.Pp
open Go.GL Go.RowKit Go.Stele
open Asm (OptLV OptLV.mk ite_some)
attribute [local irreducible] LOps LCode LStep LCalls Go.GL.Pure QThen QBlock RetPost LQ LAny LLate LLateOp
theorem strs_ok (l:List Wd):((l.map str).flatMap LV.cells).all cellOk=true:=by
 induction l with
 |nil=>rfl
 |cons a l ih=>
  rw[zMc,List.flatMap_cons,List.all_append,ih]
  rfl
theorem tail_list (l:List Wd) (i:Nat):((l.map str).take (((l.map str).length:Nat):Int).toNat).drop ((i:Nat):Int).toNat=(l.drop i).map str:=by
 rw[Int.toNat_natCast,Int.toNat_natCast,List.take_length,List.map_drop]
theorem acc_perm1 {s:Nat} {v:LV} {es:List LV} {H:Heap} {q:Nat×LObj} (h:Acc s v es H [q]):∃ F,H.Perm ([q]++F):=by
 cases h with
 |nil=>exact ⟨[],List.Perm.refl _⟩
 |row=>exact ⟨[_],List.Perm.swap ..⟩
theorem Small.drop {l:List Wd} (h:Small l) (i:Nat):Small (l.drop i):=
 ⟨by have:=h.1;rw[List.length_drop];omega,fun w hw=>h.2 w (List.mem_of_mem_drop hw)⟩
def fnLV (k:Nat):LV:=.atom (.func (.func (78+k)) #[] #[])
section
variable {B0:Nat} {w0:World}
theorem once_spec (hG:GW B0 w0) (l:List Wd) (hv:Small l):LCalls (KC B0 w0) 30 [.list (l.map str)] [] (Ret (.list ((onceP l).map str))):=by
 have hla:(l.map str).length=l.length:=zLm _
 have hl:=hv.1
 refine cI Tryz.func30 rfl (n:=73) rfl rfl rfl ?_
 refine ga1 ?_
 refine oS (S.makeMap fun m=>?_) rfl
 refine ga9 ?_
 refine oL (fun k ls H=>∃ (i:Nat) (es:Array MapEntry) (clock:Nat),i≤l.length∧k=l.length-i∧ls=[(0,.list (l.map str)),(3,.atom (.map (some m))),(17,.list (l.map str)),(18,int .i64 l.length),(19,int .i64 (i:Nat))]∧H=[(m,.obj (.map es clock))]∧SetMap es (usedW (l.take i)))
  ⟨_,_,_,⟨0,#[],0,Nat.zero_le _,rfl,rfl,rfl,SetMap.nil⟩,⟨rfl,rfl,rfl,int_eq zo,rfl,trivial⟩,zhR _⟩ ?_
 rintro k ls H ⟨i,es,clock,hi,rfl,rfl,rfl,hM⟩ j1 hj1
 refine gae ?_
 refine oC rfl (fun hc=>?_) (fun hc=>?_)
 ·have hlt:i<l.length:=by have:=zt hc;omega
  have kr:=reference_spec (B0:=B0) (w0:=w0) l[i] (by have:=hv.2 _ (List.getElem_mem hlt);omega)
  have hU:usedW (l.take (i+1))=fun s=>usedW (l.take i) s || decide (refW l[i]=some s):=funext fun s=>usedW_take l i hlt s
  refine gag ?_
  refine oP (xR (el':=str l[i]) (cs:=[str l[i]]) rfl rfl zo (map_get _ _ _ hlt) rfl rfl) rfl ?_
  refine gb1 ?_
  refine oS (S.fnIf [_] rfl kr ?_) rfl
  rintro lv ⟨s,rfl,hs⟩
  refine gam ?_
  refine oC rfl (fun h=>?_) (fun h=>?_)
  ·obtain ⟨d,hd⟩:=Option.isSome_iff_exists.1 h
   obtain rfl:=hs d hd
   refine gas ?_
   refine oS (S.setPut (t:=102) (kt:=9) (el:=4) zk zk rfl rfl rfl pH hM fun es' clock' hM'=>?_) rfl
   refine gah ?_
   exact ⟨_,_,_,by omega,⟨i+1,es',clock',by omega,rfl,rfl,rfl,by
    rw[hU,hd]
    exact cast (by congr;funext x;simp[eq_comm]) hM'⟩,⟨rfl,rfl,rfl,rfl,int_eq zo,trivial⟩,zhR _,hj1⟩
  ·have hn:refW l[i]=none:=by
    cases ho:refW l[i] with
    |none=>rfl
    |some d=>rw[ho] at h;cases h
   refine gax ?_
   exact ⟨_,_,_,by omega,⟨i+1,es,clock,by omega,rfl,rfl,rfl,by
    rw[hU,hn]
    exact cast (by congr;funext x;simp) hM⟩,⟨rfl,rfl,rfl,rfl,int_eq zo,trivial⟩,zhR _,hj1⟩
 ·have hi':i=l.length:=by have:=zf hc;omega
  subst hi'
  rw[List.take_length] at hM
  refine gbb ?_
  refine oS (sL [.func 78,.func 79,.func 80,.func 81,.func 82,.func 83,.func 84,.func 85,.func 86] rfl (eC rfl rfl (eC rfl rfl (eC rfl rfl (eC rfl rfl (eC rfl rfl (eC rfl rfl (eC rfl rfl (eC rfl rfl (eC rfl rfl eN))))))))) rfl rfl rfl ?_) rfl
  refine gnz ?_
  refine oL (fun k ls H=>∃ (i f:Nat) (out:List Wd) (v:LV),i≤l.length∧k=l.length-i∧ls=[(0,.list (l.map str)),(3,.atom (.map (some m))),(8,.list ((List.range 9).map fnLV)),(9,v),(10,int .i64 (i:Nat))]∧Acc 1 v (out.map str) H [(m,.obj (.map es clock))]∧l.length-i≤f∧out.length≤i∧out++onceF (usedW l) f (l.drop i)=onceP l)
   ⟨_,_,_,⟨0,l.length,[],nilSlice,Nat.zero_le _,rfl,rfl,Acc.nil,by omega,Nat.zero_le _,rfl⟩,⟨rfl,rfl,rfl,rfl,rfl,trivial⟩,zhR _⟩ ?_
  rintro k ls H ⟨i,f,out,v,hi,rfl,rfl,hacc,hf,hlen,hE⟩ j2 hj2
  have hol:(out.map str).length=out.length:=zLm _
  refine gn0 ?_
  refine oC rfl (fun hc=>?_) (fun hc=>?_)
  ·have hlt:i<l.length:=by have:=zt hc;omega
   obtain ⟨f,rfl⟩:∃ g,f=g+1:=⟨f-1,by omega⟩
   have hR:(ruleW (usedW l) (l.drop i)).1≠0→(ruleW (usedW l) (l.drop i)).1≤(l.drop i).length∧(ruleW (usedW l) (l.drop i)).2.length<(ruleW (usedW l) (l.drop i)).1:=rule_ok (usedW l) (l.drop i)
   have hF:=ruleW_first (usedW l) (l.drop i)
   have hl9:=ruleL_len (usedW l) (l.drop i)
   rw[List.drop_eq_getElem_cons hlt,onceF_cons,←List.drop_eq_getElem_cons hlt,List.drop_drop] at hE
   have hdl:(l.drop i).length=l.length-i:=List.length_drop
   repeat (first|refine LOps.nil ?_|refine qN ?_|refine LCode.skip ?_|refine LCode.block ?_)
   refine LCode.seq ?_
   repeat (first|refine LOps.nil ?_|refine qN ?_|refine LCode.region ?_|refine oP (pA (lv:=.atom _) rfl) rfl ?_)
   refine LCode.seq ?_
   refine cM (A:=Nat×List Wd×LV×Heap) (fun a=>[(0,.list (l.map str)),(3,.atom (.map (some m))),(8,.list ((List.range 9).map fnLV)),(9,a.2.2.1),(10,int .i64 (i:Nat)),(11,int .i64 a.1)]) (fun a=>a.2.2.2)
    (fun a=>a.1=(ruleW (usedW l) (l.drop i)).1∧a.2.1=(if (ruleW (usedW l) (l.drop i)).1=0 then out else out++(ruleW (usedW l) (l.drop i)).2)∧Acc 1 a.2.2.1 (a.2.1.map str) a.2.2.2 [(m,.obj (.map es clock))]) ?_ ?_
   ·refine gbl ?_
    refine oL (fun k ls H1=>∃ x:Nat,x≤9∧k=9-x∧ls=[(0,.list (l.map str)),(3,.atom (.map (some m))),(8,.list ((List.range 9).map fnLV)),(9,v),(10,int .i64 (i:Nat)),(11,int .i64 0),(37,.list ((List.range 9).map fnLV)),(38,int .i64 9),(39,int .i64 (x:Nat))]∧H1=H∧ruleW (usedW l) (l.drop i)=firstR ((ruleL (usedW l) (l.drop i)).drop x)) ?_ ?_
    ·exact ⟨_,_,_,⟨0,Nat.zero_le _,rfl,rfl,rfl,hF⟩,⟨rfl,rfl,rfl,rfl,rfl,rfl,rfl,rfl,rfl,trivial⟩,zhR _⟩
    rintro k ls H1 ⟨x,hx,rfl,rfl,rfl,hX⟩ j3 hj3
    refine gae ?_
    refine oC rfl (fun hc=>?_) (fun hc=>?_)
    ·have hx9:x<9:=by have:=zt hc;omega
     rw[firstR_drop zo] at hX
     refine gag ?_
     refine oP (xR (el':=fnLV x) (cs:=[fnLV x]) rfl rfl zo (by
      have:=map_get fnLV (List.range 9) x (by simpa using hx9)
      rw[List.getElem_range] at this
      exact this) rfl rfl) rfl ?_
     refine gn1 ?_
     refine oP (show Go.GL.Pure _ _ _ _ (.list ((l.drop i).map str)) from tail_list l i▸Pure.lslice (es:=l.map str) (i:=((i:Nat):Int)) (j:=(((l.map str).length:Nat):Int)) rfl ⟨_,rfl⟩ rfl zo zo zo (strs_len l)) rfl ?_
     refine gn2 ?_
     have hv':=hv.drop i
     have hxl:x<(ruleL (usedW l) (l.drop i)).length:=by omega
     generalize hr:(ruleL (usedW l) (l.drop i))[x]=r at hX
     refine LOps.cut [(0,.list (l.map str)),(3,.atom (.map (some m))),(8,.list ((List.range 9).map fnLV)),(9,v),(10,int .i64 (i:Nat)),(11,int .i64 0),(14,int .i64 (r.1:Nat)),(15,.list (r.2.map str)),(37,.list ((List.range 9).map fnLV)),(38,int .i64 9),(39,int .i64 (x:Nat))] ?_ (fun j4 hj4=>?_)
     ·clear hX
      have h9:x=0∨x=1∨x=2∨x=3∨x=4∨x=5∨x=6∨x=7∨x=8:=by omega
      rcases h9 with rfl|rfl|rfl|rfl|rfl|rfl|rfl|rfl|rfl
      ·obtain rfl:rFold (l.drop i)=r:=hr
       refine oS (S.fnV (f:=78) [_] rfl rfl (fold_spec hG (l.drop i) m hv') ?_) rfl
       refine gbe ?_
       exact ⟨⟨rfl,rfl,rfl,rfl,rfl,rfl,rfl,rfl,rfl,rfl,rfl,trivial⟩,rfl,rfl⟩
      ·obtain rfl:rNeutral (l.drop i)=r:=hr
       refine oS (S.fnV (f:=79) [_] rfl rfl (neutral_spec (B0:=B0) (w0:=w0) (l.drop i) m hv') ?_) rfl
       refine gbe ?_
       exact ⟨⟨rfl,rfl,rfl,rfl,rfl,rfl,rfl,rfl,rfl,rfl,rfl,trivial⟩,rfl,rfl⟩
      ·obtain rfl:rRegroup (l.drop i)=r:=hr
       refine oS (S.fnV (f:=80) [_] rfl rfl (regroup_spec hG (l.drop i) m hv') ?_) rfl
       refine gbe ?_
       exact ⟨⟨rfl,rfl,rfl,rfl,rfl,rfl,rfl,rfl,rfl,rfl,rfl,trivial⟩,rfl,rfl⟩
      ·obtain rfl:rSame (l.drop i)=r:=hr
       refine oS (S.fnV (f:=81) [_] rfl rfl (same_spec hG (l.drop i) m hv') ?_) rfl
       refine gbe ?_
       exact ⟨⟨rfl,rfl,rfl,rfl,rfl,rfl,rfl,rfl,rfl,rfl,rfl,trivial⟩,rfl,rfl⟩
      ·obtain rfl:rDouble (l.drop i)=r:=hr
       refine oS (S.fnV (f:=82) [_] rfl rfl (double_spec (B0:=B0) (w0:=w0) (l.drop i) m hv') ?_) rfl
       refine gbe ?_
       exact ⟨⟨rfl,rfl,rfl,rfl,rfl,rfl,rfl,rfl,rfl,rfl,rfl,trivial⟩,rfl,rfl⟩
      ·obtain rfl:rNever (l.drop i)=r:=hr
       refine oS (S.fnV (f:=83) [_] rfl rfl (never_spec hG (l.drop i) m hv') ?_) rfl
       refine gbe ?_
       exact ⟨⟨rfl,rfl,rfl,rfl,rfl,rfl,rfl,rfl,rfl,rfl,rfl,trivial⟩,rfl,rfl⟩
      ·obtain rfl:rNext (l.drop i)=r:=hr
       refine oS (S.fnV (f:=84) [_] rfl rfl (next_spec (B0:=B0) (w0:=w0) (l.drop i) m hv') ?_) rfl
       refine gbe ?_
       exact ⟨⟨rfl,rfl,rfl,rfl,rfl,rfl,rfl,rfl,rfl,rfl,rfl,trivial⟩,rfl,rfl⟩
      ·obtain rfl:rDead (l.drop i)=r:=hr
       refine oS (S.fnV (f:=85) [_] rfl rfl (dead_spec (B0:=B0) (w0:=w0) (l.drop i) m hv') ?_) rfl
       refine gbe ?_
       exact ⟨⟨rfl,rfl,rfl,rfl,rfl,rfl,rfl,rfl,rfl,rfl,rfl,trivial⟩,rfl,rfl⟩
      ·obtain rfl:rUnused (usedW l) (l.drop i)=r:=hr
       obtain ⟨F,hp⟩:=acc_perm1 hacc
       refine oS (S.callV (f:=86) (H1:=[(m,.obj (.map es clock))]) (F:=F) [_] rfl rfl hp (unused_spec (B0:=B0) (w0:=w0) (l.drop i) m hv' hM) (fun v' H' hh=>?_) (by rintro ch H' ⟨h,_⟩;cases h)) rfl
       obtain ⟨hv1,rfl⟩:=hh
       cases hv1
       refine LOps.weak ⟨[],by simpa using hp.symm⟩ ?_
       refine gbe ?_
       exact ⟨⟨rfl,rfl,rfl,rfl,rfl,rfl,rfl,rfl,rfl,rfl,rfl,trivial⟩,rfl,rfl⟩
     refine gn3 ?_
     refine oC rfl (fun hn=>?_) (fun hn=>?_)
     ·have hn0:r.1≠0:=by have:=zt hn;omega
      rw[if_pos hn0] at hX
      rw[hX] at hR
      obtain ⟨hR1,hR2⟩:=hR hn0
      have hrl:(r.2.map str).length=r.2.length:=zLm _
      refine gal ?_
      refine oP (pM (lv:=v) rfl) rfl ?_
      refine gb9 ?_
      refine oS (S.acc rfl hacc rfl (strs_len _) (strs_ok _) zo fun v' H' hacc'=>?_) rfl
      refine oP (pA (lv:=v') rfl) rfl ?_
      refine gn4 ?_
      exact ⟨(r.1,out++r.2,v',H'),⟨by rw[hX],by rw[hX,if_neg hn0],by rw[zMa];exact hacc'⟩,⟨rfl,rfl,rfl,rfl,rfl,rfl,trivial⟩,zhR _,hj4.trans hj3⟩
     ·have hn0:r.1=0:=by have:=zf hn;omega
      rw[if_neg zo] at hX
      refine gax ?_
      exact ⟨_,_,_,by omega,⟨x+1,by omega,rfl,rfl,rfl,hX⟩,⟨rfl,rfl,rfl,rfl,rfl,rfl,rfl,rfl,int_eq zo,trivial⟩,zhR _,hj4.trans hj3⟩
    ·have hx9:x=9:=by have:=zf hc;omega
     subst hx9
     rw[firstR_end zo] at hX
     refine gn5 ?_
     exact ⟨(0,out,v,H1),⟨by rw[hX],by rw[hX];rfl,hacc⟩,⟨rfl,rfl,rfl,rfl,rfl,rfl,trivial⟩,zhR _,hj3⟩
   ·rintro ⟨n,out',v',H'⟩ ⟨hn1,ho1,hacc'⟩ j5 hj5
    simp only at hn1 ho1 hacc'
    have hol':(out'.map str).length=out'.length:=zLm _
    rw[←hn1] at hR ho1 hE
    refine gfr ?_
    refine oC rfl (fun hn=>?_) (fun hn=>?_)
    ·have hn0:n=0:=by have:=zt hn;omega
     rw[if_pos hn0] at ho1 hE
     subst ho1
     refine ga1 ?_
     refine oP (pM (lv:=v') rfl) rfl ?_
     refine gn6 ?_
     refine oP (xR (el':=str l[i]) (cs:=[str l[i]]) rfl rfl zo (map_get _ _ _ hlt) rfl rfl) rfl ?_
     refine gch ?_
     refine oS (sL [_] rfl (eC rfl rfl eN) rfl rfl rfl ?_) rfl
     refine oS (S.acc rfl hacc' rfl (by simp;rfl) rfl (by simp;omega) fun v2 H2 hacc2=>?_) rfl
     refine oP (pA (lv:=v2) rfl) rfl ?_
     refine gce ?_
     exact ⟨_,_,_,by omega,⟨i+1,f,out'++[l[i]],v2,by omega,rfl,rfl,by rw[zMa];exact hacc2,by omega,by simp;omega,by rw[zAs];exact hE⟩,⟨rfl,rfl,rfl,rfl,int_eq zo,trivial⟩,zhR _,hj5.trans hj2⟩
    ·have hn0:n≠0:=by have:=zf hn;omega
     rw[if_neg hn0] at ho1 hE
     obtain ⟨hR1,hR2⟩:=hR hn0
     have hlo:out'.length=out.length+(ruleW (usedW l) (l.drop i)).2.length:=by rw[ho1,zLa]
     refine gdh ?_
     exact ⟨_,_,_,by omega,⟨i+n,f,out',v',by omega,rfl,rfl,hacc',by omega,by omega,by rw[ho1,zAs];exact hE⟩,⟨rfl,rfl,rfl,rfl,int_eq zo,trivial⟩,zhR _,hj5.trans hj2⟩
  ·have hi':i=l.length:=by have:=zf hc;omega
   subst hi'
   rw[List.drop_length,onceF_nil,zLz] at hE
   subst hE
   refine LCode.sub (d:=9) (v:=v) rfl hacc.sub ?_
   refine cW zhn ?_
   refine gc8 ?_
   exact retRet (hj2.trans hj1) (rC (rT (v:=.list _) rfl zsr) rN) rfl
end
end Go.Proofs.YtegmklafpoldgaaGreatDoor.Pp
namespace Go.Proofs.YtegmklafpoldgaaGreatDoor.Pp
open Go.GL Go.RowKit Go.Stele
open Asm (OptLV OptLV.mk ite_some tokLV)
attribute [local irreducible] LOps LCode LStep LCalls Go.GL.Pure QThen QBlock RetPost LQ LAny LLate LLateOp
section
variable {B0:Nat} {w0:World}
theorem joinS_spec (sep:List UInt8) (ws:List (List UInt8)) (hn:ws.length≤1000000000) (hl:(Go.Lib.join ws sep).length≤1000000000):LCalls (KC B0 w0) 26 [.list (ws.map str),str sep] [] (Ret (str (Go.Lib.join ws sep))):=Asm.joinS_spec sep ws hn hl
theorem words_spec (hG:GW B0 w0) (s:List UInt8) (hs:s.length≤1000000):LCalls (KC B0 w0) 29 [str s] [] (Ret (.list ((wordsP s).map str))):=by
 have ht:=Asm.tokens_spec hG.base hG.mx s zo
 have hla:((toksP s).map tokLV).length=(toksP s).length:=zLm _
 have htl:(toksP s).length≤s.length+1:=by
  have h1:=wordsP_len s
  rw[←toksP_fst,zLm] at h1
  exact h1
 rw[←toksP_fst]
 generalize toksP s=l at ht hla htl
 refine cI Tryz.func29 rfl (n:=20) rfl rfl rfl ?_
 refine gal ?_
 refine oS (sF [_] rfl ht ?_) rfl
 refine gbf ?_
 refine oL (fun k ls H=>∃ (v:LV) (i:Nat),i≤l.length∧k=l.length-i∧ls=[(3,v),(7,.list (l.map tokLV)),(8,int .i64 l.length),(9,int .i64 (i:Nat))]∧Acc 1 v (((l.take i).map (·.1)).map str) H [])
  ⟨_,_,_,⟨nilSlice,0,Nat.zero_le _,rfl,rfl,by simpa using Acc.nil⟩,⟨rfl,rfl,int_eq zo,rfl,trivial⟩,zhR _⟩ ?_
 rintro k ls H ⟨v,i,hi,rfl,rfl,hacc⟩ j hj
 refine gae ?_
 refine oC rfl (fun hc=>?_) (fun hc=>?_)
 ·have hlt:i<l.length:=by have:=zt hc;omega
  refine gag ?_
  refine oP (xR (el':=tokLV l[i]) (cs:=[_,_]) rfl rfl zo (map_get _ _ _ hlt) rfl rfl) rfl ?_
  refine ga5 ?_
  refine oS (sA fun b5=>?_) rfl
  refine gn7 ?_
  refine oP (pM (lv:=v) rfl) rfl ?_
  refine gn8 ?_
  refine oS (sL [_] rfl (eC rfl rfl eN) rfl rfl rfl ?_) rfl
  refine oS (S.acc1 rfl hacc rfl (by simp;rfl) rfl (by simp;omega) fun v' H' hacc'=>?_) rfl
  refine oP (pA (lv:=v') rfl) rfl ?_
  refine gah ?_
  exact ⟨_,_,_,by omega,⟨v',i+1,by omega,rfl,rfl,by
   rw[List.take_succ_eq_append_getElem hlt,zMa,zMa]
   exact hacc'⟩,⟨rfl,rfl,rfl,int_eq zo,trivial⟩,zhD zhr,hj⟩
 ·have hi':i=l.length:=by have:=zf hc;omega
  subst hi'
  rw[List.take_length] at hacc
  refine LCode.sub (d:=3) (v:=v) rfl hacc.sub ?_
  refine cW zhn ?_
  refine gc8 ?_
  exact retRet hj (rC (rT (v:=.list _) rfl zsr) rN) rfl
end
end Go.Proofs.YtegmklafpoldgaaGreatDoor.Pp
namespace Go.Proofs.YtegmklafpoldgaaGreatDoor.Pp
open Go.GL Go.RowKit Go.Stele
open Asm (OptLV OptLV.mk ite_some)
theorem small_tot {l:List Wd} (h:tot l≤1000000):Small l:=⟨by have:=tot_len l;omega,fun w hw=>by have:=tot_mem hw;omega⟩
attribute [local irreducible] LOps LCode LStep LCalls Go.GL.Pure QThen QBlock RetPost LQ LAny LLate LLateOp
section
variable {B0:Nat} {w0:World}
theorem optimize_spec (hG:GW B0 w0) (s:List UInt8) (hs:s.length≤1000000):LCalls (KC B0 w0) 11 [str s] [] (Ret (.tuple [str (optimizeP s).1,int .i64 (optimizeP s).2])):=by
 refine cI Tryz.func11 rfl (n:=21) rfl rfl rfl ?_
 refine gcs ?_
 refine oC rfl (fun h1=>?_) (fun h1=>?_)
 ·have hlt:400000<s.length:=by have:=zt h1;omega
  have hO:optimizeP s=([],6):=by unfold optimizeP;rw[if_pos hlt]
  refine gaf ?_
  exact retRet rfl (rC (zrt rfl) (zra rfl)) (by rw[hO];rfl)
 have hlt:¬ 400000<s.length:=by have:=zf h1;omega
 have hO:optimizeP s=(Go.Lib.join (optP (wordsP s)) [32],0):=by unfold optimizeP;rw[if_neg hlt]
 have ht:=words_tot s
 have hc:=wordsP_clean s
 refine gaw ?_
 refine oS (sF [_] rfl (words_spec hG s hs) ?_) rfl
 refine gn9 ?_
 refine oL (fun k ls H=>∃ l:List Wd,k=l.length∧ls=[(4,.list (l.map str))]∧H=[]∧tot l≤400001∧(∀ w∈l,CleanW w)∧optP (wordsP s)=optP l)
  ⟨_,_,_,⟨_,rfl,rfl,rfl,by omega,hc,rfl⟩,⟨rfl,trivial⟩,zhR _⟩ ?_
 rintro k ls H ⟨l,rfl,rfl,rfl,htl,hcl,hE⟩ j hj
 have h1:=once_spec hG l (small_tot zo)
 have h2:=onceP_tot l
 have hcl2:=once_clean hcl
 have hjt:=join_tot l
 have hjt2:=join_tot (onceP l)
 have hln:=tot_len l
 have hln2:=tot_len (onceP l)
 have hor:=onceP_or l
 have j1:=joinS_spec (B0:=B0) (w0:=w0) [32] l zo zo
 have j2:=joinS_spec (B0:=B0) (w0:=w0) [32] (onceP l) zo zo
 refine goa ?_
 refine oS (sF [_] rfl h1 ?_) rfl
 refine gfh ?_
 refine oS (sF [_,_] rfl j2 ?_) rfl
 refine gb9 ?_
 refine oS (sF [_,_] rfl j1 ?_) rfl
 refine gob ?_
 refine oC rfl (fun h3=>?_) (fun h3=>?_)
 ·have he:=join_inj hcl2 hcl (zt h3)
  rw[optP_eq he] at hE
  rw[hE] at hO
  refine goc ?_
  refine oS (sF [_,_] rfl j1 ?_) rfl
  refine gau ?_
  exact retRet hj (rC (zrt rfl) (zra rfl)) (by rw[hO];rfl)
 ·have hne:¬ onceP l=l:=fun h=>zf h3 (by rw[h])
  rw[optP_step hne] at hE
  refine god ?_
  exact ⟨_,_,_,by rcases hor with h|h;exact absurd h hne;exact h,⟨onceP l,rfl,rfl,rfl,by omega,hcl2,hE⟩,⟨rfl,trivial⟩,zhR _,hj⟩
end
end Go.Proofs.YtegmklafpoldgaaGreatDoor.Pp
namespace Go.Proofs.YtegmklafpoldgaaGreatDoor.Pp
open Go.GL Go.RowKit Go.Stele
open Cmp (cmpLV)
open Go.Lib (decDigits join)
theorem asm_len2 {p:Pr} {n:Nat} (hsz:SzP p n) {o:Org} {t:Wd} (hn:n≤2000000) (h:cmpP p.vars (arrsP p) p.funcs o=.ok t):t.length≤60+60 * n:=by
 obtain ⟨hc,hfit,ht,_⟩:=cmp_ok hsz.nums h
 have hw:=(prW_tot (P:=p) (o:=o) hc hsz.nums hfit (zNt hsz.funcs hn)).1
 have hj:=join_tot (wordsC p o)
 have:=hsz.funcs
 rw[ht]
 omega
theorem asm_err {src:Wd} {og:Int} {e:Nat×Nat} (h:asmP src og=.error e):e.2≠0:=by
 unfold asmP at h
 split at h
 ·injection h with h;rw[←h];decide
 split at h
 ·rename_i h1;injection h with h;rw[←h];exact h1
 split at h
 ·injection h with h;rw[←h];decide
 ·cases h
theorem cmp_parts (p:Pr) (o:Org):∃ x f,cmpLV (cmpP p.vars (arrsP p) p.funcs o)=.tuple [str x,int .i64 f]∧(f=0→cmpP p.vars (arrsP p) p.funcs o=.ok x):=by
 cases h:cmpP p.vars (arrsP p) p.funcs o with
 |ok x=>exact ⟨x,0,rfl,fun _=>rfl⟩
 |error e=>
  refine ⟨[],e,rfl,fun he=>?_⟩
  exfalso
  unfold cmpP at h
  split at h
  ·rename_i h1;injection h with h;rw[h] at h1;exact h1 he
  split at h
  ·injection h with h;omega
  split at h
  ·rename_i e' h1;injection h with h;exact asm_err h1 zo
  ·cases h
theorem opt_out {p:Pr} {n:Nat} (hsz:SzP p n) (hn:n≤3100) {o:Org} {t:Wd} (h:cmpP p.vars (arrsP p) p.funcs o=.ok t):t.length≤186060∧optimizeP t=(join (optP (wordsP t)) [32],0)∧(join (optP (wordsP t)) [32]).length≤300000000:=by
 have h1:=asm_len2 hsz zo h
 have h2:=opt_size t
 refine ⟨by omega,?_,by omega⟩
 unfold optimizeP
 rw[if_neg zo]
end Go.Proofs.YtegmklafpoldgaaGreatDoor.Pp
namespace Go.Proofs.YtegmklafpoldgaaGreatDoor.Pp
open Go.GL Go.RowKit Go.Stele
open Asm (OptLV OptLV.mk ite_some)
def aliveA:List UInt8:=[50,32,51,32,43,32,48,32,94,32,46,32,36,32,55,32,46]
def aliveB:List UInt8:=[38,102,32,58,32,49,32,36,32,102,58,32,48,32,38,106,32,63,32,57,32,106,58,32,59]
theorem aliveA_is:optimizeP aliveA=([53,32,46,32,36],0):=by kernel_rfl
theorem aliveB_is:optimizeP aliveB=([38,102,32,58,32,49,32,36,32,102,58,32,59],0):=by kernel_rfl
attribute [local irreducible] LOps LCode LStep LCalls Go.GL.Pure QThen QBlock RetPost LQ LAny LLate LLateOp
section
variable {B0:Nat} {w0:World}
theorem alive_spec (hG:GW B0 w0):LCalls (KC B0 w0) 6 [] [] (Ret (bool true)):=by
 have h1:=optimize_spec hG aliveA zDd
 rw[aliveA_is] at h1
 have h2:=optimize_spec hG aliveB zDd
 rw[aliveB_is] at h2
 refine cI Tryz.func6 rfl (n:=27) rfl rfl rfl ?_
 refine ga1 ?_
 refine oS (sF [_] rfl h1 ?_) rfl
 refine goe ?_
 refine oS (sF [_] rfl h2 ?_) rfl
 refine gf2 ?_
 exact retRet rfl (zra rfl) rfl
end
end Go.Proofs.YtegmklafpoldgaaGreatDoor.Pp
namespace Go.Stele.Wi
open Go.Lib
section
variable {C:PW}
/-! ### Words -/
theorem num_first {w:Wd} {n:Nat} (h:numW w=some n):w≠[]∧∀ c∈w,isDigit c=true:=by
 obtain ⟨h1,h2⟩:=(numW_iff w n).1 h
 rw[←h2]
 exact ⟨decDigits_ne n,dec_digits n⟩
theorem sign_nonum {c:UInt8} (h:isDigit c=false):numW [c]=none:=by
 cases hn:numW [c] with
 |none=>rfl
 |some n=>
  have h1:=(num_first hn).2 c (List.mem_singleton.2 rfl)
  rw[h] at h1
  cases h1
theorem num_kind {w:Wd} {n:Nat} (h:numW w=some n):defW w=none∧refW w=none:=by
 have:=num_num h
 exact ⟨this.1,this.2⟩
theorem ref_nonum {w x:Wd} (h:refW w=some x):numW w=none:=by
 cases hn:numW w with
 |none=>rfl
 |some n=>rw[(num_kind hn).2] at h;cases h
abbrev signs:Wd:=[43,45,42,47,37,94,60,64,33,63,58,59,44,46,36]
section
variable {i:Nat}
end
end
end Go.Stele.Wi
namespace Go.Stele.Wi
open Go.Lib
def neutralC (n:Nat) (c:UInt8):Prop:=n=0∧(c=43∨c=45∨c=94)∨n=1∧(c=42∨c=47)
inductive Kind (used:Wd→Bool):List Wd→List Wd→List Wd→Prop
 |fold {x y op z:Wd} {rest:List Wd}:joinedW x op y=some z→Kind used (x::y::op::rest) [z] rest
 |neutral {x:Wd} {n:Nat} {c:UInt8} {rest:List Wd}:numW x=some n→neutralC n c→Kind used (x::[c]::rest) [] rest
 |regroup {x y z:Wd} {c:UInt8} {rest:List Wd}:(c=43∨c=42∨c=94)→joinedW x [c] y=some z→Kind used (x::[c]::y::[c]::rest) [z,[c]] rest
 |same {x:Wd} {n:Nat} {rest:List Wd}:numW x=some n→Kind used (x::[64]::x::[33]::rest) [] rest
 |double {w l:Wd} {rest:List Wd}:refW w=some l→Kind used ([49]::[60]::[49]::[60]::w::[63]::rest) [w,[63]] rest
 |never {x w l:Wd} {n:Nat} {rest:List Wd}:numW x=some n→n≠0→refW w=some l→Kind used (x::w::[63]::rest) [] rest
 |next {w l:Wd} {rest:List Wd}:refW w=some l→nextW l rest=true→Kind used ([48]::w::[63]::rest) [] rest
 |deadJ {w l:Wd} {dead rest:List Wd}:refW w=some l→(∀ y∈dead,defW y=none)→(∀ y r,rest=y::r→(defW y).isSome=true)→Kind used ([48]::w::[63]::(dead++rest)) [[48],w,[63]] rest
 |deadS {c:UInt8} {dead rest:List Wd}:(c=59∨c=36)→(∀ y∈dead,defW y=none)→(∀ y r,rest=y::r→(defW y).isSome=true)→Kind used ([c]::(dead++rest)) [[c]] rest
 |unused {w l:Wd} {rest:List Wd}:defW w=some l→used l=false→Kind used (w::rest) [] rest
theorem num48:numW [48]=some 0:=by decide +kernel
theorem num49:numW [49]=some 1:=by decide +kernel
theorem dead_split (l:List Wd):∃ dead rest,l=dead++rest∧dead.length=deadLen l∧(∀ y∈dead,defW y=none)∧(∀ y r,rest=y::r→(defW y).isSome=true):=by
 refine ⟨l.takeWhile fun w=>(defW w).isNone,l.dropWhile fun w=>(defW w).isNone,(List.takeWhile_append_dropWhile).symm,rfl,fun y hy=>?_,fun y r h=>?_⟩
 ·have:(defW y).isNone=true:=by
   have key:∀ {p:Wd→Bool} {l:List Wd} {x:Wd},x∈l.takeWhile p→p x=true:=by
    intro p l
    induction l with
    |nil=>intro x hx;simp at hx
    |cons a r ih=>
     intro x hx
     rw[List.takeWhile_cons] at hx
     split at hx
     ·rename_i hp
      rcases zMi.1 hx with rfl|hx
      ·exact hp
      ·exact ih hx
     ·simp at hx
   exact key (p:=fun w=>(defW w).isNone) hy
  cases h:defW y with
  |none=>rfl
  |some x=>rw[h] at this;cases this
 ·have h2:=List.head?_dropWhile_not (fun w=>(defW w).isNone) l
  rw[h] at h2
  simp only[List.head?_cons] at h2
  cases hd:defW y with
  |none=>rw[hd] at h2;simp at h2
  |some x=>rfl
theorem rule_kind (used:Wd→Bool) (v:List Wd) (h:(ruleW used v).1≠0):Kind used v (ruleW used v).2 (v.drop (ruleW used v).1):=by
 by_cases h1:∃ s,dFold v=some s
 ·obtain ⟨s,h1⟩:=h1
  rw[rule1 h1]
  have hlt:=wdAt_lt (joined_ne h1).2.1
  match v,hlt,h1 with
  |a::b::c::r,_,h1=>exact .fold h1
 have h1:dFold v=Option.none:=by
  cases h:dFold v with
  |none=>rfl
  |some s=>exact absurd ⟨s,h⟩ h1
 by_cases h2:cNeutral v
 ·rw[rule2 h1 h2]
  have hlt:1<v.length:=wdAt_lt (by
   rcases h2 with ⟨_,h|h|h⟩|⟨_,h|h⟩ <;> (rw[h];decide))
  match v,hlt,h2 with
  |a::b::r,_,h2=>
   have h2:a=[48]∧(b=[43]∨b=[45]∨b=[94])∨a=[49]∧(b=[42]∨b=[47]):=h2
   rcases h2 with ⟨rfl,rfl|rfl|rfl⟩|⟨rfl,rfl|rfl⟩
   ·exact .neutral num48 (.inl ⟨rfl,.inl rfl⟩)
   ·exact .neutral num48 (.inl ⟨rfl,.inr (.inl rfl)⟩)
   ·exact .neutral num48 (.inl ⟨rfl,.inr (.inr rfl)⟩)
   ·exact .neutral num49 (.inr ⟨rfl,.inl rfl⟩)
   ·exact .neutral num49 (.inr ⟨rfl,.inr rfl⟩)
 by_cases h3:cRegroup v∧∃ s,dRegroup v=some s
 ·obtain ⟨h3,s,h4⟩:=h3
  rw[rule3 h1 h2 h3 h4]
  have h5:wdAt v 3≠[]:=by rw[h3.2];exact (joined_ne h4).2.1
  have hlt:=wdAt_lt h5
  match v,hlt,h3,h4 with
  |a::b::c::e::r,_,h3,h4=>
   obtain ⟨k1,k2⟩:=h3
   have k1:b=[43]∨b=[42]∨b=[94]:=k1
   have k2:e=b:=k2
   subst k2
   have h4:joinedW a e c=some s:=h4
   rcases k1 with rfl|rfl|rfl
   ·exact .regroup (.inl rfl) h4
   ·exact .regroup (.inr (.inl rfl)) h4
   ·exact .regroup (.inr (.inr rfl)) h4
 have h3:¬ cRegroup v∨dRegroup v=Option.none:=by
  by_cases hc:cRegroup v
  ·right
   cases h:dRegroup v with
   |none=>rfl
   |some s=>exact absurd ⟨hc,s,h⟩ h3
  ·exact .inl hc
 by_cases h4:cSame v
 ·rw[rule4 h1 h2 h3 h4]
  have hlt:3<v.length:=wdAt_lt (by rw[h4.2.2.2];decide)
  match v,hlt,h4 with
  |a::b::c::e::r,_,h4=>
   obtain ⟨k1,k2,k3,k4⟩:=h4
   have k1:(numW a).isSome=true:=k1
   have k2:b=[64]:=k2
   have k3:c=a:=k3
   have k4:e=[33]:=k4
   obtain ⟨n,hn⟩:=Option.isSome_iff_exists.1 k1
   rw[k2,k3,k4]
   exact .same hn
 by_cases h5:cDouble v
 ·rw[rule5 h1 h2 h3 h4 h5]
  obtain ⟨l,hl⟩:=Option.isSome_iff_exists.1 h5.1
  have h6:=jumpW_lt hl
  match v,h6,h5,hl with
  |a::b::c::e::f::g::r,_,h5,hl=>
   obtain ⟨_,k2,k3,k4,k5⟩:=h5
   have k2:a=[49]:=k2
   have k3:b=[60]:=k3
   have k4:c=[49]:=k4
   have k5:e=[60]:=k5
   subst k2 k3 k4 k5
   unfold jumpW at hl
   split at hl
   ·rename_i x hx
    split at hl
    ·rename_i hy
     have hx:refW f=some x:=hx
     have hy:g=[63]:=hy
     subst hy
     exact .double hx
    ·cases hl
   ·cases hl
 have jk:∀ {v:List Wd} {l:Wd},jumpW v 1=some l→∃ a w r,v=a::w::[63]::r∧refW w=some l:=by
  intro v l hl
  have h6:=jumpW_lt hl
  match v,h6,hl with
  |a::b::c::r,_,hl=>
   unfold jumpW at hl
   split at hl
   ·rename_i x hx
    split at hl
    ·rename_i hy
     have hx:refW b=some x:=hx
     have hy:c=[63]:=hy
     subst hy
     injection hl with hl
     subst hl
     exact ⟨_,_,_,rfl,hx⟩
    ·cases hl
   ·cases hl
 cases h6:cNever v with
 |true=>
  rw[rule6 h1 h2 h3 h4 h5 h6]
  unfold cNever at h6
  split at h6
  ·rename_i n hn
   have h7:n≠0∧(jumpW v 1).isSome=true:=by simpa using h6
   obtain ⟨l,hl⟩:=Option.isSome_iff_exists.1 h7.2
   obtain ⟨a,w,r,rfl,hw⟩:=jk hl
   exact .never hn h7.1 hw
  ·cases h6
 |false=>
  cases h7:cNext v with
  |true=>
   rw[rule7 h1 h2 h3 h4 h5 h6 h7]
   unfold cNext at h7
   split at h7
   ·rename_i l hl
    obtain ⟨a,w,r,rfl,hw⟩:=jk hl
    have h8:a=[48]∧nextW l r=true:=by simpa [wdAt] using h7
    obtain ⟨rfl,h8⟩:=h8
    exact .next hw h8
   ·cases h7
  |false=>
   by_cases h8:cDead v
   ·rw[rule8 h1 h2 h3 h4 h5 h6 h7 h8]
    obtain ⟨k1,k2⟩:=h8
    simp only
    unfold stopW at k1 k2 ⊢
    split at k1
    ·rename_i hj
     rw[if_pos hj] at k2 ⊢
     obtain ⟨l,hl⟩:=Option.isSome_iff_exists.1 hj.1
     obtain ⟨a,w,r,rfl,hw⟩:=jk hl
     have ha:a=[48]:=hj.2
     subst ha
     obtain ⟨dead,rest,e1,e2,e3,e4⟩:=dead_split r
     have hd:([48]::w::[63]::r).drop 3=r:=rfl
     rw[hd,←e2,e1]
     have h9:([48]::w::[63]::(dead++rest)).drop (3+dead.length)=rest:=by
      rw[Nat.add_comm,←List.drop_drop]
      simp
     rw[h9]
     exact .deadJ hw e3 e4
    ·rename_i hj
     rw[if_neg hj] at k2 ⊢
     split at k1
     ·rename_i hs
      rw[if_pos hs] at k2 ⊢
      match v,hs,k2 with
      |[],hs,_=>rcases hs with h|h <;> (exact absurd h zDd)
      |a::r,hs,k2=>
       have hs:a=[59]∨a=[36]:=hs
       obtain ⟨dead,rest,e1,e2,e3,e4⟩:=dead_split r
       have hd:(a::r).drop 1=r:=rfl
       rw[hd,←e2,e1]
       have h9:(a::(dead++rest)).drop (1+dead.length)=rest:=by
        rw[Nat.add_comm,←List.drop_drop]
        simp
       rw[h9]
       rcases hs with rfl|rfl
       ·exact .deadS (.inl rfl) e3 e4
       ·exact .deadS (.inr rfl) e3 e4
     ·exact absurd k1 zDd
   ·rw[rule9 h1 h2 h3 h4 h5 h6 h7 h8] at h ⊢
    unfold rUnused at h ⊢
    split at h
    ·rename_i l hl
     split at h
     ·exact absurd rfl h
     ·rename_i hu
      rw[if_neg hu]
      match v,hl with
      |[],hl=>
       have h0:defW (wdAt [] 0)=none:=by decide
       rw[h0] at hl
       cases hl
      |a::r,hl=>
       have hl:defW a=some l:=hl
       exact .unused hl (by simpa using hu)
    ·exact absurd rfl h
/-! ### A pass -/
theorem onceF_fuel (used:Wd→Bool):∀ (f:Nat) (v:List Wd),v.length≤f→onceF used f v=onceF used v.length v
 |0,v,h=>by
  obtain rfl:=List.eq_nil_of_length_eq_zero (Nat.le_zero.1 h)
  rfl
 |f+1,[],_=>rfl
 |f+1,w::r,h=>by
  simp only[zLc] at h ⊢
  rw[onceF,onceF]
  split
  ·rw[onceF_fuel used f r (by omega)]
  ·rename_i h0
   have:=rule_ok used (w::r) h0
   have hl:((w::r).drop (ruleW used (w::r)).1).length≤r.length:=by
    rw[List.length_drop,zLc]
    omega
   rw[onceF_fuel used f _ (by omega),onceF_fuel used r.length _ hl]
def O (used:Wd→Bool) (v:List Wd):List Wd:=onceF used v.length v
theorem O_step (used:Wd→Bool) (w:Wd) (r:List Wd):(O used (w::r)=w::O used r∧(ruleW used (w::r)).1=0)∨∃ p rest,Kind used (w::r) p rest∧O used (w::r)=p++O used rest∧rest.length≤r.length:=by
 unfold O
 rw[zLc,onceF]
 split
 ·rename_i h
  exact .inl ⟨rfl,h⟩
 ·rename_i h
  have hok:=rule_ok used (w::r) h
  have hl:((w::r).drop (ruleW used (w::r)).1).length≤r.length:=by
   rw[List.length_drop,zLc]
   omega
  exact .inr ⟨_,_,rule_kind used _ h,by rw[onceF_fuel used r.length _ hl],hl⟩
theorem neutral_sign {n:Nat} {c:UInt8} (h:neutralC n c):isOp c:=by
 unfold isOp
 rcases h with ⟨_,rfl|rfl|rfl⟩|⟨_,rfl|rfl⟩ <;> decide
theorem kind_jump {used:Wd→Bool} {c:UInt8} {r p rest:List Wd} (hc:c=63∨c=58) (h:Kind used ([c]::r) p rest):False:=by
 have hn:numW [c]=none∧defW [c]=none:=by rcases hc with rfl|rfl <;> decide +kernel
 generalize hv:[c]::r=v at h
 have hj:∀ {x op y z:Wd},joinedW x op y=some z→numW x≠none:=fun hj e=>by
  unfold joinedW at hj
  rw[e] at hj
  cases hj
 cases h with
 |fold h1=>injection hv with e _;exact hj h1 (by rw[←e];exact hn.1)
 |neutral h1 _=>injection hv with e _;rw[←e,hn.1] at h1;cases h1
 |regroup _ h1=>injection hv with e _;exact hj h1 (by rw[←e];exact hn.1)
 |same h1=>injection hv with e _;rw[←e,hn.1] at h1;cases h1
 |double _=>injection hv with e _;injection e with e _;rcases hc with rfl|rfl <;> exact absurd e zDd
 |never h1 _ _=>injection hv with e _;rw[←e,hn.1] at h1;cases h1
 |next _ _=>injection hv with e _;injection e with e _;rcases hc with rfl|rfl <;> exact absurd e zDd
 |deadJ _ _ _=>injection hv with e _;injection e with e _;rcases hc with rfl|rfl <;> exact absurd e zDd
 |deadS h1 _ _=>injection hv with e _;injection e with e _;rw[←e] at h1;rcases hc with rfl|rfl <;> exact absurd h1 zDd
 |unused h1 _=>injection hv with e _;rw[←e,hn.2] at h1;cases h1
theorem O_sign (used:Wd→Bool) {c:UInt8} (hc:c=63∨c=58) (r:List Wd):O used ([c]::r)=[c]::O used r:=by
 rcases O_step used [c] r with ⟨h,_⟩|⟨p,rest,h,_⟩
 ·exact h
 ·exact (kind_jump hc h).elim
theorem kind_ref {used:Wd→Bool} {w x:Wd} {r p rest:List Wd} (hw:refW w=some x) (h:Kind used (w::r) p rest):False:=by
 have hn:numW w=none∧defW w=none:=⟨ref_nonum hw,ref_notdef hw⟩
 have hc:∀ c:UInt8,c≠38→w≠[c]:=fun c h38 e=>by
  rw[e] at hw
  unfold refW at hw
  simp only[h38,false_and,if_false] at hw
  cases hw
 generalize hv:w::r=v at h
 have hj:∀ {x op y z:Wd},joinedW x op y=some z→numW x≠none:=fun hj e=>by
  unfold joinedW at hj
  rw[e] at hj
  cases hj
 cases h with
 |fold h1=>injection hv with e _;exact hj h1 (by rw[←e];exact hn.1)
 |neutral h1 _=>injection hv with e _;rw[←e,hn.1] at h1;cases h1
 |regroup _ h1=>injection hv with e _;exact hj h1 (by rw[←e];exact hn.1)
 |same h1=>injection hv with e _;rw[←e,hn.1] at h1;cases h1
 |double _=>injection hv with e _;exact hc 49 zDd e
 |never h1 _ _=>injection hv with e _;rw[←e,hn.1] at h1;cases h1
 |next _ _=>injection hv with e _;exact hc 48 zDd e
 |deadJ _ _ _=>injection hv with e _;exact hc 48 zDd e
 |deadS h1 _ _=>
  injection hv with e _
  rcases h1 with rfl|rfl
  ·exact hc 59 zDd e
  ·exact hc 36 zDd e
 |unused h1 _=>injection hv with e _;rw[←e,hn.2] at h1;cases h1
theorem O_ref (used:Wd→Bool) {w x:Wd} (hw:refW w=some x) (r:List Wd):O used (w::r)=w::O used r:=by
 rcases O_step used w r with ⟨h,_⟩|⟨p,rest,h,_⟩
 ·exact h
 ·exact (kind_ref hw h).elim
end Go.Stele.Wi
namespace Go.Stele
open Go.Lib
section
variable {W:List Wd} {ok:Nat→Bool} {w x:Wd} {r:List Wd}
end
theorem comp_bin {a b n:Nat} {op:Wd} (h:compW a op b=some n):∃ c:UInt8,op=[c]∧isOp c∧binM c.toNat a b=some n:=by
 unfold compW at h
 unfold isOp
 split at h
 ·rename_i e;exact ⟨43,e,by decide,h⟩
 split at h
 ·rename_i e;exact ⟨45,e,by decide,h⟩
 split at h
 ·rename_i e;exact ⟨42,e,by decide,h⟩
 split at h
 ·rename_i e;exact ⟨94,e,by decide,h⟩
 split at h
 ·rename_i e;refine ⟨60,e,by decide,?_⟩;rw[←h];unfold binM;simp
 split at h
 ·rename_i e;exact ⟨47,e,by decide,h⟩
 split at h
 ·rename_i e;exact ⟨37,e,by decide,h⟩
 ·cases h
end Go.Stele
namespace Go.Stele.Wi
open Go.Lib
section
variable {W:List Wd} {D:Nat→Bool} {n k e:Nat} {o:Wd} {r:List Wd}
theorem joined_parts {x op y z:Wd} (h:joinedW x op y=some z):∃ a b c ch,numW x=some a∧numW y=some b∧op=[ch]∧isOp ch∧binM ch.toNat a b=some c∧numW z=some c∧z.length≤x.length+y.length+1∧c<4294967296:=by
 have hl:=joined_len h
 unfold joinedW at h
 split at h
 ·rename_i a b ha hb
  split at h
  ·rename_i c hc
   split at h
   ·injection h with h
    have hlt:=comp_lt ((numW_iff _ _).1 ha).1 ((numW_iff _ _).1 hb).1 hc
    obtain ⟨ch,h1,h2,h3⟩:=comp_bin hc
    exact ⟨a,b,c,ch,ha,hb,h1,h2,h3,by rw[←h];exact numW_dec hlt,hl,hlt⟩
   ·cases h
  ·cases h
 ·cases h
end
end Go.Stele.Wi
namespace Go.Stele.Wi
open Go.Lib
theorem sign_kind {c:UInt8} (h:c∈signs):defW [c]=none∧numW [c]=none∧refW [c]=none:=by
 obtain ⟨e1,e2,e3⟩:=sign_words h
 exact ⟨e1,sign_nonum e3,e2⟩
theorem stop_sign {c:UInt8} (h:c=59∨c=36):c∈signs:=by rcases h with rfl|rfl <;> decide
section
variable {L:Wd→Nat} {d:Nat} {o:Option Nat} {w x:Wd} {r:List Wd}
end
section
variable {L:Wd→Nat}
end
end Go.Stele.Wi
namespace Go.Stele.Wi
open Go.Lib
section
variable {X:Trn} {n:Nat}
theorem stW_eq (c:CC) (n:Nat) (kind:Int) (name:Nm) (index value:List Ex) (thn els:List Sm):stW c n (.mk kind name index value thn els) =
  if kind=1 then (exW c (value.headD default)++[c.sc name,[33]],n)
  else if kind=2 then (exW c (value.headD default)++c.ar name::(exW c (index.headD default)++[[43],[33]]),n)
  else if kind=3 then
   (match els with
   |[]=>(exW c (value.headD default)++[38::labW n,[63]]++(stWs c (n+1) thn).1++[labW n++[58]],(stWs c (n+1) thn).2)
   |_::_=>(exW c (value.headD default)++[38::labW n,[63]]++(stWs c (n+2) thn).1++[[48],38::labW (n+1),[63],labW n++[58]]++(stWs c (stWs c (n+2) thn).2 els).1++[labW (n+1)++[58]],(stWs c (stWs c (n+2) thn).2 els).2))
  else if kind=4 then ([labW n++[58]]++exW c (value.headD default)++[38::labW (n+1),[63]]++(stWs c (n+2) thn).1++[[48],38::labW n,[63],labW (n+1)++[58]],(stWs c (n+2) thn).2)
  else if kind=5 then (exW c (value.headD default)++[[59]],n)
  else if kind=6 then (exW c (value.headD default)++[c.t0,[33]],n)
  else if kind=7 then ([[36]],n)
  else ([],n):=by
 rw[stW.eq_def];try rfl
end
end Go.Stele.Wi
namespace Go.Stele.Wi
open Go.Lib
theorem asm_AsmOk {src x:Wd} {og:Int} {labs:List (Wd×Nat)} (h:asmP src og=.ok (x,labs)):AsmOk (wordsP src)∧x.length≤40000:=by
 have h2:=(asm_chars h).1
 unfold asmP at h
 split at h
 ·cases h
 split at h
 ·cases h
 rename_i h1
 exact ⟨asm_ok (Classical.not_not.1 h1),h2⟩
section
variable {P:Pr} {o:Org} {t:Wd}
end
end Go.Stele.Wi
namespace Go.Stele.Wi
open Go.Lib
def zzzL:Wd:=[102,95,122,122,122]
def zzzF (n:Nat):FnD:=⟨[122,122,122],[],[],[.mk 6 [] [] [.mk nCall 0 [111,117,116] [.mk nNum n [] []]] [] [],.mk 5 [] [] [.mk nNum 1 [] []] [] []]⟩
def zzzA (n:Nat):List Wd:=[zzzL++[58],decDigits n,[46],[48],[48],[33],[49],[59],[48],[59]]
def zzzB (n:Nat):List Wd:=[decDigits n,[46],[48],[48],[33],[49],[59]]
theorem zzz_def:defW (zzzL++[58])=some zzzL:=by decide +kernel
section
variable {used:Wd→Bool} {v r p rest:List Wd} {w:Wd}
theorem joined_num {x op y z:Wd} (h:joinedW x op y=some z):(∃ a,numW x=some a)∧(∃ b,numW y=some b)∧∃ c,op=[c]∧isOp c:=by
 obtain ⟨a,b,c,ch,p1,p2,p3,p4,_⟩:=joined_parts h
 exact ⟨⟨a,p1⟩,⟨b,p2⟩,ch,p3,p4⟩
theorem O_none (h:∀ p rest,¬ Kind used (w::r) p rest):O used (w::r)=w::O used r:=by
 rcases O_step used w r with ⟨e,_⟩|⟨p,rest,k,_⟩
 ·exact e
 ·exact absurd k (h p rest)
theorem kind_num_odd {y:Wd} (hw:defW w=none) (h59:w≠[59]) (h36:w≠[36]) (hy:numW y=none) (hr:refW y=none) (ho:∀ c,y=[c]→¬ isOp c) (h64:y≠[64]):¬ Kind used (w::y::r) p rest:=by
 intro h
 generalize hv:w::y::r=v at h
 cases h with
 |fold q=>
  injection hv with e1 e2
  injection e2 with e2 _
  obtain ⟨_,⟨b,hb⟩,_⟩:=joined_num q
  rw[←e2,hy] at hb
  cases hb
 |neutral q1 q2=>injection hv with e1 e2;injection e2 with e2 _;exact ho _ e2 (neutral_sign q2)
 |regroup q1 _=>
  injection hv with e1 e2
  injection e2 with e2 _
  refine ho _ e2 ?_
  unfold isOp
  rcases q1 with rfl|rfl|rfl <;> decide
 |same _=>injection hv with e1 e2;injection e2 with e2 _;exact h64 e2
 |double _=>injection hv with e1 e2;injection e2 with e2 _;exact ho _ e2 (by unfold isOp;decide)
 |never _ _ q=>injection hv with e1 e2;injection e2 with e2 _;rw[←e2,hr] at q;cases q
 |next q _=>injection hv with e1 e2;injection e2 with e2 _;rw[←e2,hr] at q;cases q
 |deadJ q _ _=>injection hv with e1 e2;injection e2 with e2 _;rw[←e2,hr] at q;cases q
 |deadS q _ _=>
  injection hv with e1 e2
  rcases q with rfl|rfl
  ·exact h59 e1
  ·exact h36 e1
 |unused q _=>injection hv with e1 e2;rw[←e1,hw] at q;cases q
theorem kind_zero2:¬ Kind used ([48]::[48]::[33]::r) p rest:=by
 intro h
 generalize hv:[48]::[48]::[33]::r=v at h
 cases h with
 |fold q=>
  injection hv with e1 e2
  injection e2 with e2 e3
  injection e3 with e3 _
  obtain ⟨_,_,c,hc,ho⟩:=joined_num q
  rw[hc] at e3
  injection e3 with e3 _
  rw[←e3] at ho
  exact absurd ho (by unfold isOp;decide)
 |neutral q1 q2=>
  injection hv with e1 e2
  injection e2 with e2 _
  injection e2 with e2 _
  have:=neutral_sign q2
  rw[←e2] at this
  exact absurd this (by unfold isOp;decide)
 |regroup q1 _=>
  injection hv with e1 e2
  injection e2 with e2 _
  injection e2 with e2 _
  rw[←e2] at q1
  exact absurd q1 zDd
 |same _=>injection hv with e1 e2;injection e2 with e2 _;exact absurd e2 zDd
 |double _=>injection hv with e1 e2;injection e2 with e2 _;exact absurd e2 zDd
 |never _ _ q=>injection hv with e1 e2;injection e2 with e2 _;rw[←e2,(num_kind num48).2] at q;cases q
 |next q _=>injection hv with e1 e2;injection e2 with e2 _;rw[←e2,(num_kind num48).2] at q;cases q
 |deadJ q _ _=>injection hv with e1 e2;injection e2 with e2 _;rw[←e2,(num_kind num48).2] at q;cases q
 |deadS q _ _=>injection hv with e1 e2;injection e1 with e1 _;rw[←e1] at q;exact absurd q zDd
 |unused q _=>injection hv with e1 e2;rw[←e1,(num_kind num48).1] at q;cases q
theorem kind_sign {c:UInt8} (hc:c∈signs) (h59:c≠59) (h36:c≠36):¬ Kind used ([c]::r) p rest:=by
 obtain ⟨k1,k2,k3⟩:=sign_kind hc
 intro h
 generalize hv:[c]::r=v at h
 cases h with
 |fold q=>injection hv with e1 e2;obtain ⟨⟨a,ha⟩,_⟩:=joined_num q;rw[←e1,k2] at ha;cases ha
 |neutral q _=>injection hv with e1 e2;rw[←e1,k2] at q;cases q
 |regroup _ q=>injection hv with e1 e2;obtain ⟨⟨a,ha⟩,_⟩:=joined_num q;rw[←e1,k2] at ha;cases ha
 |same q=>injection hv with e1 e2;rw[←e1,k2] at q;cases q
 |double _=>injection hv with e1 e2;rw[e1,num49] at k2;cases k2
 |never q _ _=>injection hv with e1 e2;rw[←e1,k2] at q;cases q
 |next _ _=>injection hv with e1 e2;rw[e1,num48] at k2;cases k2
 |deadJ _ _ _=>injection hv with e1 e2;rw[e1,num48] at k2;cases k2
 |deadS q _ _=>
  injection hv with e1 e2
  injection e1 with e1 _
  rw[←e1] at q
  rcases q with q|q
  ·exact h59 q
  ·exact h36 q
 |unused q _=>injection hv with e1 e2;rw[←e1,k1] at q;cases q
theorem rule_dead0 (h:(ruleW used v).1=0):(rDead v).1=0:=by
 unfold ruleW at h
 split at h
 ·rename_i h1;exact absurd h h1
 split at h
 ·rename_i h1;exact absurd h h1
 split at h
 ·rename_i h1;exact absurd h h1
 split at h
 ·rename_i h1;exact absurd h h1
 split at h
 ·rename_i h1;exact absurd h h1
 split at h
 ·rename_i h1;exact absurd h h1
 split at h
 ·rename_i h1;exact absurd h h1
 split at h
 ·rename_i h1;exact absurd h h1
 ·rename_i h1;exact Classical.not_not.1 h1
theorem rule_unused0 (h:(ruleW used v).1=0):(rUnused used v).1=0:=by
 unfold ruleW at h
 split at h
 ·rename_i h1;exact absurd h h1
 split at h
 ·rename_i h1;exact absurd h h1
 split at h
 ·rename_i h1;exact absurd h h1
 split at h
 ·rename_i h1;exact absurd h h1
 split at h
 ·rename_i h1;exact absurd h h1
 split at h
 ·rename_i h1;exact absurd h h1
 split at h
 ·rename_i h1;exact absurd h h1
 split at h
 ·rename_i h1;exact absurd h h1
 ·exact h
theorem dead_pre:∀ {a b a' b':List Wd},(∀ y∈a,defW y=none)→(∀ y∈a',defW y=none)→(∀ y r,b=y::r→(defW y).isSome=true)→(∀ y r,b'=y::r→(defW y).isSome=true)→a++b=a'++b'→a=a'∧b=b'
 |[],b,[],b',_,_,_,_,h=>⟨rfl,h⟩
 |[],b,y::a',b',_,h2,h3,_,h=>by
  have:=h3 y _ h
  rw[h2 y zMs] at this
  cases this
 |x::a,b,[],b',h1,_,_,h4,h=>by
  have:=h4 x _ h.symm
  rw[h1 x zMs] at this
  cases this
 |x::a,b,y::a',b',h1,h2,h3,h4,h=>by
  rw[List.cons_append,List.cons_append] at h
  injection h with e1 e2
  obtain ⟨k1,k2⟩:=dead_pre (fun z hz=>h1 z (zMo _ hz)) (fun z hz=>h2 z (zMo _ hz)) h3 h4 e2
  exact ⟨by rw[e1,k1],k2⟩
theorem O_stop {c:UInt8} (hc:c=59∨c=36) {dead rest:List Wd} (hd:∀ y∈dead,defW y=none) (hr:∀ y r,rest=y::r→(defW y).isSome=true):O used ([c]::(dead++rest))=[c]::O used rest:=by
 obtain ⟨k1,k2,k3⟩:=sign_kind (stop_sign hc)
 rcases O_step used [c] (dead++rest) with ⟨e,h0⟩|⟨p,rest',k,e,_⟩
 ·have h1:=rule_dead0 h0
  have hs:stopW ([c]::(dead++rest))=1:=by
   unfold stopW
   rw[if_neg,if_pos]
   ·rcases hc with rfl|rfl
    ·exact .inl rfl
    ·exact .inr rfl
   ·rintro ⟨_,h⟩
    have h:[c]=[48]:=h
    rw[h,num48] at k2
    cases k2
  have hlen:deadLen (([c]::(dead++rest)).drop 1)=0:=by
   unfold rDead at h1
   rw[hs] at h1
   split at h1
   ·simp only at h1;omega
   ·rename_i hq
    have:¬ 0<deadLen (([c]::(dead++rest)).drop 1):=fun h=>hq ⟨by decide,h⟩
    omega
  cases dead with
  |nil=>exact e
  |cons y dead=>
   exfalso
   have hy:=hd y zMs
   have:deadLen (([c]::(y::dead++rest)).drop 1)=deadLen (dead++rest)+1:=by
    show ((y::(dead++rest)).takeWhile fun w=>(defW w).isNone).length=_
    rw[List.takeWhile_cons,hy]
    try rfl
   omega
 ·rw[e]
  generalize hv:[c]::(dead++rest)=v at k
  cases k with
  |fold q=>injection hv with e1 e2;obtain ⟨⟨a,ha⟩,_⟩:=joined_num q;rw[←e1,k2] at ha;cases ha
  |neutral q _=>injection hv with e1 e2;rw[←e1,k2] at q;cases q
  |regroup _ q=>injection hv with e1 e2;obtain ⟨⟨a,ha⟩,_⟩:=joined_num q;rw[←e1,k2] at ha;cases ha
  |same q=>injection hv with e1 e2;rw[←e1,k2] at q;cases q
  |double _=>injection hv with e1 e2;rw[e1,num49] at k2;cases k2
  |never q _ _=>injection hv with e1 e2;rw[←e1,k2] at q;cases q
  |next _ _=>injection hv with e1 e2;rw[e1,num48] at k2;cases k2
  |deadJ _ _ _=>injection hv with e1 e2;rw[e1,num48] at k2;cases k2
  |deadS q q1 q2=>
   injection hv with e1 e2
   obtain ⟨_,e4⟩:=dead_pre hd q1 hr q2 e2
   rw[e1,e4]
   try rfl
  |unused q _=>injection hv with e1 e2;rw[←e1,k1] at q;cases q
theorem rUnused_zzz (hu:used zzzL=false):rUnused used ((zzzL++[58])::r)=(1,[]):=by
 have h:∀ w:Wd,defW w=some zzzL→rUnused used (w::r)=(1,[]):=fun w hw=>by
  unfold rUnused
  have e:wdAt (w::r) 0=w:=rfl
  rw[e,hw]
  simp only
  rw[hu]
  try rfl
 exact h _ zzz_def
theorem O_unused (hd:defW w=some zzzL) (h1:rUnused used (w::r)=(1,[])):O used (w::r)=O used r:=by
 rcases O_step used w r with ⟨e,h0⟩|⟨p,rest',k,e,_⟩
 ·exfalso
  have h2:=rule_unused0 h0
  rw[h1] at h2
  cases h2
 ·rw[e]
  have hnum:numW w=none:=by
   cases hq:numW w with
   |none=>rfl
   |some n=>rw[(num_kind hq).1] at hd;cases hd
  have hne:∀ c:UInt8,defW [c]=none→w≠[c]:=fun c hc e=>by rw[e,hc] at hd;cases hd
  generalize hv:w::r=v at k
  cases k with
  |fold q=>injection hv with e _;obtain ⟨⟨a,ha⟩,_⟩:=joined_num q;rw[←e,hnum] at ha;cases ha
  |neutral q _=>injection hv with e _;rw[←e,hnum] at q;cases q
  |regroup _ q=>injection hv with e _;obtain ⟨⟨a,ha⟩,_⟩:=joined_num q;rw[←e,hnum] at ha;cases ha
  |same q=>injection hv with e _;rw[←e,hnum] at q;cases q
  |double _=>injection hv with e _;exact absurd e (hne 49 (num_kind num49).1)
  |never q _ _=>injection hv with e _;rw[←e,hnum] at q;cases q
  |next _ _=>injection hv with e _;exact absurd e (hne 48 (num_kind num48).1)
  |deadJ _ _ _=>injection hv with e _;exact absurd e (hne 48 (num_kind num48).1)
  |@deadS c _ _ q _ _=>injection hv with e _;exact absurd e (hne c (sign_kind (stop_sign q)).1)
  |unused q _=>injection hv with e1 e2;rw[e2];try rfl
theorem O_odd {y:Wd} (h1:defW w=none) (h2:w≠[59]) (h3:w≠[36]) (h4:numW y=none) (h5:refW y=none) (h6:∀ c,y=[c]→¬ isOp c) (h7:y≠[64]):O used (w::y::r)=w::O used (y::r):=O_none fun p rest=>kind_num_odd h1 h2 h3 h4 h5 h6 h7
theorem nop {d c:UInt8} (e:([d]:Wd)=[c]) (h:¬ isOp d):¬ isOp c:=by injection e with e _;rw[←e];exact h
theorem nop46:¬ isOp 46:=by unfold isOp;decide
theorem nop33:¬ isOp 33:=by unfold isOp;decide
theorem nop59:¬ isOp 59:=by unfold isOp;decide
theorem O_body {d:Wd} {n:Nat} (hN:numW d=some n) (hr:∀ y r,rest=y::r→(defW y).isSome=true):O used (d::[46]::[48]::[48]::[33]::[49]::[59]::([[48],[59]]++rest))=d::[46]::[48]::[48]::[33]::[49]::[59]::O used rest:=by
 have d46:=sign_kind (c:=46) zDd
 have d33:=sign_kind (c:=33) zDd
 have d59:=sign_kind (c:=59) zDd
 have hne:∀ c:UInt8,c=59∨c=36→d≠[c]:=fun c hc e=>by
  rw[e,(sign_kind (stop_sign hc)).2.1] at hN
  cases hN
 have t1:O used ([59]::([[48],[59]]++rest))=[59]::O used rest:=O_stop (.inl rfl) (fun y hy=>by
  simp only[zMi,List.not_mem_nil,or_false] at hy
  rcases hy with rfl|rfl
  ·exact (num_kind num48).1
  ·exact d59.1) hr
 generalize ([[48],[59]]:List Wd)++rest=q at t1 ⊢
 have t2:O used ([49]::[59]::q)=[49]::O used ([59]::q):=O_odd (num_kind num49).1 zDd zDd d59.2.1 d59.2.2 (fun c e=>nop e nop59) zDd
 have t3:∀ q,O used ([33]::q)=[33]::O used q:=fun q=>O_none fun p rest=>kind_sign (c:=33) zDd zDd zDd
 have t4:∀ q,O used ([48]::[33]::q)=[48]::O used ([33]::q):=fun q=>O_odd (num_kind num48).1 zDd zDd d33.2.1 d33.2.2 (fun c e=>nop e nop33) zDd
 have t5:∀ q,O used ([48]::[48]::[33]::q)=[48]::O used ([48]::[33]::q):=fun q=>O_none fun p rest=>kind_zero2
 have t6:∀ q,O used ([46]::q)=[46]::O used q:=fun q=>O_none fun p rest=>kind_sign (c:=46) zDd zDd zDd
 have t7:∀ q,O used (d::[46]::q)=d::O used ([46]::q):=fun q=>O_odd (num_kind hN).1 (hne 59 (.inl rfl)) (hne 36 (.inr rfl)) d46.2.1 d46.2.2 (fun c e=>nop e nop46) zDd
 rw[t7,t6,t5,t4,t3,t2,t1]
theorem O_zzz (hu:used zzzL=false) {n:Nat} (hn:n<4294967296) (hr:∀ y r,rest=y::r→(defW y).isSome=true):O used (zzzA n++rest)=zzzB n++O used rest:=by
 have hN:=numW_dec hn
 unfold zzzA zzzB
 generalize decDigits n=d at hN ⊢
 have h1:=O_unused (used:=used) (r:=d::[46]::[48]::[48]::[33]::[49]::[59]::([[48],[59]]++rest)) zzz_def (rUnused_zzz hu)
 have h2:=O_body (used:=used) hN hr
 exact h1.trans h2
theorem O_head (r:List Wd):O used ([38,102,95,109,97,105,110]::[58]::[48]::[33]::[36]::r)=[38,102,95,109,97,105,110]::[58]::[48]::[33]::O used ([36]::r):=by
 have d33:=sign_kind (c:=33) zDd
 rw[O_ref used (x:=[102,95,109,97,105,110]) (by decide +kernel),O_sign used (.inr rfl)]
 rw[O_none fun p rest=>kind_num_odd (num_kind num48).1 zDd zDd d33.2.1 d33.2.2 (fun c e=>by injection e with e _;rw[←e];unfold isOp;decide) zDd]
 rw[O_none fun p rest=>kind_sign (c:=33) zDd zDd zDd]
end
def headW (r:List Wd):List Wd:=[38,102,95,109,97,105,110]::[58]::[48]::[33]::[36]::r
theorem used_mid (a b z:List Wd) (hz:∀ w∈z,refW w=none):usedW (a++(z++b))=usedW (a++b):=by
 funext s
 unfold usedW
 have h0:z.any (fun w=>decide (refW w=some s))=false:=by
  rw[List.any_eq_false]
  intro w hw
  rw[hz w hw]
  simp
 rw[List.any_append,List.any_append,List.any_append,h0,Bool.false_or]
theorem optP_once (l:List Wd):optP l=optP (onceP l):=by
 by_cases h:onceP l=l
 ·rw[h]
 ·exact optP_step h
theorem zzzA_ref {n:Nat} (hn:n<4294967296):∀ w∈zzzA n,refW w=none:=by
 intro w hw
 simp only[zzzA,zMi,List.not_mem_nil,or_false] at hw
 rcases hw with rfl|rfl|rfl|rfl|rfl|rfl|rfl|rfl|rfl|rfl
 ·decide +kernel
 ·exact (num_kind (numW_dec hn)).2
 all_goals decide +kernel
theorem zzzB_ref {n:Nat} (hn:n<4294967296):∀ w∈zzzB n,refW w=none∧defW w=none:=by
 intro w hw
 simp only[zzzB,zMi,List.not_mem_nil,or_false] at hw
 rcases hw with rfl|rfl|rfl|rfl|rfl|rfl|rfl
 ·exact ⟨(num_kind (numW_dec hn)).2,(num_kind (numW_dec hn)).1⟩
 all_goals exact ⟨by decide +kernel,by decide +kernel⟩
theorem opt_zzz {n:Nat} (hn:n<4294967296) {rest:List Wd} (hr:∀ y r,rest=y::r→(defW y).isSome=true) (hu:usedW (headW rest) zzzL=false):optP (headW (zzzA n++rest))=optP (headW rest):=by
 have e1:usedW (headW (zzzA n++rest))=usedW (headW rest):=used_mid [[38,102,95,109,97,105,110],[58],[48],[33],[36]] rest (zzzA n) (zzzA_ref hn)
 have o1:onceP (headW (zzzA n++rest))=headW (zzzB n++O (usedW (headW rest)) rest):=by
  show O (usedW (headW (zzzA n++rest))) (headW (zzzA n++rest))=_
  rw[e1]
  unfold headW
  rw[O_head]
  have h0:=O_stop (used:=usedW (headW rest)) (c:=36) (.inr rfl) (dead:=[]) (rest:=zzzA n++rest) (fun y hy=>(List.not_mem_nil hy).elim) (fun y r e=>by
   have e:(zzzL++[58])::_=y::r:=e
   injection e with e _
   rw[←e,zzz_def]
   rfl)
  rw[List.nil_append] at h0
  unfold headW at h0 hu
  rw[h0,O_zzz hu hn hr]
 have o2:onceP (headW rest)=headW (O (usedW (headW rest)) rest):=by
  show O (usedW (headW rest)) (headW rest)=_
  conv=>lhs;arg 2;unfold headW
  rw[O_head]
  have h0:=O_stop (used:=usedW (headW rest)) (c:=36) (.inr rfl) (dead:=[]) (rest:=rest) (fun y hy=>(List.not_mem_nil hy).elim) hr
  rw[List.nil_append] at h0
  rw[h0]
  try rfl
 rw[optP_once,optP_once (headW rest),o1,o2]
 generalize O (usedW (headW rest)) rest=R
 rw[optP_once,optP_once (headW R)]
 congr 1
 have e2:usedW (headW (zzzB n++R))=usedW (headW R):=used_mid [[38,102,95,109,97,105,110],[58],[48],[33],[36]] R (zzzB n) fun w hw=>(zzzB_ref hn w hw).1
 show O (usedW (headW (zzzB n++R))) (headW (zzzB n++R))=O (usedW (headW R)) (headW R)
 rw[e2]
 generalize usedW (headW R)=used
 unfold headW
 rw[O_head,O_head]
 obtain ⟨dead,tail,h1,_,h3,h4⟩:=dead_split R
 subst h1
 rw[O_stop (.inr rfl) h3 h4,←zAs,O_stop (.inr rfl) (fun y hy=>by
  rcases List.mem_append.1 hy with hy|hy
  ·exact (zzzB_ref hn y hy).2
  ·exact h3 y hy) h4]
/-! ### Programs -/
def dfO:Org:=⟨10000,0,100000⟩
def withZ (n:Nat) (P:Pr):Pr:=⟨P.vars,P.arrays,zzzF n::P.funcs⟩
theorem withZ_words (n:Nat) (P:Pr):wordsC P dfO=headW (fnWs (ccF P.vars (arrsP P) P.funcs dfO) 0 P.funcs).1∧wordsC (withZ n P) dfO=headW (zzzA n++(fnWs (ccF P.vars (arrsP P) P.funcs dfO) 0 P.funcs).1):=by
 have h0:itoa 0=[48]:=by decide +kernel
 have d1:decDigits 1=[49]:=by rw[decDigits,dif_pos zDd];try rfl
 have hcc:ccF (withZ n P).vars (arrsP (withZ n P)) (withZ n P).funcs dfO=ccF P.vars (arrsP P) P.funcs dfO:=by
  funext own
  have hs:scalarsP (withZ n P).vars (withZ n P).funcs=scalarsP P.vars P.funcs:=by
   unfold scalarsP withZ
   simp[zzzF]
  unfold ccF
  rw[hs]
  try rfl
 constructor
 ·show [[38,102,95,109,97,105,110],[58],itoa 0,[33],[36]]++_=_
  rw[h0]
  try rfl
 ·show [[38,102,95,109,97,105,110],[58],itoa 0,[33],[36]]++(fnWs (ccF (withZ n P).vars (arrsP (withZ n P)) (withZ n P).funcs dfO) 0 (zzzF n::P.funcs)).1=_
  rw[hcc,h0,fnWs]
  have hz:fnW (ccF P.vars (arrsP P) P.funcs dfO (zzzF n).name) 0 (zzzF n)=(zzzA n,0):=by
   have ht:(ccF P.vars (arrsP P) P.funcs dfO (zzzF n).name).t0=[48]:=h0
   generalize ccF P.vars (arrsP P) P.funcs dfO (zzzF n).name=c at ht
   have b1:stWs c 0 (zzzF n).body=([decDigits n,[46],[48],c.t0,[33],decDigits 1,[59]],0):=by
    show stWs c 0 [.mk 6 [] [] [.mk nCall 0 [111,117,116] [.mk nNum n [] []]] [] [],.mk 5 [] [] [.mk nNum 1 [] []] [] []]=_
    rw[stWs,stWs,stWs,stW_eq,stW_eq,if_neg zDd,if_neg zDd,if_neg zDd,if_neg zDd,if_neg zDd,if_pos rfl,if_neg zDd,if_neg zDd,if_neg zDd,if_neg zDd,if_pos rfl]
    have x1:exW c (([.mk nCall 0 [111,117,116] [.mk nNum n [] []]]:List Ex).headD default)=[decDigits n,[46],[48]]:=by
     show exW c (.mk nCall 0 [111,117,116] [.mk nNum n [] []])=_
     rw[exW,exWl,exWl,exW,exWl]
     try rfl
    have x2:exW c (([.mk nNum 1 [] []]:List Ex).headD default)=[decDigits 1]:=by
     show exW c (.mk nNum 1 [] [])=_
     rw[exW,exWl]
     try rfl
    rw[x1,x2]
    try rfl
   unfold fnW
   rw[b1,ht,d1]
   try rfl
  rw[hz]
  try rfl
theorem fnWs_head {P:Pr} {o:Org} (hX:Go.Stele.TrnOk (trnP P o)):∀ y r,(fnWs (ccF P.vars (arrsP P) P.funcs o) 0 P.funcs).1=y::r→(defW y).isSome=true:=by
 intro y r h
 cases hf:P.funcs with
 |nil=>rw[hf,fnWs] at h;cases h
 |cons f fs=>
  have hd:=hX.fdef f (by show f∈P.funcs;rw[hf];exact List.mem_cons_self ..)
  rw[hf,fnWs] at h
  unfold fnW at h
  simp only[List.cons_append,List.nil_append,zAs] at h
  injection h with h _
  have e:y=[102,95]++f.name++[58]:=by rw[←h];simp
  rw[e,hd]
  try rfl
theorem uncalled {P:Pr} {n:Nat} (hn:n<4294967296) (h1:∀ f∈P.funcs,numSs f.body) {a b:Wd} (ha:cmpP P.vars (arrsP P) P.funcs dfO=.ok a) (hb:cmpP (withZ n P).vars (arrsP (withZ n P)) (withZ n P).funcs dfO=.ok b):optP (wordsP b)=optP (wordsP a):=by
 have h2:∀ f∈(withZ n P).funcs,numSs f.body:=fun f hf=>by
  rcases zMi.1 hf with rfl|hf
  ·exact ⟨⟨trivial,⟨⟨⟨show (0:Nat)<4294967296 by decide,⟨⟨hn,trivial⟩,trivial⟩⟩,trivial⟩,trivial,trivial⟩⟩,⟨trivial,⟨⟨show (1:Nat)<4294967296 by decide,trivial⟩,trivial⟩,trivial,trivial⟩,trivial⟩
  ·exact h1 f hf
 obtain ⟨_,_,_,hw1,hasm1,hX1,_⟩:=cmp_ok h1 ha
 obtain ⟨_,_,_,hw2,hasm2,_,_⟩:=cmp_ok h2 hb
 obtain ⟨e1,e2⟩:=withZ_words n P
 have hA1:=(asm_AsmOk hasm1).1
 have hA2:=(asm_AsmOk hasm2).1
 rw[hw1] at hA1 ⊢
 rw[hw2] at hA2 ⊢
 rw[e1] at hA1 ⊢
 rw[e2] at hA2 ⊢
 have hhd:=fnWs_head hX1
 generalize (fnWs (ccF P.vars (arrsP P) P.funcs dfO) 0 P.funcs).1=rest at hA1 hA2 hhd ⊢
 refine opt_zzz hn hhd ?_
 cases hu:usedW (headW rest) zzzL with
 |false=>rfl
 |true=>
  exfalso
  obtain ⟨w,hw,hr⟩:=List.any_eq_true.1 hu
  have hr:=of_decide_eq_true hr
  have hok:=hA1.2 w hw
  unfold OkW at hok
  rw[ref_notdef hr,hr] at hok
  simp only at hok
  have hd2:defs (headW (zzzA n++rest))=zzzL::defs rest:=by
   have d2:defs (zzzA n++rest)=zzzL::defs rest:=by
    rw[defs_app]
    have:defs (zzzA n)=[zzzL]:=by
     unfold zzzA
     rw[defs_cons,zzz_def,defs_none (num_kind (numW_dec hn)).1]
     have:defs [[46],[48],[48],[33],[49],[59],[48],[59]]=[]:=by decide +kernel
     rw[this]
     try rfl
    rw[this]
    try rfl
   unfold headW
   rw[defs_none (by decide +kernel),defs_none (by decide +kernel),defs_none (by decide +kernel),defs_none (by decide +kernel),defs_none (by decide +kernel),d2]
  have hd1:defs (headW rest)=defs rest:=by
   unfold headW
   rw[defs_none (by decide +kernel),defs_none (by decide +kernel),defs_none (by decide +kernel),defs_none (by decide +kernel),defs_none (by decide +kernel)]
  rw[hd1] at hok
  have:=hA2.1
  rw[hd2,List.nodup_cons] at this
  exact this.1 hok
end Go.Stele.Wi
namespace Go.Proofs.YtegmklafpoldgaaGreatDoor.Unc
open Go.Stele
open Go.Lib (decDigits)
theorem parse_good {s:List UInt8} (h:(parseP s).2.2=0):∃ T p i op,lexAt s 1=.ok T∧sProg T (10 * T.length+20) noPr 0 0=some (.ok p i op)∧parseP s=(p,0,0)∧s.length≤60000:=by
 unfold parseP at h ⊢
 split at h
 ·rename_i l e he
  exact absurd h (lexAllP_err he)
 rename_i T hT
 have hT':=hT
 unfold lexAllP at hT'
 split at hT'
 ·cases hT'
 rename_i hlen
 split at h
 ·rename_i p i op hp
  exact ⟨T,p,i,op,hT',hp,rfl,by omega⟩
 ·rename_i l e he
  exact absurd h (prog_en _ _ _ _ _ _ _ he)
 ·rename_i hn
  obtain ⟨q,hq⟩:=sProg_ends T (10 * T.length+20) noPr 0 0 (Nat.zero_le _) (by omega)
  rw[hn] at hq
  cases hq
theorem parse_cat2 {a b:List UInt8} (ha:(parseP a).2.2=0) (hb:(parseP b).2.2=0) (hla:a.length≤20000) (hlb:b.length≤20000):parseP (a++[10]++b)=((parseP a).1.app (parseP b).1,0,0):=by
 obtain ⟨A,p,i1,o1,h1,h2,h3,_⟩:=parse_good ha
 obtain ⟨B,q,i2,o2,h4,h5,h6,_⟩:=parse_good hb
 rw[h3,h6]
 obtain ⟨B',h7,h8⟩:=lexP_line b.length b 1 (1+(a.count 10:Nat)+1) B h4
 have h9:lexAt (a++10::b) 1=.ok (A++B'):=by
  rw[lexAt_app b a.length a 1 A (zNr _) h1]
  unfold lexAt
  rw[h7]
  rfl
 have h10:lexAllP (a++[10]++b)=.ok (A++B'):=by
  rw[zAs,List.singleton_append]
  unfold lexAllP
  rw[if_neg (by simp only[zLa,zLc];omega)]
  exact h9
 obtain ⟨i,op,h11⟩:=prog_cat (p:=p) (q:=q) h2 h5 (B':=B') h8
 unfold parseP
 rw[h10]
 simp only
 rw[show (noPr:Pr)=noDecl from rfl,h11]
def preZ:List UInt8:=[102,117,110,99,32,122,122,122,40,41,32,123,32,111,117,116,40]
def postZ:List UInt8:=[41,59,32,114,101,116,117,114,110,32,49,59,32,125]
def zzzSrc (n:Nat):List UInt8:=preZ++decDigits n++postZ
theorem zzzAll:((List.range 256).all fun n=>eqPr (parseP (zzzSrc n)).1 ⟨[],[],[Wi.zzzF n]⟩ && decide ((parseP (zzzSrc n)).2=(0,0)))=true:=by kernel_rfl
theorem zzz_parse {n:Nat} (h:n<256):parseP (zzzSrc n)=(⟨[],[],[Wi.zzzF n]⟩,0,0):=by
 have h1:=List.all_eq_true.1 zzzAll n (List.mem_range.2 h)
 rw[zBa] at h1
 have h2:=(eqPr_iff _ _).1 h1.1
 have h3:=of_decide_eq_true h1.2
 generalize parseP (zzzSrc n)=r at h2 h3
 obtain ⟨p,l⟩:=r
 simp only at h2 h3
 rw[h2,h3]
theorem parse_zzz {n:Nat} (h:n<256) {s:List UInt8} (hs:s.length≤3000) (he:(parseP s).2.2=0):parseP (zzzSrc n++[10]++s)=(Wi.withZ n (parseP s).1,0,0):=by
 have h1:=zzz_parse h
 have hl:(zzzSrc n).length≤20000:=by
  have:(decDigits n).length≤3:=dec_lenM 2 n (by omega)
  unfold zzzSrc preZ postZ
  simp only[zLa,zLc,zLn]
  omega
 have h2:=parse_cat2 (a:=zzzSrc n) (b:=s) (by rw[h1]) he hl (by omega)
 rw[h2,h1]
 rfl
end Go.Proofs.YtegmklafpoldgaaGreatDoor.Unc
namespace Go.Proofs.YtegmklafpoldgaaGreatDoor.Pp
open Go.GL Go.RowKit Go.Stele
open Cmp (I64 cmpLV defO orgLV defaults_spec compile_pr)
open Go.Lib (decDigits join)
def preU:Wd:=[102,117,110,99,32,122,122,122,40,41,32,123,32,111,117,116,40]
def postU:Wd:=[41,59,32,114,101,116,117,114,110,32,49,59,32,125,10]
theorem src2_eq (n:Nat) (s:Wd):Unc.zzzSrc n++[10]++s=preU++decDigits n++postU++s:=by
 unfold Unc.zzzSrc
 have e1:Unc.preZ=preU:=rfl
 have e2:postU=Unc.postZ++[10]:=rfl
 rw[e1,e2]
 simp only[zAs]
attribute [local irreducible] LOps LCode LStep LCalls Go.GL.Pure QThen QBlock RetPost LQ LAny LLate LLateOp LS
section
variable {B0:Nat} {w0:World}
theorem uncalled_walk (hG:GW B0 w0) (s:List UInt8) {n:Nat} (hn:n<256):LCalls (KC B0 w0) 4 [str s,int .u8 n] [] (Ret (bool true)):=by
 have hal:=alive_spec hG
 have hd:=defaults_spec (B0:=B0) (w0:=w0)
 have eD:orgLV defO=.agg [int .i64 10000,int .i64 0,int .i64 100000]:=rfl
 rw[eD] at hd
 have hps:=parse_any (B0:=B0) (w0:=w0) hG.base s
 have hps2:=parse_any (B0:=B0) (w0:=w0) hG.base (preU++decDigits n++postU++s)
 have hi:=itoa_spec hG.base n zo
 have hdl:(decDigits n).length≤3:=dec_lenM 2 n zo
 have hbo:=fun hs=>Inp.parse_both (s:=s) hs
 have hz:=fun hs he=>Unc.parse_zzz (n:=n) hn (s:=s) hs he
 rw[src2_eq] at hz
 generalize hr:parseP s=r at hps hbo hz
 obtain ⟨p,l,e⟩:=r
 simp only at hz
 unfold encParse at hps
 simp only at hps
 have eP:∀ p:Pr,encPr p=.agg [.list (p.vars.map str),.list (p.arrays.map encAr),.list (p.funcs.map encFn)]:=fun _=>rfl
 rw[eP] at hps
 refine cI Tryz.func4 rfl (n:=81) rfl rfl rfl ?_
 refine ga1 ?_
 refine oS (sF [] rfl hal ?_) rfl
 refine ga8 ?_
 refine oC rfl (fun hc=>by cases hc) (fun _=>?_)
 refine gof ?_
 refine oC rfl (fun _=>?_) (fun hc=>?_)
 ·refine gaf ?_
  exact retRet rfl (zra rfl) rfl
 have hs:s.length≤3000:=by have:=zf hc;omega
 obtain ⟨l2,hb,hsz⟩:=hbo zo
 injection hb with hb1 hb2
 rw[←hb1] at hsz
 clear hbo hb2 hb1
 have hcp:=compile_pr (B0:=B0) (w0:=w0) hG.base hG.mx hsz zo defO (by unfold I64;decide) (by unfold I64;decide) (by unfold I64;decide)
 obtain ⟨x,f,hx1,hx2⟩:=cmp_parts p defO
 rw[hx1,eP,eD] at hcp
 refine gaw ?_
 refine oS (sF [_] rfl hps ?_) rfl
 refine gbh ?_
 refine oS (sA fun b5=>?_) rfl
 refine gc1 ?_
 by_cases he:e=0
 rotate_left
 ·refine oC rfl (fun _=>?_) (fun hc=>?_)
  ·refine gaf ?_
   exact retRet rfl (zra rfl) rfl
  ·have h2:(!decide (e=0))=false:=hc
   simp at h2
   exact absurd h2 he
 subst he
 have hz2:=hz hs rfl
 have hpl:preU.length=17:=rfl
 have hpo:postU.length=15:=rfl
 have hsl:(preU++decDigits n++postU++s).length≤3050:=by
  unfold preU postU
  simp only[zLa,zLc,zLn]
  omega
 obtain ⟨l3,hb,hsz2⟩:=Inp.parse_both (s:=preU++decDigits n++postU++s) zo
 rw[hz2] at hb hps2
 injection hb with hb1 hb2
 rw[←hb1] at hsz2
 have hcp2:=compile_pr (B0:=B0) (w0:=w0) hG.base hG.mx hsz2 zo defO (by unfold I64;decide) (by unfold I64;decide) (by unfold I64;decide)
 obtain ⟨y,g,hy1,hy2⟩:=cmp_parts (Wi.withZ n p) defO
 rw[hy1,eP,eD] at hcp2
 unfold encParse at hps2
 simp only at hps2
 rw[eP] at hps2
 have hun:=fun ha hb=>Wi.uncalled (P:=p) (n:=n) zo hsz.nums (a:=x) (b:=y) ha hb
 have o1:=fun h=>opt_out (o:=defO) (t:=x) hsz zo h
 have o2:=fun h=>opt_out (o:=defO) (t:=y) hsz2 zo h
 clear hy1 hx1 hb1 hb2 hz hz2 hd
 have hd:=defaults_spec (B0:=B0) (w0:=w0)
 rw[eD] at hd
 have hop1:=fun h:x.length≤1000000=>optimize_spec hG x h
 have hop2:=fun h:y.length≤1000000=>optimize_spec hG y h
 generalize Wi.withZ n p=q at *
 refine oC rfl (fun hc=>by cases hc) (fun _=>?_)
 refine gog ?_
 refine oS (sF [_] (by show [int .i64 (IntKind.i64.wrap (n:Int))]=[int .i64 (n:Nat)];rw[wrap_i64 zo]) hi ?_) rfl
 refine oP (Pure.sadd (l:=preU) (m:=decDigits n) rfl rfl (by show 17+_≤_;omega)) rfl ?_
 refine oP (Pure.sadd (l:=preU++decDigits n) (m:=postU) rfl rfl (by rw[zLa,hpl,hpo];omega)) rfl ?_
 refine oP (pM (lv:=.atom _) rfl) rfl ?_
 refine oP (Pure.sadd (l:=preU++decDigits n++postU) (m:=s) rfl rfl (by rw[zLa] at hsl;omega)) rfl ?_
 refine oS (sF [_] rfl hps2 ?_) rfl
 refine gbh ?_
 refine oS (sA fun b8=>?_) rfl
 refine gc1 ?_
 refine oC rfl (fun hc=>by cases hc) (fun _=>?_)
 refine gbq ?_
 refine cC [(4,bool false),(5,ptr b5 0),(7,int .i64 f),(8,ptr b8 0),(10,int .i64 0),(11,str x)] ?_ (fun j hj=>?_)
 ·refine cD (m:=8) rfl [(b8,.cells 28 [.list (q.vars.map str),.list (q.arrays.map encAr),.list (q.funcs.map encFn)]),(b5,.cells 28 [.list (p.vars.map str),.list (p.arrays.map encAr),.list (p.funcs.map encFn)])] ?_
  refine aT 0 rfl rfl (pG (cs':=[_,_,_]) rfl zm1 rfl rfl) ?_
  refine aL ?_ zhr
  refine zl1 (i:=1) zk ?_
  refine lS (H1:=[]) rfl (.inl rfl) rfl zpr zhr (sF [] rfl hd ?_)
  refine zl1 (i:=2) zk ?_
  refine lS (H1:=[]) rfl (.inl rfl) rfl zpr zhr (sF [_,_] rfl hcp ?_)
  refine zl1 (i:=3) zk ?_
  refine lH rfl rfl (pM (lv:=.tuple _) rfl) ?_
  refine zl2 (i:=4) (j:=5) zk ?_ ?_
  ·refine lH rfl rfl (Pure.extract (c:=.atom _) rfl rfl) ?_
   refine zl2 (i:=5) (j:=6) zk ?_ ?_
   ·refine lH rfl rfl (Pure.extract (c:=.atom _) rfl rfl) ?_
    refine zl1 (i:=6) zk ?_
    refine lH rfl rfl (pA (lv:=.atom _) rfl) ?_
    exact zT13
   ·refine lH rfl rfl (pA (lv:=.atom _) rfl) ?_
    refine zl1 (i:=5) zk ?_
    refine lH rfl rfl (Pure.extract (c:=.atom _) rfl rfl) ?_
    exact zT13
  ·refine lH rfl rfl (Pure.extract (c:=.atom _) rfl rfl) ?_
   refine zl1 (i:=4) zk ?_
   refine lH rfl rfl (Pure.extract (c:=.atom _) rfl rfl) ?_
   refine zl1 (i:=6) zk ?_
   refine lH rfl rfl (pA (lv:=.atom _) rfl) ?_
   exact zT13
 refine gb4 ?_
 refine cC [(4,bool false),(7,int .i64 f),(10,int .i64 g),(11,str x),(12,str y)] ?_ (fun j2 hj2=>?_)
 ·refine cD (m:=8) rfl [(b8,.cells 28 [.list (q.vars.map str),.list (q.arrays.map encAr),.list (q.funcs.map encFn)]),(b5,.cells 28 [.list (p.vars.map str),.list (p.arrays.map encAr),.list (p.funcs.map encFn)])] ?_
  refine aT 0 rfl rfl (pG (cs':=[_,_,_]) rfl zm0 rfl rfl) ?_
  refine aL ?_ zhr
  refine zl1 (i:=1) zk ?_
  refine lS (H1:=[]) rfl (.inl rfl) rfl zpr zhr (sF [] rfl hd ?_)
  refine zl1 (i:=2) zk ?_
  refine lS (H1:=[]) rfl (.inl rfl) rfl zpr zhr (sF [_,_] rfl hcp2 ?_)
  refine zl1 (i:=3) zk ?_
  refine lH rfl rfl (pM (lv:=.tuple _) rfl) ?_
  refine zl2 (i:=4) (j:=5) zk ?_ ?_
  ·refine lH rfl rfl (Pure.extract (c:=.atom _) rfl rfl) ?_
   refine zl2 (i:=5) (j:=6) zk ?_ ?_
   ·refine lH rfl rfl (Pure.extract (c:=.atom _) rfl rfl) ?_
    refine zl1 (i:=6) zk ?_
    refine lH rfl rfl (pA (lv:=.atom _) rfl) ?_
    exact zT14
   ·refine lH rfl rfl (pA (lv:=.atom _) rfl) ?_
    refine zl1 (i:=5) zk ?_
    refine lH rfl rfl (Pure.extract (c:=.atom _) rfl rfl) ?_
    exact zT14
  ·refine lH rfl rfl (Pure.extract (c:=.atom _) rfl rfl) ?_
   refine zl1 (i:=4) zk ?_
   refine lH rfl rfl (Pure.extract (c:=.atom _) rfl rfl) ?_
   refine zl1 (i:=6) zk ?_
   refine lH rfl rfl (pA (lv:=.atom _) rfl) ?_
   exact zT14
 refine goh ?_
 refine LOps.cut [(4,bool false),(11,str x),(12,str y),(59,bool (decide (f≠0∨g≠0)))] ?_ (fun j3 hj3=>?_)
 ·refine oB 56 rfl (fun h1=>?_) (fun h1=>?_)
  ·have h2:¬ f=0:=by simpa using h1
   refine gbg ?_
   exact ⟨⟨rfl,rfl,rfl,bool_eq (by simp[h2]),trivial⟩,rfl,rfl⟩
  ·have h2:f=0:=by simpa using h1
   refine goi ?_
   exact ⟨⟨rfl,rfl,rfl,bool_eq (by simp[h2]),trivial⟩,rfl,rfl⟩
 refine oC rfl (fun hc=>?_) (fun hc=>?_)
 ·refine gaf ?_
  exact retRet (hj3.trans (hj2.trans hj)) (zra rfl) rfl
 have hfg:f=0∧g=0:=by
  have:=zf hc
  exact ⟨Classical.not_not.1 fun h=>this (.inl h),Classical.not_not.1 fun h=>this (.inr h)⟩
 have ha:=hx2 hfg.1
 have hb:=hy2 hfg.2
 obtain ⟨p1,p2,_⟩:=o1 ha
 obtain ⟨q1,q2,_⟩:=o2 hb
 have r1:=hop1 zo
 have r2:=hop2 zo
 rw[p2] at r1
 rw[q2,hun ha hb] at r2
 generalize join (optP (wordsP x)) [32]=z at r1 r2
 clear o1 o2 hop1 hop2 hun hx2 hy2 p2 q2
 simp only at r1 r2
 refine gaw ?_
 refine oS (sF [_] rfl r1 ?_) rfl
 refine gam ?_
 refine oS (sF [_] rfl r2 ?_) rfl
 refine gf2 ?_
 exact retRet (hj3.trans (hj2.trans hj)) (zra rfl) (bool_eq (decide_eq_true rfl))
end
end Go.Proofs.YtegmklafpoldgaaGreatDoor.Pp
