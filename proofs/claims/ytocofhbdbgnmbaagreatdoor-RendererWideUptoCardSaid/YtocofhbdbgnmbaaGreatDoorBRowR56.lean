/- Texts joined: RenM, RenN, GlIntKey, RenO, RenP, RenQ, RenB, RenR, RenS. -/
import Derived.Test.YtocofhbdbgnmbaaGreatDoorBRowR51
import Derived.Test.YtocofhbdbgnmbaaGreatDoorBRowR53
import Derived.Test.YtocofhbdbgnmbaaGreatDoorBRowR54
import Derived.Test.YtocofhbdbgnmbaaGreatDoorBRowR55
set_option linter.unusedVariables false
set_option linter.unusedSimpArgs false
namespace Go.Stele
open Go.Lib
theorem runsQ_cons {last:UInt8} {s:Wd} (hne:s≠[]):runsQ last s=match s.dropWhile isRun with
  |[]=>none
  |c::r=>match posW 99999 (s.takeWhile isRun) with
   |none=>none
   |some n=>if c=last then none else (runsQ c r).map ((n,c)::·):=by
 unfold runsQ
 have hpos:=List.length_pos_iff.2 hne
 obtain ⟨f,hf⟩:∃ f,s.length=f+1:=⟨s.length-1,by omega⟩
 rw[hf,runsP,if_neg hne]
 have e1:(fun c:UInt8=>decide (c≠46∧c≠35))=isRun:=rfl
 rw[e1]
 cases hd:s.dropWhile isRun with
 |nil=>rfl
 |cons c r=>
  have hl:=congrArg List.length (List.takeWhile_append_dropWhile (p:=isRun) (l:=s))
  rw[hd,List.length_append,List.length_cons] at hl
  simp only
  cases posW 99999 (s.takeWhile isRun) with
  |none=>rfl
  |some n=>
   simp only
   split
   ·rfl
   ·rw[runs_fuel f r.length c r (by omega) (Nat.le_refl _)]
    cases runsP r.length c r <;> rfl
theorem sep_head {s r:Wd} {c:UInt8} (h:s.dropWhile isRun=c::r):c=46∨c=35:=by
 have:=List.head?_dropWhile_not isRun s
 rw[h] at this
 simp only[List.head?_cons] at this
 unfold isRun at this
 rw[decide_eq_false_iff_not] at this
 by_cases h46:c=46
 ·exact .inl h46
 ·exact .inr (Classical.not_not.1 fun h35=>this ⟨h46,h35⟩)
theorem posW_long {w:Wd} (h:5<w.length):posW 99999 w=none:=by
 cases hp:posW 99999 w with
 |none=>rfl
 |some n=>
  obtain ⟨h1,h2,rfl⟩:=(posW_iff (Nat.le_refl _) _ n).1 hp
  rw[decDigits_length] at h
  have:=nDigits_le 4 n (by omega)
  omega
end Go.Stele
namespace Go.Proofs.YtocofhbdbgnmbaaGreatDoor
open Go.GL Go.RowKit Go.Stele
set_option maxRecDepth 100000
set_option maxHeartbeats 4000000
attribute [local irreducible] LOps LCode LStep LCalls Go.GL.Pure QThen QBlock RetPost LQ LAny LLate LLateOp
def RunsLV (o:Option (List (Nat×UInt8))):LV:=match o with
 |some l=>.tuple [str ((runCells l).take 40000),int .i64 (runLen l),bool true]
 |none=>.tuple [str [],int .i64 0,bool false]
theorem enc_sep {c:UInt8} (h:c=46∨c=35):Utf8.encode (c.toNat:Int)=⟨[c].toArray⟩:=by
 rcases h with rfl|rfl
 ·exact utf8_dot
 ·exact utf8_mark
section
variable {B0:Nat} {w0:World}
theorem indexAny_spec (s:List UInt8) (hs:s.length≤100000000) (ha:∀ c∈s,c.toNat<128):LCalls (KC B0 w0) 102 [str s,str [46,35]] [] (Ret (int .i64 (Go.Lib.indexAny s [46,35]))):=
 LCalls.ret_of (vs:=[.string ⟨s.toArray⟩,.string ⟨#[46,35]⟩]) fun w hw=>Tryz.strings_IndexAny_laid ⟨s.toArray⟩ ⟨#[46,35]⟩ w (by show s.toArray.size<_;simp;omega) (by decide) (fun j b hj=>ha b (List.mem_of_getElem? hj)) (fun j b hj=>by
  have:=List.mem_of_getElem? hj
  simp only[List.mem_cons,List.not_mem_nil,or_false] at this
  rcases this with rfl|rfl <;> decide)
theorem decode_spec (hG:GW B0 w0) (s0:List UInt8) (hs:s0.length≤100000) (ha:∀ c∈s0,c.toNat<128):LCalls (KC B0 w0) 75 [str s0] [] (Ret (RunsLV (runsQ 0 s0))):=by
 refine cI Tryz.func75 rfl (n:=74) rfl rfl rfl ?_
 refine gaf ?_
 refine oS (S.alloc fun b5=>?_) rfl
 refine gac ?_
 refine oL (fun k sl H=>∃ (s:Wd) (last:UInt8) (l0:List (Nat×UInt8)),k=s.length∧s.length≤s0.length∧(∀ c∈s,c.toNat<128)∧runLen l0≤99999 * (s0.length-s.length)∧runsQ 0 s0=(runsQ last s).map (l0++·)∧BH b5 ((runCells l0).take 40000) H∧sl=[(0,str s),(5,ptr b5 0),(6,int .i64 (runLen l0)),(7,int .u8 last.toNat)])
  ⟨_,_,_,⟨s0,0,[],rfl,Nat.le_refl _,ha,Nat.zero_le _,by cases runsQ 0 s0 <;> simp,⟨_,_,[],.inl rfl,BRow.nil,rfl⟩,rfl⟩,⟨rfl,rfl,rfl,rfl,trivial⟩,HSub.refl _⟩ ?_
 rintro k sl H ⟨s,last,l0,rfl,hsl,hsa,hrl,hR,hB,rfl⟩ j1 hj1
 refine gaa ?_
 refine oC rfl (fun hc=>?_) (fun hc=>?_)
 ·have hne:s≠[]:=zf (not_t hc)
  have hI:=indexAny_spec (B0:=B0) (w0:=w0) s zo hsa
  rw[indexAny_run] at hI
  have hcons:=runsQ_cons (last:=last) hne
  have htd:=List.takeWhile_append_dropWhile (p:=isRun) (l:=s)
  cases hd:s.dropWhile isRun with
  |nil=>
   rw[hd] at hI hcons
   rw[if_pos rfl] at hI
   rw[hcons] at hR
   refine gae ?_
   refine oS (S.fn [_,_] rfl hI ?_) rfl
   refine gaa ?_
   refine oC rfl (fun _=>?_) (fun h=>by cases h)
   refine gak ?_
   exact retRet hj1 (rC (zrt rfl) (rC (zrt rfl) (zra rfl))) (by rw[hR];rfl)
  |cons c r=>
   rw[hd] at hI hcons htd
   rw[if_neg (by simp)] at hI
   have hsep:=sep_head hd
   generalize s.takeWhile isRun=num at *
   simp only at hcons
   have hsl2:s.length=num.length+(r.length+1):=by rw[←htd];simp
   refine gae ?_
   refine oS (S.fn [_,_] rfl hI ?_) rfl
   refine gaa ?_
   refine oC rfl (fun h=>?_) (fun h=>?_)
   ·have h5:5<num.length:=by have:=zt h;omega
    rw[posW_long h5] at hcons
    rw[hcons] at hR
    refine gak ?_
    exact retRet hj1 (rC (zrt rfl) (rC (zrt rfl) (zra rfl))) (by rw[hR];rfl)
   ·have h5:¬ 5<num.length:=by have:=zf h;omega
    have hnum:s.take num.length=num:=by rw[←htd,List.take_left]
    have hgc:s[((num.length:Nat):Int).toNat]? = some c:=by
     rw[Int.toNat_natCast,←htd,List.getElem?_append_right (Nat.le_refl _),Nat.sub_self]
     rfl
    refine gae ?_
    refine oP (Pure.ssliceE (m:=num) (i:=0) rfl rfl ⟨_,rfl⟩ zo zo zo (by rw[Int.toNat_natCast];exact hnum)) rfl ?_
    refine oS (S.fnIf [_] rfl (atoi_spec hG num zo) ?_) rfl
    rintro lv (⟨v,hv,rfl⟩|⟨hno,v,t,p,rfl⟩)
    ·have hpos:posW 99999 num=if Go.Lib.itoa v=num∧1≤v∧v≤99999 then some v.toNat else none:=by unfold posW;rw[hv];rfl
     have hvr:=Go.Lib.atoiAll_bounds hv
     refine gab ?_
     refine LCode.quiet zk ?_
     refine gab ?_
     refine LQ.bcase 34 rfl (fun h=>?_) (fun h=>?_)
     ·have h1:v<1:=zt h
      rw[if_neg (fun h=>by omega)] at hpos
      rw[hpos] at hcons
      rw[hcons] at hR
      refine gab ?_
      refine oC rfl (fun _=>?_) (fun h=>by cases h)
      refine gak ?_
      exact retRet hj1 (rC (zrt rfl) (rC (zrt rfl) (zra rfl))) (by rw[hR];rfl)
     ·have h1:¬ v<1:=zf h
      refine gab ?_
      refine LQ.bcase 38 rfl (fun h=>?_) (fun h=>?_)
      ·have h2:99999<v:=zt h
       rw[if_neg (fun h=>by omega)] at hpos
       rw[hpos] at hcons
       rw[hcons] at hR
       refine gab ?_
       refine oC rfl (fun _=>?_) (fun h=>by cases h)
       refine gak ?_
       exact retRet hj1 (rC (zrt rfl) (rC (zrt rfl) (zra rfl))) (by rw[hR];rfl)
      ·have h2:¬ 99999<v:=zf h
       refine gab ?_
       refine LQ.call (v:=.string ⟨(Go.Lib.itoa v).toArray⟩) (LCalls.mono (itoa_spec hG v hvr.1 hvr.2) fun r H h=>h.1) rfl ?_
       refine gab ?_
       refine LQ.pure (Pure.ssliceE (m:=num) (i:=0) rfl rfl ⟨_,rfl⟩ zo zo zo (by rw[Int.toNat_natCast];exact hnum)) rfl ?_
       refine gab ?_
       refine LQ.bcase 46 rfl (fun h=>?_) (fun h=>?_)
       ·have h3:¬ Go.Lib.itoa v=num:=zf (not_t h)
        rw[if_neg (fun h=>h3 h.1)] at hpos
        rw[hpos] at hcons
        rw[hcons] at hR
        refine gab ?_
        refine oC rfl (fun _=>?_) (fun h=>by cases h)
        refine gak ?_
        exact retRet hj1 (rC (zrt rfl) (rC (zrt rfl) (zra rfl))) (by rw[hR];rfl)
       ·have h3:Go.Lib.itoa v=num:=zt (not_f h)
        rw[if_pos ⟨h3,by omega,by omega⟩] at hpos
        rw[hpos] at hcons
        simp only at hcons
        obtain ⟨m,rfl⟩:∃ m:Nat,v=m:=⟨v.toNat,by omega⟩
        rw[Int.toNat_natCast] at hcons
        refine gab ?_
        refine LQ.pure (Pure.sindex (c:=c) rfl rfl zo hgc) rfl ?_
        refine gab ?_
        refine oC rfl (fun h=>?_) (fun h=>?_)
        ·have hcl:c=last:=by
          have:=zt h
          exact UInt8.toNat.inj zo
         rw[if_pos hcl] at hcons
         rw[hcons] at hR
         refine gak ?_
         exact retRet hj1 (rC (zrt rfl) (rC (zrt rfl) (zra rfl))) (by rw[hR];rfl)
        ·have hcl:¬ c=last:=fun hcl=>zf h (by rw[hcl])
         rw[if_neg hcl] at hcons
         rw[hcons] at hR
         refine gae ?_
         refine oP (Pure.sindex (c:=c) rfl rfl zo hgc) rfl ?_
         refine gac ?_
         have hAl:=runCells_len l0
         have hcl2:(runCells (l0++[(m,c)])).take 40000=(runCells l0).take 40000++List.replicate (min m (40000-runLen l0)) c:=by
          rw[runCells_app]
          have e1:runCells [(m,c)]=List.replicate m c:=by simp[runCells]
          rw[e1,List.take_append,List.take_replicate,hAl,Nat.min_comm]
         have hrl2:runLen (l0++[(m,c)])=runLen l0+m:=by rw[runLen_app];simp[runLen]
         have htl:((runCells l0).take 40000).length≤40000:=by rw[List.length_take];omega
         refine oP (Pure.intStr (l:=[c]) rfl (enc_sep hsep)) rfl ?_
         refine gab ?_
         refine oP (Pure.maxE (c:=((40000-runLen l0:Nat):Int)) rfl rfl (by split <;> omega)) rfl ?_
         refine oP (Pure.minE (c:=((min m (40000-runLen l0):Nat):Int)) rfl rfl (by split <;> omega)) rfl ?_
         refine oS (S.fn [_,_] rfl (repeat_spec c (min m (40000-runLen l0)) zo) ?_) rfl
         refine oS (S.callH (H1:=H) (F:=[]) [_,_] rfl (by rw[List.append_nil]) (writeString_spec b5 _ (List.replicate (min m (40000-runLen l0)) c) H hB (by rw[List.length_replicate];omega)) (fun y H3 h=>?_) (by rintro ch H3 ⟨⟨x,h⟩,_⟩;cases h)) rfl
         obtain ⟨⟨y',hy'⟩,hB3⟩:=h
         cases hy'
         rw[List.append_nil,←hcl2] at *
         refine gac ?_
         refine oP (Pure.ssliceE (m:=r) (i:=(num.length:Int)+1) rfl ⟨_,rfl⟩ rfl zo zo zo (by
          rw[Int.toNat_natCast,List.take_length,←htd,show ((num.length:Int)+1).toNat=num.length+1 by omega,←List.drop_drop,List.drop_left]
          rfl)) rfl ?_
         refine gad ?_
         exact ⟨_,_,_,by omega,⟨r,c,l0++[(m,c)],rfl,by omega,fun x hx=>hsa x (by rw[←htd];exact List.mem_append_right _ (List.mem_cons_of_mem _ hx)),by rw[hrl2];omega,by
          rw[hR]
          cases runsQ c r <;> simp,hB3,rfl⟩,⟨rfl,rfl,int_eq (by rw[hrl2];omega),rfl,trivial⟩,HSub.refl _,hj1⟩
    ·have hpos:posW 99999 num=none:=by
      unfold posW
      split
      ·rename_i v hv
       exact absurd hv (hno v)
      ·rfl
     rw[hpos] at hcons
     rw[hcons] at hR
     refine gab ?_
     refine LCode.quiet zk ?_
     refine gab ?_
     refine oC rfl (fun _=>?_) (fun h=>by cases h)
     refine gak ?_
     exact retRet hj1 (rC (zrt rfl) (rC (zrt rfl) (zra rfl))) (by rw[hR];rfl)
 ·have hne:s=[]:=zt (not_f hc)
  subst hne
  rw[runsQ_nil] at hR
  have htl:((runCells l0).take 40000).length≤40000:=by rw[List.length_take];omega
  refine gac ?_
  refine oS (S.callH (H1:=H) (F:=[]) [_] rfl (by rw[List.append_nil]) (string_spec b5 _ H hB zo) (fun y H3 h=>?_) (by rintro ch H3 ⟨h,_⟩;cases h)) rfl
  obtain ⟨hy,rfl⟩:=h
  cases hy
  refine gad ?_
  exact retRet hj1 (rC (zrt rfl) (rC (zrt rfl) (zra rfl))) (by rw[hR];simp[RunsLV,resLV])
end
end Go.Proofs.YtocofhbdbgnmbaaGreatDoor
namespace Go.Stele
open Go.Lib
theorem rowsOf_snoc (w:Nat):∀ (n:Nat) (s:Wd),rowsOf w (n+1) s=rowsOf w n s++[(s.drop (n * w)).take w]
 |0,s=>by simp[rowsOf]
 |n+1,s=>by
  have ih:=rowsOf_snoc w n (s.drop w)
  rw[rowsOf,ih,rowsOf,List.cons_append,List.drop_drop,show w+n * w=(n+1) * w by rw[Nat.succ_mul];omega]
theorem expandP_eq (runs:Wd) (w:Nat):expandP runs w=if w<1∨200<w then .error 2 else match runsQ 0 runs with
  |none=>.error 3
  |some l=>if runLen l=0∨runLen l % w≠0 then .error 4 else if 200<runLen l / w then .error 6 else .ok (rowsOf w (runLen l / w) (runCells l)):=rfl
end Go.Stele
namespace Go.Proofs.YtocofhbdbgnmbaaGreatDoor
open Go.GL Go.RowKit Go.Stele
set_option maxRecDepth 100000
set_option maxHeartbeats 4000000
attribute [local irreducible] LOps LCode LStep LCalls Go.GL.Pure QThen QBlock RetPost LQ LAny LLate LLateOp
def expLV:Except Nat (List Wd)→LV
 |.ok rows=>.tuple [.list (rows.map str),int .i64 0]
 |.error e=>.tuple [.list [],int .i64 e]
section
variable {B0:Nat} {w0:World}
theorem expand_spec (hG:GW B0 w0) (runs:List UInt8) (w:Nat) (hs:runs.length≤100000) (ha:∀ c∈runs,c.toNat<128) (hrl:∀ l,runsQ 0 runs=some l→runLen l≤100000000000) (hw:w≤1000000000):LCalls (KC B0 w0) 48 [str runs,int .i64 w] [] (Ret (expLV (expandP runs w))):=by
 have hE:=expandP_eq runs w
 have hD:=decode_spec (B0:=B0) (w0:=w0) hG runs hs ha
 refine cI Tryz.func48 rfl (n:=56) rfl rfl rfl ?_
 refine gac ?_
 refine oB 13 rfl (fun h1=>?_) (fun h1=>?_)
 ·rw[if_pos (.inl (by have:=zt h1;omega))] at hE
  refine gah ?_
  refine oC rfl (fun _=>?_) (fun h=>by cases h)
  refine gaf ?_
  exact retRet rfl (rC (rT (v:=nilSlice) rfl LV.Sub.nil) (zra rfl)) (by rw[hE];rfl)
 ·have g1:=zf h1
  refine gab ?_
  refine oC rfl (fun h=>?_) (fun h=>?_)
  ·rw[if_pos (.inr (by have:=zt h;omega))] at hE
   refine gaf ?_
   exact retRet rfl (rC (rT (v:=nilSlice) rfl LV.Sub.nil) (zra rfl)) (by rw[hE];rfl)
  ·have g2:=zf h
   rw[if_neg zo] at hE
   refine gae ?_
   refine oS (S.fn [_] rfl hD ?_) rfl
   cases hR:runsQ 0 runs with
   |none=>
    rw[hR] at hE
    refine gaa ?_
    refine oC rfl (fun _=>?_) (fun h=>by cases h)
    refine gak ?_
    exact retRet rfl (rC (rT (v:=nilSlice) rfl LV.Sub.nil) (zra rfl)) (by rw[hE];rfl)
   |some l=>
    rw[hR] at hE
    simp only at hE
    have hrl1:=hrl l hR
    have hdm:=Nat.div_add_mod (runLen l) w
    have hcm:=Int.natCast_emod (runLen l) w
    have hcd:=Int.natCast_ediv (runLen l) w
    have hcl:=runCells_len l
    refine gaa ?_
    refine oC rfl (fun h=>by cases h) (fun _=>?_)
    refine gac ?_
    refine oB 29 rfl (fun h=>?_) (fun h=>?_)
    ·rw[if_pos (.inl (by have:=zt h;omega))] at hE
     refine gab ?_
     refine oC rfl (fun _=>?_) (fun h=>by cases h)
     refine gak ?_
     exact retRet rfl (rC (rT (v:=nilSlice) rfl LV.Sub.nil) (zra rfl)) (by rw[hE];rfl)
    ·have g3:runLen l≠0:=by have:=zf h;omega
     refine gag ?_
     refine oP (Pure.rem rfl rfl zo zo) rfl ?_
     refine gab ?_
     refine oC rfl (fun h=>?_) (fun h=>?_)
     ·have g4:runLen l % w≠0:=by have:=zf (not_t h);omega
      rw[if_pos (.inr g4)] at hE
      refine gak ?_
      exact retRet rfl (rC (rT (v:=nilSlice) rfl LV.Sub.nil) (zra rfl)) (by rw[hE];rfl)
     ·have g4:runLen l % w=0:=by have:=zt (not_f h);omega
      rw[if_neg zo] at hE
      refine gae ?_
      refine oP (Pure.quo rfl rfl zo zo zo) rfl ?_
      refine gab ?_
      refine oC rfl (fun h=>?_) (fun h=>?_)
      ·rw[if_pos (by have:=zt h;omega)] at hE
       refine gak ?_
       exact retRet rfl (rC (rT (v:=nilSlice) rfl LV.Sub.nil) (zra rfl)) (by rw[hE];rfl)
      ·have g5:¬ 200<runLen l / w:=by have:=zf h;omega
       rw[if_neg g5] at hE
       have hmul:w * (runLen l / w)≤200 * 200:=Nat.mul_le_mul zo zo
       have hcells:(runCells l).take 40000=runCells l:=List.take_of_length_le zo
       rw[hcells]
       have htot:runLen l=(runLen l / w) * w:=by rw[Nat.mul_comm];omega
       generalize runLen l / w=n at *
       generalize runCells l=cells at *
       refine gac ?_
       refine oL (fun k sl H=>∃ (i:Nat) (v:LV),i≤n∧k=n-i∧Acc 1 v ((rowsOf w i cells).map str) H []∧sl=[(1,int .i64 w),(6,str cells),(7,int .i64 (runLen l)),(9,v),(10,int .i64 ((i * w:Nat):Int))])
        ⟨_,_,_,⟨0,nilSlice,Nat.zero_le _,rfl,Acc.nil,rfl⟩,⟨rfl,rfl,rfl,rfl,int_eq (by simp),trivial⟩,HSub.refl _⟩ ?_
       rintro k sl H ⟨i,v,hi,rfl,hacc,rfl⟩ j1 hj1
       have hsm:(i+1) * w=i * w+w:=Nat.succ_mul i w
       refine gac ?_
       refine oC rfl (fun hc=>?_) (fun hc=>?_)
       ·have hlt:i<n:=by
         have:=zt hc
         rcases Nat.lt_or_ge i n with h|h
         ·exact h
         ·have:=Nat.mul_le_mul_right w h
          omega
        have hle:(i+1) * w≤n * w:=Nat.mul_le_mul_right w hlt
        have hrs:=rowsOf_snoc w i cells
        refine gae ?_
        refine oP (Pure.mv (lv:=v) rfl) rfl ?_
        refine gad ?_
        refine oP (Pure.ssliceE (m:=(cells.drop (i * w)).take w) (i:=((i * w:Nat):Int)) rfl ⟨_,rfl⟩ ⟨_,rfl⟩ zo zo zo (by
         rw[show (((i * w:Nat):Int)+(w:Int)).toNat=i * w+w by omega,Int.toNat_natCast,List.drop_take,show i * w+w-i * w=w by omega])) rfl ?_
        refine oS (S.lit [_] (es:=[str ((cells.drop (i * w)).take w)]) rfl (eC rfl rfl eN) rfl rfl rfl ?_) rfl
        refine oS (S.acc (F:=[]) rfl hacc rfl (by simp[LV.cells]) rfl (by simp only[List.length_map,rowsOf_len,List.length_cons,List.length_nil];omega) fun v' H' hacc'=>?_) rfl
        have e1:(rowsOf w i cells).map str++[str ((cells.drop (i * w)).take w)]=(rowsOf w (i+1) cells).map str:=by rw[hrs,List.map_append];rfl
        rw[e1] at hacc'
        refine oP (Pure.as (lv:=v') rfl) rfl ?_
        refine gac ?_
        exact ⟨_,_,_,by omega,⟨i+1,v',by omega,rfl,hacc',rfl⟩,⟨rfl,rfl,rfl,rfl,int_eq zo,trivial⟩,HSub.refl _,hj1⟩
       ·have hi':i=n:=by
         have:=zf hc
         rcases Nat.lt_or_ge i n with h|h
         ·have:=Nat.mul_le_mul_right w (show i+1≤n from h)
          omega
         ·omega
        subst hi'
        refine LCode.sub (d:=9) (v:=v) rfl hacc.sub ?_
        refine gaa ?_
        exact retRet hj1 (rC (rT (v:=.list _) rfl zsr) (zra rfl)) (by rw[hE];rfl)
end
end Go.Proofs.YtocofhbdbgnmbaaGreatDoor
namespace Go.GL
open Go.RowKit
section
variable {C:Ctx} {e:Env} {H:Heap} {dst:Option Nat} {ty:TypeId} {pos:String} {aft:Array Edge} {g:Option (Nat×Bool)} {K:LV→Heap→Prop} {X:List PanicEntry→Heap→Prop} {x y:Operand}
theorem run_checkInt {P:Program} {kt:TypeId} {kd k:IntKind} {n:Int} (hkt:P.underlying kt=some (.int kd)) (b:Bool) (w:World):(Instr.checkKey b 10000 kt (.int k n)).run P w=.ok () w:=by
 have hck:Instr.checkKey b 10000 kt (.int k n)=Instr.checkKey b (9999+1) kt (.int k n):=rfl
 rw[hck,Instr.checkKey]
 simp only[Sem.run_bind,run_underlying' hkt,Result.andThen_ok,Sem.run_pure]
theorem S.insertK {t kt el:TypeId} {kd k:IntKind} (ht:C.P.underlying t=some (.map kt el)) (hkt:C.P.underlying kt=some (.int kd)) {b clock:Nat} {es es':Array MapEntry} {F:Heap} {m z:Operand} {n:Int} {v:Value} (hm:e.ev m=.atom (.map (some b))) (hx:e.ev x=int k n) (hz:e.ev z=.atom v)
  (hp:Pick (b,.obj (.map es clock)) H F) (hnew:Instr.findNow (.int kd) (.int k n) es.toList 0=some none) (he:es.push { key:=.int k n,val:=v,born:=clock }=es') (hk:K (.atom undef) ((b,.obj (.map es' (clock+1)))::F)):LStep C ⟨dst,.insert t m x z,ty,pos,aft,g⟩ e H K X:=by
 subst he
 refine LStep.at1 hp fun ρ w L h hH=>?_
 obtain ⟨hb0,hbs,hl,hx1,hx2⟩:=hH.objs _ (List.mem_singleton.2 rfl)
 simp only at hb0 hbs hl hx1 hx2
 have h3:execOp ρ ⟨dst,.insert t m x z,ty,pos,aft,g⟩=(do Instr.mapUpdate t (ρ m) (ρ x) (ρ z);Pure.pure .skip):=rfl
 have hf:(Instr.findKey kt (.int k n) es.toList).run C.P w=.ok none w:=by
  simp only[Instr.findKey,Sem.run_bind,run_underlying' hkt,Result.andThen_ok,hnew,Sem.run_pure]
 have hc:=run_checkInt (P:=C.P) (n:=n) (k:=k) hkt false w
 have hg:(getObj b).run C.P w=.ok (.map es clock) w:=by simp only[getObj,Sem.run,hx1]
 rw[h3,atom_of h hm,atom_of h hx,atom_of h hz]
 simp only[Instr.mapUpdate,Sem.run_bind,run_underlying' ht,Result.andThen_ok,hg,hc,hf]
 have hs:(setObj b (.map (es.push { key:=.int k n,val:=v,born:=clock }) (clock+1))).run C.P w=.ok () (setW w b (.map (es.push { key:=.int k n,val:=v,born:=clock }) (clock+1))):=run_setObj hx1 rfl
 rw[hs]
 exact left_obj (w':=setW w b (.map (es.push { key:=.int k n,val:=v,born:=clock }) (clock+1))) hH rfl rfl rfl rfl (by simp[setW]) (fun c hc=>setW_other hc) (setW_self hbs) (fun _=>rep_atom) hk
theorem Pure.lookupK {t kt el:TypeId} {kd k:IntKind} (ht:C.P.underlying t=some (.map kt el)) (hkt:C.P.underlying kt=some (.int kd)) {b clock j:Nat} {es:Array MapEntry} {n:Int} {v:Value} (hm:e.ev x=.atom (.map (some b))) (hx:e.ev y=int k n)
  (hb:(b,LObj.obj (.map es clock))∈H) (hf:Instr.findNow (.int kd) (.int k n) es.toList 0=some (some (j,v))):Pure C ⟨dst,.lookup t x y false,ty,pos,aft,g⟩ e H (.atom v):=fun ρ w L h hH=>by
 obtain ⟨_,_,_,hx1,_⟩:=hH.objs _ hb
 simp only at hx1
 refine ⟨v,rep_atom,fun w' ha=>?_⟩
 have hw:w'.heap[b]? = some (.map es clock):=(ha.1 _ hb).trans hx1
 have h3:execOp ρ ⟨dst,.lookup t x y false,ty,pos,aft,g⟩=(do Pure.pure (.value (←Instr.lookup t (ρ x) (ρ y) false))):=rfl
 have hg:(getObj b).run C.P w'=.ok (.map es clock) w':=by simp only[getObj,Sem.run,hw]
 rw[h3,atom_of h hm,atom_of h hx]
 have hf2:(Instr.findKey kt (.int k n) es.toList).run C.P w'=.ok (some (j,v)) w':=by
  simp only[Instr.findKey,Sem.run_bind,run_underlying' hkt,Result.andThen_ok,hf,Sem.run_pure]
 have hc:=run_checkInt (P:=C.P) (n:=n) (k:=k) hkt
 simp only[Instr.lookup,Sem.run_bind,run_underlying' ht,Result.andThen_ok,hg,Sem.run_pure,hc,hf2]
 rfl
end
end Go.GL
namespace Go.Stele
open Go.Lib
structure SmallB (b:Blk):Prop where
 good:GoodB b
 bw:bw b≤100000
 rows3:∀ r∈b.rows,3 * r.length≤90000
 asc:∀ c∈b.runs,c.toNat<128
theorem sum_mem {A:Type} (f:A→Nat):∀ {l:List A} {a:A},a∈l→f a≤(l.map f).sum
 |b::l,a,h=>by
  rcases List.mem_cons.1 h with rfl|h
  ·simp only[List.map_cons,List.sum_cons];omega
  ·have:=sum_mem f h
   simp only[List.map_cons,List.sum_cons];omega
theorem idxL_len:∀ (r:List Wd) (i:Nat),(idxL i r).length=r.length
 |[],_=>rfl
 |c::r,i=>by rw[idxL,List.length_cons,idxL_len r,List.length_cons]
theorem idxL_mem:∀ (r:List Wd) (i:Nat) (p:Nat×Wd),p∈idxL i r→p.2∈r
 |[],_,p,h=>by cases h
 |c::r,i,p,h=>by
  rw[idxL] at h
  rcases List.mem_cons.1 h with rfl|h
  ·exact List.mem_cons_self
  ·exact List.mem_cons_of_mem _ (idxL_mem r (i+1) p h)
theorem cellL_mem {rows:List (List Wd)} {p:Nat×Wd} (h:p∈cellL rows):∃ r∈rows,p.2∈r:=by
 unfold cellL at h
 obtain ⟨r,hr,hp⟩:=List.mem_flatMap.1 h
 exact ⟨r,hr,idxL_mem r 0 p hp⟩
theorem runsQ_sum:∀ (k:Nat) (last:UInt8) (s:Wd) (l:List (Nat×UInt8)),s.length≤k→runsQ last s=some l→runLen l≤99999 * s.length:=by
 intro k
 induction k with
 |zero=>
  intro last s l hs h
  have:s=[]:=List.length_eq_zero_iff.1 (by omega)
  subst this
  rw[runsQ_nil] at h
  cases h
  simp[runLen]
 |succ k ih=>
  intro last s l hs h
  by_cases hne:s=[]
  ·subst hne
   rw[runsQ_nil] at h
   cases h
   simp[runLen]
  ·obtain ⟨n,c,r,l',k1,k2,k3,k4,k5,k6,k7⟩:=(runsQ_iff hne).1 h
   have hl:=congrArg List.length k1
   simp only[List.length_append,List.length_cons] at hl
   have:=ih c r l' (by omega) k6
   rw[k7]
   have e1:runLen ((n,c)::l')=n+runLen l':=by simp[runLen]
   rw[e1]
   omega
theorem wids_le {m:Nat} (hm:1≤m):∀ (rows:List (List Wd)) (ws:List Nat),(∀ n∈ws,n≤m)→(∀ r∈rows,∀ c∈r,c.length≤m)→∀ n∈rows.foldl widen ws,n≤m:=by
 have one:∀ (ws:List Nat) (r:List Wd),(∀ n∈ws,n≤m)→(∀ c∈r,c.length≤m)→∀ n∈widen ws r,n≤m:=by
  intro ws r
  induction r generalizing ws with
  |nil=>intro h _ n hn;cases ws <;> exact h n hn
  |cons c r ih=>
   intro h hr n hn
   cases ws with
   |nil=>
    rw[widen] at hn
    rcases List.mem_cons.1 hn with rfl|hn
    ·have:=hr c (by simp);omega
    ·exact ih [] (by simp) (fun x hx=>hr x (List.mem_cons_of_mem _ hx)) n hn
   |cons w ws=>
    rw[widen] at hn
    rcases List.mem_cons.1 hn with rfl|hn
    ·have:=hr c (by simp);have:=h w (by simp);omega
    ·exact ih ws (fun x hx=>h x (List.mem_cons_of_mem _ hx)) (fun x hx=>hr x (List.mem_cons_of_mem _ hx)) n hn
 intro rows
 induction rows with
 |nil=>intro ws h _;exact h
 |cons r rows ih=>intro ws h hr;rw[List.foldl_cons];exact ih _ (one ws r h (hr r (by simp))) fun x hx=>hr x (List.mem_cons_of_mem _ hx)
theorem widn_le {m:Nat}:∀ (rows:List (List Wd)) (ws:List Nat),ws.length≤m→(∀ r∈rows,r.length≤m)→(rows.foldl widen ws).length≤m:=by
 intro rows
 induction rows with
 |nil=>intro ws h _;exact h
 |cons r rows ih=>
  intro ws h hr
  rw[List.foldl_cons]
  refine ih _ ?_ fun x hx=>hr x (List.mem_cons_of_mem _ hx)
  rw[widen_len]
  have:=hr r (by simp)
  omega
theorem flat_le:∀ l:List Wd,l.flatten.length≤(l.map fun w=>w.length+1).sum
 |[]=>Nat.le_refl _
 |a::l=>by
  have:=flat_le l
  rw[List.flatten_cons,List.length_append,List.map_cons,List.sum_cons]
  omega
end Go.Stele
namespace Go.Proofs.YtocofhbdbgnmbaaGreatDoor
open Go.GL Go.RowKit Go.Stele
set_option maxRecDepth 100000
set_option maxHeartbeats 4000000
attribute [local irreducible] LOps LCode LStep LCalls Go.GL.Pure QThen QBlock RetPost LQ LAny LLate LLateOp
section
variable {B0:Nat} {w0:World}
theorem ln1_spec (b1 w:Nat) (b:Blk) (hb:SmallB b) (hw:1≤w∧w≤200) (hk:b.kind=1):LCalls (KC B0 w0) 41 [encB b,ptr b1 0] [(b1,.cells 3 [int .i64 w])] (fun r H=>r=.ret (expLV (rowsP w b))∧H=[(b1,.cells 3 [int .i64 w])]):=by
 have hR:rowsP w b=if b.words.all okWord=true then .ok (headP b.words w) else .error 1:=by unfold rowsP;rw[if_pos hk]
 have hbw:=hb.bw
 have hwn:=(bw_words b).1
 have hws:∀ s∈b.words,s.length≤100000000:=fun s hs=>by
  have:=sum_mem (fun w:Wd=>w.length+1) hs
  unfold bw at hbw
  omega
 have hfl:=flat_le b.words
 have hH:=heading_spec (B0:=B0) (w0:=w0) b.words w zo hws (by unfold bw at hbw;omega)
 have hE:wrapE b.words w=if b.words.all okWord=true then 0 else 1:=by rw[wrapE_eq,if_neg zo]
 unfold encB cellsB
 refine cI Tryz.func41 rfl (n:=11) rfl rfl rfl ?_
 refine gai ?_
 refine oS (S.box (cs:=cellsB b) rfl fun b2=>?_) rfl
 unfold cellsB
 refine gaa ?_
 refine oS (S.call0 [_,_] rfl hH (fun v H' hh=>?_) (by rintro ch H' ⟨v,h,_⟩;cases h)) rfl
 obtain ⟨v,hv,hm⟩:=hh
 cases hv
 refine oP (Pure.extract (c:=.atom v) rfl rfl) rfl ?_
 refine LOps.rowOut (es':=(headR b.words w).map str) 9 hm zpr rfl rfl (strs_len _) (SubL.refl _) ?_
 refine gab ?_
 exact rR rfl (rC (rT (v:=.list _) rfl zsr) (zra rfl)) (zhD zhr) ⟨by
  rw[hR]
  unfold headR
  rw[hE]
  split <;> rfl,rfl⟩
theorem ln2_spec (b1 w:Nat) (b:Blk) (hb:SmallB b) (hw:1≤w∧w≤200) (hk:b.kind=2):LCalls (KC B0 w0) 43 [encB b,ptr b1 0] [(b1,.cells 3 [int .i64 w])] (fun r H=>r=.ret (expLV (rowsP w b))∧H=[(b1,.cells 3 [int .i64 w])]):=by
 have hR:rowsP w b=if b.words.all okWord=true then .ok (wrapP b.words w) else .error 1:=by unfold rowsP;rw[if_neg zo,if_pos hk]
 have hbw:=hb.bw
 have hwn:=(bw_words b).1
 have hws:∀ s∈b.words,s.length≤100000000:=fun s hs=>by
  have:=sum_mem (fun w:Wd=>w.length+1) hs
  unfold bw at hbw
  omega
 have hfl:=flat_le b.words
 have hH:=wrap_spec (B0:=B0) (w0:=w0) b.words w zo hws (by unfold bw at hbw;omega)
 have hE:wrapE b.words w=if b.words.all okWord=true then 0 else 1:=by rw[wrapE_eq,if_neg zo]
 unfold encB cellsB
 refine cI Tryz.func43 rfl (n:=11) rfl rfl rfl ?_
 refine gai ?_
 refine oS (S.box (cs:=cellsB b) rfl fun b2=>?_) rfl
 unfold cellsB
 refine gaa ?_
 refine oS (S.call0 [_,_] rfl hH (fun v H' hh=>?_) (by rintro ch H' ⟨v,h,_⟩;cases h)) rfl
 obtain ⟨v,hv,hm⟩:=hh
 cases hv
 refine oP (Pure.extract (c:=.atom v) rfl rfl) rfl ?_
 refine LOps.rowOut (es':=(wrapR b.words w).map str) 9 hm zpr rfl rfl (strs_len _) (SubL.refl _) ?_
 refine gab ?_
 exact rR rfl (rC (rT (v:=.list _) rfl zsr) (zra rfl)) (zhD zhr) ⟨by
  rw[hR]
  unfold wrapR
  rw[hE]
  split <;> rfl,rfl⟩
theorem ln3_spec (w:Nat) (b:Blk) (hb:SmallB b) (hk:b.kind=3):LCalls (KC B0 w0) 45 [encB b] [] (Ret (expLV (rowsP w b))):=by
 have hR:rowsP w b=.ok (tableP b.rows):=by unfold rowsP;rw[if_neg zo,if_neg zo,if_pos hk]
 have hbw:=hb.bw
 have hwn:=(bw_words b).2
 have hsum:(b.rows.map fun r=>(r.map fun c=>c.length+3).sum+2).sum≤100000:=by unfold bw at hbw;omega
 have hrow:∀ r∈b.rows,(r.map fun c=>c.length+3).sum+2≤100000:=fun r hr=>Nat.le_trans (sum_mem (fun r:List Wd=>(r.map fun c=>c.length+3).sum+2) hr) hsum
 have hcel:∀ r∈b.rows,∀ c∈r,c.length≤100000:=fun r hr c hc=>by
  have h1:=hrow r hr
  have h2:=sum_mem (fun c:Wd=>c.length+3) hc
  omega
 have hcl:(cellL b.rows).length≤100000:=by
  have h1:∀ l:List Wd,l.length≤(l.map fun c=>c.length+3).sum:=by
   intro l
   induction l with
   |nil=>simp
   |cons a l ih=>simp only[List.map_cons,List.sum_cons,List.length_cons];omega
  have h2:∀ rows:List (List Wd),(cellL rows).length≤(rows.map fun r=>(r.map fun c=>c.length+3).sum+2).sum:=by
   intro rows
   induction rows with
   |nil=>simp[cellL]
   |cons r rows ih=>
    have hc:cellL (r::rows)=idxL 0 r++cellL rows:=List.flatMap_cons
    rw[hc,List.length_append,idxL_len,List.map_cons,List.sum_cons]
    have:=h1 r
    omega
  exact Nat.le_trans (h2 _) hsum
 have hL:=lines_spec (B0:=B0) (w0:=w0) b.rows zo (fun r hr=>by have:=hb.rows3 r hr;omega) zo (fun p hp=>by
  obtain ⟨r,hr,hp⟩:=cellL_mem hp
  exact hcel r hr _ hp) hcel (widn_le _ _ (Nat.zero_le _) fun r hr=>by have:=hb.rows3 r hr;omega) (wids_le zo _ _ (by simp) hcel)
 unfold encB cellsB
 refine cI Tryz.func45 rfl (n:=7) rfl rfl rfl ?_
 refine gai ?_
 refine oS (S.box (cs:=cellsB b) rfl fun b2=>?_) rfl
 unfold cellsB
 refine gaa ?_
 refine oS (S.fn [_] rfl hL ?_) rfl
 refine gab ?_
 exact retRet rfl (rC (rT (v:=.list _) rfl zsr) (zra rfl)) (by rw[hR];rfl)
theorem ln4_spec (hG:GW B0 w0) (w:Nat) (b:Blk) (hb:SmallB b) (hk:b.kind=4):LCalls (KC B0 w0) 47 [encB b] [] (Ret (expLV (rowsP w b))):=by
 have hR:rowsP w b=expandP b.runs b.width:=by unfold rowsP;rw[if_neg zo,if_neg zo,if_neg zo]
 have hbw:=hb.bw
 have hwd:b.width≤200:=by
  rcases hb.good with h|h|h|h
  ·omega
  ·omega
  ·omega
  ·exact h.2.2.1
 have hrn:b.runs.length≤100000:=by unfold bw at hbw;omega
 have hE:=expand_spec (B0:=B0) (w0:=w0) hG b.runs b.width hrn hb.asc (fun l hl=>by
  have:=runsQ_sum _ 0 b.runs l (Nat.le_refl _) hl
  omega) zo
 rw[hR]
 unfold encB cellsB
 refine cI Tryz.func47 rfl (n:=11) rfl rfl rfl ?_
 refine gai ?_
 refine oS (S.box (cs:=cellsB b) rfl fun b2=>?_) rfl
 unfold cellsB
 refine gaa ?_
 refine oS (S.fn [_,_] rfl hE ?_) rfl
 cases expandP b.runs b.width with
 |error e=>
  refine gab ?_
  exact retRet rfl (rC (rT (v:=.list _) rfl zsr) (zra rfl)) rfl
 |ok rows=>
  refine gab ?_
  exact retRet rfl (rC (rT (v:=.list _) rfl zsr) (zra rfl)) rfl
def linesE (b1:Nat):Array MapEntry:=#[{ key:=.int .i64 1,val:=.func (.func 41) #[] #[.pointer (some ⟨b1,0,none⟩)],born:=0 },{ key:=.int .i64 2,val:=.func (.func 43) #[] #[.pointer (some ⟨b1,0,none⟩)],born:=1 },
 { key:=.int .i64 3,val:=.func (.func 45) #[] #[],born:=2 },{ key:=.int .i64 4,val:=.func (.func 47) #[] #[],born:=3 }]
theorem lines_map (w:Nat):LCalls (KC B0 w0) 23 [int .i64 w] [] (fun r H=>∃ b1 m:Nat,r=.ret (.atom (.map (some m)))∧H=[(m,.obj (.map (linesE b1) 4)),(b1,.cells 3 [int .i64 w])]):=by
 refine cI Tryz.func23 rfl (n:=7) rfl rfl rfl ?_
 refine gai ?_
 refine oS (S.box (cs:=[int .i64 w]) rfl fun b1=>?_) rfl
 refine gaf ?_
 refine oS (S.makeMap fun m=>?_) rfl
 refine gab ?_
 refine oS (S.insertK (kt:=3) (el:=60) (kd:=.i64) zk zk rfl rfl rfl pH rfl rfl ?_) rfl
 refine gab ?_
 refine oS (S.insertK (kt:=3) (el:=60) (kd:=.i64) zk zk rfl rfl rfl pH rfl rfl ?_) rfl
 refine oS (S.insertK (kt:=3) (el:=60) (kd:=.i64) zk zk rfl rfl rfl pH rfl rfl ?_) rfl
 refine oS (S.insertK (kt:=3) (el:=60) (kd:=.i64) zk zk rfl rfl rfl pH rfl rfl ?_) rfl
 refine gad ?_
 exact rR rfl (zra rfl) zhr ⟨b1,m,rfl,rfl⟩
end
end Go.Proofs.YtocofhbdbgnmbaaGreatDoor
namespace Go.Stele
open Go.Lib
def AscB (b:Blk):Prop:=∀ c∈b.runs,c.toNat<128
theorem lineP_asc {s:Wd} {b:Blk} (h:lineP s=.ok b):AscB b:=by
 unfold lineP at h
 split at h
 ·cases h
 ·rename_i hs
  have hs:s.all okCh=true:=by simpa using hs
  split at h
  ·cases h;intro c hc;cases hc
  ·split at h
   ·split at h
    ·cases h;intro c hc;cases hc
    ·cases h
   ·split at h
    ·split at h
     ·cases h
     ·cases h;intro c hc;cases hc
    ·split at h
     ·split at h
      ·rename_i n r hp
       cases h
       obtain ⟨_,_,_,h4⟩:=picP_good hp
       intro c hc
       have:c∈s:=List.mem_of_mem_drop (i:=2) (by rw[h4];exact List.mem_append_right _ (List.mem_cons_of_mem _ hc))
       have h5:=List.all_eq_true.1 hs c this
       unfold okCh at h5
       simp only[Bool.and_eq_true,decide_eq_true_eq] at h5
       omega
      ·cases h
     ·cases h;intro c hc;cases hc
theorem emit_asc {out:List Blk} {op:Nat} {b:Blk} (ho:∀ x∈out,AscB x) (hb:AscB b):∀ x∈emitP out op b,AscB x:=by
 unfold emitP
 split
 ·exact ho
 ·split
  ·refine onLast_all (P:=AscB) ?_ ho
   exact fun a ha=>ha
  ·split
   ·refine onLast_all (P:=AscB) ?_ ho
    exact fun a ha=>ha
   ·intro x hx
    rcases List.mem_append.1 hx with h|h
    ·exact ho x h
    ·rw[List.mem_singleton.1 h];exact hb
theorem docS_asc:∀ (l:List Wd) (n:Nat) (out:List Blk) (op:Nat) (o:List Blk) (k:Nat),(∀ x∈out,AscB x)→docS n out op l=.ok (o,k)→∀ x∈o,AscB x
 |[],n,out,op,o,k,ho,h=>by cases h;exact ho
 |s::r,n,out,op,o,k,ho,h=>by
  rw[docS] at h
  cases hs:lineP s with
  |error e=>rw[hs] at h;cases h
  |ok b=>
   rw[hs] at h
   exact docS_asc r _ _ _ _ _ (emit_asc ho (lineP_asc hs)) h
theorem docP_small {t:Wd} {l:List Blk} (h:docP t=.ok l):∀ b∈l,SmallB b:=fun b hb=>by
 have h1:=docP_bws h
 have h2:=(docP_ok.1 h).1
 have h3:bw b≤bws l:=sum_mem bw hb
 have h4:bw b≤90000:=by omega
 refine ⟨docP_good h b hb,by omega,fun r hr=>?_,?_⟩
 ·have h5:=sum_mem (fun r:List Wd=>(r.map fun c=>c.length+3).sum+2) hr
  have h6:∀ q:List Wd,3 * q.length≤(q.map fun c=>c.length+3).sum:=by
   intro q
   induction q with
   |nil=>simp
   |cons a q ih=>simp only[List.map_cons,List.sum_cons,List.length_cons];omega
  have:=h6 r
  unfold bw at h4
  omega
 ·obtain ⟨_,h⟩:=docP_ok.1 h
  obtain ⟨k,h⟩:=docF_ok.1 h
  exact docS_asc _ _ _ _ _ _ (by simp) h b hb
theorem join_snoc (p:Wd):∀ l:List Wd,join (l++[p]) [10]=if l=[] then p else join l [10]++[10]++p
 |[]=>by rw[List.nil_append,join_one,if_pos rfl]
 |[a]=>by rw[List.singleton_append,join_two,join_one,join_one,if_neg (by simp)]
 |a::b::r=>by
  have ih:=join_snoc p (b::r)
  rw[if_neg (by simp)] at ih
  rw[if_neg (by simp),List.cons_append,List.cons_append,join_two,←List.cons_append,ih,join_two]
  simp
theorem textP_snoc (l:List Wd) (s:Wd):textP (l++[s])=textP l++(s++[10]):=by unfold textP;rw[List.flatMap_append];simp
theorem textP_take (l:List Wd) (x:Nat):(textP (l.take x)).length≤(textP l).length:=by
 have h:textP l=textP (l.take x)++textP (l.drop x):=by
  unfold textP
  rw[←List.flatMap_append,List.take_append_drop]
 rw[h,List.length_append]
 omega
theorem textP_rows:∀ l:List Wd,l.length≤(textP l).length
 |[]=>Nat.zero_le _
 |a::l=>by
  have:=textP_rows l
  have h:textP (a::l)=(a++[10])++textP l:=by unfold textP;rw[List.flatMap_cons]
  rw[h]
  simp only[List.length_cons,List.length_append,List.length_nil]
  omega
def preJ (l:List Wd):Wd:=if l=[] then [] else join l [10]++[10]
theorem join_preJ (l:List Wd) (p:Wd):join (l++[p]) [10]=preJ l++p:=by
 rw[join_snoc]
 unfold preJ
 split
 ·rfl
 ·rfl
theorem bodyP_app (w:Nat):∀ (a b:List Blk),bodyP w (a++b)=match bodyP w a with
  |.error e=>.error e
  |.ok p=>match bodyP w b with
   |.error e=>.error e
   |.ok q=>.ok (p++q)
 |[],b=>by
  rw[List.nil_append,bodyP]
  cases bodyP w b <;> rfl
 |x::a,b=>by
  rw[List.cons_append,bodyP,bodyP,bodyP_app w a b]
  cases rowsP w x with
  |error e=>rfl
  |ok rows=>
   simp only
   cases bodyP w a with
   |error e=>rfl
   |ok p=>
    simp only
    cases bodyP w b <;> rfl
end Go.Stele
namespace Go.Proofs.YtocofhbdbgnmbaaGreatDoor
open Go.GL Go.RowKit Go.Stele
set_option maxRecDepth 100000
set_option maxHeartbeats 4000000
attribute [local irreducible] LOps LCode LStep LCalls Go.GL.Pure QThen QBlock RetPost LQ LAny LLate LLateOp
theorem swapB (a b c:Nat×LObj) (H:Heap):(b::c::(a::H)).Perm ((b::c::H)++[a]):=by
 rw[List.cons_append,List.cons_append]
 exact List.Perm.cons _ (List.Perm.cons _ (List.perm_append_comm (l₁:=[a]) (l₂:=H)))
def renLV:Except (Nat×Nat) Wd→LV
 |.ok s=>.tuple [str s,int .i64 0,int .i64 0]
 |.error (n,e)=>.tuple [str [],int .i64 n,int .i64 e]
theorem rowsP_err {w:Nat} {b:Blk} {e:Nat} (h:rowsP w b=.error e):0<e:=by
 unfold rowsP at h
 split at h
 ·split at h
  ·cases h
  ·cases h;decide
 ·split at h
  ·split at h
   ·cases h
   ·cases h;decide
  ·split at h
   ·cases h
   ·unfold expandP at h
    split at h
    ·cases h;decide
    ·split at h
     ·cases h;decide
     ·split at h
      ·cases h;decide
      ·split at h
       ·cases h;decide
       ·cases h
section
variable {B0:Nat} {w0:World}
theorem docP_err {t:Wd} {n e:Nat} (h:docP t=.error (n,e)):0<e:=by
 have hl:∀ (s:Wd) (x:Nat),lineP s=.error x→0<x:=by
  intro s x h
  unfold lineP at h
  split at h
  ·cases h;decide
  ·split at h
   ·cases h
   ·split at h
    ·split at h
     ·cases h
     ·rename_i y hc
      cases h
      exact cells_err hc
    ·split at h
     ·split at h
      ·cases h;decide
      ·cases h
     ·split at h
      ·split at h
       ·cases h
       ·cases h;decide
      ·cases h
 have hf:∀ (l:List Wd) (k:Nat) (out:List Blk) (op:Nat),docF k out op l=.error (n,e)→0<e:=by
  intro l
  induction l with
  |nil=>intro k out op h;cases h
  |cons s l ih=>
   intro k out op h
   rw[docF] at h
   cases hs:lineP s with
   |error x=>
    rw[hs] at h
    cases h
    exact hl s _ hs
   |ok b=>
    rw[hs] at h
    exact ih _ _ _ h
 unfold docP at h
 split at h
 ·cases h;decide
 ·exact hf _ _ _ _ h
theorem render_spec (hG:GW B0 w0) (text:List UInt8) (w:Int) (hs:text.length≤100000000) (hlen:1≤w∧w≤200→∀ l i parts,docP text=.ok l→bodyP w.toNat (l.take i)=.ok parts→(Go.Lib.join parts [10]).length≤4000000000):LCalls (KC B0 w0) 9 [str text,int .i64 w] [] (Ret (renLV (renderP text w))):=by
 have hP:renderP text w=if w<1∨200<w then .error (0,2) else match docP text with
  |.error e=>.error e
  |.ok l=>match bodyP w.toNat l with
   |.error e=>.error (0,e)
   |.ok parts=>if 65536<(Go.Lib.join parts [10]).length then .error (0,6) else .ok (Go.Lib.join parts [10]):=rfl
 have hD:=parse_spec (B0:=B0) (w0:=w0) hG text hs
 refine cI Tryz.func9 rfl (n:=72) rfl rfl rfl ?_
 refine gac ?_
 refine oB 20 rfl (fun h1=>?_) (fun h1=>?_)
 ·rw[if_pos (.inl (zt h1))] at hP
  refine gah ?_
  refine oC rfl (fun _=>?_) (fun h=>by cases h)
  refine gaf ?_
  exact retRet rfl (rC (zrt rfl) (rC (zrt rfl) (zra rfl))) (by rw[hP];rfl)
 ·have g1:=zf h1
  refine gab ?_
  refine oC rfl (fun h=>?_) (fun h=>?_)
  ·rw[if_pos (.inr (zt h))] at hP
   refine gaf ?_
   exact retRet rfl (rC (zrt rfl) (rC (zrt rfl) (zra rfl))) (by rw[hP];rfl)
  ·have g2:=zf h
   obtain ⟨n,rfl⟩:∃ n:Nat,w=n:=⟨w.toNat,by omega⟩
   rw[if_neg zo] at hP
   have hlen:=hlen ⟨by omega,by omega⟩
   rw[Int.toNat_natCast] at hP hlen
   refine gae ?_
   refine oS (S.fn [_] rfl hD ?_) rfl
   cases hdoc:docP text with
   |error q=>
    obtain ⟨x,y⟩:=q
    rw[hdoc] at hP
    have hy:=docP_err hdoc
    unfold docLV
    refine gaa ?_
    refine oC rfl (fun h=>?_) (fun h=>absurd (zt (not_f h)) zo)
    refine gac ?_
    exact retRet rfl (rC (zrt rfl) (rC (zrt rfl) (zra rfl))) (by rw[hP];rfl)
   |ok l=>
    rw[hdoc] at hP
    simp only at hP
    have hsm:=docP_small hdoc
    have hbl:l.length≤100000:=by
     have h1:=docP_bws hdoc
     have h2:=(docP_ok.1 hdoc).1
     have h3:=bws_len l
     omega
    have hlen:=fun i parts=>hlen l i parts hdoc
    have hla:(l.map encB).length=l.length:=List.length_map _
    unfold docLV
    refine gaa ?_
    refine oC rfl (fun h=>by cases h) (fun _=>?_)
    refine gae ?_
    refine oS (S.call0 [_] rfl (lines_map n) (fun v H' hh=>?_) (by rintro ch H' ⟨b,m,h,_⟩;cases h)) rfl
    obtain ⟨b1,m,hv,rfl⟩:=hh
    cases hv
    refine gaf ?_
    refine oS (S.alloc fun b11=>?_) rfl
    refine gaa ?_
    refine oL (fun k sl H=>∃ (i:Nat) (parts:List Wd) (HB:Heap),i≤l.length∧k=l.length-i∧bodyP n (l.take i)=.ok parts∧parts.length=i∧BH b11 (Go.Lib.join parts [10]) HB∧sl=[(10,.atom (.map (some m))),(11,ptr b11 0),(36,.list (l.map encB)),(37,int .i64 l.length),(38,int .i64 i)]∧H=(m,.obj (.map (linesE b1) 4))::(b1,.cells 3 [int .i64 n])::HB)
     ⟨_,_,_,⟨0,[],_,Nat.zero_le _,rfl,rfl,rfl,⟨_,_,[],.inl rfl,BRow.nil,rfl⟩,rfl,rfl⟩,⟨rfl,rfl,rfl,int_eq zo,rfl,trivial⟩,⟨[],by
      rw[List.append_nil]
      exact (List.perm_append_comm (l₁:=[_]) (l₂:=[_,_]))⟩⟩ ?_
    rintro k sl H ⟨i,parts,HB,hi,rfl,hbd,hpl,hB,rfl,rfl⟩ j1 hj1
    refine gaj ?_
    refine oC rfl (fun hc=>?_) (fun hc=>?_)
    ·have hlt:i<l.length:=by have:=zt hc;omega
     have hbm:l[i]∈l:=List.getElem_mem hlt
     have hbs:=hsm _ hbm
     have hg:(l.map encB)[((i:Nat):Int).toNat]? = some (encB l[i]):=map_get _ _ _ hlt
     have hbd1:bodyP n (l.take (i+1))=match rowsP n l[i] with
       |.error e=>.error e
       |.ok rows=>.ok (parts++[textP rows]):=by
      rw[List.take_succ_eq_append_getElem hlt,bodyP_app,hbd]
      simp only[bodyP]
      cases rowsP n l[i] <;> rfl
     have hbd2:bodyP n l=match bodyP n (l.take (i+1)) with
       |.error e=>.error e
       |.ok p=>match bodyP n (l.drop (i+1)) with
        |.error e=>.error e
        |.ok q=>.ok (p++q):=by
      rw[←bodyP_app,List.take_append_drop]
     have hlen1:=hlen (i+1)
     have hlen0:=hlen i parts hbd
     generalize l[i]=b at *
     obtain ⟨kind,words,rows3,runs,width⟩:=b
     have hkd:kind=1∨kind=2∨kind=3∨kind=4:=by
      rcases hbs.good with h|h|h|h
      ·exact .inl h.1
      ·exact .inr (.inl h.1)
      ·exact .inr (.inr (.inl h.1))
      ·exact .inr (.inr (.inr h.1))
     refine gae ?_
     refine oP (xR (el':=encB ⟨kind,words,rows3,runs,width⟩) (cs:=[int .i64 kind,.list (words.map str),.list (rows3.map fun r=>.list (r.map str)),str runs,int .i64 width]) rfl rfl zo hg rfl rfl) rfl ?_
     refine gab ?_
     refine oS (S.alloc fun b13=>?_) rfl
     refine gaa ?_
     cases hr:rowsP n ⟨kind,words,rows3,runs,width⟩ with
     |error er=>
      rw[hr] at hbd1
      have hep:=rowsP_err hr
      refine LOps.cutTo [(10,.atom (.map (some m))),(11,ptr b11 0),(12,int .i64 i),(14,.list []),(15,int .i64 er),(36,.list (l.map encB)),(37,int .i64 l.length),(38,int .i64 i)] ((m,.obj (.map (linesE b1) 4))::(b1,.cells 3 [int .i64 n])::HB) ?_ (fun j2 hj2=>?_)
      ·rcases hkd with rfl|rfl|rfl|rfl
       ·refine oP (Pure.lookupK (kt:=3) (el:=60) (kd:=.i64) zk zk rfl rfl zm1 rfl) rfl ?_
        refine gab ?_
        refine oS (S.callV (f:=41) (H1:=[(b1,.cells 3 [int .i64 n])]) (F:=(b13,.cells 49 [int .i64 (1:Nat),.list (words.map str),.list (rows3.map fun r=>.list (r.map str)),str runs,int .i64 width])::(m,.obj (.map (linesE b1) 4))::HB) [_] rfl rfl (by exact List.perm_append_comm_assoc [_,_] [_] HB) (ln1_spec b1 n _ hbs ⟨by omega,by omega⟩ rfl) (fun v H' hh=>?_) (by rintro ch H' ⟨h,_⟩;cases h)) rfl
        obtain ⟨hv,rfl⟩:=hh
        cases hv
        refine LOps.weak (H':=(m,.obj (.map (linesE b1) 4))::(b1,.cells 3 [int .i64 n])::HB) ⟨[(b13,.cells 49 [int .i64 (1:Nat),.list (words.map str),.list (rows3.map fun r=>.list (r.map str)),str runs,int .i64 width])],by
         exact (List.perm_append_comm_assoc [_,_] [_] HB).trans (swapB _ _ _ HB)⟩ ?_
        rw[hr]
        unfold expLV
        refine gab ?_
        exact ⟨⟨rfl,rfl,rfl,rfl,rfl,rfl,rfl,rfl,trivial⟩,rfl,rfl⟩
       ·refine oP (Pure.lookupK (kt:=3) (el:=60) (kd:=.i64) zk zk rfl rfl zm1 rfl) rfl ?_
        refine gab ?_
        refine oS (S.callV (f:=43) (H1:=[(b1,.cells 3 [int .i64 n])]) (F:=(b13,.cells 49 [int .i64 (2:Nat),.list (words.map str),.list (rows3.map fun r=>.list (r.map str)),str runs,int .i64 width])::(m,.obj (.map (linesE b1) 4))::HB) [_] rfl rfl (by exact List.perm_append_comm_assoc [_,_] [_] HB) (ln2_spec b1 n _ hbs ⟨by omega,by omega⟩ rfl) (fun v H' hh=>?_) (by rintro ch H' ⟨h,_⟩;cases h)) rfl
        obtain ⟨hv,rfl⟩:=hh
        cases hv
        refine LOps.weak (H':=(m,.obj (.map (linesE b1) 4))::(b1,.cells 3 [int .i64 n])::HB) ⟨[(b13,.cells 49 [int .i64 (2:Nat),.list (words.map str),.list (rows3.map fun r=>.list (r.map str)),str runs,int .i64 width])],by
         exact (List.perm_append_comm_assoc [_,_] [_] HB).trans (swapB _ _ _ HB)⟩ ?_
        rw[hr]
        unfold expLV
        refine gab ?_
        exact ⟨⟨rfl,rfl,rfl,rfl,rfl,rfl,rfl,rfl,trivial⟩,rfl,rfl⟩
       ·refine oP (Pure.lookupK (kt:=3) (el:=60) (kd:=.i64) zk zk rfl rfl zm1 rfl) rfl ?_
        refine gab ?_
        refine oS (S.fnV (f:=45) [_] rfl rfl (ln3_spec n _ hbs rfl) ?_) rfl
        refine LOps.weak (H':=(m,.obj (.map (linesE b1) 4))::(b1,.cells 3 [int .i64 n])::HB) (zhD zhr) ?_
        rw[hr]
        unfold expLV
        refine gab ?_
        exact ⟨⟨rfl,rfl,rfl,rfl,rfl,rfl,rfl,rfl,trivial⟩,rfl,rfl⟩
       ·refine oP (Pure.lookupK (kt:=3) (el:=60) (kd:=.i64) zk zk rfl rfl zm1 rfl) rfl ?_
        refine gab ?_
        refine oS (S.fnV (f:=47) [_] rfl rfl (ln4_spec hG n _ hbs rfl) ?_) rfl
        refine LOps.weak (H':=(m,.obj (.map (linesE b1) 4))::(b1,.cells 3 [int .i64 n])::HB) (zhD zhr) ?_
        rw[hr]
        unfold expLV
        refine gab ?_
        exact ⟨⟨rfl,rfl,rfl,rfl,rfl,rfl,rfl,rfl,trivial⟩,rfl,rfl⟩
      refine gaa ?_
      refine oC rfl (fun h=>?_) (fun h=>absurd (zt (not_f h)) zo)
      rw[hbd2,hbd1] at hP
      refine gaa ?_
      exact retRet (hj2.trans hj1) (rC (zrt rfl) (rC (zrt rfl) (zra rfl))) (by rw[hP];rfl)
     |ok rows=>
      rw[hr] at hbd1
      refine LOps.cutTo [(10,.atom (.map (some m))),(11,ptr b11 0),(12,int .i64 i),(14,.list (rows.map str)),(15,int .i64 0),(36,.list (l.map encB)),(37,int .i64 l.length),(38,int .i64 i)] ((m,.obj (.map (linesE b1) 4))::(b1,.cells 3 [int .i64 n])::HB) ?_ (fun j2 hj2=>?_)
      ·rcases hkd with rfl|rfl|rfl|rfl
       ·refine oP (Pure.lookupK (kt:=3) (el:=60) (kd:=.i64) zk zk rfl rfl zm1 rfl) rfl ?_
        refine gab ?_
        refine oS (S.callV (f:=41) (H1:=[(b1,.cells 3 [int .i64 n])]) (F:=(b13,.cells 49 [int .i64 (1:Nat),.list (words.map str),.list (rows3.map fun r=>.list (r.map str)),str runs,int .i64 width])::(m,.obj (.map (linesE b1) 4))::HB) [_] rfl rfl (by exact List.perm_append_comm_assoc [_,_] [_] HB) (ln1_spec b1 n _ hbs ⟨by omega,by omega⟩ rfl) (fun v H' hh=>?_) (by rintro ch H' ⟨h,_⟩;cases h)) rfl
        obtain ⟨hv,rfl⟩:=hh
        cases hv
        refine LOps.weak (H':=(m,.obj (.map (linesE b1) 4))::(b1,.cells 3 [int .i64 n])::HB) ⟨[(b13,.cells 49 [int .i64 (1:Nat),.list (words.map str),.list (rows3.map fun r=>.list (r.map str)),str runs,int .i64 width])],by
         exact (List.perm_append_comm_assoc [_,_] [_] HB).trans (swapB _ _ _ HB)⟩ ?_
        rw[hr]
        unfold expLV
        refine gab ?_
        exact ⟨⟨rfl,rfl,rfl,rfl,rfl,rfl,rfl,rfl,trivial⟩,rfl,rfl⟩
       ·refine oP (Pure.lookupK (kt:=3) (el:=60) (kd:=.i64) zk zk rfl rfl zm1 rfl) rfl ?_
        refine gab ?_
        refine oS (S.callV (f:=43) (H1:=[(b1,.cells 3 [int .i64 n])]) (F:=(b13,.cells 49 [int .i64 (2:Nat),.list (words.map str),.list (rows3.map fun r=>.list (r.map str)),str runs,int .i64 width])::(m,.obj (.map (linesE b1) 4))::HB) [_] rfl rfl (by exact List.perm_append_comm_assoc [_,_] [_] HB) (ln2_spec b1 n _ hbs ⟨by omega,by omega⟩ rfl) (fun v H' hh=>?_) (by rintro ch H' ⟨h,_⟩;cases h)) rfl
        obtain ⟨hv,rfl⟩:=hh
        cases hv
        refine LOps.weak (H':=(m,.obj (.map (linesE b1) 4))::(b1,.cells 3 [int .i64 n])::HB) ⟨[(b13,.cells 49 [int .i64 (2:Nat),.list (words.map str),.list (rows3.map fun r=>.list (r.map str)),str runs,int .i64 width])],by
         exact (List.perm_append_comm_assoc [_,_] [_] HB).trans (swapB _ _ _ HB)⟩ ?_
        rw[hr]
        unfold expLV
        refine gab ?_
        exact ⟨⟨rfl,rfl,rfl,rfl,rfl,rfl,rfl,rfl,trivial⟩,rfl,rfl⟩
       ·refine oP (Pure.lookupK (kt:=3) (el:=60) (kd:=.i64) zk zk rfl rfl zm1 rfl) rfl ?_
        refine gab ?_
        refine oS (S.fnV (f:=45) [_] rfl rfl (ln3_spec n _ hbs rfl) ?_) rfl
        refine LOps.weak (H':=(m,.obj (.map (linesE b1) 4))::(b1,.cells 3 [int .i64 n])::HB) (zhD zhr) ?_
        rw[hr]
        unfold expLV
        refine gab ?_
        exact ⟨⟨rfl,rfl,rfl,rfl,rfl,rfl,rfl,rfl,trivial⟩,rfl,rfl⟩
       ·refine oP (Pure.lookupK (kt:=3) (el:=60) (kd:=.i64) zk zk rfl rfl zm1 rfl) rfl ?_
        refine gab ?_
        refine oS (S.fnV (f:=47) [_] rfl rfl (ln4_spec hG n _ hbs rfl) ?_) rfl
        refine LOps.weak (H':=(m,.obj (.map (linesE b1) 4))::(b1,.cells 3 [int .i64 n])::HB) (zhD zhr) ?_
        rw[hr]
        unfold expLV
        refine gab ?_
        exact ⟨⟨rfl,rfl,rfl,rfl,rfl,rfl,rfl,rfl,trivial⟩,rfl,rfl⟩
      refine gaa ?_
      refine oC rfl (fun h=>by cases h) (fun _=>?_)
      refine gaa ?_
      have hfull:=hlen1 _ hbd1
      rw[join_preJ,List.length_append] at hfull
      have hrl:=textP_rows rows
      have hrm:(rows.map str).length=rows.length:=List.length_map _
      refine LCode.perm (H':=HB++[(m,.obj (.map (linesE b1) 4)),(b1,.cells 3 [int .i64 n])]) (List.perm_append_comm (l₁:=[_,_])) ?_
      refine LCode.mid (A:=Heap) (fun _=>[(10,.atom (.map (some m))),(11,ptr b11 0),(12,int .i64 i),(14,.list (rows.map str)),(36,.list (l.map encB)),(37,int .i64 l.length),(38,int .i64 i)]) (fun HB1=>HB1++[(m,.obj (.map (linesE b1) 4)),(b1,.cells 3 [int .i64 n])]) (fun HB1=>BH b11 (preJ parts) HB1) ?_ (fun HB1 hB1 j3 hj3=>?_)
      ·refine oC rfl (fun h=>?_) (fun h=>?_)
       ·have hi0:0<i:=by have:=zt h;omega
        have hpj:preJ parts=Go.Lib.join parts [10]++[10]:=if_neg (by rintro rfl;simp at hpl;omega)
        refine gai ?_
        refine oS (S.callH (H1:=HB) (F:=[(m,.obj (.map (linesE b1) 4)),(b1,.cells 3 [int .i64 n])]) [_,_] rfl zpr (writeString_spec b11 _ [10] HB hB (by simp only[List.length_cons,List.length_nil];omega)) (fun y H3 h=>?_) (by rintro ch H3 ⟨⟨x,h⟩,_⟩;cases h)) rfl
        obtain ⟨⟨y',hy'⟩,hB3⟩:=h
        cases hy'
        refine gah ?_
        exact ⟨H3,by rw[hpj];exact hB3,⟨rfl,rfl,rfl,rfl,rfl,rfl,rfl,trivial⟩,rfl,rfl⟩
       ·have hi0:i=0:=by have:=zf h;omega
        have hp0:parts=[]:=List.eq_nil_of_length_eq_zero zo
        refine gad ?_
        exact ⟨HB,by rw[hp0] at hB ⊢;exact hB,⟨rfl,rfl,rfl,rfl,rfl,rfl,rfl,trivial⟩,rfl,rfl⟩
      refine gaa ?_
      refine oL (fun k sl H2=>∃ (x:Nat) (HB2:Heap),x≤rows.length∧k=rows.length-x∧BH b11 (preJ parts++textP (rows.take x)) HB2∧sl=[(10,.atom (.map (some m))),(11,ptr b11 0),(12,int .i64 i),(36,.list (l.map encB)),(37,int .i64 l.length),(38,int .i64 i),(58,.list (rows.map str)),(59,int .i64 rows.length),(60,int .i64 x)]∧H2=HB2++[(m,.obj (.map (linesE b1) 4)),(b1,.cells 3 [int .i64 n])])
       ⟨_,_,_,⟨0,HB1,Nat.zero_le _,rfl,by rw[List.take_zero];unfold textP;rw[List.flatMap_nil,List.append_nil];exact hB1,rfl,rfl⟩,⟨rfl,rfl,rfl,rfl,rfl,rfl,rfl,int_eq zo,rfl,trivial⟩,HSub.refl _⟩ ?_
      rintro k sl H2 ⟨x,HB2,hx,rfl,hB2,rfl,rfl⟩ j4 hj4
      refine gaj ?_
      refine oC rfl (fun hc=>?_) (fun hc=>?_)
      ·have hxl:x<rows.length:=by have:=zt hc;omega
       have htx:textP (rows.take (x+1))=textP (rows.take x)++(rows[x]++[10]):=by rw[List.take_succ_eq_append_getElem hxl,textP_snoc]
       have htl:=textP_take rows (x+1)
       rw[htx,List.length_append,List.length_append] at htl
       refine gae ?_
       refine oP (xR (el':=str rows[x]) (cs:=[str rows[x]]) rfl rfl zo (map_get _ _ _ hxl) rfl rfl) rfl ?_
       generalize rows[x]=rx at *
       refine gaa ?_
       refine oS (S.callH (H1:=HB2) (F:=[(m,.obj (.map (linesE b1) 4)),(b1,.cells 3 [int .i64 n])]) [_,_] rfl zpr (writeString_spec b11 _ (rx++[10]) HB2 hB2 (by simp only[List.length_append,List.length_cons,List.length_nil] at *;omega)) (fun y H3 h=>?_) (by rintro ch H3 ⟨⟨x,h⟩,_⟩;cases h)) rfl
       obtain ⟨⟨y',hy'⟩,hB3⟩:=h
       cases hy'
       refine gac ?_
       exact ⟨_,_,_,by omega,⟨x+1,H3,by omega,rfl,by rw[htx,←List.append_assoc];exact hB3,rfl,rfl⟩,⟨rfl,rfl,rfl,rfl,rfl,rfl,rfl,rfl,int_eq zo,trivial⟩,HSub.refl _,hj4⟩
      ·have hxl:x=rows.length:=by have:=zf hc;omega
       subst hxl
       rw[List.take_length] at hB2
       refine gac ?_
       exact ⟨_,_,_,by omega,⟨i+1,parts++[textP rows],HB2,by omega,rfl,hbd1,by rw[List.length_append];simp only[List.length_cons,List.length_nil];omega,by rw[join_preJ];exact hB2,rfl,rfl⟩,⟨rfl,rfl,rfl,rfl,int_eq zo,trivial⟩,⟨[],by
        rw[List.append_nil]
        exact List.perm_append_comm⟩,hj4.trans (hj3.trans (hj2.trans hj1))⟩
    ·have hi':i=l.length:=by have:=zf hc;omega
     subst hi'
     rw[List.take_length] at hbd
     rw[hbd] at hP
     simp only at hP
     have hfull:=hlen l.length parts (by rw[List.take_length];exact hbd)
     refine gac ?_
     refine oS (S.callH (H1:=HB) (F:=[(m,.obj (.map (linesE b1) 4)),(b1,.cells 3 [int .i64 n])]) [_] rfl (List.perm_append_comm (l₁:=[_,_])) (blen_spec b11 _ HB hB) (fun y H3 h=>?_) (by rintro ch H3 ⟨h,_⟩;cases h)) rfl
     obtain ⟨hy,rfl⟩:=h
     cases hy
     refine gab ?_
     refine oC rfl (fun h=>?_) (fun h=>?_)
     ·rw[if_pos (by have:=zt h;omega)] at hP
      refine gaf ?_
      exact retRet hj1 (rC (zrt rfl) (rC (zrt rfl) (zra rfl))) (by rw[hP];rfl)
     ·rw[if_neg (by have:=zf h;omega)] at hP
      refine gae ?_
      refine oS (S.callH (H1:=H3) (F:=[(m,.obj (.map (linesE b1) 4)),(b1,.cells 3 [int .i64 n])]) [_] rfl zpr (string_spec b11 _ H3 hB zo) (fun y H4 h=>?_) (by rintro ch H4 ⟨h,_⟩;cases h)) rfl
      obtain ⟨hy,rfl⟩:=h
      cases hy
      refine gad ?_
      exact retRet hj1 (rC (zrt rfl) (rC (zrt rfl) (zra rfl))) (by rw[hP];rfl)
end
end Go.Proofs.YtocofhbdbgnmbaaGreatDoor
namespace Go.Proofs.YtocofhbdbgnmbaaGreatDoor
open Go.GL Go.RowKit Go.Stele
set_option maxRecDepth 100000
set_option maxHeartbeats 4000000
attribute [local irreducible] LOps LCode LStep LCalls Go.GL.Pure QThen QBlock RetPost LQ LAny LLate LLateOp
theorem byte_ne {c:UInt8} {k:Int} (h:(!decide ((c.toNat:Int)=k))=true) (hk:0≤k∧k<256):c≠UInt8.ofNat k.toNat:=byte_f (not_t h) hk
theorem one_slice {s:List UInt8} {i:Nat} (h:i<s.length):(s.take (i+1)).drop i=[s[i]]:=by
 rw[List.take_succ_eq_append_getElem h,List.drop_append_of_le_length (by rw[List.length_take];omega),List.drop_eq_nil_of_le (by rw[List.length_take];omega),List.nil_append]
theorem flush_ne {c:List UInt8} (h:¬ c=[]):flush c=[c]:=if_neg h
def RetAcc (l:List Wd) (r:LRes) (H:Heap):Prop:=∃ v,r=.ret v∧Acc 1 v (l.map str) H []
section
variable {B0:Nat} {w0:World}
theorem rwords_spec (s:List UInt8) (hs:s.length≤1000000000):LCalls (KC B0 w0) 76 [str s] [] (RetAcc (wordsL s)):=by
 refine cI Tryz.func76 rfl (n:=37) rfl rfl rfl ?_
 refine gaf ?_
 refine oS (S.litA [] rfl eN rfl rfl rfl fun b=>?_) rfl
 refine oP (Pure.as (lv:=.app b 0 1 []) rfl) rfl ?_
 refine gac ?_
 refine oL (fun k ls H=>∃ (i:Nat) (out:List (List UInt8)) (cur:List UInt8) (v:LV),i≤s.length+1∧k=s.length+1-i∧cur.length≤i∧out.length≤i∧Acc 1 v (out.map str) H []∧(i≤s.length→out++scanB cur (s.drop i)=wordsL s)∧(i=s.length+1→out=wordsL s)∧ls=[(0,str s),(3,v),(4,str cur),(5,int .i64 i)])
  ⟨_,_,_,⟨0,[],[],.app b 0 1 [],by omega,rfl,by simp,by simp,Acc.row,fun _=>by rw[List.drop_zero,List.nil_append,scanB_words],by omega,rfl⟩,⟨rfl,rfl,rfl,rfl,trivial⟩,HSub.refl _⟩ ?_
 rintro k ls H ⟨i,out,cur,v,hi,rfl,hcl,hol,hacc,hE,hE1,rfl⟩ j hj
 have hom:(out.map str).length=out.length:=List.length_map _
 refine gaa ?_
 refine oC rfl (fun hc=>?_) (fun hc=>?_)
 ·have hie:i≤s.length:=by have:=zt hc;omega
  have hE:=hE hie
  refine gaa ?_
  refine oB 17 rfl (fun h1=>?_) (fun h1=>?_)
  ·have hlt:i<s.length:=by have:=zt h1;omega
   rw[drop_cons hlt,scanB] at hE
   refine gag ?_
   refine oP (Pure.sindex (c:=s[i]) rfl rfl zo (get_some hlt)) rfl ?_
   refine gab ?_
   refine oC rfl (fun h=>?_) (fun h=>?_)
   ·have hne:¬ s[i]=32:=byte_ne h (by decide)
    rw[if_neg hne] at hE
    refine gac ?_
    refine oP (Pure.ssliceE (m:=[s[i]]) rfl ⟨_,rfl⟩ ⟨_,rfl⟩ zo zo zo (by rw[Int.toNat_natCast,show ((i:Int)+1).toNat=i+1 by omega];exact one_slice hlt)) rfl ?_
    refine gaa ?_
    exact ⟨_,_,_,by omega,⟨i+1,out,cur++[s[i]],v,by omega,rfl,by simp only[List.length_append,List.length_cons,List.length_nil];omega,by omega,hacc,fun _=>hE,by omega,rfl⟩,⟨rfl,rfl,rfl,int_eq zo,trivial⟩,HSub.refl _,hj⟩
   ·have hne:s[i]=32:=byte_t (not_f h)
    rw[if_pos hne] at hE
    refine gaa ?_
    rcases Classical.em (cur=[]) with hc0|hc0
    ·subst hc0
     refine oC rfl (fun h=>by cases h) (fun _=>?_)
     refine gac ?_
     exact ⟨_,_,_,by omega,⟨i+1,out,[],v,by omega,rfl,by simp,by omega,hacc,fun _=>by rw[show flush []=[] from rfl,List.nil_append] at hE;exact hE,by omega,rfl⟩,⟨rfl,rfl,rfl,int_eq zo,trivial⟩,HSub.refl _,hj⟩
    ·skip
     refine oC rfl (fun _=>?_) (fun h=>absurd (zt (not_f h)) hc0)
     refine gai ?_
     refine oP (Pure.mv (lv:=v) rfl) rfl ?_
     refine gag ?_
     refine oS (S.lit [_] (es:=[str cur]) rfl (eC rfl rfl eN) rfl rfl rfl ?_) rfl
     refine oS (S.acc rfl hacc rfl (by simp[LV.cells]) rfl (by simp only[List.length_map,List.length_cons,List.length_nil];omega) fun v2 H2 hacc2=>?_) rfl
     refine oP (Pure.as (lv:=v2) rfl) rfl ?_
     refine gac ?_
     exact ⟨_,_,_,by omega,⟨i+1,out++[cur],[],v2,by omega,rfl,by simp,by simp only[List.length_append,List.length_cons,List.length_nil];omega,by rw[List.map_append];exact hacc2,fun _=>by rw[flush_ne hc0] at hE;rw[List.append_assoc];exact hE,by omega,rfl⟩,⟨rfl,rfl,rfl,int_eq zo,trivial⟩,HSub.refl _,hj⟩
  ·have hie2:i=s.length:=by have:=zf h1;omega
   subst hie2
   rw[List.drop_length,scanB] at hE
   refine gab ?_
   refine oC rfl (fun h=>by cases h) (fun _=>?_)
   refine gaa ?_
   rcases Classical.em (cur=[]) with hc0|hc0
   ·subst hc0
    refine oC rfl (fun h=>by cases h) (fun _=>?_)
    refine gac ?_
    exact ⟨_,_,_,by omega,⟨s.length+1,out,[],v,by omega,rfl,by simp,by omega,hacc,by omega,fun _=>by rw[show flush []=[] from rfl,List.append_nil] at hE;exact hE,rfl⟩,⟨rfl,rfl,rfl,int_eq zo,trivial⟩,HSub.refl _,hj⟩
   ·skip
    refine oC rfl (fun _=>?_) (fun h=>absurd (zt (not_f h)) hc0)
    refine gai ?_
    refine oP (Pure.mv (lv:=v) rfl) rfl ?_
    refine gag ?_
    refine oS (S.lit [_] (es:=[str cur]) rfl (eC rfl rfl eN) rfl rfl rfl ?_) rfl
    refine oS (S.acc rfl hacc rfl (by simp[LV.cells]) rfl (by simp only[List.length_map,List.length_cons,List.length_nil];omega) fun v2 H2 hacc2=>?_) rfl
    refine oP (Pure.as (lv:=v2) rfl) rfl ?_
    refine gac ?_
    exact ⟨_,_,_,by omega,⟨s.length+1,out++[cur],[],v2,by omega,rfl,by simp,by simp only[List.length_append,List.length_cons,List.length_nil];omega,by rw[List.map_append];exact hacc2,by omega,fun _=>by rw[flush_ne hc0] at hE;exact hE,rfl⟩,⟨rfl,rfl,rfl,int_eq zo,trivial⟩,HSub.refl _,hj⟩
 ·have hie:i=s.length+1:=by have:=zf hc;omega
  have hE:=hE1 hie
  rw[hE] at hacc
  refine gac ?_
  refine oP (Pure.mv (lv:=v) rfl) rfl ?_
  refine oP (Pure.as (lv:=v) rfl) rfl ?_
  refine gad ?_
  exact rR hj (rC (rT (v:=v) rfl zsr) rN) zhr ⟨v,rfl,hacc⟩
theorem rlines_spec (s:List UInt8) (hs:s.length≤1000000000):LCalls (KC B0 w0) 49 [str s] [] (Ret (.list ((pieces 10 s).map str))):=by
 refine cI Tryz.func49 rfl (n:=32) rfl rfl rfl ?_
 refine gaf ?_
 refine oS (S.litA [] rfl eN rfl rfl rfl fun b=>?_) rfl
 refine oP (Pure.as (lv:=.app b 0 1 []) rfl) rfl ?_
 refine gac ?_
 refine oL (fun k ls H=>∃ (i f:Nat) (out:List (List UInt8)) (v:LV),i≤s.length∧f≤i∧k=s.length-i∧out.length≤i∧Acc 1 v (out.map str) H []∧out++pieces 10 (s.drop f)=pieces 10 s∧(10:UInt8) ∉ (s.take i).drop f∧ls=[(0,str s),(3,v),(4,int .i64 f),(5,int .i64 i)])
  ⟨_,_,_,⟨0,0,[],.app b 0 1 [],by omega,by omega,rfl,by simp,Acc.row,rfl,by simp,rfl⟩,⟨rfl,rfl,rfl,rfl,trivial⟩,HSub.refl _⟩ ?_
 rintro k ls H ⟨i,f,out,v,hi,hf,rfl,hol,hacc,hE,hn,rfl⟩ j hj
 have hom:(out.map str).length=out.length:=List.length_map _
 refine gaa ?_
 refine oC rfl (fun hc=>?_) (fun hc=>?_)
 ·have hlt:i<s.length:=by have:=zt hc;omega
  have hsp:s.drop f=(s.take i).drop f++s[i]::s.drop (i+1):=by
   rw[←drop_cons hlt]
   conv=>lhs;rw[←List.take_append_drop i s]
   rw[List.drop_append_of_le_length (by rw[List.length_take];omega)]
  have hnx:(s.take (i+1)).drop f=(s.take i).drop f++[s[i]]:=by
   rw[List.take_succ_eq_append_getElem hlt,List.drop_append_of_le_length (by rw[List.length_take];omega)]
  refine gae ?_
  refine oP (Pure.sindex (c:=s[i]) rfl rfl zo (get_some hlt)) rfl ?_
  refine gad ?_
  refine oC rfl (fun h=>?_) (fun h=>?_)
  ·have he:s[i]=10:=byte_t h
   rw[hsp,he,pieces_cut hn] at hE
   refine gai ?_
   refine oP (Pure.mv (lv:=v) rfl) rfl ?_
   refine gag ?_
   refine oP (Pure.ssliceE (m:=(s.take i).drop f) rfl ⟨_,rfl⟩ ⟨_,rfl⟩ zo zo zo (by rw[Int.toNat_natCast,Int.toNat_natCast])) rfl ?_
   refine oS (S.lit [_] (es:=[str ((s.take i).drop f)]) rfl (eC rfl rfl eN) rfl rfl rfl ?_) rfl
   refine oS (S.acc rfl hacc rfl (by simp[LV.cells]) rfl (by simp only[List.length_map,List.length_cons,List.length_nil];omega) fun v2 H2 hacc2=>?_) rfl
   refine oP (Pure.as (lv:=v2) rfl) rfl ?_
   refine gac ?_
   exact ⟨_,_,_,by omega,⟨i+1,i+1,out++[(s.take i).drop f],v2,by omega,by omega,rfl,by simp only[List.length_append,List.length_cons,List.length_nil];omega,by rw[List.map_append];exact hacc2,by rw[List.append_assoc];exact hE,by rw[List.drop_eq_nil_of_le (by rw[List.length_take];omega)];simp,rfl⟩,⟨rfl,rfl,int_eq zo,int_eq zo,trivial⟩,HSub.refl _,hj⟩
  ·have he:s[i]≠10:=byte_f h (by decide)
   refine gac ?_
   exact ⟨_,_,_,by omega,⟨i+1,f,out,v,by omega,by omega,rfl,by omega,hacc,hE,by rw[hnx];exact not_mem_snoc hn he,rfl⟩,⟨rfl,rfl,rfl,int_eq zo,trivial⟩,HSub.refl _,hj⟩
 ·have hie:i=s.length:=by have:=zf hc;omega
  subst hie
  rw[List.take_length] at hn
  rw[pieces_one hn] at hE
  refine gac ?_
  refine oP (Pure.mv (lv:=v) rfl) rfl ?_
  refine gag ?_
  refine oP (Pure.ssliceE (m:=s.drop f) rfl ⟨_,rfl⟩ rfl zo zo zo (by rw[Int.toNat_natCast,Int.toNat_natCast,List.take_length])) rfl ?_
  refine oS (S.lit [_] (es:=[str (s.drop f)]) rfl (eC rfl rfl eN) rfl rfl rfl ?_) rfl
  refine oS (S.acc rfl hacc rfl (by simp[LV.cells]) rfl (by simp only[List.length_map,List.length_cons,List.length_nil];omega) fun v2 H2 hacc2=>?_) rfl
  refine LOps.sub 31 (v:=v2) (v':=.list ((pieces 10 s).map str)) rfl (by rw[←hE,List.map_append];exact hacc2.sub) ?_
  refine gab ?_
  exact retRet hj (rC (rT (v:=.list _) rfl zsr) rN) rfl
end
end Go.Proofs.YtocofhbdbgnmbaaGreatDoor
namespace Go.Proofs.YtocofhbdbgnmbaaGreatDoor
open Go.GL Go.RowKit Go.Stele
set_option maxRecDepth 100000
set_option maxHeartbeats 4000000
attribute [local irreducible] LOps LCode LStep LCalls Go.GL.Pure QThen QBlock RetPost LQ LAny LLate LLateOp
section
variable {B0:Nat} {w0:World}
theorem rtrim_spec (s:List UInt8) (hs:s.length≤1000000000):LCalls (KC B0 w0) 103 [str s] [] (Ret (str (trimSp s))):=by
 refine cI Tryz.func103 rfl (n:=30) rfl rfl rfl ?_
 repeat (first|refine LOps.nil ?_|refine QThen.normal ?_|refine LCode.region ?_|refine oP (Pure.as (lv:=.atom _) rfl) rfl ?_|refine LCode.seq ?_)
 refine LCode.midC (A:=Unit) (fun _=>[(0,str (trimL s))]) (fun _=>[]) (fun _=>True) ?_ ?_
 ·refine gad ?_
  refine oL (fun k ls H=>∃ t:List UInt8,t.length≤s.length∧k=t.length∧trimL t=trimL s∧ls=[(0,str t)]∧H=[])
   ⟨_,_,_,⟨s,Nat.le_refl _,rfl,rfl,rfl,rfl⟩,⟨rfl,trivial⟩,HSub.refl _⟩ ?_
  rintro k ls H ⟨t,ht,rfl,htl,rfl,rfl⟩ j1 hj1
  cases t with
  |nil=>
   refine gaa ?_
   refine oC rfl (fun h=>by cases h) (fun h=>?_)
   refine gad ?_
   exact ⟨(),trivial,⟨by rw[←htl];rfl,trivial⟩,HSub.refl _,hj1⟩
  |cons c t=>
   rw[List.length_cons] at ht
   refine gaa ?_
   refine oB 6 rfl (fun h1=>?_) (fun h1=>absurd h1 (by simp))
   refine gag ?_
   refine oP (Pure.sindex (c:=c) rfl rfl zo rfl) rfl ?_
   refine gad ?_
   refine oC rfl (fun h=>?_) (fun h=>?_)
   ·have hc:c=32:=byte_t h
    subst hc
    refine gae ?_
    refine oP (Pure.sslice (i:=1) rfl ⟨_,rfl⟩ rfl zo (by simp;omega) (by simp)) rfl ?_
    refine gad ?_
    exact ⟨_,_,_,by rw[List.length_cons];omega,⟨t,by omega,rfl,by rw[←htl];exact (trimL_step t).symm,rfl,rfl⟩,⟨str_eq (by simp),trivial⟩,HSub.refl _,hj1⟩
   ·have hc:trimL (c::t)=c::t:=trimL_stop (fun hc=>by
     simp only[List.head?_cons,Option.some.injEq] at hc
     exact byte_f h (by decide) hc)
    rw[hc] at htl
    refine gad ?_
    exact ⟨(),trivial,⟨by rw[←htl];rfl,trivial⟩,HSub.refl _,hj1⟩
 ·rintro _ _ j hj
  have hL:=trimL_len s
  rw[trimSp_eq]
  generalize trimL s=t0 at *
  refine gad ?_
  refine oL (fun k ls H=>∃ t:List UInt8,t.length≤s.length∧k=t.length∧trimR t=trimR t0∧ls=[(0,str t)]∧H=[])
   ⟨_,_,_,⟨t0,hL,rfl,rfl,rfl,rfl⟩,⟨rfl,trivial⟩,HSub.refl _⟩ ?_
  rintro k ls H ⟨t,ht,rfl,htl,rfl,rfl⟩ j1 hj1
  rcases List.eq_nil_or_concat t with rfl|⟨t,c,rfl⟩
  ·refine gaa ?_
   refine oC rfl (fun h=>by cases h) (fun h=>?_)
   refine gac ?_
   rw[←htl]
   exact retRet (hj1.trans hj) (zra rfl) rfl
  ·rw[List.concat_eq_append] at *
   rw[List.length_append,List.length_cons,List.length_nil] at ht
   refine gaa ?_
   refine oB 16 rfl (fun h1=>?_) (fun h1=>absurd h1 (by simp))
   refine gab ?_
   refine oP (Pure.sub rfl rfl (by rw[List.length_append];simp;omega)) rfl ?_
   refine gag ?_
   refine oP (Pure.sindex (c:=c) rfl rfl (by simp) (by simp)) rfl ?_
   refine gad ?_
   refine oC rfl (fun h=>?_) (fun h=>?_)
   ·have hc:c=32:=byte_t h
    subst hc
    rw[trimR_step] at htl
    refine gaa ?_
    refine oP (Pure.sub rfl rfl (by rw[List.length_append];simp;omega)) rfl ?_
    refine oP (Pure.sslice (i:=0) rfl rfl ⟨_,rfl⟩ zo (by simp) (by simp;omega)) rfl ?_
    refine gad ?_
    exact ⟨_,_,_,by rw[List.length_append];simp,⟨t,by omega,rfl,htl,rfl,rfl⟩,⟨str_eq (by simp),trivial⟩,HSub.refl _,hj1⟩
   ·have hc:trimR (t++[c])=t++[c]:=trimR_stop (by
     have:=byte_f h (by decide)
     simpa using this)
    rw[hc] at htl
    refine gac ?_
    rw[←htl]
    exact retRet (hj1.trans hj) (zra rfl) rfl
end
end Go.Proofs.YtocofhbdbgnmbaaGreatDoor
namespace Go.Stele
open Go.Lib
theorem digM_stop {m i:Nat} {s:Wd} (hi:i≤s.length) (him:i≤m) (hd:∀ c∈s.take i,isDg c=true) (hst:i=s.length∨i=m∨∃ h:i<s.length,isDg s[i]=false):digM m s=s.take i:=by
 have h1:s.take m=s.take i++(s.drop i).take (m-i):=by
  rw[←List.drop_take]
  conv=>lhs;rw[←List.take_append_drop i (s.take m)]
  rw[List.take_take,Nat.min_eq_left him]
 unfold digM
 rw[h1,List.takeWhile_append_of_pos hd]
 rcases hst with h|h|⟨h,h2⟩
 ·subst h
  rw[List.drop_length]
  simp
 ·subst h
  simp
 ·rw[List.drop_eq_getElem_cons h]
  cases hm:m-i with
  |zero=>simp
  |succ k=>rw[List.take_succ_cons,List.takeWhile_cons_of_neg (by rw[h2];decide),List.append_nil]
theorem slice_snoc {s:Wd} {f i:Nat} (hf:f≤i) (h:i<s.length):(s.take (i+1)).drop f=(s.take i).drop f++[s[i]]:=by
 rw[List.take_succ_eq_append_getElem h,List.drop_append_of_le_length (by rw[List.length_take];omega)]
theorem slice_nil {s:Wd} {i:Nat}:(s.take i).drop i=[]:=List.drop_eq_nil_of_le (by rw[List.length_take];omega)
end Go.Stele
namespace Go.GL
section
variable {C:Ctx} {e:Env} {H:Heap} {dst:Option Nat} {x y:Operand} {xT yT ty:TypeId} {pos:String} {aft:Array Edge} {g:Option (Nat×Bool)}
theorem Pure.mulE {a b c:Int} (hx:e.ev x=int .i64 a) (hy:e.ev y=int .i64 b) (he:a * b=c) (h : -9223372036854775808≤c∧c≤9223372036854775807):Pure C ⟨dst,.binOp .mul xT x y yT,ty,pos,aft,g⟩ e H (int .i64 c):=by
 have:=Pure.mulW (C:=C) (H:=H) (dst:=dst) (xT:=xT) (yT:=yT) (ty:=ty) (pos:=pos) (aft:=aft) (g:=g) hx hy
 rwa [he,wrap_i64 h] at this
end
end Go.GL
namespace Go.Proofs.YtocofhbdbgnmbaaGreatDoor
open Go.GL Go.RowKit Go.Stele
set_option maxRecDepth 100000
set_option maxHeartbeats 4000000
attribute [local irreducible] LOps LCode LStep LCalls Go.GL.Pure QThen QBlock RetPost LQ LAny LLate LLateOp
def RetRR (s:Wd) (r:LRes) (H:Heap):Prop:=match cellsP s with
 |.ok l=>∃ b,r=.ret (.agg [int .i64 3,nilSlice,.app b 1 1 [.list (l.map str)],str [],int .i64 0,int .i64 0])∧H=[(b,.row (1 * 1))]
 |.error e=>r=.ret (.agg [int .i64 0,nilSlice,nilSlice,str [],int .i64 0,int .i64 e])∧H=[]
section
variable {B0:Nat} {w0:World}
theorem rrow_spec (s:List UInt8) (hs:s.length≤100000000):LCalls (KC B0 w0) 77 [str s] [] (RetRR s):=by
 refine cI Tryz.func77 rfl (n:=47) rfl rfl rfl ?_
 refine gai ?_
 refine oS (S.alloc fun b2=>?_) rfl
 refine gaa ?_
 refine oB 9 rfl (fun h1=>?_) (fun h1=>?_)
 ·have hl:s.length<2:=by have:=zt h1;omega
  refine gah ?_
  refine oC rfl (fun _=>?_) (fun h=>by cases h)
  refine gaa ?_
  exact rR rfl (rC (rA rfl zm0 rfl zsr) rN) zhn (by
   unfold RetRR cellsP
   rw[if_pos (.inl hl)]
   exact ⟨rfl,rfl⟩)
 ·have hl:¬ s.length<2:=by have:=zf h1;omega
  obtain ⟨c,hc1,hc2⟩:=last_get (s:=s) zo
  refine gab ?_
  refine oP (Pure.sindex (c:=c) rfl rfl zo (by rw[show ((s.length:Int)-1).toNat=s.length-1 by omega];exact hc2)) rfl ?_
  refine gab ?_
  refine oC rfl (fun h=>?_) (fun h=>?_)
  ·have hne:c≠124:=byte_f (not_t h) (by decide)
   refine gaa ?_
   exact rR rfl (rC (rA rfl zm0 rfl zsr) rN) zhn (by
    unfold RetRR cellsP
    rw[if_pos (.inr (by rw[hc1];intro he;injection he with he;exact hne he))]
    exact ⟨rfl,rfl⟩)
  ·have he:c=124:=byte_t (not_f h)
   subst he
   have hd1:(s.drop 1).getLast? = some 124:=by
    obtain ⟨t,rfl⟩:=List.getLast?_eq_some_iff.1 hc1
    cases t with
    |nil=>simp at hl
    |cons a t=>simp
   have hcell:cellsP s=if 32<(scanD 124 [] (s.drop 1)).length then .error 6 else .ok ((scanD 124 [] (s.drop 1)).map trimSp):=by
    rw[scanD_row hd1]
    unfold cellsP
    rw[if_neg (fun h=>h.elim hl fun h=>h hc1)]
   refine gae ?_
   refine oS (S.litA [] rfl eN rfl rfl rfl fun b=>?_) rfl
   refine oP (Pure.as (lv:=.app b 0 1 []) rfl) rfl ?_
   refine gac ?_
   refine oL (fun k ls H=>∃ (i f:Nat) (out:List (List UInt8)) (v:LV),1≤i∧i≤s.length∧f≤i∧k=s.length-i∧out.length≤i∧Acc 1 v ((out.map trimSp).map str) H [(b2,.cells 86 [int .i64 0,nilSlice,nilSlice,str [],int .i64 0,int .i64 0])]∧out++scanD 124 ((s.take i).drop f) (s.drop i)=scanD 124 [] (s.drop 1)∧ls=[(0,str s),(2,ptr b2 0),(3,v),(4,int .i64 f),(5,int .i64 i)])
    ⟨_,_,_,⟨1,1,[],.app b 0 1 [],by omega,by omega,by omega,rfl,by simp,Acc.row,by rw[slice_nil];rfl,rfl⟩,⟨rfl,rfl,rfl,rfl,rfl,trivial⟩,HSub.refl _⟩ ?_
   rintro k ls H ⟨i,f,out,v,hi1,hi,hf,rfl,hol,hacc,hE,rfl⟩ j hj
   have hom:((out.map trimSp).map str).length=out.length:=by rw[List.length_map,List.length_map]
   refine gaa ?_
   refine oC rfl (fun hc=>?_) (fun hc=>?_)
   ·have hlt:i<s.length:=by have:=zt hc;omega
    rw[drop_cons hlt,scanD] at hE
    refine gae ?_
    refine oP (Pure.sindex (c:=s[i]) rfl rfl zo (get_some hlt)) rfl ?_
    refine gad ?_
    refine oC rfl (fun h=>?_) (fun h=>?_)
    ·have he:s[i]=124:=byte_t h
     rw[if_pos he] at hE
     refine gai ?_
     refine oP (Pure.mv (lv:=v) rfl) rfl ?_
     refine gag ?_
     refine oP (Pure.ssliceE (m:=(s.take i).drop f) rfl ⟨_,rfl⟩ ⟨_,rfl⟩ zo zo zo (by rw[Int.toNat_natCast,Int.toNat_natCast])) rfl ?_
     refine oS (S.fn [_] rfl (rtrim_spec ((s.take i).drop f) (by rw[List.length_drop,List.length_take];omega)) ?_) rfl
     refine oS (S.lit [_] (es:=[str (trimSp ((s.take i).drop f))]) rfl (eC rfl rfl eN) rfl rfl rfl ?_) rfl
     refine oS (S.acc rfl hacc rfl (by simp[LV.cells]) rfl (by simp only[List.length_map,List.length_cons,List.length_nil];omega) fun v2 H2 hacc2=>?_) rfl
     refine oP (Pure.as (lv:=v2) rfl) rfl ?_
     refine gac ?_
     exact ⟨_,_,_,by omega,⟨i+1,i+1,out++[(s.take i).drop f],v2,by omega,by omega,by omega,rfl,by simp only[List.length_append,List.length_cons,List.length_nil];omega,by rw[List.map_append,List.map_append];exact hacc2,by rw[List.append_assoc,slice_nil];exact hE,rfl⟩,⟨rfl,rfl,rfl,int_eq zo,int_eq zo,trivial⟩,HSub.refl _,hj⟩
    ·have he:¬ s[i]=124:=byte_f h (by decide)
     rw[if_neg he] at hE
     refine gac ?_
     exact ⟨_,_,_,by omega,⟨i+1,f,out,v,by omega,by omega,by omega,rfl,by omega,hacc,by rw[slice_snoc hf hlt];exact hE,rfl⟩,⟨rfl,rfl,rfl,rfl,int_eq zo,trivial⟩,HSub.refl _,hj⟩
   ·have hie:i=s.length:=by have:=zf hc;omega
    subst hie
    rw[List.drop_length,scanD,List.append_nil] at hE
    rw[←hE] at hcell
    refine gac ?_
    refine oP (Pure.mv (lv:=v) rfl) rfl ?_
    refine oP (Pure.llen hacc.elems) rfl ?_
    refine gab ?_
    refine oC rfl (fun h=>?_) (fun h=>?_)
    ·have h32:32<out.length:=by have:=zt h;omega
     refine LCode.weak hacc.hsub ?_
     refine gaa ?_
     exact rR hj (rC (rA rfl zm0 rfl zsr) rN) zhn (by
      unfold RetRR
      rw[hcell,if_pos h32]
      exact ⟨rfl,rfl⟩)
    ·have h32:¬ 32<out.length:=by have:=zf h;omega
     refine LCode.weak hacc.hsub ?_
     refine LCode.sub (d:=3) (v:=v) rfl hacc.sub ?_
     refine gac ?_
     refine oS (S.litA [_] (es:=[.list ((out.map trimSp).map str)]) rfl (eC rfl rfl eN) rfl rfl rfl fun b4=>?_) rfl
     refine gab ?_
     exact rR (H':=[(b4,.row (1 * 1))]) hj (rC (rA rfl zm0 rfl zsr) rN) (zhD zhr) (by
      unfold RetRR
      rw[hcell,if_neg h32]
      exact ⟨_,rfl,rfl⟩)
def RetRP (s:Wd) (r:LRes) (H:Heap):Prop:=H=[]∧match picP s with
 |some (n,t)=>r=.ret (.agg [int .i64 4,nilSlice,nilSlice,str t,int .i64 n,int .i64 0])
 |none=>r=.ret (.agg [int .i64 0,nilSlice,nilSlice,str [],int .i64 0,int .i64 3])
theorem rpicture_spec (s:List UInt8) (hs:s.length≤100000000):LCalls (KC B0 w0) 78 [str s] [] (RetRP s):=by
 refine cI Tryz.func78 rfl (n:=81) rfl rfl rfl ?_
 refine gai ?_
 refine oS (S.alloc fun b2=>?_) rfl
 refine gac ?_
 refine oL (fun k ls H=>∃ i:Nat,i≤s.length∧i≤4∧k=s.length-i∧(∀ c∈s.take i,isDg c=true)∧ls=[(0,str s),(2,ptr b2 0),(3,int .i64 (pvR 0 (s.take i):Nat)),(4,int .i64 i)]∧H=[(b2,.cells 86 [int .i64 0,nilSlice,nilSlice,str [],int .i64 0,int .i64 0])])
  ⟨_,_,_,⟨0,by omega,by omega,rfl,by simp,rfl,rfl⟩,⟨rfl,rfl,rfl,rfl,trivial⟩,HSub.refl _⟩ ?_
 rintro k ls H ⟨i,hi,hi4,rfl,hd,rfl,rfl⟩ j hj
 have hpv:=pv_lt (s.take i) hd
 have hpw:10 ^ (s.take i).length≤10 ^ 4:=Nat.pow_le_pow_right (by decide) (by rw[List.length_take];omega)
 have hil:(s.take i).length=i:=by rw[List.length_take];omega
 refine gaa ?_
 refine LOps.cut [(0,str s),(2,ptr b2 0),(3,int .i64 (pvR 0 (s.take i):Nat)),(4,int .i64 i),(25,bool (decide (i<4∧∃ h:i<s.length,isDg s[i]=true)))] ?_ (fun j1 hj1=>?_)
 ·refine oB 10 rfl (fun h1=>?_) (fun h1=>?_)
  ·have hlt:i<s.length:=by have:=zt h1;omega
   refine gag ?_
   refine oP (Pure.sindex (c:=s[i]) rfl rfl zo (get_some hlt)) rfl ?_
   refine gab ?_
   refine oB 16 rfl (fun h2=>?_) (fun h2=>?_)
   ·have g2:=zt h2
    refine gag ?_
    refine oP (Pure.sindex (c:=s[i]) rfl rfl zo (get_some hlt)) rfl ?_
    refine gab ?_
    refine oB 22 rfl (fun h3=>?_) (fun h3=>?_)
    ·have g3:=zt h3
     refine gad ?_
     exact ⟨⟨rfl,rfl,rfl,rfl,bool_eq (decide_eq_decide.2 ⟨fun h=>⟨by omega,hlt,isDg_iff.2 ⟨by omega,by omega⟩⟩,fun h=>by have:=h.1;omega⟩),trivial⟩,rfl,rfl⟩
    ·have g3:=zf h3
     refine gab ?_
     exact ⟨⟨rfl,rfl,rfl,rfl,bool_eq (decide_eq_false fun ⟨_,_,h⟩=>by have:=isDg_iff.1 h;omega).symm,trivial⟩,rfl,rfl⟩
   ·have g2:=zf h2
    refine gab ?_
    exact ⟨⟨rfl,rfl,rfl,rfl,bool_eq (decide_eq_false fun ⟨_,_,h⟩=>by have:=isDg_iff.1 h;omega).symm,trivial⟩,rfl,rfl⟩
  ·have g1:=zf h1
   refine gab ?_
   exact ⟨⟨rfl,rfl,rfl,rfl,bool_eq (decide_eq_false fun ⟨_,h,_⟩=>by omega).symm,trivial⟩,rfl,rfl⟩
 refine oC rfl (fun hc=>?_) (fun hc=>?_)
 ·obtain ⟨hl4,hlt,hdg⟩:=zt hc
  have hdi:=isDg_iff.1 hdg
  have htk:s.take (i+1)=s.take i++[s[i]]:=List.take_succ_eq_append_getElem hlt
  have hcl:=s[i].toNat_lt
  have hpn:pvR 0 (s.take (i+1))=10 * pvR 0 (s.take i)+(s[i].toNat-48):=by rw[htk,pvR_snoc]
  refine gae ?_
  refine oP (Pure.mulE (c:=((10 * pvR 0 (s.take i):Nat):Int)) rfl rfl zo zo) rfl ?_
  refine gag ?_
  refine oP (Pure.sindex (c:=s[i]) rfl rfl zo (get_some hlt)) rfl ?_
  refine gab ?_
  refine oP (Pure.addE (c:=((10 * pvR 0 (s.take i)+s[i].toNat:Nat):Int)) rfl rfl (by rw[wrap_i64 zo];omega) zo) rfl ?_
  refine oP (Pure.subE (c:=((10 * pvR 0 (s.take i)+(s[i].toNat-48):Nat):Int)) rfl rfl zo zo) rfl ?_
  refine gac ?_
  exact ⟨_,_,_,by omega,⟨i+1,by omega,by omega,rfl,by rw[htk];intro c hc;rcases List.mem_append.1 hc with hc|hc;exact hd c hc;rw[List.mem_singleton.1 hc];exact hdg,rfl,rfl⟩,⟨rfl,rfl,int_eq (by rw[hpn]),int_eq zo,trivial⟩,HSub.refl _,hj1.trans hj⟩
 ·have hstop:digM 4 s=s.take i:=digM_stop hi hi4 hd (by
   have:=zf hc
   rcases Nat.lt_or_ge i s.length with h|h
   ·rcases Nat.lt_or_ge i 4 with h4|h4
    ·refine .inr (.inr ⟨h,?_⟩)
     rw[←Bool.not_eq_true]
     exact fun hx=>this ⟨h4,h,hx⟩
    ·exact .inr (.inl zo)
   ·exact .inl zo)
  have hPR:picP s=if s.take i=[]∨s.head? = some 48∨200<pvR 0 (s.take i)∨s.length≤i+1∨s[i]? ≠ some 32 then none else if (32:UInt8)∈s.drop (i+1) then none else some (pvR 0 (s.take i),s.drop (i+1)):=by
   rw[←picR_eq]
   unfold picR
   simp only[hstop,hil]
  refine gac ?_
  refine LOps.cut [(0,str s),(2,ptr b2 0),(3,int .i64 (pvR 0 (s.take i):Nat)),(4,int .i64 i),(59,bool (decide (s.take i=[]∨s.head? = some 48∨200<pvR 0 (s.take i)∨s.length≤i+1∨s[i]? ≠ some 32)))] ?_ (fun j2 hj2=>?_)
  ·refine oB 38 rfl (fun h1=>?_) (fun h1=>?_)
   ·have hi0:i=0:=by have:=zt h1;omega
    refine gab ?_
    exact ⟨⟨rfl,rfl,rfl,rfl,bool_eq (decide_eq_true (.inl (by rw[hi0];rfl))).symm,trivial⟩,rfl,rfl⟩
   ·have hi0:0<i:=by have:=zf h1;omega
    have h0:0<s.length:=by omega
    have hhd:s.head? = some s[0]:=by rw[List.head?_eq_getElem?,List.getElem?_eq_getElem h0]
    have hne:s.take i≠[]:=List.ne_nil_of_length_pos zo
    refine gag ?_
    refine oP (Pure.sindex (c:=s[0]) rfl rfl zo (List.getElem?_eq_getElem h0)) rfl ?_
    refine gad ?_
    refine oB 43 rfl (fun h2=>?_) (fun h2=>?_)
    ·have g2:s[0]=48:=byte_t h2
     refine gab ?_
     exact ⟨⟨rfl,rfl,rfl,rfl,bool_eq (decide_eq_true (.inr (.inl (by rw[hhd,g2])))).symm,trivial⟩,rfl,rfl⟩
    ·have g2:s[0]≠48:=byte_f h2 (by decide)
     refine gab ?_
     refine oB 47 rfl (fun h3=>?_) (fun h3=>?_)
     ·have g3:=zt h3
      refine gab ?_
      exact ⟨⟨rfl,rfl,rfl,rfl,bool_eq (decide_eq_true (.inr (.inr (.inl zo)))).symm,trivial⟩,rfl,rfl⟩
     ·have g3:=zf h3
      refine gab ?_
      refine oB 54 rfl (fun h4=>?_) (fun h4=>?_)
      ·have g4:=zt h4
       refine gah ?_
       exact ⟨⟨rfl,rfl,rfl,rfl,bool_eq (decide_eq_true (.inr (.inr (.inr (.inl zo))))).symm,trivial⟩,rfl,rfl⟩
      ·have g4:=zf h4
       have hlt:i<s.length:=by omega
       have hgi:s[i]? = some s[i]:=List.getElem?_eq_getElem hlt
       refine gag ?_
       refine oP (Pure.sindex (c:=s[i]) rfl rfl zo (get_some hlt)) rfl ?_
       refine gab ?_
       refine ⟨⟨rfl,rfl,rfl,rfl,bool_eq ?_,trivial⟩,rfl,rfl⟩
       rw[←decide_not,decide_eq_decide,hgi]
       constructor
       ·intro h
        refine .inr (.inr (.inr (.inr fun he=>h ?_)))
        injection he with he
        rw[he];rfl
       ·rintro (h|h|h|h|h)
        ·exact absurd h hne
        ·rw[hhd] at h;injection h with h;exact absurd h g2
        ·omega
        ·omega
        ·intro he
         refine h ?_
         rw[(byte_int s[i] 32 (by decide)).1 he];rfl
  refine oC rfl (fun hb=>?_) (fun hb=>?_)
  ·rw[if_pos (zt hb)] at hPR
   refine gaa ?_
   exact rR (hj2.trans (hj1.trans hj)) (rC (rA rfl zm0 rfl zsr) rN) zhn ⟨rfl,by rw[hPR];rfl⟩
  ·have hbn:=zf hb
   rw[if_neg hbn] at hPR
   have hil2:i+1<s.length:=Nat.lt_of_not_le fun h=>hbn (.inr (.inr (.inr (.inl h))))
   refine gac ?_
   refine oL (fun k ls H=>∃ x:Nat,i+1≤x∧x≤s.length∧k=s.length-x∧(32:UInt8) ∉ (s.take x).drop (i+1)∧ls=[(0,str s),(2,ptr b2 0),(3,int .i64 (pvR 0 (s.take i):Nat)),(4,int .i64 i),(5,int .i64 x)]∧H=[(b2,.cells 86 [int .i64 0,nilSlice,nilSlice,str [],int .i64 0,int .i64 0])])
    ⟨_,_,_,⟨i+1,by omega,by omega,rfl,by rw[slice_nil];simp,rfl,rfl⟩,⟨rfl,rfl,rfl,rfl,int_eq zo,trivial⟩,HSub.refl _⟩ ?_
   rintro k ls H ⟨x,hx1,hx,rfl,hn,rfl,rfl⟩ j3 hj3
   refine gaa ?_
   refine oC rfl (fun hc=>?_) (fun hc=>?_)
   ·have hlt:x<s.length:=by have:=zt hc;omega
    refine gae ?_
    refine oP (Pure.sindex (c:=s[x]) rfl rfl zo (get_some hlt)) rfl ?_
    refine gad ?_
    refine oC rfl (fun h=>?_) (fun h=>?_)
    ·have he:s[x]=32:=byte_t h
     have hm:(32:UInt8)∈s.drop (i+1):=by
      rw[←he]
      exact List.mem_drop_iff_getElem.2 ⟨x-(i+1),by omega,by congr 1;omega⟩
     rw[if_pos hm] at hPR
     refine gaa ?_
     exact rR (hj3.trans (hj2.trans (hj1.trans hj))) (rC (rA rfl zm0 rfl zsr) rN) zhn ⟨rfl,by rw[hPR];rfl⟩
    ·have he:s[x]≠32:=byte_f h (by decide)
     refine gac ?_
     exact ⟨_,_,_,by omega,⟨x+1,by omega,by omega,rfl,by rw[slice_snoc hx1 hlt];exact not_mem_snoc hn he,rfl,rfl⟩,⟨rfl,rfl,rfl,rfl,int_eq zo,trivial⟩,HSub.refl _,hj3⟩
   ·have hxe:x=s.length:=by have:=zf hc;omega
    subst hxe
    rw[List.take_length] at hn
    rw[if_neg hn] at hPR
    refine gac ?_
    refine oP (Pure.ssliceE (m:=s.drop (i+1)) rfl ⟨_,rfl⟩ rfl zo zo zo (by rw[Int.toNat_natCast,List.take_length,show ((i:Int)+1).toNat=i+1 by omega])) rfl ?_
    refine gab ?_
    exact rR (hj3.trans (hj2.trans (hj1.trans hj))) (rC (rA rfl zm0 rfl zsr) rN) zhn ⟨rfl,by rw[hPR];rfl⟩
end
end Go.Proofs.YtocofhbdbgnmbaaGreatDoor
namespace Go.GL
theorem Acc.owned {s:Nat} {v:LV} {es:List LV} {H F:Heap} (h:Acc s v es H F) (hne:es≠[]):∃ b cap,v=.app b cap s es∧H=(b,.row (es.length * s))::F:=by
 cases h with
 |nil=>exact absurd rfl hne
 |row=>exact ⟨_,_,rfl,rfl⟩
end Go.GL
namespace Go.Proofs.YtocofhbdbgnmbaaGreatDoor
open Go.GL Go.RowKit Go.Stele
set_option maxRecDepth 100000
set_option maxHeartbeats 4000000
attribute [local irreducible] LOps LCode LStep LCalls Go.GL.Pure QThen QBlock RetPost LQ LAny LLate LLateOp
inductive RLineSt:Blk→List LV→Heap→Prop
 |blank:RLineSt ⟨0,[],[],[],0⟩ [int .i64 0,nilSlice,nilSlice,str [],int .i64 0] []
 |head (ws:List Wd):RLineSt ⟨1,ws,[],[],0⟩ [int .i64 1,.list (ws.map str),nilSlice,str [],int .i64 0] []
 |para (b cap:Nat) (ws:List Wd):RLineSt ⟨2,ws,[],[],0⟩ [int .i64 2,.app b cap 1 (ws.map str),nilSlice,str [],int .i64 0] [(b,.row ((ws.map str).length * 1))]
 |row (b:Nat) (l:List Wd):RLineSt ⟨3,[],[l],[],0⟩ [int .i64 3,nilSlice,.app b 1 1 [.list (l.map str)],str [],int .i64 0] [(b,.row (1 * 1))]
 |pic (n:Nat) (r:Wd):RLineSt ⟨4,[],[],r,n⟩ [int .i64 4,nilSlice,nilSlice,str r,int .i64 n] []
def RetRL (s:Wd) (r:LRes) (H:Heap):Prop:=∃ c0 c1 c2 c3 c4 e,r=.ret (.agg [c0,c1,c2,c3,c4,int .i64 e])∧[c0,c1,c2,c3,c4].all cellOk=true∧(match lineP s with
 |.ok b=>e=0∧RLineSt b [c0,c1,c2,c3,c4] H
 |.error x=>e=(x:Int)∧0<x)
section
variable {B0:Nat} {w0:World}
theorem rparse_spec (s:List UInt8) (hs:s.length≤100000000):LCalls (KC B0 w0) 50 [str s] [] (RetRL s):=by
 refine cI Tryz.func50 rfl (n:=63) rfl rfl rfl ?_
 refine gai ?_
 refine oS (S.alloc fun b2=>?_) rfl
 refine gac ?_
 refine oL (fun k ls H=>∃ i:Nat,i≤s.length∧k=s.length-i∧(s.take i).all okCh=true∧ls=[(0,str s),(2,ptr b2 0),(3,int .i64 i)]∧H=[(b2,.cells 86 [int .i64 0,nilSlice,nilSlice,str [],int .i64 0,int .i64 0])])
  ⟨_,_,_,⟨0,Nat.zero_le _,rfl,by simp,rfl,rfl⟩,⟨rfl,rfl,rfl,trivial⟩,HSub.refl _⟩ ?_
 rintro k ls H ⟨i,hi,rfl,hall,rfl,rfl⟩ j1 hj1
 refine gaa ?_
 refine oC rfl (fun hc=>?_) (fun hc=>?_)
 ·have hlt:i<s.length:=by have:=zt hc;omega
  have bad:okCh s[i]=false→lineP s=.error 3:=fun h=>by
   have:s.all okCh=false:=Bool.eq_false_iff.2 fun h1=>by
    have:=List.all_eq_true.1 h1 s[i] (List.getElem_mem hlt)
    rw[h] at this
    cases this
   unfold lineP
   rw[if_pos this]
  refine gae ?_
  refine oP (Pure.sindex (c:=s[i]) rfl rfl zo (get_some hlt)) rfl ?_
  refine gad ?_
  refine oB 15 rfl (fun h1=>?_) (fun h1=>?_)
  ·have hb:lineP s=.error 3:=bad (Bool.eq_false_iff.2 fun h=>(ch_ok.1 h).1 (zt h1))
   refine gah ?_
   refine oC rfl (fun _=>?_) (fun h=>by cases h)
   refine gaa ?_
   exact rR hj1 (rC (rA rfl zm0 rfl zsr) rN) zhn ⟨_,_,_,_,_,_,rfl,rfl,by rw[hb];exact ⟨rfl,by decide⟩⟩
  ·refine gag ?_
   refine oP (Pure.sindex (c:=s[i]) rfl rfl zo (get_some hlt)) rfl ?_
   refine gab ?_
   refine oC rfl (fun h=>?_) (fun h=>?_)
   ·have hb:lineP s=.error 3:=bad (Bool.eq_false_iff.2 fun h'=>(ch_ok.1 h').2 (zt h))
    refine gaa ?_
    exact rR hj1 (rC (rA rfl zm0 rfl zsr) rN) zhn ⟨_,_,_,_,_,_,rfl,rfl,by rw[hb];exact ⟨rfl,by decide⟩⟩
   ·have hok:okCh s[i]=true:=ch_ok.2 ⟨zf h1,zf h⟩
    refine gac ?_
    exact ⟨_,_,_,by omega,⟨i+1,by omega,rfl,by rw[List.take_succ_eq_append_getElem hlt,List.all_append,hall];simp[hok],rfl,rfl⟩,⟨rfl,rfl,int_eq zo,trivial⟩,HSub.refl _,hj1⟩
 ·have hi':i=s.length:=by have:=zf hc;omega
  subst hi'
  rw[List.take_length] at hall
  refine gac ?_
  refine oS (S.call0 [_] rfl (rwords_spec s zo) (fun v H' hh=>?_) (by rintro ch H' ⟨v,h,_⟩;cases h)) rfl
  obtain ⟨v,hv,hacc⟩:=hh
  cases hv
  have hwl:(wordsL s).length≤s.length+1:=Nat.le_trans (full_le _) (pieces_cnt 32 s)
  have hwm:((wordsL s).map str).length=(wordsL s).length:=List.length_map _
  refine oP (Pure.as (lv:=v) rfl) rfl ?_
  refine gaj ?_
  refine oP (Pure.mv (lv:=v) rfl) rfl ?_
  refine oP (Pure.llen hacc.elems) rfl ?_
  refine gad ?_
  refine oC rfl (fun h=>?_) (fun h=>?_)
  ·have hw:wordsL s=[]:=List.eq_nil_of_length_eq_zero (by have:=zt h;omega)
   have hb:lineP s=.ok ⟨0,[],[],[],0⟩:=by
    unfold lineP
    rw[if_neg (by rw[hall];decide),if_pos hw]
   refine LCode.weak (H':=[(b2,.cells 86 [int .i64 0,nilSlice,nilSlice,str [],int .i64 0,int .i64 0])]) ⟨H',List.perm_append_comm⟩ ?_
   refine gaa ?_
   exact rR hj1 (rC (rA rfl zm0 rfl zsr) rN) zhn ⟨_,_,_,_,_,_,rfl,rfl,by rw[hb];exact ⟨rfl,RLineSt.blank⟩⟩
  ·have hw:wordsL s≠[]:=fun hw=>by
    have:=zf h
    rw[hwm,hw] at this
    exact this rfl
   have hwp:=List.length_pos_iff.2 hw
   obtain ⟨b,cap,rfl,rfl⟩:=hacc.owned (by simpa using hw)
   have hL:lineP s=if s.head? = some 124 then (match cellsP s with
     |.ok l=>.ok ⟨3,[],[l],[],0⟩
     |.error e=>.error e)
    else if s.take 2=[35,32] then (if (wordsL s).length<2 then .error 3 else .ok ⟨1,(wordsL s).drop 1,[],[],0⟩)
    else if s.take 2=[33,32] then (match picP (s.drop 2) with
     |some (n,r)=>.ok ⟨4,[],[],r,n⟩
     |none=>.error 3)
    else .ok ⟨2,wordsL s,[],[],0⟩:=by
    conv=>lhs;unfold lineP
    rw[if_neg (by rw[hall];decide),if_neg hw]
    rfl
   obtain ⟨c,r,hcr⟩:∃ c r,s=c::r:=by
    cases s with
    |nil=>exact absurd rfl hw
    |cons c r=>exact ⟨c,r,rfl⟩
   have hpos:0<s.length:=by rw[hcr];simp
   have hg0:s[(0:Int).toNat]? = some c:=by rw[hcr];rfl
   have hhd:s.head? = some c:=by rw[hcr];rfl
   have hC:=rrow_spec (B0:=B0) (w0:=w0) s hs
   have hQ:=rpicture_spec (B0:=B0) (w0:=w0) (s.drop 2) (by rw[List.length_drop];omega)
   refine gae ?_
   refine oP (Pure.sindex (c:=c) rfl rfl zo hg0) rfl ?_
   refine gad ?_
   refine oC rfl (fun h=>?_) (fun h=>?_)
   ·have h124:c=124:=byte_t h
    rw[if_pos (by rw[hhd,h124])] at hL
    refine gae ?_
    refine LOps.weak (H':=[(b2,.cells 86 [int .i64 0,nilSlice,nilSlice,str [],int .i64 0,int .i64 0])]) (zhD zhr) ?_
    refine oS (S.call0 [_] rfl hC (fun v H' hh=>?_) (by
     intro ch H' hh
     unfold RetRR at hh
     split at hh
     ·obtain ⟨_,h,_⟩:=hh;cases h
     ·obtain ⟨h,_⟩:=hh;cases h)) rfl
    unfold RetRR at hh
    cases hc:cellsP s with
    |error x=>
     rw[hc] at hh hL
     obtain ⟨hv,rfl⟩:=hh
     cases hv
     refine gab ?_
     exact rR hj1 (rC (rA rfl zm0 rfl zsr) rN) zhn ⟨_,_,_,_,_,_,rfl,rfl,by rw[hL];exact ⟨rfl,cells_err hc⟩⟩
    |ok l=>
     rw[hc] at hh hL
     obtain ⟨b4,hv,rfl⟩:=hh
     cases hv
     refine gab ?_
     exact rR (H':=[(b4,.row (1 * 1))]) hj1 (rC (rA rfl zm0 rfl zsr) rN) (zhD zhr) ⟨_,_,_,_,_,_,rfl,rfl,by rw[hL];exact ⟨rfl,RLineSt.row b4 l⟩⟩
   ·have h124:c≠124:=byte_f h (by decide)
    rw[if_neg (by rw[hhd];intro h;injection h with h;exact h124 h)] at hL
    have hshort:s.length<2→∀ a d:UInt8,s.take 2≠[a,d]:=fun h a d h2=>by
     have:=congrArg List.length h2
     simp only[List.length_take,List.length_cons,List.length_nil] at this
     omega
    refine gaa ?_
    refine LOps.cut [(0,str s),(2,ptr b2 0),(4,.app b cap 1 ((wordsL s).map str)),(40,bool (decide (s.take 2=[35,32])))] ?_ (fun j2 hj2=>?_)
    ·refine oB 36 rfl (fun h1=>?_) (fun h1=>?_)
     ·have g1:2≤s.length:=by have:=zt h1;omega
      refine gag ?_
      refine oP (Pure.ssliceE (m:=s.take 2) rfl rfl ⟨_,rfl⟩ zo zo zo rfl) rfl ?_
      refine gab ?_
      exact ⟨⟨rfl,rfl,rfl,rfl,trivial⟩,rfl,rfl⟩
     ·have g1:s.length<2:=by have:=zf h1;omega
      refine gab ?_
      exact ⟨⟨rfl,rfl,rfl,bool_eq (decide_eq_false (hshort g1 _ _)).symm,trivial⟩,rfl,rfl⟩
    refine oC rfl (fun h=>?_) (fun h=>?_)
    ·rw[if_pos (zt h)] at hL
     refine LCode.sub (d:=4) (v:=.app b cap 1 ((wordsL s).map str)) (v':=.list ((wordsL s).map str)) rfl (LV.Sub.app _ _ _ _) ?_
     refine LCode.weak (H':=[(b2,.cells 86 [int .i64 0,nilSlice,nilSlice,str [],int .i64 0,int .i64 0])]) (by first|exact zhD zhr|exact zhP pH zhn) ?_
     refine gaa ?_
     refine oC rfl (fun h=>?_) (fun h=>?_)
     ·rw[if_pos (by have:=zt h;omega)] at hL
      refine gaa ?_
      exact rR (hj2.trans hj1) (rC (rA rfl zm0 rfl zsr) rN) zhn ⟨_,_,_,_,_,_,rfl,rfl,by rw[hL];exact ⟨rfl,by decide⟩⟩
     ·have h2:¬ (wordsL s).length<2:=by have:=zf h;omega
      rw[if_neg h2] at hL
      refine gac ?_
      refine oP (Pure.lsliceE (ms:=((wordsL s).drop 1).map str) rfl ⟨_,rfl⟩ rfl zo zo zo (strs_len _) (by
       rw[Int.toNat_natCast,List.take_length,List.map_drop];rfl)) rfl ?_
      refine gab ?_
      exact rR (hj2.trans hj1) (rC (rA rfl zm0 rfl zsr) rN) zhn ⟨_,_,_,_,_,_,rfl,rfl,by rw[hL];exact ⟨rfl,RLineSt.head _⟩⟩
    ·rw[if_neg (zf h)] at hL
     refine gaa ?_
     refine LOps.cut [(0,str s),(2,ptr b2 0),(4,.app b cap 1 ((wordsL s).map str)),(56,bool (decide (s.take 2=[33,32])))] ?_ (fun j3 hj3=>?_)
     ·refine oB 52 rfl (fun h1=>?_) (fun h1=>?_)
      ·have g1:2≤s.length:=by have:=zt h1;omega
       refine gag ?_
       refine oP (Pure.ssliceE (m:=s.take 2) rfl rfl ⟨_,rfl⟩ zo zo zo rfl) rfl ?_
       refine gab ?_
       exact ⟨⟨rfl,rfl,rfl,rfl,trivial⟩,rfl,rfl⟩
      ·have g1:s.length<2:=by have:=zf h1;omega
       refine gab ?_
       exact ⟨⟨rfl,rfl,rfl,bool_eq (decide_eq_false (hshort g1 _ _)).symm,trivial⟩,rfl,rfl⟩
     refine oC rfl (fun h=>?_) (fun h=>?_)
     ·have ht:=zt h
      have hl2:2≤s.length:=Nat.le_of_not_lt fun h=>hshort h _ _ ht
      rw[if_pos ht] at hL
      refine gae ?_
      refine oP (Pure.ssliceE (m:=s.drop 2) rfl ⟨_,rfl⟩ rfl zo zo zo (by rw[Int.toNat_natCast,List.take_length];rfl)) rfl ?_
      refine LOps.weak (H':=[(b2,.cells 86 [int .i64 0,nilSlice,nilSlice,str [],int .i64 0,int .i64 0])]) (by first|exact zhD zhr|exact zhP pH zhn) ?_
      refine oS (S.call0 [_] rfl hQ (fun v H' hh=>?_) (by
       intro ch H' hh
       obtain ⟨_,hh⟩:=hh
       split at hh <;> cases hh)) rfl
      obtain ⟨rfl,hh⟩:=hh
      cases hc:picP (s.drop 2) with
      |none=>
       rw[hc] at hh hL
       cases hh
       refine gab ?_
       exact rR (hj3.trans (hj2.trans hj1)) (rC (rA rfl zm0 rfl zsr) rN) zhn ⟨_,_,_,_,_,_,rfl,rfl,by rw[hL];exact ⟨rfl,by decide⟩⟩
      |some q=>
       obtain ⟨n,rr⟩:=q
       rw[hc] at hh hL
       cases hh
       refine gab ?_
       exact rR (hj3.trans (hj2.trans hj1)) (rC (rA rfl zm0 rfl zsr) rN) zhn ⟨_,_,_,_,_,_,rfl,rfl,by rw[hL];exact ⟨rfl,RLineSt.pic n rr⟩⟩
     ·rw[if_neg (zf h)] at hL
      refine gaa ?_
      exact rR (H':=[(b,.row (((wordsL s).map str).length * 1))]) (hj3.trans (hj2.trans hj1)) (rC (rA rfl zm0 rfl zsr) rN) (zhD zhr) ⟨_,_,_,_,_,_,rfl,rfl,by rw[hL];exact ⟨rfl,RLineSt.para b cap _⟩⟩
end
end Go.Proofs.YtocofhbdbgnmbaaGreatDoor
