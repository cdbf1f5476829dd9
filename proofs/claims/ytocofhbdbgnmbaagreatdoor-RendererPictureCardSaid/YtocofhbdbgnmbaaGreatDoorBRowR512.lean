/- Texts joined: RenLB. -/
import Derived.Test.YtocofhbdbgnmbaaGreatDoorBRowR58
set_option linter.unusedVariables false
set_option linter.unusedSimpArgs false
namespace Go.Stele
open Go.Lib
theorem len1_bound {m:Nat}:∀ {l:List Wd},(∀ x∈l,x.length≤m)→len1 l≤l.length * (m+1)
 |[],_=>by simp[len1]
 |a::l,h=>by
  have ih:=len1_bound (l:=l) fun x hx=>h x (List.mem_cons_of_mem _ hx)
  have:=h a (by simp)
  rw[len1_cons,show (a::l).length=l.length+1 from rfl,Nat.succ_mul]
  omega
theorem len1_take (l:List Wd) (i:Nat):len1 (l.take i)≤len1 l:=by
 have h:len1 l=len1 (l.take i)+len1 (l.drop i):=by rw[←len1_app,List.take_append_drop]
 omega
theorem len1_count:∀ l:List Wd,l.length≤len1 l
 |[]=>Nat.zero_le _
 |a::l=>by
  have:=len1_count l
  rw[len1_cons,List.length_cons]
  omega
theorem bws_para (words:List Wd):bws [para words]=len1 words+6:=by
 simp[bws,bw,para,len1]
end Go.Stele
namespace Go.Proofs.YtocofhbdbgnmbaaGreatDoor
open Go.GL Go.RowKit Go.Stele
set_option maxRecDepth 100000
set_option maxHeartbeats 4000000
section
variable {B0:Nat} {w0:World}
theorem suffix_spec (s:List UInt8) (c:UInt8) (hs:s.length≤1000000000):LCalls (KC B0 w0) 20 [str s,str [c]] [] (Ret (bool (Go.Lib.hasSuffix s [c]))):=
 LCalls.ret_of (vs:=[.string ⟨s.toArray⟩,.string ⟨#[c]⟩]) fun w hw=>(Tryz.strings_HasSuffix ⟨s.toArray⟩ ⟨#[c]⟩ w (by show s.toArray.size≤_;exact size_le hs (by decide))).mono fun e w' he=>by
  obtain ⟨h1,rfl⟩:=he
  exact ⟨h1,Below.refl _ _⟩
theorem trimSuffix_spec (s:List UInt8) (c:UInt8) (hs:s.length≤1000000000):LCalls (KC B0 w0) 21 [str s,str [c]] [] (Ret (str (Go.Lib.trimSuffix s [c]))):=
 LCalls.ret_of (vs:=[.string ⟨s.toArray⟩,.string ⟨#[c]⟩]) fun w hw=>(Tryz.strings_TrimSuffix ⟨s.toArray⟩ ⟨#[c]⟩ w (by show s.toArray.size≤_;exact size_le hs (by decide))).mono fun e w' he=>by
  obtain ⟨h1,rfl⟩:=he
  exact ⟨h1,Below.refl _ _⟩
theorem replace_spec (hG:GW B0 w0) (s:List UInt8) (c:UInt8) (hs:s.length≤1000000000):LCalls (KC B0 w0) 22 [str s,str [c],str []] [] (Ret (str (s.filter fun d=>decide (d≠c)))):=by
 rw[←replace_nil]
 refine LCalls.ret_of (vs:=[.string ⟨s.toArray⟩,.string ⟨#[c]⟩,.string ⟨#[]⟩]) fun w hw=>?_
 obtain ⟨m,hm⟩:=hG.maxAt hw
 exact Tryz.strings_ReplaceAll ⟨s.toArray⟩ ⟨#[c]⟩ ⟨#[]⟩ m w (by show s.toArray.size<_;simp;omega) hm (Nat.le_refl 1) (by
  have h1:(⟨#[]⟩:ByteArray).size=0:=rfl
  rw[h1,Nat.mul_zero,Nat.add_zero]
  show s.toArray.size≤_
  exact size_le hs (by decide))
end
attribute [local irreducible] LOps LCode LStep LCalls Go.GL.Pure QThen QBlock RetPost LQ LAny LLate LLateOp
theorem para_sub (words:List Wd):(LV.agg [int .i64 2,.list (words.map str),nilSlice,str [],int .i64 0]).Sub (encB (para words)):=
 LV.Sub.agg ⟨LV.Sub.refl _,LV.Sub.refl _,LV.Sub.nil,LV.Sub.refl _,LV.Sub.refl _,trivial⟩
theorem para_kind (words:List Wd):∀ b∈[para words],b.kind=4→b.width≤1000000000:=fun b hb hk=>by
 rw[List.mem_singleton.1 hb] at hk
 cases hk
section
variable {B0:Nat} {w0:World}
theorem width_walk (hG:GW B0 w0) (words:List Wd) (width:Nat) (hwb:width<256):LCalls (KC B0 w0) 7 [.list (words.map str),int .u8 width] [] (Ret (bool true)):=by
 have hla:(words.map str).length=words.length:=List.length_map _
 have hmod:((width:Nat):Int).tmod 200=((width % 200:Nat):Int):=by rw[Int.tmod_eq_emod_of_nonneg zo];rfl
 refine cI Tryz.func7 rfl (n:=81) rfl rfl rfl ?_
 refine gaf ?_
 refine oS (S.fn [] rfl (alive_spec hG) ?_) rfl
 refine gab ?_
 refine oC rfl (fun h=>by cases h) (fun _=>?_)
 refine gaa ?_
 refine oC rfl (fun h=>?_) (fun h=>?_)
 ·refine gaf ?_
  exact retRet rfl (zra rfl) rfl
 have hn:words.length≤60:=by have:=zf h;omega
 refine gaa ?_
 refine oL (fun k sl H=>∃ i:Nat,i≤words.length∧k=words.length-i∧(∀ x∈words.take i,x.length≤300)∧sl=[(0,.list (words.map str)),(1,int .u8 width),(20,.list (words.map str)),(21,int .i64 words.length),(22,int .i64 i)]∧H=[])
  ⟨_,_,_,⟨0,Nat.zero_le _,rfl,(fun x hx=>by cases hx),rfl,rfl⟩,⟨rfl,rfl,rfl,int_eq zo,rfl,trivial⟩,HSub.refl _⟩ ?_
 rintro k sl H ⟨i,hi,rfl,hx,rfl,rfl⟩ j1 hj1
 refine gaj ?_
 refine oC rfl (fun hc=>?_) (fun hc=>?_)
 ·have hlt:i<words.length:=by have:=zt hc;omega
  refine gae ?_
  refine oP (xR (el':=str words[i]) (cs:=[str words[i]]) rfl rfl zo (map_get _ _ _ hlt) rfl rfl) rfl ?_
  refine gaa ?_
  refine oC rfl (fun h=>?_) (fun h=>?_)
  ·refine gak ?_
   exact retRet hj1 (zra rfl) rfl
  ·have hle:words[i].length≤300:=by have:=zf h;omega
   refine gac ?_
   exact ⟨_,_,_,by omega,⟨i+1,by omega,rfl,(fun x hx'=>by
    rw[List.take_succ_eq_append_getElem hlt] at hx'
    rcases List.mem_append.1 hx' with h|h
    ·exact hx x h
    ·rw[List.mem_singleton.1 h];exact hle),rfl,rfl⟩,⟨rfl,rfl,rfl,rfl,int_eq zo,trivial⟩,HSub.refl _,hj1⟩
 ·have hi':i=words.length:=by have:=zf hc;omega
  subst hi'
  rw[List.take_length] at hx
  have hl1:=len1_bound hx
  have hl2:words.length * (300+1)≤60 * 301:=Nat.mul_le_mul_right _ hn
  have hF:=format_spec hG [para words] (by rw[bws_para];omega) (para_kind words)
  refine gaa ?_
  rw[wrap_i64 zo]
  refine oP (Pure.remW rfl rfl (by decide)) rfl ?_
  rw[hmod]
  refine oP (Pure.addE (c:=((1+width % 200:Nat):Int)) rfl rfl zo zo) rfl ?_
  have hW:1≤1+width % 200∧1+width % 200≤200:=by omega
  generalize 1+width % 200=W at *
  refine gaa ?_
  refine LOps.sub 36 rfl (para_sub words) ?_
  refine oS (S.lit [_] (es:=[encB (para words)]) rfl (eC rfl rfl eN) rfl rfl rfl ?_) rfl
  refine oS (S.fn [_] rfl hF ?_) rfl
  cases hf:fmtP [para words] with
  |error e=>
   have he:=fmtP_err hf
   unfold fmtLV
   refine gaa ?_
   refine oC rfl (fun _=>?_) (fun h=>absurd (zt (not_f h)) zo)
   refine gaf ?_
   exact retRet hj1 (zra rfl) rfl
  |ok text=>
   obtain ⟨q1,q2,q3,q4,q5⟩:=para_ok hf
   obtain ⟨rows,hr,hne,hrows,hdark⟩:=width_law hf hW
   have hsz:(textP rows).length≤65536:=by
    obtain ⟨_,_,_,_,k3,k4⟩:=(renderP_ok hW).1 hr
    rw[k4];exact k3
   have hrl:=textP_rows rows
   have hrm:(rows.map str).length=rows.length:=List.length_map _
   have hR:=render_le hG text W zo (fun l' hl'=>by
    rw[q5] at hl'
    cases hl'
    rw[bws_para]
    omega)
   rw[hr] at hR
   obtain ⟨t,ht,hpc⟩:=text_trim hne (fun r hr=>(hrows r hr).2.2)
   obtain ⟨s1,s2⟩:=suffix_nl t
   rw[ht] at hR hsz hdark hrl
   have htl:t.length≤65536:=by rw[List.length_append] at hsz;omega
   have hS:=suffix_spec (B0:=B0) (w0:=w0) (t++[10]) 10 zo
   have hT:=trimSuffix_spec (B0:=B0) (w0:=w0) (t++[10]) 10 zo
   rw[s1] at hS
   rw[s2] at hT
   have hP:=split_spec hG t 10 zo
   rw[hpc] at hP
   have hA:=replace_spec hG (t++[10]) 10 zo
   have hfl:=List.length_filter_le (fun d:UInt8=>decide (d≠10)) (t++[10])
   have hB:=replace_spec hG ((t++[10]).filter fun d=>decide (d≠10)) 32 zo
   have hB2:((t++[10]).filter fun d=>decide (d≠10)).filter (fun d=>decide (d≠32))=words.flatten:=by rw[filter_eq'];exact hdark
   rw[hB2] at hB
   have hJ:=joinS_spec (B0:=B0) (w0:=w0) [] words zo (by
    rw[join_flat]
    have:=flatten_words words
    unfold len1 at hl1
    omega)
   rw[join_flat] at hJ
   unfold fmtLV
   refine gaa ?_
   refine oC rfl (fun h=>by cases h) (fun _=>?_)
   refine gae ?_
   refine oS (S.fn [_,_] rfl hR ?_) rfl
   unfold renLV
   refine gaa ?_
   refine oS (S.fn [_,_] rfl hS ?_) rfl
   refine gab ?_
   refine oC rfl (fun h=>by cases h) (fun _=>?_)
   refine gae ?_
   refine oS (S.fn [_,_] rfl hT ?_) rfl
   refine oS (S.call0 [_,_] rfl hP (fun v H' hh=>?_) (by rintro ch H' ⟨v,h,_⟩;cases h)) rfl
   obtain ⟨v,hv,hm⟩:=hh
   cases hv
   refine LOps.rowOut (es':=rows.map str) 59 hm zpr rfl rfl (strs_len _) (SubL.refl _) ?_
   refine gab ?_
   refine oL (fun k sl H=>∃ i:Nat,i≤rows.length∧k=rows.length-i∧sl=[(0,.list (words.map str)),(7,int .i64 W),(10,str (t++[10])),(59,.list (rows.map str)),(60,int .i64 rows.length),(61,int .i64 i)]∧H=[])
    ⟨rows.length,[(0,.list (words.map str)),(7,int .i64 W),(10,str (t++[10])),(59,.list (rows.map str)),(60,int .i64 rows.length),(61,int .i64 0)],[],⟨0,Nat.zero_le _,rfl,rfl,rfl⟩,⟨rfl,rfl,rfl,rfl,int_eq zo,rfl,trivial⟩,HSub.refl _⟩ ?_
   rintro k sl H ⟨i,hi,rfl,rfl,rfl⟩ j2 hj2
   refine gaj ?_
   refine oC rfl (fun hc=>?_) (fun hc=>?_)
   ·have hlt:i<rows.length:=by have:=zt hc;omega
    obtain ⟨r1,r2,_⟩:=hrows _ (List.getElem_mem hlt)
    refine gae ?_
    refine oP (xR (el':=str rows[i]) (cs:=[str rows[i]]) rfl rfl zo (map_get _ _ _ hlt) rfl rfl) rfl ?_
    refine gaa ?_
    refine oB 67 rfl (fun h=>absurd (zt h) r1) (fun _=>?_)
    refine gab ?_
    refine oC rfl (fun h=>absurd (zt h) zo) (fun _=>?_)
    refine gac ?_
    exact ⟨_,_,_,by omega,⟨i+1,by omega,rfl,rfl,rfl⟩,⟨rfl,rfl,rfl,rfl,rfl,int_eq zo,trivial⟩,HSub.refl _,hj2⟩
   ·refine gac ?_
    refine oS (S.fn [_,_,_] rfl hA ?_) rfl
    refine oS (S.fn [_,_,_] rfl hB ?_) rfl
    refine gac ?_
    refine oS (S.fn [_,_] rfl hJ ?_) rfl
    refine gab ?_
    exact retRet (hj2.trans hj1) (zra rfl) (bool_eq (decide_eq_true rfl))
theorem wide_walk (hG:GW B0 w0) (words:List Wd) (more:Nat) (hmb:more<256) (hbk:len1 words≤1048576):LCalls (KC B0 w0) 6 [.list (words.map str),int .u8 more] [] (Ret (bool true)):=by
 have hla:(words.map str).length=words.length:=List.length_map _
 have hcn:=len1_count words
 refine cI Tryz.func6 rfl (n:=84) rfl rfl rfl ?_
 refine gaf ?_
 refine oS (S.fn [] rfl (alive_spec hG) ?_) rfl
 refine gab ?_
 refine oC rfl (fun h=>by cases h) (fun _=>?_)
 refine gaa ?_
 refine oL (fun k sl H=>∃ i:Nat,i≤words.length∧k=words.length-i∧sl=[(0,.list (words.map str)),(1,int .u8 more),(5,int .i64 (len1 (words.take i):Nat)),(18,.list (words.map str)),(19,int .i64 words.length),(20,int .i64 i)]∧H=[])
  ⟨_,_,_,⟨0,Nat.zero_le _,rfl,rfl,rfl⟩,⟨rfl,rfl,rfl,rfl,int_eq zo,rfl,trivial⟩,HSub.refl _⟩ ?_
 rintro k sl H ⟨i,hi,rfl,rfl,rfl⟩ j1 hj1
 refine gaj ?_
 refine oC rfl (fun hc=>?_) (fun hc=>?_)
 ·have hlt:i<words.length:=by have:=zt hc;omega
  have h1:=len1_take words (i+1)
  have h2:len1 (words.take (i+1))=len1 (words.take i)+(words[i].length+1):=by
   rw[List.take_succ_eq_append_getElem hlt,len1_app,len1_cons,len1_nil]
  refine gae ?_
  refine oP (xR (el':=str words[i]) (cs:=[str words[i]]) rfl rfl zo (map_get _ _ _ hlt) rfl rfl) rfl ?_
  refine gaa ?_
  exact ⟨_,_,_,by omega,⟨i+1,by omega,rfl,rfl,rfl⟩,⟨rfl,rfl,int_eq (by rw[h2];omega),rfl,rfl,int_eq zo,trivial⟩,HSub.refl _,hj1⟩
 ·have hi':i=words.length:=by have:=zf hc;omega
  subst hi'
  rw[List.take_length]
  refine gaa ?_
  refine oB 32 rfl (fun h=>?_) (fun h=>?_)
  ·refine gah ?_
   refine oC rfl (fun _=>?_) (fun h=>by cases h)
   refine gaf ?_
   exact retRet hj1 (zra rfl) rfl
  have hn:len1 words≤200:=by have:=zf h;omega
  refine gab ?_
  refine oC rfl (fun h=>?_) (fun h=>?_)
  ·refine gaf ?_
   exact retRet hj1 (zra rfl) rfl
  have hpos:0<words.length:=by have:=zf h;omega
  have hF:=format_spec hG [para words] (by rw[bws_para];omega) (para_kind words)
  refine gaa ?_
  refine LOps.sub 39 rfl (para_sub words) ?_
  refine oS (S.lit [_] (es:=[encB (para words)]) rfl (eC rfl rfl eN) rfl rfl rfl ?_) rfl
  refine oS (S.fn [_] rfl hF ?_) rfl
  cases hf:fmtP [para words] with
  |error e=>
   have he:=fmtP_err hf
   unfold fmtLV
   refine gaa ?_
   refine oC rfl (fun _=>?_) (fun h=>absurd (zt (not_f h)) zo)
   refine gaf ?_
   exact retRet hj1 (zra rfl) rfl
  |ok text=>
   obtain ⟨q1,q2,q3,q4,q5⟩:=para_ok hf
   have hb:∀ l,docP text=.ok l→bws l≤20100:=fun l' hl'=>by
    rw[q5] at hl'
    cases hl'
    rw[bws_para]
    omega
   have k1:=wide_law hf hn (w:=len1 words-1) zo zo
   have k2:=wide_law hf hn (w:=min 200 (len1 words-1+more)) zo zo
   have hR1:=render_le hG text ((len1 words-1:Nat):Int) zo hb
   have hR2:=render_le hG text ((min 200 (len1 words-1+more):Nat):Int) zo hb
   rw[k1] at hR1
   rw[k2] at hR2
   have hjl:(Go.Lib.join words [32]).length≤len1 words:=join_le 32 words
   have hJ:=joinS_spec (B0:=B0) (w0:=w0) [32] words zo zo
   generalize Go.Lib.join words [32]=jw at *
   unfold fmtLV
   refine gaa ?_
   refine oC rfl (fun h=>by cases h) (fun _=>?_)
   refine gaa ?_
   refine LOps.sub 49 (v:=int .i64 ((len1 words:Nat)-1)) (v':=int .i64 ((len1 words-1:Nat):Int)) rfl (by rw[show ((len1 words:Nat):Int)-1=((len1 words-1:Nat):Int) by omega];exact LV.Sub.refl _) ?_
   refine oS (S.fn [_,_] rfl hR1 ?_) rfl
   unfold renLV
   refine gaa ?_
   refine oP (Pure.addE (c:=((len1 words-1+more:Nat):Int)) rfl rfl (by rw[wrap_i64 zo];omega) zo) rfl ?_
   refine oP (Pure.minE (c:=((min 200 (len1 words-1+more):Nat):Int)) rfl rfl (by split <;> omega)) rfl ?_
   refine oS (S.fn [_,_] rfl hR2 ?_) rfl
   unfold renLV
   refine gaa ?_
   refine oB 77 rfl (fun _=>?_) (fun h=>absurd rfl (zf h))
   refine gad ?_
   refine oS (S.fn [_,_] rfl hJ ?_) rfl
   refine gab ?_
   exact retRet hj1 (zra rfl) (bool_eq (decide_eq_true rfl))
end
end Go.Proofs.YtocofhbdbgnmbaaGreatDoor
