/- Texts joined: RenPic, RenLC. -/
import Derived.Test.YtocofhbdbgnmbaaGreatDoorBRowR53
import Derived.Test.YtocofhbdbgnmbaaGreatDoorBRowR512
set_option linter.unusedVariables false
set_option linter.unusedSimpArgs false
namespace Go.Stele
open Go.Lib
def picN (l:List UInt8):List Nat:=l.map fun k=>1+k.toNat % 50
theorem picN_le (l:List UInt8):∀ k∈picN l,1≤k∧k≤50:=fun k hk=>by
 obtain ⟨c,_,rfl⟩:=List.mem_map.1 hk
 omega
theorem runLen_alt:∀ (ks:List Nat) (i:Nat),runLen (altR i ks)=ks.sum
 |[],i=>rfl
 |k::ks,i=>by
  have ih:=runLen_alt ks (i+1)
  unfold runLen at ih ⊢
  rw[altR,List.map_cons,List.sum_cons,ih,List.sum_cons]
theorem sum_le {m:Nat}:∀ {ks:List Nat},(∀ k∈ks,k≤m)→ks.sum≤ks.length * m
 |[],_=>by simp
 |k::ks,h=>by
  have ih:=sum_le (ks:=ks) fun x hx=>h x (List.mem_cons_of_mem _ hx)
  have:=h k (by simp)
  rw[List.sum_cons,show (k::ks).length=ks.length+1 from rfl,Nat.succ_mul]
  omega
theorem dec_len3 {n:Nat} (h:n<1000):(decDigits n).length≤3:=by
 rw[decDigits]
 split
 ·simp
 ·rw[decDigits]
  split
  ·simp
  ·rw[decDigits,dif_pos (by omega)]
   simp
theorem enc_len:∀ (ks:List Nat) (i:Nat),(∀ k∈ks,k≤50)→(encR (altR i ks)).length≤4 * ks.length
 |[],i,_=>Nat.zero_le _
 |k::ks,i,h=>by
  have ih:=enc_len ks (i+1) fun x hx=>h x (List.mem_cons_of_mem _ hx)
  have h1:=dec_len3 (n:=k) (by have:=h k (by simp);omega)
  rw[altR,encR,List.length_append,List.length_cons,List.length_cons]
  omega
def restN (w n:Nat):Nat:=(w-n % w) % w
def picAll (w:Nat) (l:List UInt8):List Nat:=
 if 0<restN w (picN l).sum∨(picN l).sum=0 then picN l++[if restN w (picN l).sum=0 then w else restN w (picN l).sum] else picN l
theorem restN_full {w n:Nat} (hw:1≤w):(n+restN w n) % w=0:=by
 unfold restN
 have h:=Nat.mod_lt n (show 0<w by omega)
 rw[Nat.add_mod_mod]
 have h2:n+(w-n % w)=w * (n / w)+w:=by
  have:=Nat.div_add_mod n w
  omega
 rw[h2,Nat.add_mod_right,Nat.mul_mod_right]
theorem restN_lt {w n:Nat} (hw:1≤w):restN w n<w:=Nat.mod_lt _ (by omega)
theorem picAll_ok {w:Nat} (hw:1≤w∧w≤40) (l:List UInt8):(∀ k∈picAll w l,1≤k∧k≤50)∧(picAll w l).sum≠0∧(picAll w l).sum % w=0∧(picAll w l).length≤l.length+1:=by
 have hl:(picN l).length=l.length:=List.length_map _
 have h1:=restN_full (w:=w) (n:=(picN l).sum) hw.1
 have h2:=restN_lt (w:=w) (n:=(picN l).sum) hw.1
 unfold picAll
 split
 ·rename_i h
  refine ⟨fun k hk=>?_,?_,?_,by rw[List.length_append,hl];simp⟩
  ·rcases List.mem_append.1 hk with hk|hk
   ·exact picN_le l k hk
   ·rw[List.mem_singleton.1 hk]
    split <;> omega
  ·rw[List.sum_append]
   simp only[List.sum_cons,List.sum_nil]
   split <;> omega
  ·rw[List.sum_append]
   simp only[List.sum_cons,List.sum_nil,Nat.add_zero]
   split
   ·rename_i h0
    rw[h0,Nat.add_zero] at h1
    rw[Nat.add_mod_right]
    exact h1
   ·exact h1
 ·rename_i h
  refine ⟨picN_le l,by omega,?_,by omega⟩
  rw[show restN w (picN l).sum=0 by omega,Nat.add_zero] at h1
  exact h1
theorem picT_len {w:Nat} (hw:1≤w∧w≤40) {ks:List Nat} (h:∀ k∈ks,1≤k∧k≤50) (hl:ks.length≤41):(picT w (altR 0 ks)).length≤200:=by
 have h1:=enc_len ks 0 fun k hk=>(h k hk).2
 have h2:=dec_len3 (n:=w) (by omega)
 unfold picT
 simp only[List.length_append,List.length_cons,List.length_nil]
 omega
theorem alt_snoc (ks:List Nat) (k:Nat):altR 0 (ks++[k])=altR 0 ks++[(k,altC ks.length)]:=by rw[altR_app,Nat.zero_add]
theorem enc_one (k:Nat) (c:UInt8):encR [(k,c)]=decDigits k++[c]:=rfl
theorem cells_one (k:Nat) (c:UInt8):runCells [(k,c)]=List.replicate k c:=by simp[runCells]
theorem altC_is (i:Nat):(([46,35]:Wd).take (i % 2+1)).drop (i % 2)=[altC i]:=by
 have h:i % 2=0∨i % 2=1:=by omega
 unfold altC
 rcases h with h|h
 ·rw[h];rfl
 ·rw[h];rfl
end Go.Stele
namespace Go.Proofs.YtocofhbdbgnmbaaGreatDoor
open Go.GL Go.RowKit Go.Stele
set_option maxRecDepth 100000
set_option maxHeartbeats 4000000
theorem wrapU64 {n:Int} (h:0≤n∧n≤4294967295):IntKind.u64.wrap n=n:=by
 simp only[IntKind.wrap,IntKind.bits,IntKind.signed,Bool.false_and]
 simp
 omega
attribute [local irreducible] LOps LCode LStep LCalls Go.GL.Pure QThen QBlock RetPost LQ LAny LLate LLateOp
section
variable {B0:Nat} {w0:World}
theorem literal_spec (hG:GW B0 w0) (n:Nat) (hn:n≤4294967295):LCalls (KC B0 w0) 12 [int .u32 n] [] (Ret (str (Go.Lib.decDigits n))):=by
 refine cI Tryz.func12 rfl (n:=6) rfl rfl rfl ?_
 refine gaa ?_
 rw[wrapU64 zo]
 refine oS (S.fn [_,_] rfl (fmtUint_spec hG n zo) ?_) rfl
 refine gad ?_
 exact retRet rfl (zra rfl) rfl
def RetPut (b7 b8 c6:Nat) (T C:Wd) (n:Nat) (r:LRes) (H:Heap):Prop:=r=.ret (.tuple [])∧∃ HT HC,BH b7 T HT∧BH b8 C HC∧H=(c6,.cells 3 [int .i64 n])::(HT++HC)
theorem put_spec (hG:GW B0 w0) (b7 b8 c6:Nat) (T C:Wd) (n k:Nat) (c:UInt8) (HT HC:Heap) (hT:BH b7 T HT) (hC:BH b8 C HC) (hTl:T.length≤100000) (hCl:C.length≤100000) (hn:n≤100000) (hk:k≤1000) :
  LCalls (KC B0 w0) 13 [int .i64 k,str [c],ptr b7 0,ptr b8 0,ptr c6 0] ((c6,.cells 3 [int .i64 n])::(HT++HC)) (RetPut b7 b8 c6 (T++(Go.Lib.decDigits k++[c])) (C++List.replicate k c) (n+k)):=by
 have hdl:=dec_len3 (n:=k+0)
 have hd4:(Go.Lib.decDigits k).length≤10:=dec_le10 zo
 refine cI Tryz.func13 rfl (n:=20) rfl rfl rfl ?_
 refine gaa ?_
 rw[wrapU32 zo]
 refine oS (S.fn [_] rfl (literal_spec hG k zo) ?_) rfl
 refine gab ?_
 refine oS (S.callH (H1:=HT) (F:=(c6,.cells 3 [int .i64 n])::HC) [_,_] rfl List.perm_middle.symm (writeString_spec b7 _ (Go.Lib.decDigits k++[c]) HT hT (by simp only[List.length_append,List.length_cons,List.length_nil];omega)) (fun y H3 h=>?_) (by rintro ch H3 ⟨⟨x,h⟩,_⟩;cases h)) rfl
 obtain ⟨⟨y',hy'⟩,hB3⟩:=h
 cases hy'
 refine gac ?_
 refine oS (S.fn [_,_] rfl (repeat_spec c k zo) ?_) rfl
 refine oS (S.callH (H1:=HC) (F:=H3++[(c6,.cells 3 [int .i64 n])]) [_,_] rfl (by
  rw[show H3++(c6,LObj.cells 3 [int .i64 n])::HC=(H3++[(c6,.cells 3 [int .i64 n])])++HC by simp]
  exact List.perm_append_comm) (writeString_spec b8 _ (List.replicate k c) HC hC (by rw[List.length_replicate];omega)) (fun y H4 h=>?_) (by rintro ch H4 ⟨⟨x,h⟩,_⟩;cases h)) rfl
 obtain ⟨⟨y'',hy''⟩,hB4⟩:=h
 cases hy''
 refine LOps.weak (H':=(c6,.cells 3 [int .i64 n])::(H3++H4)) ⟨[],by
  rw[List.append_nil]
  refine List.perm_append_comm.trans ?_
  rw[List.append_assoc]
  exact List.perm_middle⟩ ?_
 refine gaa ?_
 exact RetPost.normal rfl rN zhr ⟨rfl,H3,H4,hB3,hB4,by rw[show ((n+k:Nat):Int)=(n:Int)+(k:Int) by omega]⟩
theorem picture_walk (hG:GW B0 w0) (l:List UInt8) (width:Nat) (hwb:width<256):LCalls (KC B0 w0) 4 [.list (byts l),int .u8 width] [] (Ret (bool true)):=by
 have hla:(byts l).length=l.length:=byts_len l
 have hmod:((width:Nat):Int).tmod 40=((width % 40:Nat):Int):=by rw[Int.tmod_eq_emod_of_nonneg zo];rfl
 refine cI Tryz.func4 rfl (n:=133) rfl rfl rfl ?_
 refine gaf ?_
 refine oS (S.fn [] rfl (alive_spec hG) ?_) rfl
 refine gab ?_
 refine oC rfl (fun h=>by cases h) (fun _=>?_)
 refine gaa ?_
 refine oC rfl (fun h=>?_) (fun h=>?_)
 ·refine gaf ?_
  exact retRet rfl (zra rfl) rfl
 have hn:l.length≤40:=by have:=zf h;omega
 refine gaa ?_
 rw[wrap_i64 zo]
 refine oP (Pure.remW rfl rfl (by decide)) rfl ?_
 rw[hmod]
 refine oP (Pure.addE (c:=((1+width % 40:Nat):Int)) rfl rfl zo zo) rfl ?_
 have hW:1≤1+width % 40∧1+width % 40≤40:=by omega
 generalize 1+width % 40=W at *
 have hd2:(Go.Lib.decDigits W).length≤10:=dec_le10 zo
 refine gaf ?_
 refine oS (S.alloc fun c6=>?_) rfl
 refine gaa ?_
 refine oS (S.alloc fun b7=>?_) rfl
 refine oS (S.alloc fun b8=>?_) rfl
 refine gaa ?_
 rw[wrapU32 zo]
 refine oS (S.fn [_] rfl (literal_spec hG W zo) ?_) rfl
 refine oP (Pure.sadd (l:=[33,32]) (m:=Go.Lib.decDigits W) rfl rfl (by simp only[List.length_cons,List.length_nil];omega)) rfl ?_
 refine oP (Pure.sadd (l:=[33,32]++Go.Lib.decDigits W) (m:=[32]) rfl rfl (by simp only[List.length_append,List.length_cons,List.length_nil];omega)) rfl ?_
 refine oS (S.callH (H1:=[(b7,.cells 30 [.atom (.pointer none),nilSlice])]) (F:=[(b8,.cells 30 [.atom (.pointer none),nilSlice]),(c6,.cells 3 [int .i64 0])]) [_,_] rfl (List.Perm.swap _ _ _) (writeString_spec b7 [] ([33,32]++Go.Lib.decDigits W++[32]) _ ⟨_,_,[],.inl rfl,BRow.nil,rfl⟩ (by simp only[List.length_append,List.length_cons,List.length_nil];omega)) (fun y H3 h=>?_) (by rintro ch H3 ⟨⟨x,h⟩,_⟩;cases h)) rfl
 obtain ⟨⟨y',hy'⟩,hB3⟩:=h
 cases hy'
 rw[List.nil_append] at hB3
 refine gaa ?_
 refine oL (fun k sl H=>∃ (i:Nat) (HT HC:Heap),i≤l.length∧k=l.length-i∧BH b7 (picT W (altR 0 (picN (l.take i)))) HT∧BH b8 (runCells (altR 0 (picN (l.take i)))) HC∧sl=[(0,.list (byts l)),(5,int .i64 W),(6,ptr c6 0),(7,ptr b7 0),(8,ptr b8 0),(9,.atom (.func (.func 13) #[] #[.pointer (some ⟨b7,0,none⟩),.pointer (some ⟨b8,0,none⟩),.pointer (some ⟨c6,0,none⟩)])),(35,.list (byts l)),(36,int .i64 l.length),(37,int .i64 i)]∧H=(c6,.cells 3 [int .i64 ((picN (l.take i)).sum:Nat)])::(HT++HC))
  ⟨_,_,_,⟨0,H3,[(b8,.cells 30 [.atom (.pointer none),nilSlice])],Nat.zero_le _,rfl,by
   rw[List.take_zero]
   simpa [picT,picN,altR,encR] using hB3,⟨_,_,[],.inl rfl,BRow.nil,rfl⟩,rfl,rfl⟩,⟨rfl,rfl,rfl,rfl,rfl,rfl,rfl,int_eq zo,rfl,trivial⟩,⟨[],by
   rw[List.append_nil]
   rw[show H3++[(b8,LObj.cells 30 [LV.atom (.pointer none),nilSlice]),(c6,.cells 3 [int .i64 0])]=(H3++[(b8,.cells 30 [.atom (.pointer none),nilSlice])])++[(c6,.cells 3 [int .i64 0])] by simp]
   exact List.perm_append_comm⟩⟩ ?_
 rintro k sl H ⟨i,HT,HC,hi,rfl,hBT,hBC,rfl,rfl⟩ j1 hj1
 have hks:=picN_le (l.take i)
 have hkl:(picN (l.take i)).length=i:=by unfold picN;rw[List.length_map,List.length_take];omega
 have hsum:=sum_le (m:=50) fun k hk=>(hks k hk).2
 have hTl:=picT_len (w:=W) hW hks zo
 have hCl:=runCells_len (altR 0 (picN (l.take i)))
 rw[runLen_alt] at hCl
 refine gaj ?_
 refine oC rfl (fun hc=>?_) (fun hc=>?_)
 ·have hlt:i<l.length:=by have:=zt hc;omega
  have hpn:picN (l.take (i+1))=picN (l.take i)++[1+l[i].toNat % 50]:=by
   rw[List.take_succ_eq_append_getElem hlt];unfold picN;rw[List.map_append];rfl
  have hg:(byts l)[((i:Nat):Int).toNat]? = some (int .u8 l[i].toNat):=map_get _ _ _ hlt
  have hlc:=l[i].toNat_lt
  have hm50:((l[i].toNat:Nat):Int).tmod 50=((l[i].toNat % 50:Nat):Int):=by rw[Int.tmod_eq_emod_of_nonneg zo];rfl
  have hm2:((i:Nat):Int).tmod 2=((i % 2:Nat):Int):=by rw[Int.tmod_eq_emod_of_nonneg zo];rfl
  refine gae ?_
  refine oP (xR (el':=int .u8 l[i].toNat) (cs:=[int .u8 l[i].toNat]) rfl rfl zo hg rfl rfl) rfl ?_
  generalize l[i].toNat=ch at *
  refine gaa ?_
  rw[wrap_i64 zo]
  refine oP (Pure.remW rfl rfl (by decide)) rfl ?_
  rw[hm50]
  refine oP (Pure.addE (c:=((1+ch % 50:Nat):Int)) rfl rfl zo zo) rfl ?_
  refine gag ?_
  refine oP (Pure.remW rfl rfl (by decide)) rfl ?_
  rw[hm2]
  refine gag ?_
  refine oP (Pure.remW rfl rfl (by decide)) rfl ?_
  rw[hm2]
  refine oP (Pure.addE (c:=((i % 2+1:Nat):Int)) rfl rfl zo zo) rfl ?_
  refine oP (Pure.ssliceE (l:=[46,35]) (m:=[altC i]) (i:=(i % 2:Nat)) (j:=(i % 2+1:Nat)) rfl ⟨_,rfl⟩ ⟨_,rfl⟩ zo zo (by simp only[List.length_cons,List.length_nil];omega) (by rw[Int.toNat_natCast,Int.toNat_natCast];exact altC_is i)) rfl ?_
  refine oS (S.callV (f:=13) (H1:=(c6,.cells 3 [int .i64 ((picN (l.take i)).sum:Nat)])::(HT++HC)) (F:=[]) [_,_] rfl rfl (by rw[List.append_nil]) (put_spec hG b7 b8 c6 _ _ (picN (l.take i)).sum (1+ch % 50) (altC i) HT HC hBT hBC zo zo zo zo) (fun v H' hh=>?_) (by rintro ch H' ⟨h,_⟩;cases h)) rfl
  obtain ⟨hv,HT2,HC2,hBT2,hBC2,rfl⟩:=hh
  cases hv
  rw[List.append_nil]
  refine gac ?_
  exact ⟨_,_,_,by omega,⟨i+1,HT2,HC2,by omega,rfl,by
   rw[hpn,alt_snoc,hkl]
   unfold picT at hBT2 ⊢
   rw[encR_app,enc_one]
   simpa using hBT2,by
   rw[hpn,alt_snoc,hkl,runCells_app,cells_one]
   exact hBC2,rfl,by rw[hpn,List.sum_append];simp⟩,⟨rfl,rfl,rfl,rfl,rfl,rfl,rfl,rfl,int_eq zo,trivial⟩,HSub.refl _,hj1⟩
 ·have hi':i=l.length:=by have:=zf hc;omega
  subst hi'
  rw[List.take_length] at hBT hBC hkl hsum hTl hCl
  rw[List.take_length]
  obtain ⟨a1,a2,a3,a4⟩:=picAll_ok hW l
  have hfin:=picT_len (w:=W) hW a1 zo
  have hall:picAll W l=if 0<restN W (picN l).sum∨(picN l).sum=0 then picN l++[if restN W (picN l).sum=0 then W else restN W (picN l).sum] else picN l:=rfl
  have hrlt:=restN_lt (w:=W) (n:=(picN l).sum) hW.1
  have hm2:((l.length:Nat):Int).tmod 2=((l.length % 2:Nat):Int):=by rw[Int.tmod_eq_emod_of_nonneg zo];rfl
  have hnw:(((picN l).sum:Nat):Int).tmod (W:Int)=(((picN l).sum % W:Nat):Int):=by rw[Int.tmod_eq_emod_of_nonneg zo];rfl
  have hnl:=Nat.mod_lt (picN l).sum (show 0<W by omega)
  have hrw:((W:Int)-(((picN l).sum % W:Nat):Int)).tmod (W:Int)=((restN W (picN l).sum:Nat):Int):=by
   unfold restN
   rw[show (W:Int)-(((picN l).sum % W:Nat):Int)=((W-(picN l).sum % W:Nat):Int) by omega,Int.tmod_eq_emod_of_nonneg zo]
   rfl
  generalize hks':picN l=ks at *
  generalize restN W ks.sum=rest at *
  refine gaa ?_
  refine oP (Pure.remW rfl rfl zo) rfl ?_
  rw[hnw]
  refine gab ?_
  refine oP (Pure.remW rfl rfl zo) rfl ?_
  rw[hrw]
  refine gaa ?_
  refine LOps.cut [(0,.list (byts l)),(5,int .i64 W),(6,ptr c6 0),(7,ptr b7 0),(8,ptr b8 0),(9,.atom (.func (.func 13) #[] #[.pointer (some ⟨b7,0,none⟩),.pointer (some ⟨b8,0,none⟩),.pointer (some ⟨c6,0,none⟩)])),(12,int .i64 rest),(67,bool (decide (0<rest∨ks.sum=0)))] ?_ (fun j2 hj2=>?_)
  ·refine oB 64 rfl (fun h=>?_) (fun h=>?_)
   ·have h1:=zt h
    refine gah ?_
    exact ⟨⟨rfl,rfl,rfl,rfl,rfl,rfl,rfl,bool_eq (decide_eq_true (.inl zo)).symm,trivial⟩,rfl,rfl⟩
   ·have h1:=zf h
    refine gab ?_
    exact ⟨⟨rfl,rfl,rfl,rfl,rfl,rfl,rfl,bool_eq (decide_eq_decide.2 ⟨fun h=>.inr zo,fun h=>by omega⟩),trivial⟩,rfl,rfl⟩
  refine LCode.mid (A:=Heap×Heap) (fun _=>[(0,.list (byts l)),(5,int .i64 W),(6,ptr c6 0),(7,ptr b7 0),(8,ptr b8 0)]) (fun a=>(c6,.cells 3 [int .i64 ((picAll W l).sum:Nat)])::(a.1++a.2)) (fun a=>BH b7 (picT W (altR 0 (picAll W l))) a.1∧BH b8 (runCells (altR 0 (picAll W l))) a.2) ?_ ?_
  ·refine oC rfl (fun h=>?_) (fun h=>?_)
   ·have h1:=zt h
    rw[if_pos h1] at hall
    refine gac ?_
    refine LCode.cut [(0,.list (byts l)),(5,int .i64 W),(6,ptr c6 0),(7,ptr b7 0),(8,ptr b8 0),(9,.atom (.func (.func 13) #[] #[.pointer (some ⟨b7,0,none⟩),.pointer (some ⟨b8,0,none⟩),.pointer (some ⟨c6,0,none⟩)])),(12,int .i64 ((if rest=0 then W else rest:Nat):Int))] ?_ (fun j3 hj3=>?_)
    ·refine oC rfl (fun h=>?_) (fun h=>?_)
     ·have h2:rest=0:=by have:=zt h;omega
      refine gac ?_
      exact ⟨⟨rfl,rfl,rfl,rfl,rfl,rfl,int_eq (by rw[if_pos h2]),trivial⟩,rfl,rfl⟩
     ·have h2:rest≠0:=by have:=zf h;omega
      refine gad ?_
      exact ⟨⟨rfl,rfl,rfl,rfl,rfl,rfl,int_eq (by rw[if_neg h2]),trivial⟩,rfl,rfl⟩
    have hK:(if rest=0 then W else rest)≤40:=by split <;> omega
    generalize (if rest=0 then W else rest)=K at *
    refine gaa ?_
    rw[hla]
    refine oP (Pure.remW rfl rfl (by decide)) rfl ?_
    rw[hm2]
    refine gab ?_
    rw[hla]
    refine oP (Pure.remW rfl rfl (by decide)) rfl ?_
    rw[hm2]
    refine oP (Pure.addE (c:=((l.length % 2+1:Nat):Int)) rfl rfl zo zo) rfl ?_
    refine oP (Pure.ssliceE (l:=[46,35]) (m:=[altC l.length]) (i:=(l.length % 2:Nat)) (j:=(l.length % 2+1:Nat)) rfl ⟨_,rfl⟩ ⟨_,rfl⟩ zo zo (by simp only[List.length_cons,List.length_nil];omega) (by rw[Int.toNat_natCast,Int.toNat_natCast];exact altC_is l.length)) rfl ?_
    refine oS (S.callV (f:=13) (H1:=(c6,.cells 3 [int .i64 (ks.sum:Nat)])::(HT++HC)) (F:=[]) [_,_] rfl rfl (by rw[List.append_nil]) (put_spec hG b7 b8 c6 _ _ ks.sum K (altC l.length) HT HC hBT hBC zo zo zo zo) (fun v H' hh=>?_) (by rintro ch H' ⟨h,_⟩;cases h)) rfl
    obtain ⟨hv,HT2,HC2,hBT2,hBC2,rfl⟩:=hh
    cases hv
    rw[List.append_nil]
    refine gah ?_
    exact ⟨(HT2,HC2),⟨by
     rw[hall,alt_snoc,hkl]
     unfold picT at hBT2 ⊢
     rw[encR_app,enc_one]
     simpa using hBT2,by
     rw[hall,alt_snoc,hkl,runCells_app,cells_one]
     exact hBC2⟩,⟨rfl,rfl,rfl,rfl,rfl,trivial⟩,by rw[hall,List.sum_append];simp,hj3⟩
   ·have h1:=zf h
    rw[if_neg h1] at hall
    refine gad ?_
    exact ⟨(HT,HC),⟨by rw[hall];exact hBT,by rw[hall];exact hBC⟩,⟨rfl,rfl,rfl,rfl,rfl,trivial⟩,by rw[hall],rfl⟩
  ·rintro ⟨HT1,HC1⟩ ⟨hB1,hB2⟩ j3 hj3
   simp only at hB1 hB2
   have hds:=hj3.trans (hj2.trans hj1)
   have hok:=altR_ok (picAll W l) 0 0 (fun k hk=>by have:=a1 k hk;omega) (by decide)
   have hrl:=runLen_alt (picAll W l) 0
   have hcl:=runCells_len (altR 0 (picAll W l))
   obtain ⟨p1,p2⟩:=picture_law hW hok zo (by rw[hrl];exact a2) (by rw[hrl];exact a3)
   have hR:=render_le hG (picT W (altR 0 (picAll W l))) 80 zo (fun l' hl'=>small_of zo hl')
   have hsl:=sum_le (m:=50) fun k hk=>(a1 k hk).2
   rw[hrl] at p1 p2 hcl
   generalize (picAll W l).sum=N at *
   generalize picT W (altR 0 (picAll W l))=text at *
   generalize runCells (altR 0 (picAll W l))=cells at *
   have hq:((N:Nat):Int) / (W:Int)=((N / W:Nat):Int):=(Int.natCast_ediv _ _).symm
   have hqn:N / W≤N:=Nat.div_le_self _ _
   generalize N / W=Q at *
   refine gai ?_
   refine oS (S.callH (H1:=HT1) (F:=(c6,.cells 3 [int .i64 (N:Nat)])::HC1) [_] rfl List.perm_middle.symm (string_spec b7 _ HT1 hB1 zo) (fun y H4 h=>?_) (by rintro ch H4 ⟨h,_⟩;cases h)) rfl
   obtain ⟨hy,rfl⟩:=h
   cases hy
   rw[List.nil_append]
   refine oS (S.fn [_,_] rfl hR ?_) rfl
   by_cases hbig:200<Q
   ·rw[p1 hbig]
    unfold renLV
    refine gaa ?_
    refine oP (Pure.quo rfl rfl zo zo zo) rfl ?_
    rw[hq]
    refine gab ?_
    refine oC rfl (fun _=>?_) (fun h=>absurd (zf h) zo)
    refine gac ?_
    exact retRet hds (zra rfl) rfl
   ·obtain ⟨rows,hr,hrn,hrows,hflat⟩:=p2 hbig
    rw[hr]
    have hno:∀ r∈rows,(10:UInt8) ∉ r:=fun r hr=>(hrows r hr).2
    have hsz:(textP rows).length≤65536:=by
     obtain ⟨_,_,_,_,k3,k4⟩:=(renderP_ok (w:=80) (by decide)).1 hr
     rw[k4];exact k3
    have hP:=split_spec hG (textP rows) 10 zo
    rw[text_pieces rows hno] at hP
    have hrm:((rows++[[]]).map str).length=rows.length+1:=by rw[List.length_map,List.length_append];rfl
    have hrm2:(rows.map str).length=rows.length:=List.length_map _
    have hlast:((rows++[[]]).map str)[((((rows++[[]]).map str).length:Int)-1).toNat]? = some (str []):=by
     rw[hrm,show (((rows.length+1:Nat):Int)-1).toNat=rows.length by omega,List.map_append,List.getElem?_append_right zo,hrm2,Nat.sub_self]
     rfl
    have hfl2:(rows++[[]]).flatten=cells:=by rw[List.flatten_append,hflat];simp
    have hJ:=joinS_spec (B0:=B0) (w0:=w0) [] (rows++[[]]) (by rw[List.length_append];simp only[List.length_cons,List.length_nil];omega) (by rw[join_flat,hfl2];omega)
    rw[join_flat,hfl2] at hJ
    unfold renLV
    refine gaa ?_
    refine oP (Pure.quo rfl rfl zo zo zo) rfl ?_
    rw[hq]
    refine gab ?_
    refine oC rfl (fun h=>absurd (zt h) zo) (fun _=>?_)
    refine gaa ?_
    refine oC rfl (fun h=>by cases h) (fun _=>?_)
    refine gae ?_
    refine oS (S.call0 [_,_] rfl hP (fun v H' hh=>?_) (by rintro ch H' ⟨v,h,_⟩;cases h)) rfl
    obtain ⟨v,hv,hm⟩:=hh
    cases hv
    refine LOps.rowOut (es':=(rows++[[]]).map str) (F:=(c6,.cells 3 [int .i64 (N:Nat)])::HC1) 97 hm zpr rfl rfl (strs_len _) (SubL.refl _) ?_
    refine gaa ?_
    refine oP (xR (el':=str []) (cs:=[str []]) rfl rfl zo hlast rfl rfl) rfl ?_
    refine gab ?_
    refine oP (Pure.quo rfl rfl zo zo zo) rfl ?_
    rw[hq]
    refine gab ?_
    refine oC rfl (fun h=>absurd (zf (not_t h)) (fun h=>h (by rw[hrm];omega))) (fun _=>?_)
    refine gaa ?_
    refine oP (Pure.lsliceE (ms:=rows.map str) rfl rfl ⟨_,rfl⟩ zo zo zo (strs_len _) (by
     rw[hrm,show (((rows.length+1:Nat):Int)-1).toNat=rows.length by omega,List.map_append,List.take_append_of_le_length zo,List.take_of_length_le zo]
     rfl)) rfl ?_
    refine gab ?_
    refine oL (fun k sl H=>∃ i:Nat,i≤rows.length∧k=rows.length-i∧sl=[(5,int .i64 W),(8,ptr b8 0),(16,.list ((rows++[[]]).map str)),(118,.list (rows.map str)),(119,int .i64 rows.length),(120,int .i64 i)]∧H=HC1)
     ⟨rows.length,[(5,int .i64 W),(8,ptr b8 0),(16,.list ((rows++[[]]).map str)),(118,.list (rows.map str)),(119,int .i64 rows.length),(120,int .i64 0)],HC1,⟨0,Nat.zero_le _,rfl,rfl,rfl⟩,⟨rfl,rfl,rfl,rfl,int_eq zo,rfl,trivial⟩,zhD zhr⟩ ?_
    rintro k sl H ⟨i,hi,rfl,rfl,rfl⟩ j4 hj4
    refine gaj ?_
    refine oC rfl (fun hc=>?_) (fun hc=>?_)
    ·have hlt:i<rows.length:=by have:=zt hc;omega
     have hwl:=(hrows _ (List.getElem_mem hlt)).1
     refine gae ?_
     refine oP (xR (el':=str rows[i]) (cs:=[str rows[i]]) rfl rfl zo (map_get _ _ _ hlt) rfl rfl) rfl ?_
     refine gaa ?_
     refine oC rfl (fun h=>absurd (zf (not_t h)) (fun h=>h zo)) (fun _=>?_)
     refine gac ?_
     exact ⟨_,_,_,by omega,⟨i+1,by omega,rfl,rfl,rfl⟩,⟨rfl,rfl,rfl,rfl,rfl,int_eq zo,trivial⟩,HSub.refl _,hj4⟩
    ·refine gac ?_
     refine oS (S.fn [_,_] rfl hJ ?_) rfl
     refine oS (S.callH (H1:=H) (F:=[]) [_] rfl (by rw[List.append_nil]) (string_spec b8 _ H hB2 zo) (fun y H4 h=>?_) (by rintro ch H4 ⟨h,_⟩;cases h)) rfl
     obtain ⟨hy,rfl⟩:=h
     cases hy
     refine gab ?_
     exact retRet (hj4.trans hds) (zra rfl) (bool_eq (decide_eq_true rfl))
end
end Go.Proofs.YtocofhbdbgnmbaaGreatDoor
