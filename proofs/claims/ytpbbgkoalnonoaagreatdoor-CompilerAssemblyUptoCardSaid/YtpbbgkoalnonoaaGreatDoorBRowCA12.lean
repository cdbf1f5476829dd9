/- Texts joined: RLex1, A23A, RC1, RC2, RC3, RC4, RC5, RC6, RC7. -/
import Derived.Lib.ItoaLen
import Derived.Test.YtpbbgkoalnonoaaGreatDoorBRowCA2
import Derived.Test.YtpbbgkoalnonoaaGreatDoorBRowCA3
import Derived.Test.YtpbbgkoalnonoaaGreatDoorBRowCA4
import Derived.Test.YtpbbgkoalnonoaaGreatDoorBRowCA5
import Derived.Test.YtpbbgkoalnonoaaGreatDoorBRowCA6
import Derived.Test.YtpbbgkoalnonoaaGreatDoorBRowCA9
import Derived.Test.YtpbbgkoalnonoaaGreatDoorBRowCA11
set_option linter.unusedVariables false
set_option linter.unusedSimpArgs false
set_option maxRecDepth 100000
set_option maxHeartbeats 4000000
namespace Go.Proofs.YtpbbgkoalnonoaaGreatDoor
open Go.GL Go.RowKit Go.Stele
attribute [local irreducible] LOps LCode LStep LCalls Go.GL.Pure QThen QBlock RetPost LQ LAny LLate LLateOp
section
variable {B0:Nat} {w0:World}
theorem wrap_u8 {n:Int} (h:0≤n∧n≤255):IntKind.u8.wrap n=n:=by
 simp only[IntKind.wrap,IntKind.bits,IntKind.signed,Bool.false_and]
 simp
 omega
theorem Decimal_spec:∀ (n:Nat),n≤4611686018427387904→LCalls (KC B0 w0) 121 [int .i64 n] [] (Ret (str (Go.Lib.decDigits n))):=by
 intro n
 induction n using Nat.strongRecOn with
 |_ n ih=>
  intro hn
  refine cI Tryz.func121 rfl (n:=20) rfl rfl rfl ?_
  refine gaa ?_
  refine oC rfl (fun hc=>?_) (fun hc=>?_)
  ·have hlt:n<10:=by have:=zt hc;omega
   refine gab ?_
   rw[wrap_u8 zo]
   refine oS (sL [_] rfl (zeC rfl rfl eN) rfl rfl rfl ?_) rfl
   refine oP (Pure.bytesStr (l:=[UInt8.ofNat (48+n)]) (by
    have h:((UInt8.ofNat (48+n)).toNat:Int)=48+(n:Int):=by
     rw[UInt8.toNat_ofNat']
     omega
    simp only[zMc,List.map_nil,h]
    rfl) (by simp)) rfl ?_
   refine gae ?_
   exact retRet rfl (zra rfl) (by
    rw[Go.Lib.decDigits,dif_pos hlt]
    rfl)
  ·have hge:¬ n<10:=by have:=zf hc;omega
   refine gad ?_
   have hq:((n:Int) / 10)=((n / 10:Nat):Int):=by omega
   have hm:((n:Int) % 10)=((n % 10:Nat):Int):=by omega
   have hbytes:some [int .u8 (IntKind.u8.wrap (48+(n:Int) % 10))]=some ([UInt8.ofNat (48+n % 10)].map fun b=>int .u8 b.toNat):=by
    have h:((UInt8.ofNat (48+n % 10)).toNat:Int)=48+((n % 10:Nat):Int):=by
     rw[UInt8.toNat_ofNat']
     omega
    simp only[zMc,List.map_nil,h,hm]
    rw[wrap_u8 zo]
   have hrec:LCalls (KC B0 w0) 121 [int .i64 ((n:Int) / 10)] [] (Ret (str (Go.Lib.decDigits (n / 10)))):=by
    rw[hq]
    exact ih (n / 10) zo zo
   have hlen:(Go.Lib.decDigits (n / 10)).length+[UInt8.ofNat (48+n % 10)].length≤9223372036854775807:=by
    rw[Go.Lib.decDigits_length]
    have:=Go.Lib.nDigits_le20 (n / 10) zo
    simp
    omega
   have hres:Go.Lib.decDigits n=Go.Lib.decDigits (n / 10)++[UInt8.ofNat (48+n % 10)]:=by rw[Go.Lib.decDigits,dif_neg hge]
   refine LCode.draw (m:=11) rfl [] ?_
   refine aT 0 rfl rfl (pM (lv:=.atom _) rfl) ?_
   refine LAny.take (i:=1) zhn rfl zk zk zk rfl (Pure.quo rfl rfl zDd zo zo) ?_
   refine aT 3 rfl rfl (pM (lv:=.atom _) rfl) ?_
   refine LAny.take (i:=4) zhn rfl zk zk zk rfl (Pure.rem rfl rfl zDd zo) ?_
   refine aT 5 rfl rfl (Pure.add rfl rfl zo) ?_
   refine aT 6 rfl rfl (Pure.cvt rfl) ?_
   refine LAny.late ?_ zhn
   refine LLate.two (i:=2) (j:=7) zk ?_ ?_
   ·refine (lS (i:=2) (H1:=[]) (F:=[]) rfl (.inl rfl) rfl zpr zhn (sF [_] rfl hrec ?_))
    refine zl1 zk (lS (i:=7) (H1:=[]) (F:=[]) rfl (.inl rfl) rfl zpr zhn (sL [_] rfl (zeC rfl rfl eN) rfl rfl rfl ?_))
    refine zl1 zk (lS (i:=8) (H1:=[]) (F:=[]) rfl (.inl rfl) rfl zpr zhn (Pure.step (Pure.bytesStr (l:=[UInt8.ofNat (48+n % 10)]) hbytes (by simp)) ?_))
    refine zl1 zk (lS (i:=9) (H1:=[]) (F:=[]) rfl (.inl rfl) rfl zpr zhn (Pure.step (Pure.sadd (l:=Go.Lib.decDigits (n / 10)) (m:=[UInt8.ofNat (48+n % 10)]) rfl rfl hlen) ?_))
    refine zl1 zk (lS (i:=10) (H1:=[]) (F:=[]) rfl (.inl rfl) rfl zpr zhn (Pure.step (pA (lv:=.atom _) rfl) ?_))
    refine lD zk ?_
    refine gae ?_
    exact retRet rfl (zra rfl) (by rw[hres];rfl)
   ·refine (lS (i:=7) (H1:=[]) (F:=[]) rfl (.inl rfl) rfl zpr zhn (sL [_] rfl (zeC rfl rfl eN) rfl rfl rfl ?_))
    refine LLate.two (i:=2) (j:=8) zk ?_ ?_
    ·refine (lS (i:=2) (H1:=[]) (F:=[]) rfl (.inl rfl) rfl zpr zhn (sF [_] rfl hrec ?_))
     refine zl1 zk (lS (i:=8) (H1:=[]) (F:=[]) rfl (.inl rfl) rfl zpr zhn (Pure.step (Pure.bytesStr (l:=[UInt8.ofNat (48+n % 10)]) hbytes (by simp)) ?_))
     refine zl1 zk (lS (i:=9) (H1:=[]) (F:=[]) rfl (.inl rfl) rfl zpr zhn (Pure.step (Pure.sadd (l:=Go.Lib.decDigits (n / 10)) (m:=[UInt8.ofNat (48+n % 10)]) rfl rfl hlen) ?_))
     refine zl1 zk (lS (i:=10) (H1:=[]) (F:=[]) rfl (.inl rfl) rfl zpr zhn (Pure.step (pA (lv:=.atom _) rfl) ?_))
     refine lD zk ?_
     refine gae ?_
     exact retRet rfl (zra rfl) (by rw[hres];rfl)
    ·refine (lS (i:=8) (H1:=[]) (F:=[]) rfl (.inl rfl) rfl zpr zhn (Pure.step (Pure.bytesStr (l:=[UInt8.ofNat (48+n % 10)]) hbytes (by simp)) ?_))
     refine zl1 zk (lS (i:=2) (H1:=[]) (F:=[]) rfl (.inl rfl) rfl zpr zhn (sF [_] rfl hrec ?_))
     refine zl1 zk (lS (i:=9) (H1:=[]) (F:=[]) rfl (.inl rfl) rfl zpr zhn (Pure.step (Pure.sadd (l:=Go.Lib.decDigits (n / 10)) (m:=[UInt8.ofNat (48+n % 10)]) rfl rfl hlen) ?_))
     refine zl1 zk (lS (i:=10) (H1:=[]) (F:=[]) rfl (.inl rfl) rfl zpr zhn (Pure.step (pA (lv:=.atom _) rfl) ?_))
     refine lD zk ?_
     refine gae ?_
     exact retRet rfl (zra rfl) (by rw[hres];rfl)
end
end Go.Proofs.YtpbbgkoalnonoaaGreatDoor
namespace Go.Proofs.YtpbbgkoalnonoaaGreatDoor.R23
open Go.GL Go.RowKit Go.Stele
open Go.Lib (decDigits itoa join)
theorem jt_len:∀ r:List Wd,(Go.Lib.joinTail [32] r).length=tot r
 |[]=>rfl
 |y::r=>by
  have:=jt_len r
  unfold Go.Lib.joinTail at this ⊢
  unfold tot at this ⊢
  rw[zMc,List.flatten_cons,zLa,this,zMc,List.sum_cons]
  simp
theorem join_tot (ws:List Wd):(join ws [32]).length≤tot ws:=by
 cases ws with
 |nil=>exact Nat.zero_le _
 |cons x r=>
  rw[Go.Lib.join_cons,zLa,jt_len]
  unfold tot
  rw[zMc,List.sum_cons]
  omega
theorem join_ne {ws:List Wd} (h:ws≠[]) (hw:∀ x∈ws,x≠[]):join ws [32]≠[]:=by
 cases ws with
 |nil=>exact absurd rfl h
 |cons x r=>
  rw[Go.Lib.join_cons]
  have:=hw x zMs
  intro e
  exact this (List.append_eq_nil_iff.1 e).1
theorem tot_app (a b:List Wd):tot (a++b)=tot a+tot b:=by
 unfold tot
 rw[zMa,List.sum_append]
def tLV (ws:List Wd) (n:Nat):LV:=.agg [str (join ws [32]),int .i64 (n:Nat)]
attribute [local irreducible] LOps LCode LStep LCalls Go.GL.Pure QThen QBlock RetPost LQ LAny LLate LLateOp
section
variable {B0:Nat} {w0:World}
theorem put_spec (ws l:List Wd) (n:Nat) (hw:∀ x∈ws,x≠[]) (hl:∀ x∈l,x≠[]) (hT:tot (ws++l)≤1000000000000) :
  LCalls (KC B0 w0) 61 [tLV ws n,.list (l.map str)] [] (Ret (tLV (ws++l) n)):=by
 have hla:(l.map str).length=l.length:=zLm _
 have hll:l.length≤1000000000000:=by
  have h1:=tot_app ws l
  have h2:l.length≤tot l:=by
   clear hT h1 hl hla
   induction l with
   |nil=>exact Nat.zero_le _
   |cons a r ih=>
    unfold tot at ih ⊢
    rw[zMc,List.sum_cons,zLc]
    omega
  omega
 unfold tLV
 refine cI Tryz.func61 rfl (n:=28) rfl rfl rfl ?_
 refine gaf ?_
 refine oS (S.box rfl fun b2=>?_) rfl
 refine oS (sA fun b4=>?_) rfl
 refine gaa ?_
 refine oL (fun kk ls H'=>∃ i:Nat,i≤l.length∧kk=l.length-i∧ls=[(1,.list (l.map str)),(2,ptr b2 0),(4,ptr b4 0),(5,int .i64 (i:Nat))]∧H'=[(b2,.cells 142 [str (join (ws++l.take i) [32]),int .i64 (n:Nat)]),(b4,.cells 142 [str [],int .i64 0])])
  ⟨_,_,_,⟨0,Nat.zero_le _,rfl,rfl,by rw[List.take_zero,zLz]⟩,⟨rfl,rfl,rfl,rfl,trivial⟩,⟨[],by simpa using List.Perm.swap _ _ _⟩⟩ ?_
 rintro kk ls H' ⟨i,hi,rfl,rfl,rfl⟩ j hj
 have hW:∀ x∈ws++l.take i,x≠[]:=fun x hx=>by
  rcases List.mem_append.1 hx with h|h
  ·exact hw x h
  ·exact hl x (List.mem_of_mem_take h)
 have hJ:=join_tot (ws++l.take i)
 have hTi:tot (ws++l.take i)≤1000000000000:=by
  have h1:=tot_app ws l
  have h2:=tot_app ws (l.take i)
  have h3:=Asm.tot_take l i
  omega
 refine gaa ?_
 refine oC rfl (fun hc=>?_) (fun hc=>?_)
 rotate_left
 ·have hi':i=l.length:=by have:=zf hc;omega
  subst hi'
  rw[List.take_length]
  refine gab ?_
  exact retRet hj (rC (rA rfl zm0 rfl zsr) rN) rfl
 have hlt:i<l.length:=by have:=zt hc;omega
 have hmi:=map_get str l i hlt
 have hli:l[i].length≤1000000000000:=by
  have h1:=tot_mem (List.mem_append_right ws (List.getElem_mem hlt))
  omega
 have hnx:ws++l.take (i+1)=(ws++l.take i)++[l[i]]:=by rw[List.take_succ_eq_append_getElem hlt,zAs]
 rw[show (l.take (i+1))=l.take i++[l[i]] from List.take_succ_eq_append_getElem hlt] at hnx
 generalize hgw:l[i]=w at hmi hli hnx
 have hsn:=join_snoc1 (ws++l.take i) w
 have hone:join ([]++[w]) [32]=w:=Go.Lib.join_one w [32]
 have htk:l.take (i+1)=l.take i++[w]:=by rw[List.take_succ_eq_append_getElem hlt,hgw]
 have hne:=@join_ne (ws++l.take i)
 rw[show ws++(l.take i++[w])=ws++l.take i++[w] from (zAs ..).symm] at hnx
 refine gab ?_
 have hfin:∀ t:Wd,t++w=join (ws++l.take (i+1)) [32]→t.length≤1000000000001→True:=fun _ _ _=>trivial
 refine LCode.midC (A:=Wd) (fun _=>[(1,.list (l.map str)),(2,ptr b2 0),(4,ptr b4 0),(5,int .i64 (i:Nat))]) (fun t=>[(b2,.cells 142 [str t,int .i64 (n:Nat)]),(b4,.cells 142 [str [],int .i64 0])]) (fun t=>t++w=join (ws++l.take (i+1)) [32]∧t.length≤1000000000001) ?_ ?_
 ·refine oC rfl (fun h=>?_) (fun h=>?_)
  ·have h1:join (ws++l.take i) [32]≠[]:=by simpa using h
   have h2:ws++l.take i≠[]:=fun e=>h1 (by rw[e];rfl)
   refine gab ?_
   exact ⟨join (ws++l.take i) [32]++[32],⟨by rw[htk,←zAs ws,hsn h2],by rw[zLa];simp;omega⟩,⟨rfl,rfl,rfl,rfl,trivial⟩,zhR _,rfl⟩
  ·have h1:join (ws++l.take i) [32]=[]:=by simpa using h
   have h2:ws++l.take i=[]:=Decidable.byContradiction fun e=>hne e hW h1
   refine gar ?_
   exact ⟨join (ws++l.take i) [32],⟨by rw[htk,←zAs ws,h2,hone];rfl,by omega⟩,⟨rfl,rfl,rfl,rfl,trivial⟩,zhR _,rfl⟩
 rintro t ⟨ht,htl⟩ j2 hj2
 refine LCode.tail 8 zk ?_
 refine gac ?_
 refine LS.pure (xR (el':=str w) (cs:=[_]) rfl rfl zo hmi rfl rfl) rfl ?_
 refine gab ?_
 exact ⟨_,_,_,by omega,⟨i+1,by omega,rfl,rfl,by rw[←ht]⟩,⟨rfl,rfl,rfl,int_eq zo,trivial⟩,zhR _,hj2.trans hj⟩
theorem num23_spec (n:Nat) (h:n≤4611686018427387904):LCalls (KC B0 w0) 62 [int .i64 (n:Nat)] [] (Ret (str (decDigits n))):=by
 have hD:=Decimal_spec (B0:=B0) (w0:=w0) n h
 refine cI Tryz.func62 rfl (n:=5) rfl rfl rfl ?_
 refine gaa ?_
 refine oS (sF [_] rfl hD ?_) rfl
 refine gae ?_
 exact retRet rfl (zra rfl) rfl
theorem label23_spec (ws:List Wd) (n:Nat) (h:n≤1000000000000):LCalls (KC B0 w0) 183 [tLV ws n] [] (Ret (.tuple [tLV ws (n+1),str (labW n)])):=by
 have hD:=num23_spec (B0:=B0) (w0:=w0) n zo
 have hd:(decDigits n).length≤20:=by
  rw[Go.Lib.decDigits_length]
  exact Go.Lib.nDigits_le20 n zo
 unfold tLV
 refine cI Tryz.func183 rfl (n:=15) rfl rfl rfl ?_
 refine gaf ?_
 refine oS (S.box rfl fun b1=>?_) rfl
 refine oS (sA fun b2=>?_) rfl
 refine gab ?_
 refine oS (sF [_] rfl hD ?_) rfl
 refine gab ?_
 exact retRet rfl (rC (rA rfl zm0 rfl zsr) (zra rfl)) rfl
end
end Go.Proofs.YtpbbgkoalnonoaaGreatDoor.R23
namespace Go.Proofs.YtpbbgkoalnonoaaGreatDoor.RC
open Go.GL Go.RowKit Go.Stele
theorem get_mid {A B:Type} (g:A→B) (pre:List A) (a:A) (l:List A):((pre++a::l).map g)[((pre.length:Nat):Int).toNat]? = some (g a):=by
 rw[Int.toNat_natCast,List.getElem?_map,List.getElem?_append_right (zNr _),Nat.sub_self]
 rfl
theorem more {A B:Type} {g:A→B} {L pre l1:List A} (hL:L=pre++l1) (h:decide ((pre.length:Int)<((L.map g).length:Int))=true):∃ a l2,l1=a::l2:=by
 have:=zt h
 rw[zLm,hL,zLa] at this
 cases l1 with
 |nil=>simp at this
 |cons a l2=>exact ⟨a,l2,rfl⟩
theorem none_left {A B:Type} {g:A→B} {L pre l1:List A} (hL:L=pre++l1) (h:decide ((pre.length:Int)<((L.map g).length:Int))=false):l1=[]:=by
 have:=zf h
 rw[zLm,hL,zLa] at this
 cases l1 with
 |nil=>rfl
 |cons a l2=>simp at this;omega
theorem pre_le {A:Type} {L pre l1:List A} {n:Nat} (hL:L=pre++l1) (h:L.length≤n):pre.length≤n:=by
 rw[hL,zLa] at h
 omega
theorem snoc {A:Type} {L pre l2:List A} {a:A} (hL:L=pre++a::l2):L=(pre++[a])++l2:=by rw[hL];simp
def kwL:List Nm:=[[97,114,114,97,121],[101,108,115,101],[102,117,110,99],[104,97,108,116],[105,102],[105,110],[111,117,116],[114,101,116,117,114,110],[118,97,114],[119,104,105,108,101]]
theorem kwL_eq (s:Nm):s∈kwL ↔ s∈noName:=by
 have h1:∀ x∈kwL,x∈noName:=by decide +kernel
 have h2:∀ x∈noName,x∈kwL:=by decide +kernel
 exact ⟨h1 s,h2 s⟩
def b01 (b:Bool):Int:=if b=true then 1 else 0
theorem nm_kw {s:Nm} (h:s∈kwL):isNm s=false:=by
 have h1:noName.contains s=true:=List.elem_eq_true_of_mem ((kwL_eq s).1 h)
 unfold isNm
 rw[h1]
 simp
theorem nm_bad {s:Nm} (h:s=[]∨24<s.length):isNm s=false:=by
 unfold isNm
 rcases h with rfl|h
 ·simp
 ·rw[decide_eq_false zo];rfl
theorem nm_eq {c:UInt8} {r:List UInt8} (h0:(c::r) ∉ kwL) (h1:(c::r).length≤24):isNm (c::r)=(isLetter c && r.all isInner):=by
 have h2:noName.contains (c::r)=false:=by
  rw[Bool.eq_false_iff]
  intro h
  exact h0 ((kwL_eq _).2 (List.contains_iff_mem.1 h))
 unfold isNm
 rw[decide_eq_true h1,h2]
 rfl
theorem mem_snoc {A:Type} {s x:A} {pre:List A} (h:s ∉ pre) (hx:¬ s=x):s ∉ pre++[x]:=fun hm=>by
 rcases List.mem_append.1 hm with h1|h1
 ·exact h h1
 ·exact hx (List.mem_singleton.1 h1)
theorem freshE_congr:∀ (l k k':List Nm),(∀ x,x∈k ↔ x∈k')→freshE k l=freshE k' l
 |[],k,k',_=>rfl
 |s::l,k,k',h=>by
  rw[freshE,freshE]
  split
  ·rfl
  ·by_cases h1:s∈k
   ·rw[if_pos h1,if_pos ((h s).1 h1)]
   ·rw[if_neg h1,if_neg fun h2=>h1 ((h s).2 h2)]
    exact freshE_congr l _ _ fun x=>by simp only[zMi,h x]
theorem mem_shift {A:Type} {x a:A} {k p:List A}:x∈a::(k++p) ↔ x∈k++(p++[a]):=by
 rw[←zAs,zMi,List.mem_append (t:=[a]),List.mem_singleton,or_comm]
def PostF (known l:List Nm) (r:LRes) (H:Heap):Prop:=H=[]∧∃ nm,(freshE known l=0→r=.ret (.tuple [.list ((known++l).map str),.agg [str nm,int .i64 0]]))∧(freshE known l≠0→r=.ret (.tuple [.list [],.agg [str nm,int .i64 (freshE known l)]]))
attribute [local irreducible] LOps LCode LStep LCalls Go.GL.Pure QThen QBlock RetPost LQ LAny LLate LLateOp LS
section
variable {B0:Nat} {w0:World}
theorem has_spec (l:List Nm) (s:Nm) (hl:l.length≤1000000000):LCalls (KC B0 w0) 82 [.list (l.map str),str s] [] (Ret (bool (decide (s∈l)))):=by
 refine cI Tryz.func82 rfl (n:=17) rfl rfl rfl ?_
 refine gaa ?_
 refine oL (fun k ls H'=>∃ pre l1,l=pre++l1∧k=l1.length∧ls=[(1,str s),(7,.list (l.map str)),(8,int .i64 ((l.map str).length:Int)),(9,int .i64 (pre.length:Int))]∧H'=[]∧s ∉ pre)
  ⟨_,_,_,⟨[],l,rfl,rfl,rfl,rfl,List.not_mem_nil⟩,⟨rfl,rfl,rfl,rfl,trivial⟩,zhR _⟩ ?_
 rintro k ls H' ⟨pre,l1,hL,rfl,rfl,rfl,hn⟩ j hj
 have hb:=pre_le hL hl
 refine gah ?_
 refine oC rfl (fun hc=>?_) (fun hc=>?_)
 ·obtain ⟨a,l2,rfl⟩:=more hL hc
  refine gak ?_
  refine oP (xR (el':=str a) (cs:=[_]) rfl rfl zo (by rw[hL];exact get_mid str pre a l2) rfl rfl) rfl ?_
  refine gab ?_
  refine oC rfl (fun hd=>?_) (fun hd=>?_)
  ·have he:a=s:=zt hd
   refine gaa ?_
   exact retRet hj (zra rfl) (bool_eq (decide_eq_true (by rw[hL,he];simp)).symm)
  ·have he:¬ a=s:=zf hd
   refine gaa ?_
   exact ⟨l2.length,_,_,Nat.lt_succ_self _,⟨pre++[a],l2,snoc hL,rfl,rfl,rfl,mem_snoc hn fun h=>he h.symm⟩,⟨rfl,rfl,rfl,int_eq (by simp),trivial⟩,zhR _,hj⟩
 ·obtain rfl:=none_left hL hc
  refine gaa ?_
  exact retRet hj (zra rfl) (bool_eq (decide_eq_false (by rw[hL,zLz];exact hn)).symm)
theorem Name_spec (s:Nm):LCalls (KC B0 w0) 81 [str s] [] (Ret (int .i64 (b01 (isNm s)))):=by
 refine cI Tryz.func81 rfl (n:=68) rfl rfl rfl ?_
 refine gai ?_
 refine oS (sL (es:=kwL.map str) [_,_,_,_,_,_,_,_,_,_] rfl (by
  intro v hv
  obtain ⟨x,_,rfl⟩:=List.mem_map.1 hv
  exact ⟨rfl,rfl⟩) rfl rfl rfl ?_) rfl
 refine gad ?_
 refine oL (fun k ls H'=>∃ pre l1,kwL=pre++l1∧k=l1.length∧ls=[(0,str s),(6,.list (kwL.map str)),(7,int .i64 ((kwL.map str).length:Int)),(8,int .i64 (pre.length:Int))]∧H'=[]∧s ∉ pre)
  ⟨_,_,_,⟨[],kwL,rfl,rfl,rfl,rfl,List.not_mem_nil⟩,⟨rfl,rfl,rfl,rfl,trivial⟩,zhR _⟩ ?_
 rintro k ls H' ⟨pre,l1,hL,rfl,rfl,rfl,hn⟩ j hj
 have hb:=pre_le hL (show kwL.length≤10 by decide)
 have retF:∀ (h:isNm s=false) {e:Env} {C:Ctx} {n:Nat},e.ds=[]→e.s 2=int .i64 0→RetPost C n [ResultVar.tmp 2] (Ret (int .i64 (b01 (isNm s)))) .ret e []:=fun h {e C n} hd he=>by
  rw[h]
  exact retRet hd (rC (rT he zsr) rN) rfl
 refine gah ?_
 refine oC rfl (fun hc=>?_) (fun hc=>?_)
 ·obtain ⟨a,l2,rfl⟩:=more hL hc
  refine gak ?_
  refine oP (xR (el':=str a) (cs:=[_]) rfl rfl zo (by rw[hL];exact get_mid str pre a l2) rfl rfl) rfl ?_
  refine gab ?_
  refine oC rfl (fun hd=>?_) (fun hd=>?_)
  ·have he:s=a:=zt hd
   refine gaa ?_
   exact retF (nm_kw (by rw[hL,he];simp)) hj rfl
  ·have he:¬ s=a:=zf hd
   refine gaa ?_
   exact ⟨l2.length,_,_,Nat.lt_succ_self _,⟨pre++[a],l2,snoc hL,rfl,rfl,rfl,mem_snoc hn he⟩,⟨rfl,rfl,rfl,int_eq (by simp),trivial⟩,zhR _,hj⟩
 obtain rfl:=none_left hL hc
 rw[zLz] at hL
 rw[←hL] at hn
 clear hL hb hc
 refine gab ?_
 refine oB 19 rfl (fun h1=>?_) (fun h1=>?_)
 ·have h0:s=[]:=by
   have:=zt h1
   exact List.length_eq_zero_iff.1 zo
  refine gad ?_
  refine oC rfl (fun _=>?_) (fun hc=>by cases hc)
  refine gao ?_
  exact retF (nm_bad (.inl h0)) hj rfl
 obtain ⟨c,r,rfl⟩:∃ c r,s=c::r:=by
  cases s with
  |nil=>exact absurd rfl (zf h1)
  |cons c r=>exact ⟨c,r,rfl⟩
 refine gac ?_
 refine oB 24 rfl (fun h2=>?_) (fun h2=>?_)
 ·have:=zt h2
  refine gad ?_
  refine oC rfl (fun _=>?_) (fun hc=>by cases hc)
  refine gao ?_
  exact retF (nm_bad (.inr zo)) hj rfl
 have hl:(c::r).length≤24:=by
  have:=zf h2
  omega
 have heq:=nm_eq hn hl
 have hcvc:cv c=(c.toNat:Int):=rfl
 refine gam ?_
 refine oP (Pure.sindex (c:=c) rfl rfl zo rfl) rfl ?_
 refine gad ?_
 refine oB 29 rfl (fun h3=>?_) (fun h3=>?_)
 ·have h4:isLetter c=false:=by
   have:=zt h3
   unfold isLetter
   rw[decide_eq_false zo,Bool.false_and]
  refine gad ?_
  refine oC rfl (fun _=>?_) (fun hc=>by cases hc)
  refine gao ?_
  exact retF (by rw[heq,h4,Bool.false_and]) hj rfl
 refine gam ?_
 refine oP (Pure.sindex (c:=c) rfl rfl zo rfl) rfl ?_
 refine gac ?_
 refine oC rfl (fun h5=>?_) (fun h5=>?_)
 ·have h4:isLetter c=false:=by
   have:=zt h5
   unfold isLetter
   rw[Bool.and_eq_false_iff]
   exact .inr (decide_eq_false zo)
  refine gao ?_
  exact retF (by rw[heq,h4,Bool.false_and]) hj rfl
 have h4:isLetter c=true:=by
  have g1:=zf h3
  have g2:=zf h5
  unfold isLetter
  rw[decide_eq_true zo,decide_eq_true zo]
  rfl
 rw[h4,Bool.true_and] at heq
 refine gaa ?_
 refine oL (fun k ls H'=>∃ pre l1,c::r=pre++l1∧1≤pre.length∧k=l1.length∧ls=[(0,str (c::r)),(5,int .i64 (pre.length:Int))]∧H'=[]∧isNm (c::r)=l1.all isInner)
  ⟨_,_,_,⟨[c],r,rfl,zNr _,rfl,rfl,rfl,heq⟩,⟨rfl,rfl,trivial⟩,zhR _⟩ ?_
 rintro k ls H' ⟨pre,l1,hL,hp1,rfl,rfl,rfl,hI⟩ j2 hj2
 have hb:=pre_le hL hl
 refine gab ?_
 refine oC rfl (fun hc=>?_) (fun hc=>?_)
 rotate_left
 ·have hlen:=zf hc
  rw[hL,zLa] at hlen
  obtain rfl:l1=[]:=by
   cases l1 with
   |nil=>rfl
   |cons a l2=>simp at hlen;omega
  refine gaa ?_
  exact retRet (hj2.trans hj) (zra rfl) (by rw[hI];rfl)
 have hlen:=zt hc
 rw[hL,zLa] at hlen
 obtain ⟨a,l2,rfl⟩:∃ a l2,l1=a::l2:=by
  cases l1 with
  |nil=>simp at hlen
  |cons a l2=>exact ⟨a,l2,rfl⟩
 have hget:(c::r)[((pre.length:Nat):Int).toNat]? = some a:=by
  rw[Int.toNat_natCast,hL,List.getElem?_append_right (zNr _),Nat.sub_self]
  rfl
 have hcva:cv a=(a.toNat:Int):=rfl
 have nl:∀ {b1 b2 b3:Bool},isLetter a=false→b1=decide (48≤cv a)→b2=decide (cv a≤57)→b3=decide (cv a=95)→isInner a=((b1 && b2) || b3):=fun h h1 h2 h3=>by
  unfold isInner
  rw[h,h1,h2,h3]
  first|rfl|simp[isDigit]
 refine gaa ?_
 refine LOps.cut [(0,str (c::r)),(5,int .i64 (pre.length:Int)),(67,bool (!isInner a))] ?_ (fun j3 hj3=>?_)
 ·refine oP (Pure.sindex (c:=a) rfl rfl zo hget) rfl ?_
  refine gad ?_
  refine oB 44 rfl (fun h6=>?_) (fun h6=>?_)
  ·have hlet:isLetter a=false:=by have:=zt h6;unfold isLetter;rw[decide_eq_false zo];rfl
   refine gad ?_
   refine oP (Pure.sindex (c:=a) rfl rfl zo hget) rfl ?_
   refine gad ?_
   refine oB 55 rfl (fun h8=>?_) (fun h8=>?_)
   ·exact zT57
   have g8:=zf h8
   refine gam ?_
   refine oP (Pure.sindex (c:=a) rfl rfl zo hget) rfl ?_
   refine gac ?_
   refine oB 62 rfl (fun h9=>?_) (fun h9=>?_)
   ·exact zT58
   ·exact zT62
  have g6:=zf h6
  refine gam ?_
  refine oP (Pure.sindex (c:=a) rfl rfl zo hget) rfl ?_
  refine gac ?_
  refine oB 50 rfl (fun h7=>?_) (fun h7=>?_)
  ·have hlet:isLetter a=false:=by have:=zt h7;unfold isLetter;rw[decide_eq_false (show ¬ cv a≤122 by omega),Bool.and_false]
   refine gam ?_
   refine oP (Pure.sindex (c:=a) rfl rfl zo hget) rfl ?_
   refine gad ?_
   refine oB 55 rfl (fun h8=>?_) (fun h8=>?_)
   ·exact zT57
   have g8:=zf h8
   refine gam ?_
   refine oP (Pure.sindex (c:=a) rfl rfl zo hget) rfl ?_
   refine gac ?_
   refine oB 62 rfl (fun h9=>?_) (fun h9=>?_)
   ·exact zT58
   ·exact zT62
  have g7:=zf h7
  have hlet:isLetter a=true:=by unfold isLetter;rw[decide_eq_true (show 97≤cv a by omega),decide_eq_true (show cv a≤122 by omega)];rfl
  refine gac ?_
  exact ⟨⟨rfl,rfl,bool_eq (by unfold isInner;rw[hlet];rfl),trivial⟩,rfl,rfl⟩
 refine oC rfl (fun h10=>?_) (fun h10=>?_)
 ·have hin:isInner a=false:=by simpa using h10
  refine gaa ?_
  exact retF (by rw[hI,List.all_cons,hin,Bool.false_and]) (hj3.trans (hj2.trans hj)) rfl
 ·have hin:isInner a=true:=by simpa using h10
  refine gaa ?_
  exact ⟨l2.length,_,_,Nat.lt_succ_self _,⟨pre++[a],l2,snoc hL,by simp,rfl,rfl,rfl,by rw[hI,List.all_cons,hin,Bool.true_and]⟩,⟨rfl,int_eq (by simp),trivial⟩,zhR _,hj3.trans hj2⟩
theorem fresh_spec (known l:List Nm) (hk:known.length≤100000000) (hl:l.length≤100000000):LCalls (KC B0 w0) 35 [.list (known.map str),.list (l.map str)] [] (PostF known l):=by
 refine cI Tryz.func35 rfl (n:=33) rfl rfl rfl ?_
 refine gai ?_
 refine oS (sA fun b5=>?_) rfl
 refine gaa ?_
 refine oL (fun k ls H'=>∃ pre l1,l=pre++l1∧k=l1.length∧ls=[(0,.list ((known++pre).map str)),(5,ptr b5 0),(8,.list (l.map str)),(9,int .i64 ((l.map str).length:Int)),(10,int .i64 (pre.length:Int))]∧H'=[(b5,.cells 79 [str [],int .i64 0])]∧freshE known l=freshE (known++pre) l1)
  ⟨_,_,_,⟨[],l,rfl,rfl,rfl,rfl,by rw[zLz]⟩,⟨by rw[zLz];rfl,rfl,rfl,rfl,rfl,trivial⟩,zhR _⟩ ?_
 rintro k ls H' ⟨pre,l1,hL,rfl,rfl,rfl,hI⟩ j hj
 have hb:=pre_le hL hl
 refine gah ?_
 refine oC rfl (fun hc=>?_) (fun hc=>?_)
 rotate_left
 ·obtain rfl:=none_left hL hc
  rw[zLz] at hL
  subst hL
  refine gab ?_
  refine rR hj (rC (rT (v:=.list ((known++l).map str)) rfl zsr) (rC (rA (k:=2) rfl zm0 rfl zsr) rN)) zhn ⟨rfl,[],fun _=>rfl,fun h=>absurd (hI.trans rfl) h⟩
 obtain ⟨a,l2,rfl⟩:=more hL hc
 rw[freshE] at hI
 refine gak ?_
 refine oP (xR (el':=str a) (cs:=[_]) rfl rfl zo (by rw[hL];exact get_mid str pre a l2) rfl rfl) rfl ?_
 refine gab ?_
 refine oS (sF [_] rfl (Name_spec a) ?_) rfl
 refine gad ?_
 refine oC rfl (fun h1=>?_) (fun h1=>?_)
 ·have hn:isNm a=false:=by
   cases h:isNm a with
   |false=>rfl
   |true=>rw[h] at h1;cases h1
  rw[if_pos hn] at hI
  refine gab ?_
  refine rR hj (rC (rT (v:=nilSlice) rfl LV.Sub.nil) (rC (rA (k:=2) rfl zm0 rfl zsr) rN)) zhn ⟨rfl,a,fun h=>(by rw[hI] at h;cases h),fun _=>by rw[hI];rfl⟩
 have hn:isNm a=true:=by
  cases h:isNm a with
  |true=>rfl
  |false=>rw[h] at h1;cases h1
 rw[if_neg (by rw[hn];decide)] at hI
 refine gaa ?_
 refine oS (sF [_,_] rfl (has_spec (known++pre) a (by rw[zLa];omega)) ?_) rfl
 refine gae ?_
 refine oC rfl (fun h2=>?_) (fun h2=>?_)
 ·have hm:a∈known++pre:=zt h2
  rw[if_pos hm] at hI
  refine gab ?_
  refine rR hj (rC (rT (v:=nilSlice) rfl LV.Sub.nil) (rC (rA (k:=2) rfl zm0 rfl zsr) rN)) zhn ⟨rfl,a,fun h=>(by rw[hI] at h;cases h),fun _=>by rw[hI];rfl⟩
 have hm:a ∉ known++pre:=zf h2
 rw[if_neg hm] at hI
 refine gak ?_
 refine oS (S.litA (es:=[]) [] rfl eN rfl rfl rfl fun b6=>?_) rfl
 refine gad ?_
 refine oS (S.accF (A:=[_]) (H1:=[(b6,.row 0)]) zpr rfl Acc.row rfl (strs_len _) (strs_ok _) (by simp;omega) fun v2 H2 h2=>?_) rfl
 refine gav ?_
 refine oS (sL (es:=[a].map str) [_] rfl (zeC rfl rfl eN) rfl rfl rfl ?_) rfl
 refine oS (S.accF (A:=[_]) (H1:=H2) (zPc (l₁:=[_])) rfl h2 rfl (strs_len _) (strs_ok _) (by simp;omega) fun v3 H3 h3=>?_) rfl
 refine LOps.sub 29 rfl h3.sub ?_
 refine LOps.weak (H':=[(b5,.cells 79 [str [],int .i64 0])]) zhp ?_
 refine gab ?_
 exact ⟨l2.length,_,_,Nat.lt_succ_self _,⟨pre++[a],l2,snoc hL,rfl,rfl,rfl,by
  rw[hI]
  exact freshE_congr _ _ _ fun x=>mem_shift⟩,⟨(by show LV.list ([]++(known++pre).map str++[a].map str)=_;simp),rfl,rfl,rfl,int_eq (by simp),trivial⟩,zhR _,hj⟩
end
end Go.Proofs.YtpbbgkoalnonoaaGreatDoor.RC
namespace Go.Proofs.YtpbbgkoalnonoaaGreatDoor.RC
open Go.GL Go.RowKit Go.Stele
def scV (own:Nm) (c:CEnv) (fs:List FnD):LV:=.agg [str own,.list (c.own.map str),.list (c.vars.map str),.list (c.arrays.map str),.list (fs.map encFn),.list (c.later.map str)]
structure ScOk (c:CEnv) (fs:List FnD):Prop where
 fns:c.funcs.map (fun s=>(s.name,s.params))=fs.map (fun f=>(f.name,f.params.length))
 own:c.own.length≤1000000000
 vars:c.vars.length≤1000000000
 arrays:c.arrays.length≤1000000000
 later:c.later.length≤1000000000
 funs:fs.length≤1000000000
 pars:∀ f∈fs,f.params.length≤1000000000
def PostB (e:Int) (r:LRes) (H:Heap):Prop:=H=[]∧∃ nm,r=.ret (.agg [str nm,int .i64 e])
def FnIx (c:CEnv) (fs:List FnD) (name:Nm) (i:Int):Prop:=(∃ s pre f post,c.fn name=some s∧fs=pre++f::post∧i=(pre.length:Int)∧s.params=f.params.length)∨(c.fn name=none∧i = -1)
section
variable {C:Ctx} {n:Nat} {e:Env} {H:Heap} {dst:Option Nat} {ty:TypeId} {pos:String} {aft:Array Edge} {g:Option (Nat×Bool)} {K:LV→Heap→Prop} {X:List PanicEntry→Heap→Prop}
theorem S.pb {f:FuncId} [TEnter C.P f] (args:List Operand) {ats:Array TypeId} {avs:List LV} {er:Int} (has:args.map e.ev=avs) (hc:LCalls C f avs [] (PostB er)) (hk:∀ nm,K (.agg [str nm,int .i64 er]) H) :
  LStep C ⟨dst,.call { callee:=.value (.func f),args:=args.toArray,argTypes:=ats },ty,pos,aft,g⟩ e H K X:=
 S.callH (H1:=[]) args has zpr hc (by rintro v H' ⟨rfl,nm,h⟩;cases h;exact hk nm) (by rintro ch H' ⟨_,nm,h⟩;cases h)
theorem retB {rs:List ResultVar} {vs:List LV} {nm:Nm} {er:Int} (hd:e.ds=[]) (h:AllRes C n e H rs vs) (hv:resLV vs=.agg [str nm,int .i64 er]):RetPost C n rs (PostB er) .ret e H:=
 rR hd h zhn ⟨rfl,nm,by rw[hv]⟩
end
attribute [local irreducible] LOps LCode LStep LCalls Go.GL.Pure QThen QBlock RetPost LQ LAny LLate LLateOp LS
section
variable {B0:Nat} {w0:World}
theorem Binary_spec (op:Nm):LCalls (KC B0 w0) 213 [str op] [] (Ret (int .i64 (b01 (decide (op∈binOps))))):=by
 refine cI Tryz.func213 rfl (n:=6) rfl rfl rfl ?_
 refine gai ?_
 refine oS (sL (es:=binOps.map str) [_,_,_,_,_,_,_,_,_,_,_,_,_,_] rfl (by
  intro v hv
  obtain ⟨x,_,rfl⟩:=List.mem_map.1 hv
  exact ⟨rfl,rfl⟩) rfl rfl rfl ?_) rfl
 refine gav ?_
 refine oS (sF [_,_] rfl (has_spec binOps op zDd) ?_) rfl
 refine gae ?_
 refine oC rfl (fun hc=>?_) (fun hc=>?_)
 ·refine gao ?_
  exact retRet rfl (zra rfl) (by rw[show decide (op∈binOps)=true from hc];rfl)
 ·refine gaa ?_
  exact retRet rfl (zra rfl) (by rw[show decide (op∈binOps)=false from hc];rfl)
theorem shape_spec (x:Ex):LCalls (KC B0 w0) 141 [encE x] [] (Ret (bool (decide (opnds (exOp x) = -1∨opnds (exOp x)=((exArgs x).length:Int))))):=by
 obtain ⟨op,num,name,args⟩:=x
 have hlen:((args.map encE).length:Int)=(args.length:Int):=by rw[zLm]
 rw[encE_mk]
 show LCalls _ _ _ _ (Ret (bool (decide (opnds op = -1∨opnds op=(args.length:Int)))))
 generalize hI:decide (opnds op = -1∨opnds op=(args.length:Int))=R
 refine cI Tryz.func141 rfl (n:=32) rfl rfl rfl ?_
 refine gaf ?_
 refine oS (S.box rfl fun b1=>?_) rfl
 refine gaa ?_
 by_cases h1:op=[110,117,109]
 ·subst h1
  refine oC rfl (fun _=>?_) (fun hc=>by cases hc)
  refine gar ?_
  refine oC rfl (fun _=>?_) (fun hc=>by cases hc)
  refine gaa ?_
  exact retRet rfl (zra rfl) (bool_eq (by rw[←hI,hlen];exact decide_eq_decide.2 (by rw[show opnds [110,117,109]=0 from rfl];omega)))
 refine oC rfl (fun hc=>absurd (zt hc) h1) (fun _=>?_)
 refine gai ?_
 by_cases h2:op=[118,97,114]
 ·subst h2
  refine oC rfl (fun _=>?_) (fun hc=>by cases hc)
  refine gaa ?_
  exact retRet rfl (zra rfl) (bool_eq (by rw[←hI,hlen];exact decide_eq_decide.2 (by rw[show opnds [118,97,114]=0 from rfl];omega)))
 refine oC rfl (fun hc=>absurd (zt hc) h2) (fun _=>?_)
 refine gai ?_
 by_cases h3:op=[101,108,101,109]
 ·subst h3
  refine oC rfl (fun _=>?_) (fun hc=>by cases hc)
  refine gar ?_
  refine oC rfl (fun _=>?_) (fun hc=>by cases hc)
  refine gaa ?_
  exact retRet rfl (zra rfl) (bool_eq (by rw[←hI,hlen];exact decide_eq_decide.2 (by rw[show opnds [101,108,101,109]=1 from rfl];omega)))
 refine oC rfl (fun hc=>absurd (zt hc) h3) (fun _=>?_)
 refine gai ?_
 by_cases h4:op=[110,101,103]
 ·subst h4
  refine oC rfl (fun _=>?_) (fun hc=>by cases hc)
  refine gar ?_
  refine oC rfl (fun _=>?_) (fun hc=>by cases hc)
  refine gaa ?_
  exact retRet rfl (zra rfl) (bool_eq (by rw[←hI,hlen];exact decide_eq_decide.2 (by rw[show opnds [110,101,103]=1 from rfl];omega)))
 refine oC rfl (fun hc=>absurd (zt hc) h4) (fun _=>?_)
 refine gai ?_
 by_cases h5:op=[110,111,116]
 ·subst h5
  refine oC rfl (fun _=>?_) (fun hc=>by cases hc)
  refine gaa ?_
  exact retRet rfl (zra rfl) (bool_eq (by rw[←hI,hlen];exact decide_eq_decide.2 (by rw[show opnds [110,111,116]=1 from rfl];omega)))
 refine oC rfl (fun hc=>absurd (zt hc) h5) (fun _=>?_)
 refine gai ?_
 by_cases h6:op=[99,97,108,108]
 ·subst h6
  refine oC rfl (fun _=>?_) (fun hc=>by cases hc)
  refine gaa ?_
  exact retRet rfl (zra rfl) (bool_eq (by rw[←hI];exact (decide_eq_true (.inl rfl)).symm))
 refine oC rfl (fun hc=>absurd (zt hc) h6) (fun _=>?_)
 refine gaa ?_
 refine oS (sF [_] rfl (Binary_spec op) ?_) rfl
 have ho:opnds op=if op∈binOps then 2 else -2:=by
  unfold opnds
  rw[if_neg (fun h=>h.elim h1 h2),if_neg (fun h=>h.elim h3 (fun h=>h.elim h4 h5)),if_neg (show ¬ op=nCall from h6)]
 by_cases h7:op∈binOps
 ·rw[if_pos h7] at ho
  rw[decide_eq_true h7]
  refine gad ?_
  exact retRet rfl (zra rfl) (bool_eq (by rw[←hI,hlen];exact decide_eq_decide.2 (by rw[ho];omega)))
 ·rw[if_neg h7] at ho
  rw[decide_eq_false h7]
  refine gad ?_
  exact retRet rfl (zra rfl) (bool_eq (by rw[←hI];exact (decide_eq_false (by rw[ho];omega)).symm))
theorem fn_cons {c:CEnv} {name:Nm} {s:FSum} {l:List FSum}:(s::l).find? (fun f=>decide (f.name=name))=if s.name=name then some s else l.find? (fun f=>decide (f.name=name)):=by
 rw[List.find?_cons]
 by_cases h:s.name=name
 ·rw[decide_eq_true h,if_pos h]
 ·rw[decide_eq_false h,if_neg h]
theorem function_spec {own:Nm} {c:CEnv} {fs:List FnD} (h:ScOk c fs) (name:Nm):LCalls (KC B0 w0) 214 [scV own c fs,str name] [] (RetIf fun v=>∃ i,v=int .i64 i∧FnIx c fs name i):=by
 unfold scV
 refine cI Tryz.func214 rfl (n:=21) rfl rfl rfl ?_
 refine gaf ?_
 refine oS (S.box rfl fun b2=>?_) rfl
 refine gaa ?_
 refine oL (fun k ls H'=>∃ (pre l1:List FnD) (cl:List FSum),fs=pre++l1∧k=l1.length∧ls=[(1,str name),(8,.list (fs.map encFn)),(9,int .i64 ((fs.map encFn).length:Int)),(10,int .i64 (pre.length:Int))]∧H'=[]∧cl.map (fun s=>(s.name,s.params))=l1.map (fun f=>(f.name,f.params.length))∧c.fn name=cl.find? (fun f=>decide (f.name=name)))
  ⟨_,_,_,⟨[],fs,c.funcs,rfl,rfl,rfl,rfl,h.fns,rfl⟩,⟨rfl,rfl,rfl,rfl,trivial⟩,HSub.nil _⟩ ?_
 rintro k ls H' ⟨pre,l1,cl,hL,rfl,rfl,rfl,hcl,hI⟩ j hj
 have hb:=pre_le hL h.funs
 refine gah ?_
 refine oC rfl (fun hc=>?_) (fun hc=>?_)
 ·obtain ⟨a,l2,rfl⟩:=more hL hc
  obtain ⟨s,cl,rfl⟩:∃ s l,cl=s::l:=by
   cases cl with
   |nil=>simp at hcl
   |cons s l=>exact ⟨s,l,rfl⟩
  rw[zMc,zMc] at hcl
  injection hcl with hs hcl
  injection hs with hs1 hs2
  rw[fn_cons (c:=c)] at hI
  refine gaa ?_
  refine oP (xR (el':=encFn a) (cs:=[_,_,_,_]) rfl rfl zo (by rw[hL];exact get_mid encFn pre a l2) rfl rfl) rfl ?_
  refine gaq ?_
  refine oS (sA fun b6=>?_) rfl
  refine gab ?_
  refine oC rfl (fun hd=>?_) (fun hd=>?_)
  ·have he:a.name=name:=zt hd
   rw[if_pos (hs1.trans he)] at hI
   refine gaa ?_
   exact retRetIf hj (zra rfl) ⟨_,rfl,.inl ⟨s,pre,a,l2,hI,hL,rfl,hs2⟩⟩
  ·have he:¬ a.name=name:=zf hd
   rw[if_neg (fun g=>he (hs1.symm.trans g))] at hI
   refine gaa ?_
   exact ⟨l2.length,_,_,Nat.lt_succ_self _,⟨pre++[a],l2,cl,snoc hL,rfl,rfl,rfl,hcl,hI⟩,⟨rfl,rfl,rfl,int_eq (by simp),trivial⟩,HSub.nil _,hj⟩
 ·obtain rfl:=none_left hL hc
  have hcl0:cl=[]:=by
   cases cl with
   |nil=>rfl
   |cons s l=>simp at hcl
  subst hcl0
  refine gaa ?_
  exact retRetIf hj (zra rfl) ⟨_,rfl,.inr ⟨hI,rfl⟩⟩
theorem scalar_spec {own:Nm} {c:CEnv} {fs:List FnD} (h:ScOk c fs) (name:Nm):LCalls (KC B0 w0) 85 [scV own c fs,str name] [] (PostB (scalarE c name)):=by
 unfold scV
 generalize hI:scalarE c name=R
 unfold scalarE CEnv.globals at hI
 refine cI Tryz.func85 rfl (n:=30) rfl rfl rfl ?_
 refine gaf ?_
 refine oS (S.box rfl fun b2=>?_) rfl
 refine oS (sA fun b4=>?_) rfl
 refine gab ?_
 refine oS (sF [_,_] rfl (has_spec c.own name h.own) ?_) rfl
 refine gav ?_
 by_cases h1:name∈c.own
 ·rw[if_pos (.inr h1)] at hI
  refine oB 9 rfl (fun _=>?_) (fun g=>absurd h1 (zf g))
  refine gad ?_
  refine oC rfl (fun _=>?_) (fun hc=>by cases hc)
  refine gab ?_
  exact retB (nm:=[]) rfl (rC (rA rfl zm0 rfl zsr) rN) (by rw[←hI];rfl)
 refine oB 9 rfl (fun g=>absurd (zt g) h1) (fun _=>?_)
 refine gac ?_
 refine oS (sF [_,_] rfl (has_spec c.vars name h.vars) ?_) rfl
 refine gae ?_
 refine oC rfl (fun h2=>?_) (fun h2=>?_)
 ·rw[if_pos (.inl (zt h2))] at hI
  refine gab ?_
  exact retB (nm:=[]) rfl (rC (rA rfl zm0 rfl zsr) rN) (by rw[←hI];rfl)
 have h2':name ∉ c.vars:=zf h2
 rw[if_neg (fun g=>g.elim h2' h1)] at hI
 simp only[List.mem_append,h2',false_or] at hI
 refine gab ?_
 refine oS (sF [_,_] rfl (has_spec c.arrays name h.arrays) ?_) rfl
 refine gav ?_
 by_cases h3:name∈c.arrays
 ·rw[if_pos (.inl h3)] at hI
  refine oB 20 rfl (fun _=>?_) (fun g=>absurd h3 (zf g))
  refine gad ?_
  refine oC rfl (fun _=>?_) (fun hc=>by cases hc)
  refine gab ?_
  exact retB (nm:=name) rfl (rC (rA rfl zm0 rfl zsr) rN) (by rw[←hI];rfl)
 refine oB 20 rfl (fun g=>absurd (zt g) h3) (fun _=>?_)
 refine gac ?_
 refine oS (sF [_,_] rfl (has_spec c.later name h.later) ?_) rfl
 refine gae ?_
 refine oC rfl (fun h4=>?_) (fun h4=>?_)
 ·rw[if_pos (.inr (zt h4))] at hI
  refine gab ?_
  exact retB (nm:=name) rfl (rC (rA rfl zm0 rfl zsr) rN) (by rw[←hI];rfl)
 ·rw[if_neg (fun g=>g.elim h3 (zf h4))] at hI
  refine gab ?_
  exact retB (nm:=name) rfl (rC (rA rfl zm0 rfl zsr) rN) (by rw[←hI];rfl)
theorem indexed_spec {own:Nm} {c:CEnv} {fs:List FnD} (h:ScOk c fs) (name:Nm):LCalls (KC B0 w0) 86 [scV own c fs,str name] [] (PostB (arrayE c name)):=by
 unfold scV
 generalize hI:arrayE c name=R
 unfold arrayE CEnv.globals at hI
 refine cI Tryz.func86 rfl (n:=30) rfl rfl rfl ?_
 refine gaf ?_
 refine oS (S.box rfl fun b2=>?_) rfl
 refine oS (sA fun b4=>?_) rfl
 refine gab ?_
 refine oS (sF [_,_] rfl (has_spec c.arrays name h.arrays) ?_) rfl
 refine gae ?_
 refine oC rfl (fun h1=>?_) (fun h1=>?_)
 ·rw[if_pos (zt h1)] at hI
  refine gab ?_
  exact retB (nm:=[]) rfl (rC (rA rfl zm0 rfl zsr) rN) (by rw[←hI];rfl)
 have h1':name ∉ c.arrays:=zf h1
 rw[if_neg h1'] at hI
 simp only[List.mem_append,h1',or_false] at hI
 refine gab ?_
 refine oS (sF [_,_] rfl (has_spec c.own name h.own) ?_) rfl
 refine gav ?_
 by_cases h2:name∈c.own
 ·rw[if_pos (.inr h2)] at hI
  refine oB 14 rfl (fun _=>?_) (fun g=>absurd h2 (zf g))
  refine gad ?_
  refine oC rfl (fun _=>?_) (fun hc=>by cases hc)
  refine gab ?_
  exact retB (nm:=name) rfl (rC (rA rfl zm0 rfl zsr) rN) (by rw[←hI];rfl)
 refine oB 14 rfl (fun g=>absurd (zt g) h2) (fun _=>?_)
 refine gac ?_
 refine oS (sF [_,_] rfl (has_spec c.vars name h.vars) ?_) rfl
 refine gae ?_
 by_cases h3:name∈c.vars
 ·rw[if_pos (.inl (.inl h3))] at hI
  refine oB 20 rfl (fun _=>?_) (fun g=>absurd h3 (zf g))
  refine gad ?_
  refine oC rfl (fun _=>?_) (fun hc=>by cases hc)
  refine gab ?_
  exact retB (nm:=name) rfl (rC (rA rfl zm0 rfl zsr) rN) (by rw[←hI];rfl)
 refine oB 20 rfl (fun g=>absurd (zt g) h3) (fun _=>?_)
 refine gac ?_
 refine oS (sF [_,_] rfl (has_spec c.later name h.later) ?_) rfl
 refine gae ?_
 refine oC rfl (fun h4=>?_) (fun h4=>?_)
 ·rw[if_pos (.inl (.inr (zt h4)))] at hI
  refine gab ?_
  exact retB (nm:=name) rfl (rC (rA rfl zm0 rfl zsr) rN) (by rw[←hI];rfl)
 ·rw[if_neg (fun g=>g.elim (fun g=>g.elim h3 (zf h4)) h2)] at hI
  refine gab ?_
  exact retB (nm:=name) rfl (rC (rA rfl zm0 rfl zsr) rN) (by rw[←hI];rfl)
end
end Go.Proofs.YtpbbgkoalnonoaaGreatDoor.RC
namespace Go.Proofs.YtpbbgkoalnonoaaGreatDoor.RC
open Go.GL Go.RowKit Go.Stele
@[reducible] def scH (b:Nat) (own:Nm) (c:CEnv) (fs:List FnD):Nat×LObj:=(b,.cells 83 [str own,.list (c.own.map str),.list (c.vars.map str),.list (c.arrays.map str),.list (fs.map encFn),.list (c.later.map str)])
@[reducible] def exH (b:Nat) (op:Nm) (num:Nat) (name:Nm) (args:List Ex):Nat×LObj:=(b,.cells 104 [str op,int .u32 (num:Int),str name,.list (args.map encE)])
@[reducible] def pbH (b:Nat) (nm:Nm) (e:Int):Nat×LObj:=(b,.cells 79 [str nm,int .i64 e])
theorem ite_iff {p q:Prop} [Decidable p] [Decidable q] {a b:Int} (h:p ↔ q) (_:a=a) (_:b=b):(if p then a else b)=if q then a else b:=by
 by_cases hp:p
 ·rw[if_pos hp,if_pos (h.1 hp)]
 ·rw[if_neg hp,if_neg fun hq=>hp (h.2 hq)]
attribute [local irreducible] LOps LCode LStep LCalls Go.GL.Pure QThen QBlock RetPost LQ LAny LLate LLateOp LS
section
variable {B0:Nat} {w0:World}
theorem called_spec {own:Nm} {c:CEnv} {fs:List FnD} (h:ScOk c fs) (op:Nm) (num:Nat) (name:Nm) (args:List Ex):LCalls (KC B0 w0) 142 [scV own c fs,encE (.mk op num name args)] [] (PostB (callE c name args.length)):=by
 have hlen:((args.map encE).length:Int)=(args.length:Int):=by rw[zLm]
 have hfun:=function_spec (B0:=B0) (w0:=w0) (own:=own) h name
 rw[encE_mk]
 unfold scV at hfun ⊢
 generalize hI:callE c name args.length=R
 unfold callE at hI
 refine cI Tryz.func142 rfl (n:=64) rfl rfl rfl ?_
 refine gaf ?_
 refine oS (S.box rfl fun b2=>?_) rfl
 refine oS (S.box rfl fun b3=>?_) rfl
 refine oS (sA fun b4=>?_) rfl
 refine gab ?_
 refine oS (S.fnIf [_,_] rfl hfun ?_) rfl
 rintro lv ⟨i,rfl,hix⟩
 refine gae ?_
 refine LCode.mid (A:=Int) (fun w=>[(2,ptr b2 0),(3,ptr b3 0),(4,ptr b4 0),(5,int .i64 w)]) (fun _=>[pbH b4 [] 0,exH b3 op num name args,scH b2 own c fs]) (fun w=>R=if (args.length:Int)=w then 0 else 1) ?_ ?_
 ·refine gab ?_
  by_cases h1:name=[105,110]
  ·subst h1
   rw[if_pos rfl] at hI
   refine oC rfl (fun _=>?_) (fun hc=>by cases hc)
   refine gad ?_
   exact ⟨0,by rw[←hI];exact ite_iff zo rfl rfl,⟨rfl,rfl,rfl,rfl,trivial⟩,rfl,rfl⟩
  rw[if_neg h1] at hI
  refine oC rfl (fun hc=>absurd (zt hc) h1) (fun _=>?_)
  refine gab ?_
  by_cases h2:name=[111,117,116]
  ·subst h2
   rw[if_pos rfl] at hI
   refine oC rfl (fun _=>?_) (fun hc=>by cases hc)
   refine gat ?_
   exact ⟨1,by rw[←hI];exact ite_iff zo rfl rfl,⟨rfl,rfl,rfl,rfl,trivial⟩,rfl,rfl⟩
  rw[if_neg h2] at hI
  refine oC rfl (fun hc=>absurd (zt hc) h2) (fun _=>?_)
  refine gab ?_
  rcases hix with ⟨s,pre,f,post,hfn,hfs,rfl,hp⟩|⟨hfn,rfl⟩
  ·rw[hfn] at hI
   have hI':(if args.length=s.params then (0:Int) else 1)=R:=hI
   refine oC rfl (fun _=>?_) (fun hc=>by have:=zf hc;omega)
   refine gab ?_
   refine oP (xR (el':=encFn f) (cs:=[_,_,_,_]) rfl rfl zo (by rw[hfs];exact get_mid encFn pre f post) rfl rfl) rfl ?_
   refine gac ?_
   exact ⟨((f.params.map str).length:Int),by rw[←hI',zLm,←hp];exact ite_iff zo rfl rfl,⟨rfl,rfl,rfl,rfl,trivial⟩,rfl,rfl⟩
  ·rw[hfn] at hI
   have hI':(if name∈c.vars∨name∈c.arrays∨name∈c.own then (10:Int) else 7)=R:=hI
   refine oC rfl (fun hc=>by cases hc) (fun _=>?_)
   refine gab ?_
   refine oS (sF [_,_] rfl (has_spec c.own name h.own) ?_) rfl
   refine gav ?_
   by_cases h3:name∈c.own
   ·rw[if_pos (.inr (.inr h3))] at hI'
    refine oB 38 rfl (fun _=>?_) (fun g=>absurd h3 (zf g))
    refine gad ?_
    refine oC rfl (fun _=>?_) (fun hc=>by cases hc)
    refine gab ?_
    exact retB (nm:=name) rfl (rC (rA rfl zm0 rfl zsr) rN) (by rw[←hI'];rfl)
   refine oB 38 rfl (fun g=>absurd (zt g) h3) (fun _=>?_)
   refine gac ?_
   refine oS (sF [_,_] rfl (has_spec c.vars name h.vars) ?_) rfl
   refine gae ?_
   by_cases h4:name∈c.vars
   ·rw[if_pos (.inl h4)] at hI'
    refine oB 45 rfl (fun _=>?_) (fun g=>absurd h4 (zf g))
    refine gad ?_
    refine oC rfl (fun _=>?_) (fun hc=>by cases hc)
    refine gab ?_
    exact retB (nm:=name) rfl (rC (rA rfl zm0 rfl zsr) rN) (by rw[←hI'];rfl)
   refine oB 45 rfl (fun g=>absurd (zt g) h4) (fun _=>?_)
   refine gac ?_
   refine oS (sF [_,_] rfl (has_spec c.arrays name h.arrays) ?_) rfl
   refine gae ?_
   refine oC rfl (fun h5=>?_) (fun h5=>?_)
   ·rw[if_pos (.inr (.inl (zt h5)))] at hI'
    refine gab ?_
    exact retB (nm:=name) rfl (rC (rA rfl zm0 rfl zsr) rN) (by rw[←hI'];rfl)
   ·rw[if_neg (fun g=>g.elim h4 (fun g=>g.elim (zf h5) h3))] at hI'
    refine gab ?_
    exact retB (nm:=name) rfl (rC (rA rfl zm0 rfl zsr) rN) (by rw[←hI'];rfl)
 intro w hw j hj
 refine gab ?_
 refine oC rfl (fun hc=>?_) (fun hc=>?_)
 ·have h1:¬ (args.length:Int)=w:=by
   have h2:(!decide (((args.map encE).length:Int)=w))=true:=hc
   rw[hlen] at h2
   simpa using h2
  rw[if_neg h1] at hw
  refine gab ?_
  exact retB (nm:=name) hj (rC (rA rfl zm0 rfl zsr) rN) (by rw[hw];rfl)
 ·have h1:(args.length:Int)=w:=by
   have h2:(!decide (((args.map encE).length:Int)=w))=false:=hc
   rw[hlen] at h2
   simpa using h2
  rw[if_pos h1] at hw
  refine gab ?_
  exact retB (nm:=[]) hj (rC (rA rfl zm0 rfl zsr) rN) (by rw[hw];rfl)
def ExprH (B0:Nat) (w0:World) (own:Nm) (c:CEnv) (fs:List FnD) (n:Nat):Prop:=∀ x:Ex,ndE x≤n→LCalls (KC B0 w0) 84 [scV own c fs,encE x] [] (PostB (errE c x))
theorem expr_spec {own:Nm} {c:CEnv} {fs:List FnD} (h:ScOk c fs):∀ n:Nat,n≤100000000→ExprH B0 w0 own c fs n
 |0,_=>fun x h=>by have:=ndE_pos x;omega
 |n+1,hn6=>by
  have ih:=expr_spec (own:=own) h n zo
  intro x hnd
  obtain ⟨op,num,name,args⟩:=x
  rw[ndE] at hnd
  have hal:=ndEs_len args
  have hlen:(args.map encE).length=args.length:=zLm _
  have hsh:=shape_spec (B0:=B0) (w0:=w0) (.mk op num name args)
  have hsc:=scalar_spec (B0:=B0) (w0:=w0) (own:=own) h name
  have hix:=indexed_spec (B0:=B0) (w0:=w0) (own:=own) h name
  have hca:=called_spec (B0:=B0) (w0:=w0) (own:=own) h op num name args
  have ih':∀ x:Ex,ndE x≤n→LCalls (KC B0 w0) 84 [.agg [str own,.list (c.own.map str),.list (c.vars.map str),.list (c.arrays.map str),.list (fs.map encFn),.list (c.later.map str)],encE x] [] (PostB (errE c x)):=ih
  generalize hI:errE c (Ex.mk op num name args)=E
  rw[errE] at hI
  rw[encE_mk] at hsh hca ⊢
  unfold scV at hsc hix hca ⊢
  have hsh':LCalls (KC B0 w0) 141 [.agg [str op,int .u32 (num:Int),str name,.list (args.map encE)]] [] (Ret (bool (decide (opnds op = -1∨opnds op=(args.length:Int))))):=hsh
  refine cI Tryz.func84 rfl (n:=49) rfl rfl rfl ?_
  refine gaf ?_
  refine oS (S.box rfl fun b2=>?_) rfl
  refine oS (S.box rfl fun b3=>?_) rfl
  refine oS (sA fun b4=>?_) rfl
  refine gab ?_
  refine oS (sF [_] rfl hsh' ?_) rfl
  refine gad ?_
  refine oC rfl (fun hc=>?_) (fun hc=>?_)
  ·have hop:¬ (opnds op = -1∨opnds op=(args.length:Int)):=by simpa using hc
   rw[if_neg hop] at hI
   refine gab ?_
   exact retB (nm:=own) rfl (rC (rA rfl zm0 rfl zsr) rN) (by rw[←hI];rfl)
  have hop:opnds op = -1∨opnds op=(args.length:Int):=Decidable.byContradiction fun h=>by rw[decide_eq_false h] at hc;cases hc
  rw[if_pos hop] at hI
  refine gab ?_
  refine oL (fun kk ls H'=>∃ (pre l1:List Ex),args=pre++l1∧kk=l1.length∧ls=[(2,ptr b2 0),(3,ptr b3 0),(4,ptr b4 0),(15,.list (args.map encE)),(16,int .i64 ((args.map encE).length:Int)),(17,int .i64 (pre.length:Int))] ∧
    H'=[pbH b4 [] 0,exH b3 op num name args,scH b2 own c fs]∧orE (errEs c l1) (useE c op name args.length)=E)
   ⟨args.length,_,_,⟨[],args,rfl,rfl,rfl,rfl,hI⟩,⟨rfl,rfl,rfl,rfl,rfl,rfl,trivial⟩,zhR _⟩ ?_
  rintro kk ls H' ⟨pre,l1,hL,rfl,rfl,rfl,hI2⟩ j hj
  have hb:=pre_le hL (show args.length≤100000000 by omega)
  refine gah ?_
  refine oC rfl (fun hc=>?_) (fun hc=>?_)
  ·obtain ⟨a,l2,rfl⟩:=more hL hc
   have ham:ndE a≤ndEs args:=ndEs_mem (by rw[hL];exact List.mem_append_right _ zMs)
   rw[errEs] at hI2
   refine gak ?_
   refine oP (xR (el':=encE a) (cs:=[_,_,_,_]) rfl rfl zo (by rw[hL];exact get_mid encE pre a l2) rfl rfl) rfl ?_
   refine gaq ?_
   refine oS (sA fun b6=>?_) rfl
   refine gab ?_
   refine oS (S.pb [_,_] rfl (ih' a zo) fun nm=>?_) rfl
   refine oS (sA fun b7=>?_) rfl
   refine gab ?_
   by_cases h1:errE c a=0
   ·rw[h1] at hI2 ⊢
    refine oC rfl (fun hd=>by cases hd) (fun _=>?_)
    refine gaa ?_
    exact ⟨l2.length,_,_,Nat.lt_succ_self _,⟨pre++[a],l2,snoc hL,rfl,rfl,rfl,hI2⟩,⟨rfl,rfl,rfl,rfl,rfl,int_eq (by simp),trivial⟩,zhD (zhD zhr),hj⟩
   ·refine oC rfl (fun _=>?_) (fun hd=>?_)
    rotate_left
    ·have h2:(!decide (errE c a=0))=false:=hd
     simp at h2
     exact absurd h2 h1
    have hE:E=errE c a:=by
     rw[←hI2]
     unfold orE
     rw[if_pos (show (if errE c a≠0 then errE c a else errEs c l2)≠0 by rw[if_pos h1];exact h1),if_pos h1]
    refine gab ?_
    exact retB (nm:=nm) hj (rC (rA (k:=2) rfl zm0 rfl zsr) rN) (by rw[hE];rfl)
  obtain rfl:=none_left hL hc
  have hI3:useE c op name args.length=E:=hI2
  unfold useE at hI3
  refine gab ?_
  by_cases h1:op=[118,97,114]
  ·subst h1
   rw[if_pos (show ([118,97,114]:Nm)=nVar from rfl)] at hI3
   refine oC rfl (fun _=>?_) (fun hd=>by cases hd)
   refine gab ?_
   refine oS (S.pb [_,_] rfl hsc fun nm=>?_) rfl
   refine gad ?_
   exact retB (nm:=nm) hj (rC (rA rfl zm0 rfl zsr) rN) (by rw[←hI3];rfl)
  rw[if_neg (show ¬ op=nVar from h1)] at hI3
  refine oC rfl (fun hd=>absurd (zt hd) h1) (fun _=>?_)
  refine gai ?_
  by_cases h2:op=[101,108,101,109]
  ·subst h2
   rw[if_pos (show ([101,108,101,109]:Nm)=nElem from rfl)] at hI3
   refine oC rfl (fun _=>?_) (fun hd=>by cases hd)
   refine gab ?_
   refine oS (S.pb [_,_] rfl hix fun nm=>?_) rfl
   refine gad ?_
   exact retB (nm:=nm) hj (rC (rA rfl zm0 rfl zsr) rN) (by rw[←hI3];rfl)
  rw[if_neg (show ¬ op=nElem from h2)] at hI3
  refine oC rfl (fun hd=>absurd (zt hd) h2) (fun _=>?_)
  refine gai ?_
  by_cases h3:op=[99,97,108,108]
  ·subst h3
   rw[if_pos (show ([99,97,108,108]:Nm)=nCall from rfl)] at hI3
   refine oC rfl (fun _=>?_) (fun hd=>by cases hd)
   refine gab ?_
   refine oS (S.pb [_,_] rfl hca fun nm=>?_) rfl
   refine gad ?_
   exact retB (nm:=nm) hj (rC (rA rfl zm0 rfl zsr) rN) (by rw[←hI3];rfl)
  rw[if_neg (show ¬ op=nCall from h3)] at hI3
  refine oC rfl (fun hd=>absurd (zt hd) h3) (fun _=>?_)
  refine gab ?_
  exact retB (nm:=[]) hj (rC (rA rfl zm0 rfl zsr) rN) (by rw[←hI3];rfl)
end
end Go.Proofs.YtpbbgkoalnonoaaGreatDoor.RC
namespace Go.Proofs.YtpbbgkoalnonoaaGreatDoor.RC
open Go.GL Go.RowKit Go.Stele
attribute [local irreducible] LOps LCode LStep LCalls Go.GL.Pure QThen QBlock RetPost LQ LAny LLate LLateOp LS
section
variable {B0:Nat} {w0:World}
theorem form_spec (s:Sm):LCalls (KC B0 w0) 83 [encS s] [] (Ret (bool (formS s))):=by
 obtain ⟨kind,name,index,value,thn,els⟩:=s
 rw[encS_mk]
 refine cI Tryz.func83 rfl (n:=159) rfl rfl rfl ?_
 refine gaf ?_
 refine oS (S.box rfl fun b1=>?_) rfl
 refine gad ?_
 refine LCode.quiet zk ?_
 refine gab ?_
 by_cases hk1:kind=1
 ·subst hk1
  refine oC rfl (fun _=>?_) (fun hc=>by cases hc)
  rw[Chk.form_1]
  refine gaj ?_
  refine oB 28 rfl (fun q1=>?_) (fun q1=>?_)
  rotate_left
  ·exact zT18
  refine gan ?_
  refine oB 32 rfl (fun q2=>?_) (fun q2=>?_)
  rotate_left
  ·exact zT17
  refine gan ?_
  refine oB 36 rfl (fun q3=>?_) (fun q3=>?_)
  rotate_left
  ·exact zT20
  refine gan ?_
  refine oB 40 rfl (fun q4=>?_) (fun q4=>?_)
  rotate_left
  ·exact zT24
  refine gad ?_
  refine rR rfl (zra rfl) zhn ⟨?_,rfl⟩
  simp only[q1,q2,q3,q4,Bool.true_and]
  rfl
 refine oC rfl (fun hc=>absurd (zt hc) hk1) (fun _=>?_)
 refine gas ?_
 by_cases hk2:kind=2
 ·subst hk2
  refine oC rfl (fun _=>?_) (fun hc=>by cases hc)
  rw[Chk.form_2]
  refine gaj ?_
  refine oB 47 rfl (fun q1=>?_) (fun q1=>?_)
  rotate_left
  ·exact zT18
  refine gan ?_
  refine oB 51 rfl (fun q2=>?_) (fun q2=>?_)
  rotate_left
  ·exact zT17
  refine gan ?_
  refine oB 55 rfl (fun q3=>?_) (fun q3=>?_)
  rotate_left
  ·exact zT20
  refine gan ?_
  refine oB 59 rfl (fun q4=>?_) (fun q4=>?_)
  rotate_left
  ·exact zT24
  refine gad ?_
  refine rR rfl (zra rfl) zhn ⟨?_,rfl⟩
  simp only[q1,q2,q3,q4,Bool.true_and]
  rfl
 refine oC rfl (fun hc=>absurd (zt hc) hk2) (fun _=>?_)
 refine gas ?_
 by_cases hk3:kind=3
 ·subst hk3
  refine oC rfl (fun _=>?_) (fun hc=>by cases hc)
  rw[Chk.form_3]
  refine gaa ?_
  refine oB 67 rfl (fun q1=>?_) (fun q1=>?_)
  rotate_left
  ·exact zT18
  refine gan ?_
  refine oB 71 rfl (fun q2=>?_) (fun q2=>?_)
  rotate_left
  ·exact zT17
  refine gad ?_
  refine rR rfl (zra rfl) zhn ⟨?_,rfl⟩
  simp only[q1,q2,Bool.true_and]
  rfl
 refine oC rfl (fun hc=>absurd (zt hc) hk3) (fun _=>?_)
 refine gas ?_
 by_cases hk4:kind=4
 ·subst hk4
  refine oC rfl (fun _=>?_) (fun hc=>by cases hc)
  rw[Chk.form_4]
  refine gaa ?_
  refine oB 79 rfl (fun q1=>?_) (fun q1=>?_)
  rotate_left
  ·exact zT18
  refine gan ?_
  refine oB 83 rfl (fun q2=>?_) (fun q2=>?_)
  rotate_left
  ·exact zT17
  refine gan ?_
  refine oB 87 rfl (fun q3=>?_) (fun q3=>?_)
  rotate_left
  ·exact zT20
  refine gad ?_
  refine rR rfl (zra rfl) zhn ⟨?_,rfl⟩
  simp only[q1,q2,q3,Bool.true_and]
  rfl
 refine oC rfl (fun hc=>absurd (zt hc) hk4) (fun _=>?_)
 refine gas ?_
 by_cases hk5:kind=5
 ·subst hk5
  refine oC rfl (fun _=>?_) (fun hc=>by cases hc)
  rw[Chk.form_5]
  refine gaa ?_
  refine oB 95 rfl (fun q1=>?_) (fun q1=>?_)
  rotate_left
  ·exact zT18
  refine gan ?_
  refine oB 99 rfl (fun q2=>?_) (fun q2=>?_)
  rotate_left
  ·exact zT17
  refine gan ?_
  refine oB 103 rfl (fun q3=>?_) (fun q3=>?_)
  rotate_left
  ·exact zT20
  refine gan ?_
  refine oB 107 rfl (fun q4=>?_) (fun q4=>?_)
  rotate_left
  ·exact zT24
  refine gad ?_
  refine rR rfl (zra rfl) zhn ⟨?_,rfl⟩
  simp only[q1,q2,q3,q4,Bool.true_and]
  rfl
 refine oC rfl (fun hc=>absurd (zt hc) hk5) (fun _=>?_)
 refine gas ?_
 by_cases hk6:kind=6
 ·subst hk6
  refine oC rfl (fun _=>?_) (fun hc=>by cases hc)
  rw[Chk.form_6]
  refine gaa ?_
  refine oB 115 rfl (fun q1=>?_) (fun q1=>?_)
  rotate_left
  ·exact zT18
  refine gan ?_
  refine oB 119 rfl (fun q2=>?_) (fun q2=>?_)
  rotate_left
  ·exact zT17
  refine gan ?_
  refine oB 123 rfl (fun q3=>?_) (fun q3=>?_)
  rotate_left
  ·exact zT20
  refine gan ?_
  refine oB 127 rfl (fun q4=>?_) (fun q4=>?_)
  rotate_left
  ·exact zT24
  refine gan ?_
  refine oB 131 rfl (fun q5=>?_) (fun q5=>?_)
  rotate_left
  ·refine gae ?_
   refine rR rfl (zra rfl) zhn ⟨?_,rfl⟩
   simp only[q1,q2,q3,q4,q5,Bool.false_and,Bool.and_false,Bool.true_and]
   rfl
  refine gad ?_
  obtain ⟨x0,rfl⟩:∃ x,value=[x]:=by
   have h1:((value.map encE).length:Int)=1:=zt q3
   rw[zLm] at h1
   cases value with
   |nil=>simp at h1
   |cons x l=>
    cases l with
    |nil=>exact ⟨x,rfl⟩
    |cons y l=>simp at h1;omega
  first|refine LOps.want rfl rfl ?_|skip
  refine oP (xR (el':=encE x0) (cs:=[_,_,_,_]) rfl rfl zo rfl rfl rfl) rfl ?_
  refine gac ?_
  refine rR rfl (zra rfl) zhn ⟨?_,rfl⟩
  simp only[q1,q2,q3,q4,q5,Bool.true_and]
  rfl
 refine oC rfl (fun hc=>absurd (zt hc) hk6) (fun _=>?_)
 refine gas ?_
 by_cases hk7:kind=7
 ·subst hk7
  refine oC rfl (fun _=>?_) (fun hc=>by cases hc)
  rw[Chk.form_7]
  refine gaa ?_
  refine oB 143 rfl (fun q1=>?_) (fun q1=>?_)
  rotate_left
  ·exact zT18
  refine gan ?_
  refine oB 147 rfl (fun q2=>?_) (fun q2=>?_)
  rotate_left
  ·exact zT17
  refine gan ?_
  refine oB 151 rfl (fun q3=>?_) (fun q3=>?_)
  rotate_left
  ·exact zT20
  refine gan ?_
  refine oB 155 rfl (fun q4=>?_) (fun q4=>?_)
  rotate_left
  ·exact zT24
  refine gad ?_
  refine rR rfl (zra rfl) zhn ⟨?_,rfl⟩
  simp only[q1,q2,q3,q4,Bool.true_and]
  rfl
 refine oC rfl (fun hc=>absurd (zt hc) hk7) (fun _=>?_)
 refine gaa ?_
 refine rR rfl (zra rfl) zhn ⟨?_,rfl⟩
 have hf:formS (.mk kind name index value thn els)=false:=by
  simp only[formS]
  rw[if_neg hk1,if_neg hk2,if_neg hk3,if_neg hk4,if_neg hk5,if_neg hk6,if_neg hk7]
 rw[hf]
 rfl
end
end Go.Proofs.YtpbbgkoalnonoaaGreatDoor.RC
namespace Go.Proofs.YtpbbgkoalnonoaaGreatDoor.RC
open Go.GL Go.RowKit Go.Stele
theorem ndSs_mem:∀ {l:List Sm} {f:Sm},f∈l→ndS f≤ndSs l
 |g::l,f,h=>by
  rw[ndSs]
  rcases zMi.1 h with rfl|h
  ·omega
  ·have:=ndSs_mem h
   omega
theorem ndEs_app:∀ a b:List Ex,ndEs (a++b)=ndEs a+ndEs b
 |[],b=>by rw[ndEs,List.nil_append];omega
 |x::a,b=>by rw[List.cons_append,ndEs,ndEs,ndEs_app a b];omega
theorem orE_assoc (a b c:Int):orE (orE a b) c=orE a (orE b c):=by
 unfold orE
 by_cases h:a=0
 ·subst h;rfl
 ·rw[if_pos h,if_pos h,if_pos h]
theorem orE_ne {a b:Int} (h:a≠0):orE a b=a:=by unfold orE;rw[if_pos h]
theorem encE_len (l:List Ex):∀ v∈l.map encE,v.cells.length=4:=fun v hv=>by
 obtain ⟨x,_,rfl⟩:=List.mem_map.1 hv
 rfl
theorem encE_ok (l:List Ex):((l.map encE).flatMap LV.cells).all cellOk=true:=by
 induction l with
 |nil=>rfl
 |cons a l ih=>
  simp only[zMc,List.flatMap_cons,List.all_append,ih,Bool.and_true]
  rfl
@[reducible] def smH (b:Nat) (kind:Int) (name:Nm) (index value:List Ex) (thn els:List Sm):Nat×LObj:=(b,.cells 102 [int .i64 kind,str name,.list (index.map encE),.list (value.map encE),.list (thn.map encS),.list (els.map encS)])
attribute [local irreducible] LOps LCode LStep LCalls Go.GL.Pure QThen QBlock RetPost LQ LAny LLate LLateOp LS
section
variable {B0:Nat} {w0:World}
def BodyH (B0:Nat) (w0:World) (own:Nm) (c:CEnv) (fs:List FnD) (n:Nat):Prop:=∀ l:List Sm,ndSs l<n→LCalls (KC B0 w0) 36 [.agg [str own,.list (c.own.map str),.list (c.vars.map str),.list (c.arrays.map str),.list (fs.map encFn),.list (c.later.map str)],.list (l.map encS)] [] (PostB (errSs c l))
theorem body_spec {own:Nm} {c:CEnv} {fs:List FnD} (h:ScOk c fs):∀ n:Nat,n≤100000000→BodyH B0 w0 own c fs n
 |0,_=>fun l h=>by omega
 |n+1,hn6=>by
  have ih:=body_spec (own:=own) h n zo
  have hex:ExprH B0 w0 own c fs n:=expr_spec h n zo
  intro l hnd
  have hal:=ndSs_len l
  have hex':∀ x:Ex,ndE x≤n→LCalls (KC B0 w0) 84 [.agg [str own,.list (c.own.map str),.list (c.vars.map str),.list (c.arrays.map str),.list (fs.map encFn),.list (c.later.map str)],encE x] [] (PostB (errE c x)):=hex
  generalize hI:errSs c l=E
  refine cI Tryz.func36 rfl (n:=78) rfl rfl rfl ?_
  refine gaf ?_
  refine oS (S.box rfl fun b2=>?_) rfl
  refine oS (sA fun b4=>?_) rfl
  refine gaa ?_
  refine oL (fun kk ls H'=>∃ (pre l1:List Sm),l=pre++l1∧kk=l1.length∧ls=[(2,ptr b2 0),(4,ptr b4 0),(11,.list (l.map encS)),(12,int .i64 ((l.map encS).length:Int)),(13,int .i64 (pre.length:Int))] ∧
    H'=[pbH b4 [] 0,scH b2 own c fs]∧errSs c l1=E)
   ⟨l.length,_,_,⟨[],l,rfl,rfl,rfl,rfl,hI⟩,⟨rfl,rfl,rfl,rfl,rfl,trivial⟩,zhR _⟩ ?_
  rintro kk ls H' ⟨pre,l1,hL,rfl,rfl,rfl,hI2⟩ j hj
  have hb:=pre_le hL (show l.length≤100000000 by omega)
  refine gah ?_
  refine oC rfl (fun hc=>?_) (fun hc=>?_)
  rotate_left
  ·obtain rfl:=none_left hL hc
   refine gab ?_
   exact retB (nm:=[]) hj (rC (rA rfl zm0 rfl zsr) rN) (by rw[←hI2,errSs];rfl)
  obtain ⟨a,l2,rfl⟩:=more hL hc
  have ham:ndS a≤ndSs l:=ndSs_mem (by rw[hL];exact List.mem_append_right _ zMs)
  obtain ⟨kind,name,index,value,thn,els⟩:=a
  have hfm:=form_spec (B0:=B0) (w0:=w0) (.mk kind name index value thn els)
  rw[encS_mk] at hfm
  rw[errSs,errS] at hI2
  rw[ndS] at ham
  refine gak ?_
  refine oP (xR (el':=.agg [int .i64 kind,str name,.list (index.map encE),.list (value.map encE),.list (thn.map encS),.list (els.map encS)]) (cs:=[_,_,_,_,_,_]) rfl rfl zo (by rw[hL,←encS_mk];exact get_mid encS pre _ l2) rfl rfl) rfl ?_
  refine gac ?_
  refine oS (sA fun b6=>?_) rfl
  refine gab ?_
  refine oS (sF [_] rfl hfm ?_) rfl
  refine gad ?_
  by_cases hf:formS (.mk kind name index value thn els)=false
  ·rw[if_pos hf] at hI2
   refine oC rfl (fun _=>?_) (fun hd=>?_)
   rotate_left
   ·have h2:(!formS (.mk kind name index value thn els))=false:=hd
    rw[hf] at h2
    cases h2
   refine gab ?_
   exact retB (nm:=own) hj (rC (rA rfl zm0 rfl zsr) rN) (by rw[←hI2];rfl)
  rw[if_neg hf] at hI2
  refine oC rfl (fun hd=>?_) (fun _=>?_)
  ·have h2:(!formS (.mk kind name index value thn els))=true:=hd
   rw[Bool.not_eq_true'] at h2
   exact absurd h2 hf
  have hvi:(value++index).length≤100000000:=by
   have g1:=ndEs_len value
   have g2:=ndEs_len index
   rw[zLa]
   omega
  rw[zLa] at hvi
  have hI3:orE (errEs c (value++index)) (orE (if kind=1 then scalarE c name else if kind=2 then arrayE c name else 0) (orE (errSs c thn) (orE (errSs c els) (errSs c l2))))=E:=by
   rw[errEs_app,←hI2]
   simp only[orE_assoc]
  clear hI2
  refine gad ?_
  refine LCode.draw (m:=9) rfl [smH b6 kind name index value thn els] ?_
  refine aT 1 rfl rfl (pF rfl) ?_
  refine aT 2 rfl rfl (pL (c:=.list _) rfl zm0 rfl) ?_
  refine aT 4 rfl rfl (pF rfl) ?_
  refine aT 5 rfl rfl (pL (c:=.list _) rfl zm0 rfl) ?_
  refine aT 8 rfl rfl (pM (lv:=.atom _) rfl) ?_
  refine LAny.late ?_ zhp
  refine lO 0 (lS (H1:=[]) rfl (.inl rfl) rfl zpr zhp (S.litA (es:=[]) [] rfl eN rfl rfl rfl fun b7=>?_))
  refine lO 3 (lS (H1:=[(b7,.row 0)]) rfl (.inl rfl) rfl zpr zhp (S.acc (F:=[]) rfl Acc.row rfl (encE_len _) (encE_ok _) (by simp;omega) fun v1 H1 h1=>?_))
  refine lO 6 (lS (H1:=H1) rfl (.inl rfl) rfl zpr zhp (S.acc (F:=[]) rfl h1 rfl (encE_len _) (encE_ok _) (by simp;omega) fun v2 H2 h2=>?_))
  have e2:([]++value.map encE++index.map encE:List LV)=(value++index).map encE:=by simp
  rw[e2] at h2
  refine lO 7 (lH rfl rfl (Pure.llen (h2.elems)) ?_)
  refine lD zk ?_
  refine gad ?_
  refine LCode.sub (d:=29) rfl h2.sub ?_
  refine LCode.weak (H':=[smH b6 kind name index value thn els,pbH b4 [] 0,scH b2 own c fs]) ⟨H2,zPc⟩ ?_
  have hll:((value++index).map encE).length=value.length+index.length:=by simp
  refine oL (fun kk ls H'=>∃ (pre2 l3:List Ex),value++index=pre2++l3∧kk=l3.length∧ls=[(2,ptr b2 0),(4,ptr b4 0),(6,ptr b6 0),(11,.list (l.map encS)),(12,int .i64 ((l.map encS).length:Int)),(13,int .i64 (pre.length:Int)),(29,.list ((value++index).map encE)),(30,int .i64 (((value++index).map encE).length:Int)),(31,int .i64 (pre2.length:Int))] ∧
    H'=[smH b6 kind name index value thn els,pbH b4 [] 0,scH b2 own c fs]∧orE (errEs c l3) (orE (if kind=1 then scalarE c name else if kind=2 then arrayE c name else 0) (orE (errSs c thn) (orE (errSs c els) (errSs c l2))))=E)
   ⟨_,_,_,⟨[],value++index,rfl,rfl,rfl,rfl,hI3⟩,⟨rfl,rfl,rfl,rfl,rfl,rfl,rfl,rfl,rfl,trivial⟩,zhR _⟩ ?_
  rintro kk ls H' ⟨pre2,l3,hL2,rfl,rfl,rfl,hI4⟩ j2 hj2
  have hb2:=pre_le hL2 (show (value++index).length≤100000000 by rw[zLa];omega)
  refine gah ?_
  refine oC rfl (fun hc2=>?_) (fun hc2=>?_)
  ·obtain ⟨a,l4,rfl⟩:=more hL2 hc2
   have ham2:ndE a≤ndEs (value++index):=ndEs_mem (by rw[hL2];exact List.mem_append_right _ zMs)
   rw[ndEs_app] at ham2
   rw[errEs,orE_assoc] at hI4
   refine gak ?_
   refine oP (xR (el':=encE a) (cs:=[_,_,_,_]) rfl rfl zo (by rw[hL2];exact get_mid encE pre2 a l4) rfl rfl) rfl ?_
   refine gaq ?_
   refine oS (sA fun b8=>?_) rfl
   refine gab ?_
   refine oS (S.pb [_,_] rfl (hex' a zo) fun nm=>?_) rfl
   refine oS (sA fun b9=>?_) rfl
   refine gab ?_
   by_cases h1:errE c a=0
   ·rw[h1] at hI4 ⊢
    refine oC rfl (fun hd=>by cases hd) (fun _=>?_)
    refine gaa ?_
    exact ⟨l4.length,_,_,Nat.lt_succ_self _,⟨pre2++[a],l4,snoc hL2,rfl,rfl,rfl,hI4⟩,⟨rfl,rfl,rfl,rfl,rfl,rfl,rfl,rfl,int_eq (by simp),trivial⟩,zhD (zhD zhr),hj2⟩
   ·refine oC rfl (fun _=>?_) (fun hd=>?_)
    rotate_left
    ·have h2:(!decide (errE c a=0))=false:=hd
     simp at h2
     exact absurd h2 h1
    rw[orE_ne h1] at hI4
    refine gab ?_
    exact retB (nm:=nm) (hj2.trans hj) (rC (rA (k:=2) rfl zm0 rfl zsr) rN) (by rw[←hI4];rfl)
  obtain rfl:=none_left hL2 hc2
  have hI5:orE (if kind=1 then scalarE c name else if kind=2 then arrayE c name else 0) (orE (errSs c thn) (orE (errSs c els) (errSs c l2)))=E:=hI4
  refine gab ?_
  refine oS (sA fun b10=>?_) rfl
  refine gab ?_
  refine LCode.mid (A:=Nm) (fun _=>[(2,ptr b2 0),(4,ptr b4 0),(6,ptr b6 0),(10,ptr b10 0),(11,.list (l.map encS)),(12,int .i64 ((l.map encS).length:Int)),(13,int .i64 (pre.length:Int))]) (fun nm=>[pbH b10 nm (if kind=1 then scalarE c name else 0),smH b6 kind name index value thn els,pbH b4 [] 0,scH b2 own c fs]) (fun _=>True) ?_ ?_
  ·by_cases k1:kind=1
   ·refine oC rfl (fun _=>?_) (fun hd=>absurd k1 (zf hd))
    refine gab ?_
    refine oS (S.pb [_,_] rfl (scalar_spec (own:=own) h name) fun nm=>?_) rfl
    refine gad ?_
    exact ⟨nm,trivial,⟨rfl,rfl,rfl,rfl,rfl,rfl,rfl,trivial⟩,by rw[if_pos k1],rfl⟩
   ·refine oC rfl (fun hd=>absurd (zt hd) k1) (fun _=>?_)
    refine gar ?_
    exact ⟨[],trivial,⟨rfl,rfl,rfl,rfl,rfl,rfl,rfl,trivial⟩,by rw[if_neg k1],rfl⟩
  rintro nm1 _ j3 hj3
  refine gab ?_
  refine LCode.mid (A:=Nm) (fun _=>[(2,ptr b2 0),(4,ptr b4 0),(6,ptr b6 0),(10,ptr b10 0),(11,.list (l.map encS)),(12,int .i64 ((l.map encS).length:Int)),(13,int .i64 (pre.length:Int))]) (fun nm=>[pbH b10 nm (if kind=1 then scalarE c name else if kind=2 then arrayE c name else 0),smH b6 kind name index value thn els,pbH b4 [] 0,scH b2 own c fs]) (fun _=>True) ?_ ?_
  ·by_cases k2:kind=2
   ·refine oC rfl (fun _=>?_) (fun hd=>absurd k2 (zf hd))
    refine gab ?_
    refine oS (S.pb [_,_] rfl (indexed_spec (own:=own) h name) fun nm=>?_) rfl
    refine gad ?_
    exact ⟨nm,trivial,⟨rfl,rfl,rfl,rfl,rfl,rfl,rfl,trivial⟩,by rw[if_neg zo,if_pos k2],rfl⟩
   ·refine oC rfl (fun hd=>absurd (zt hd) k2) (fun _=>?_)
    refine gar ?_
    exact ⟨nm1,trivial,⟨rfl,rfl,rfl,rfl,rfl,rfl,rfl,trivial⟩,by rw[if_neg k2],rfl⟩
  rintro nm2 _ j4 hj4
  generalize (if kind=1 then scalarE c name else if kind=2 then arrayE c name else 0)=e1 at hI5 ⊢
  refine gaa ?_
  refine LCode.mid (A:=Nm) (fun _=>[(2,ptr b2 0),(4,ptr b4 0),(6,ptr b6 0),(10,ptr b10 0),(11,.list (l.map encS)),(12,int .i64 ((l.map encS).length:Int)),(13,int .i64 (pre.length:Int))]) (fun nm=>[pbH b10 nm (orE e1 (errSs c thn)),smH b6 kind name index value thn els,pbH b4 [] 0,scH b2 own c fs]) (fun _=>True) ?_ ?_
  ·by_cases k3:e1=0
   ·refine oC rfl (fun _=>?_) (fun hd=>absurd k3 (zf hd))
    refine gab ?_
    refine oS (S.pb [_,_] rfl (ih thn zo) fun nm=>?_) rfl
    refine gad ?_
    exact ⟨nm,trivial,⟨rfl,rfl,rfl,rfl,rfl,rfl,rfl,trivial⟩,by rw[k3];rfl,rfl⟩
   ·refine oC rfl (fun hd=>absurd (zt hd) k3) (fun _=>?_)
    refine gar ?_
    exact ⟨nm2,trivial,⟨rfl,rfl,rfl,rfl,rfl,rfl,rfl,trivial⟩,by rw[orE_ne k3],rfl⟩
  rintro nm3 _ j5 hj5
  rw[←orE_assoc] at hI5
  generalize orE e1 (errSs c thn)=e2 at hI5 ⊢
  refine gaa ?_
  refine LCode.mid (A:=Nm) (fun _=>[(2,ptr b2 0),(4,ptr b4 0),(6,ptr b6 0),(10,ptr b10 0),(11,.list (l.map encS)),(12,int .i64 ((l.map encS).length:Int)),(13,int .i64 (pre.length:Int))]) (fun nm=>[pbH b10 nm (orE e2 (errSs c els)),smH b6 kind name index value thn els,pbH b4 [] 0,scH b2 own c fs]) (fun _=>True) ?_ ?_
  ·by_cases k3:e2=0
   ·refine oC rfl (fun _=>?_) (fun hd=>absurd k3 (zf hd))
    refine gab ?_
    refine oS (S.pb [_,_] rfl (ih els zo) fun nm=>?_) rfl
    refine gad ?_
    exact ⟨nm,trivial,⟨rfl,rfl,rfl,rfl,rfl,rfl,rfl,trivial⟩,by rw[k3];rfl,rfl⟩
   ·refine oC rfl (fun hd=>absurd (zt hd) k3) (fun _=>?_)
    refine gar ?_
    exact ⟨nm3,trivial,⟨rfl,rfl,rfl,rfl,rfl,rfl,rfl,trivial⟩,by rw[orE_ne k3],rfl⟩
  rintro nm4 _ j6 hj6
  rw[←orE_assoc] at hI5
  generalize orE e2 (errSs c els)=e3 at hI5 ⊢
  have hjj:=((hj6.trans hj5).trans (hj4.trans hj3)).trans hj2
  refine gab ?_
  by_cases k3:e3=0
  ·subst k3
   refine oC rfl (fun hd=>by cases hd) (fun _=>?_)
   refine gaa ?_
   exact ⟨l2.length,_,_,Nat.lt_succ_self _,⟨pre++[_],l2,snoc hL,rfl,rfl,rfl,hI5⟩,⟨rfl,rfl,rfl,rfl,int_eq (by simp),trivial⟩,zhD (zhD zhr),hjj.trans hj⟩
  ·refine oC rfl (fun _=>?_) (fun hd=>?_)
   rotate_left
   ·have h2:(!decide (e3=0))=false:=hd
    simp at h2
    exact absurd h2 k3
   rw[orE_ne k3] at hI5
   refine gab ?_
   exact retB (nm:=nm4) (hjj.trans hj) (rC (rA (k:=2) rfl zm0 rfl zsr) rN) (by rw[hI5];rfl)
end
end Go.Proofs.YtpbbgkoalnonoaaGreatDoor.RC
namespace Go.Proofs.YtpbbgkoalnonoaaGreatDoor.RC
open Go.GL Go.RowKit Go.Stele
@[reducible] def iv (n:Nat):LV:=int .i64 (n:Int)
def mostN:List Nat→Nat
 |[]=>0
 |a::l=>l.foldl max a
theorem iv_len (l:List Nat):∀ v∈l.map iv,v.cells.length=1:=fun v hv=>by
 obtain ⟨x,_,rfl⟩:=List.mem_map.1 hv
 rfl
theorem iv_ok (l:List Nat):((l.map iv).flatMap LV.cells).all cellOk=true:=by
 induction l with
 |nil=>rfl
 |cons a l ih=>
  simp only[zMc,List.flatMap_cons,List.all_append,ih,Bool.and_true]
  rfl
theorem iv_els (l:List Nat):elemsOk 1 (l.map iv):=fun v hv=>by
 obtain ⟨x,_,rfl⟩:=List.mem_map.1 hv
 exact ⟨rfl,rfl⟩
theorem iv_eq {a b:Nat} (h:a=b):iv a=iv b:=by rw[h]
theorem needEs_snoc (c:CEnv) (x:Ex):∀ l:List Ex,needEs c (l++[x])=needEs c l++[needE c x]
 |[]=>rfl
 |y::l=>by
  show needEs c (y::(l++[x]))=_
  rw[needEs,needEs_snoc c x l,needEs]
  rfl
attribute [local irreducible] LOps LCode LStep LCalls Go.GL.Pure QThen QBlock RetPost LQ LAny LLate LLateOp LS
section
variable {B0:Nat} {w0:World}
theorem most_spec (a:Nat) (r:List Nat) (hl:r.length≤1000):LCalls (KC B0 w0) 87 [.list ((a::r).map iv)] [] (Ret (iv (mostN (a::r)))):=by
 generalize hA:a::r=A
 have hAl:A.length≤1001:=by rw[←hA,zLc];omega
 refine cI Tryz.func87 rfl (n:=21) rfl rfl rfl ?_
 refine gaa ?_
 refine oP (xR (el':=iv a) (cs:=[_]) rfl rfl zo (by rw[←hA];rfl) rfl rfl) rfl ?_
 refine gab ?_
 refine oL (fun k ls H'=>∃ pre l1,A=pre++l1∧k=l1.length∧ls=[(3,iv (pre.foldl max a)),(9,.list (A.map iv)),(10,int .i64 ((A.map iv).length:Int)),(11,int .i64 (pre.length:Int))]∧H'=[])
  ⟨_,_,_,⟨[],A,rfl,rfl,rfl,rfl⟩,⟨rfl,rfl,rfl,rfl,trivial⟩,zhR _⟩ ?_
 rintro k ls H' ⟨pre,l1,hL,rfl,rfl,rfl⟩ j hj
 have hb:=pre_le hL hAl
 refine gah ?_
 refine oC rfl (fun hc=>?_) (fun hc=>?_)
 ·obtain ⟨x,l2,rfl⟩:=more hL hc
  refine gak ?_
  refine oP (xR (el':=iv x) (cs:=[_]) rfl rfl zo (by rw[hL];exact get_mid iv pre x l2) rfl rfl) rfl ?_
  refine gab ?_
  refine oC rfl (fun hd=>?_) (fun hd=>?_)
  ·have h1:=zt hd
   refine gat ?_
   exact ⟨l2.length,_,_,Nat.lt_succ_self _,⟨pre++[x],l2,snoc hL,rfl,rfl,rfl⟩,⟨iv_eq (by rw[List.foldl_append];show x=max (pre.foldl max a) x;omega),rfl,rfl,int_eq (by simp),trivial⟩,zhR _,hj⟩
  ·have h1:=zf hd
   refine gaa ?_
   exact ⟨l2.length,_,_,Nat.lt_succ_self _,⟨pre++[x],l2,snoc hL,rfl,rfl,rfl⟩,⟨iv_eq (by rw[List.foldl_append];show pre.foldl max a=max (pre.foldl max a) x;omega),rfl,rfl,int_eq (by simp),trivial⟩,zhR _,hj⟩
 ·obtain rfl:=none_left hL hc
  rw[zLz] at hL
  refine gaa ?_
  exact retRet hj (zra rfl) (iv_eq (by rw[←hL,←hA];show (r.foldl max (max a a))=_;rw[Nat.max_self];rfl))
def NeedH (B0:Nat) (w0:World) (c:CEnv) (fs:List FnD) (n:Nat):Prop:=∀ x:Ex,errE c x=0→ndE x<n→LCalls (KC B0 w0) 143 [encE x,.list (fs.map encFn),.list ((c.funcs.map (·.need)).map iv)] [] (Ret (iv (needE c x)))
theorem Need_spec {c:CEnv} {fs:List FnD} (hfl:fs.length≤100000000) (hfn:c.funcs.map (·.name)=fs.map (·.name)) (hd:Dist c.funcs) {B D:Nat} (hB:KnB B D c.funcs) (hB8:B≤100000000):∀ n:Nat,n≤100000000→NeedH B0 w0 c fs n
 |0,_=>fun x _ h=>by omega
 |n+1,hn6=>by
  have ih:=Need_spec hfl hfn hd hB hB8 n zo
  intro x herr hnd
  obtain ⟨op,num,name,args⟩:=x
  rw[ndE] at hnd
  have hal:=ndEs_len args
  rw[errE] at herr
  have hop:opnds op = -1∨opnds op=(args.length:Int):=Decidable.byContradiction fun h=>by rw[if_neg h] at herr;cases herr
  rw[if_pos hop] at herr
  obtain ⟨hea,hue⟩:=orE_zero.1 herr
  have hea0:=hea
  generalize hR:iv (needE c (.mk op num name args))=R
  rw[needE] at hR
  rw[encE_mk]
  refine cI Tryz.func143 rfl (n:=156) rfl rfl rfl ?_
  refine gaf ?_
  refine oS (S.box rfl fun b3=>?_) rfl
  refine gai ?_
  refine oS (S.litA (es:=[]) [] rfl eN rfl rfl rfl fun b7=>?_) rfl
  refine gab ?_
  refine oL (fun kk ls H'=>∃ (pre l1:List Ex) (v:LV) (Ha:Heap),args=pre++l1∧kk=l1.length∧ls=[(1,.list (fs.map encFn)),(2,.list ((c.funcs.map (·.need)).map iv)),(3,ptr b3 0),(7,v),(16,.list (args.map encE)),(17,int .i64 ((args.map encE).length:Int)),(18,int .i64 (pre.length:Int))] ∧
    H'=exH b3 op num name args::Ha∧GL.Acc 1 v ((needEs c pre).map iv) Ha []∧errEs c l1=0)
   ⟨_,_,_,⟨[],args,.app b7 0 1 [],[(b7,.row 0)],rfl,rfl,rfl,rfl,Acc.row,hea⟩,⟨rfl,rfl,rfl,rfl,rfl,rfl,rfl,trivial⟩,⟨[],by simpa using List.Perm.swap _ _ _⟩⟩ ?_
  rintro kk ls H' ⟨pre,l1,v,Ha,hL,rfl,rfl,rfl,hacc,hI2⟩ j hj
  have hb:=pre_le hL (show args.length≤100000000 by omega)
  refine gah ?_
  refine oC rfl (fun hc=>?_) (fun hc=>?_)
  ·obtain ⟨a,l2,rfl⟩:=more hL hc
   have ham:ndE a≤ndEs args:=ndEs_mem (by rw[hL];exact List.mem_append_right _ zMs)
   rw[errEs] at hI2
   obtain ⟨h1,h2⟩:=orE_zero.1 hI2
   refine gak ?_
   refine oP (xR (el':=encE a) (cs:=[_,_,_,_]) rfl rfl zo (by rw[hL];exact get_mid encE pre a l2) rfl rfl) rfl ?_
   refine gaq ?_
   refine oS (sA fun b9=>?_) rfl
   refine gab ?_
   refine oP (pM (lv:=v) rfl) rfl ?_
   refine gac ?_
   refine oS (sF [_,_,_] rfl (ih a h1 zo) ?_) rfl
   refine oS (sL (es:=[needE c a].map iv) [_] rfl (zeC rfl rfl eN) rfl rfl rfl ?_) rfl
   have hnl:(needEs c pre).length=pre.length:=needEs_len c pre
   refine oS (S.accF (A:=[_,_]) (H1:=Ha) (zPc (l₁:=[_,_])) rfl hacc rfl (iv_len _) (iv_ok _) (by rw[zLm,zLm,List.length_singleton];omega) fun v2 H2 hacc2=>?_) rfl
   refine oP (pA (lv:=v2) rfl) rfl ?_
   refine gal ?_
   exact ⟨l2.length,_,_,Nat.lt_succ_self _,⟨pre++[a],l2,v2,H2,snoc hL,rfl,rfl,rfl,by rw[needEs_snoc,zMa];exact hacc2,h2⟩,⟨rfl,rfl,rfl,rfl,rfl,rfl,int_eq (by simp),trivial⟩,zhD zhr,hj⟩
  obtain rfl:=none_left hL hc
  rw[zLz] at hL
  subst hL
  clear hI2
  refine gad ?_
  refine LCode.sub (d:=7) rfl hacc.sub ?_
  refine LCode.weak (H':=[exH b3 op num name args]) ⟨Ha,List.Perm.refl _⟩ ?_
  have hnE:∀ x∈args,needE c x≤500000000:=fun x hx=>by
   have h1:=needE_le B D c hB x
   have h2:=ndEs_mem hx
   omega
  have two:∀ {k:Int},opnds op=k→0≤k→args.length=k.toNat:=fun {k} h h0=>by
   rcases hop with h1|h1 <;> omega
  refine gaa ?_
  by_cases h1:op=[110,117,109]
  ·subst h1
   refine oC rfl (fun _=>?_) (fun hc=>by cases hc)
   refine gar ?_
   refine oC rfl (fun _=>?_) (fun hc=>by cases hc)
   refine gaa ?_
   exact retRet hj (zra rfl) hR
  refine oC rfl (fun hc=>absurd (zt hc) h1) (fun _=>?_)
  refine gai ?_
  by_cases h2:op=[118,97,114]
  ·subst h2
   refine oC rfl (fun _=>?_) (fun hc=>by cases hc)
   refine gaa ?_
   exact retRet hj (zra rfl) hR
  refine oC rfl (fun hc=>absurd (zt hc) h2) (fun _=>?_)
  refine gai ?_
  by_cases h3:op=[101,108,101,109]
  ·subst h3
   obtain ⟨x,rfl⟩:=List.length_eq_one_iff.1 (two rfl zDd)
   have hx:=hnE x zMs
   refine oC rfl (fun _=>?_) (fun hc=>by cases hc)
   refine gar ?_
   refine oC rfl (fun _=>?_) (fun hc=>by cases hc)
   refine gaa ?_
   refine oP (xR (el':=iv (needE c x)) (cs:=[_]) rfl rfl zo rfl rfl rfl) rfl ?_
   refine gac ?_
   exact retRet hj (zra rfl) (by rw[←hR];exact int_eq (by simp[opN,nNum,nVar,nElem,nNeg,needEs]))
  refine oC rfl (fun hc=>absurd (zt hc) h3) (fun _=>?_)
  refine gai ?_
  by_cases h4:op=[110,101,103]
  ·subst h4
   obtain ⟨x,rfl⟩:=List.length_eq_one_iff.1 (two rfl zDd)
   have hx:=hnE x zMs
   refine oC rfl (fun _=>?_) (fun hc=>by cases hc)
   refine gaa ?_
   refine oP (xR (el':=iv (needE c x)) (cs:=[_]) rfl rfl zo rfl rfl rfl) rfl ?_
   refine gac ?_
   exact retRet hj (zra rfl) (by rw[←hR];exact int_eq (by simp[opN,nNum,nVar,nElem,nNeg,needEs]))
  refine oC rfl (fun hc=>absurd (zt hc) h4) (fun _=>?_)
  refine gai ?_
  by_cases h5:op=[110,111,116]
  ·subst h5
   obtain ⟨x,rfl⟩:=List.length_eq_one_iff.1 (two rfl zDd)
   refine oC rfl (fun _=>?_) (fun hc=>by cases hc)
   refine gaa ?_
   refine oP (xR (el':=iv (needE c x)) (cs:=[_]) rfl rfl zo rfl rfl rfl) rfl ?_
   refine gac ?_
   refine oS (sL (es:=[2,needE c x].map iv) [_,_] rfl (iv_els _) rfl rfl rfl ?_) rfl
   refine oS (sF [_] rfl (most_spec 2 [needE c x] (by simp)) ?_) rfl
   refine gae ?_
   exact retRet hj (zra rfl) (by rw[←hR];rfl)
  refine oC rfl (fun hc=>absurd (zt hc) h5) (fun _=>?_)
  refine gai ?_
  have hbin:op≠[99,97,108,108]→args.length=2:=fun h6=>by
   unfold opnds at hop
   rw[if_neg (fun h=>h.elim h1 h2),if_neg (fun h=>h.elim h3 (fun h=>h.elim h4 h5)),if_neg (show ¬ op=nCall from h6)] at hop
   split at hop <;> rcases hop with h|h <;> omega
  have pair:op≠[99,97,108,108]→∃ x y,args=[x,y]:=fun h6=>by
   have:=hbin h6
   match args,this with
   |[x,y],_=>exact ⟨x,y,rfl⟩
  by_cases h6:op=[62]
  ·subst h6
   obtain ⟨x,y,rfl⟩:=pair zDd
   have hx:=hnE x zMs
   have hy:=hnE y (zMo _ zMs)
   refine oC rfl (fun _=>?_) (fun hc=>by cases hc)
   refine gar ?_
   refine oC rfl (fun _=>?_) (fun hc=>by cases hc)
   refine gau ?_
   refine LCode.tail 7 zk ?_
   refine gac ?_
   refine LS.pure (xR (el':=iv (needE c x)) (cs:=[_]) rfl rfl zo rfl rfl rfl) rfl ?_
   refine gac ?_
   refine LS.pure (xR (el':=iv (needE c y)) (cs:=[_]) rfl rfl zo rfl rfl rfl) rfl ?_
   refine gac ?_
   refine oS (sL (es:=[3,needE c x,1+needE c y].map iv) [_,_,_] rfl (iv_els _) rfl rfl rfl ?_) rfl
   refine oS (sF [_] rfl (most_spec 3 [needE c x,1+needE c y] (by simp)) ?_) rfl
   refine gae ?_
   exact retRet hj (zra rfl) (by rw[←hR];rfl)
  refine oC rfl (fun hc=>absurd (zt hc) h6) (fun _=>?_)
  refine gai ?_
  by_cases h7:op=[60,61]
  ·subst h7
   obtain ⟨x,y,rfl⟩:=pair zDd
   have hx:=hnE x zMs
   have hy:=hnE y (zMo _ zMs)
   refine oC rfl (fun _=>?_) (fun hc=>by cases hc)
   refine gau ?_
   refine LCode.tail 7 zk ?_
   refine gac ?_
   refine LS.pure (xR (el':=iv (needE c x)) (cs:=[_]) rfl rfl zo rfl rfl rfl) rfl ?_
   refine gac ?_
   refine LS.pure (xR (el':=iv (needE c y)) (cs:=[_]) rfl rfl zo rfl rfl rfl) rfl ?_
   refine gac ?_
   refine oS (sL (es:=[3,needE c x,1+needE c y].map iv) [_,_,_] rfl (iv_els _) rfl rfl rfl ?_) rfl
   refine oS (sF [_] rfl (most_spec 3 [needE c x,1+needE c y] (by simp)) ?_) rfl
   refine gae ?_
   exact retRet hj (zra rfl) (by rw[←hR];rfl)
  refine oC rfl (fun hc=>absurd (zt hc) h7) (fun _=>?_)
  refine gai ?_
  by_cases h8:op=[33,61]
  ·subst h8
   obtain ⟨x,y,rfl⟩:=pair zDd
   have hx:=hnE x zMs
   have hy:=hnE y (zMo _ zMs)
   refine oC rfl (fun _=>?_) (fun hc=>by cases hc)
   refine gau ?_
   refine LCode.tail 8 zk ?_
   refine gac ?_
   refine LS.pure (xR (el':=iv (needE c x)) (cs:=[_]) rfl rfl zo rfl rfl rfl) rfl ?_
   refine gac ?_
   refine LS.pure (xR (el':=iv (needE c y)) (cs:=[_]) rfl rfl zo rfl rfl rfl) rfl ?_
   refine gac ?_
   refine oS (sL (es:=[3,1+needE c x,2+needE c y].map iv) [_,_,_] rfl (iv_els _) rfl rfl rfl ?_) rfl
   refine oS (sF [_] rfl (most_spec 3 [1+needE c x,2+needE c y] (by simp)) ?_) rfl
   refine gae ?_
   exact retRet hj (zra rfl) (by rw[←hR];rfl)
  refine oC rfl (fun hc=>absurd (zt hc) h8) (fun _=>?_)
  refine gai ?_
  by_cases h9:op=[38,38]
  ·subst h9
   obtain ⟨x,y,rfl⟩:=pair zDd
   have hx:=hnE x zMs
   have hy:=hnE y (zMo _ zMs)
   refine oC rfl (fun _=>?_) (fun hc=>by cases hc)
   refine gau ?_
   refine LCode.tail 8 zk ?_
   refine gac ?_
   refine LS.pure (xR (el':=iv (needE c x)) (cs:=[_]) rfl rfl zo rfl rfl rfl) rfl ?_
   refine gac ?_
   refine LS.pure (xR (el':=iv (needE c y)) (cs:=[_]) rfl rfl zo rfl rfl rfl) rfl ?_
   refine gac ?_
   refine oS (sL (es:=[1+needE c x,2+needE c y].map iv) [_,_] rfl (iv_els _) rfl rfl rfl ?_) rfl
   refine oS (sF [_] rfl (most_spec (1+needE c x) [2+needE c y] (by simp)) ?_) rfl
   refine gae ?_
   exact retRet hj (zra rfl) (by rw[←hR];rfl)
  refine oC rfl (fun hc=>absurd (zt hc) h9) (fun _=>?_)
  refine gai ?_
  by_cases h10:op=[124,124]
  ·subst h10
   obtain ⟨x,y,rfl⟩:=pair zDd
   have hx:=hnE x zMs
   have hy:=hnE y (zMo _ zMs)
   refine oC rfl (fun _=>?_) (fun hc=>by cases hc)
   refine gau ?_
   refine LCode.tail 8 zk ?_
   refine gac ?_
   refine LS.pure (xR (el':=iv (needE c x)) (cs:=[_]) rfl rfl zo rfl rfl rfl) rfl ?_
   refine gac ?_
   refine LS.pure (xR (el':=iv (needE c y)) (cs:=[_]) rfl rfl zo rfl rfl rfl) rfl ?_
   refine gac ?_
   refine oS (sL (es:=[2+needE c x,3+needE c y].map iv) [_,_] rfl (iv_els _) rfl rfl rfl ?_) rfl
   refine oS (sF [_] rfl (most_spec (2+needE c x) [3+needE c y] (by simp)) ?_) rfl
   refine gae ?_
   exact retRet hj (zra rfl) (by rw[←hR];rfl)
  refine oC rfl (fun hc=>absurd (zt hc) h10) (fun _=>?_)
  refine gai ?_
  by_cases h11:op=[99,97,108,108]
  rotate_left
  ·obtain ⟨x,y,rfl⟩:=pair h11
   have hx:=hnE x zMs
   have hy:=hnE y (zMo _ zMs)
   have hR2:iv (mostN [2,needE c x,1+needE c y])=R:=by
    rw[←hR]
    unfold opN
    rw[if_neg (fun h=>h.elim h1 h2),if_neg (fun h=>h.elim h3 h4),if_neg (show ¬ op=nCall from h11),if_neg (show ¬ op=nNot from h5),if_neg (fun h=>h.elim h6 h7),if_neg h8,if_neg h9,if_neg h10]
    rfl
   refine oC rfl (fun hc=>absurd (zt hc) h11) (fun _=>?_)
   refine gad ?_
   refine LCode.tail 7 zk ?_
   refine gac ?_
   refine LS.pure (xR (el':=iv (needE c x)) (cs:=[_]) rfl rfl zo rfl rfl rfl) rfl ?_
   refine gac ?_
   refine LS.pure (xR (el':=iv (needE c y)) (cs:=[_]) rfl rfl zo rfl rfl rfl) rfl ?_
   refine gac ?_
   refine oS (sL (es:=[2,needE c x,1+needE c y].map iv) [_,_,_] rfl (iv_els _) rfl rfl rfl ?_) rfl
   refine oS (sF [_] rfl (most_spec 2 [needE c x,1+needE c y] (by simp)) ?_) rfl
   refine gae ?_
   exact retRet hj (zra rfl) hR2
  subst h11
  have hcl:callE c name args.length=0:=hue
  have hcall:iv (refCall c name (needEs c args))=R:=by
   rw[←hR,refCall_eq hd (by rw[needEs_len];exact hcl)]
   rfl
  unfold refCall at hcall
  refine oC rfl (fun _=>?_) (fun hc=>by cases hc)
  refine gaa ?_
  by_cases h12:name=[105,110]
  ·subst h12
   refine oC rfl (fun _=>?_) (fun hc=>by cases hc)
   refine gaa ?_
   exact retRet hj (zra rfl) hcall
  rw[if_neg h12] at hcall
  refine oC rfl (fun hc=>absurd (zt hc) h12) (fun _=>?_)
  refine gaa ?_
  by_cases h13:name=[111,117,116]
  ·subst h13
   obtain ⟨x,rfl⟩:=List.length_eq_one_iff.1 (show args.length=1 by
    unfold callE at hcl
    rw[if_neg zDd,if_pos rfl] at hcl
    exact Decidable.byContradiction fun h=>by rw[if_neg h] at hcl;cases hcl)
   refine oC rfl (fun _=>?_) (fun hc=>by cases hc)
   refine gaa ?_
   refine oP (xR (el':=iv (needE c x)) (cs:=[_]) rfl rfl zo rfl rfl rfl) rfl ?_
   refine gac ?_
   exact retRet hj (zra rfl) hcall
  rw[if_neg h13] at hcall
  refine oC rfl (fun hc=>absurd (zt hc) h13) (fun _=>?_)
  have hns:∀ q∈needEs c args,q≤500000000:=fun q hq=>by
   have:∀ l:List Ex,(∀ x∈l,needE c x≤500000000)→∀ q∈needEs c l,q≤500000000:=fun l=>by
    induction l with
    |nil=>intro _ q hq;rw[needEs] at hq;cases hq
    |cons y l ih=>
     intro h q hq
     rw[needEs] at hq
     rcases zMi.1 hq with rfl|hq
     ·exact h y zMs
     ·exact ih (fun x hx=>h x (zMo _ hx)) q hq
   exact this args hnE q hq
  have hnl:(needEs c args).length=args.length:=needEs_len c args
  have hnsl:(needEs c args).length≤100000000:=by omega
  generalize needEs c args=ns at hcall hns hnl hnsl ⊢
  have hmn:((ns.map iv).length:Int)≤100000000:=by rw[zLm];omega
  refine gaa ?_
  refine oL (fun kk ls H'=>∃ (pre l1:List Nat) (m:Nat),ns=pre++l1∧kk=l1.length∧ls=[(1,.list (fs.map encFn)),(2,.list ((c.funcs.map (·.need)).map iv)),(3,ptr b3 0),(7,.list (ns.map iv)),(10,iv m),(112,int .i64 ((ns.map iv).length:Int)),(113,int .i64 (pre.length:Int))] ∧
    H'=[exH b3 [99,97,108,108] num name args]∧stair 0 ns (ns.length+1)=stair pre.length l1 m)
   ⟨_,_,_,⟨[],ns,ns.length+1,rfl,rfl,rfl,rfl,rfl⟩,⟨rfl,rfl,rfl,rfl,int_eq (by simp),rfl,rfl,trivial⟩,zhR _⟩ ?_
  rintro kk ls H' ⟨pre,l1,m,hL,rfl,rfl,rfl,hI2⟩ j2 hj2
  have hb:=pre_le hL hnsl
  refine gah ?_
  refine oC rfl (fun hc=>?_) (fun hc=>?_)
  ·obtain ⟨a,l2,rfl⟩:=more hL hc
   have ha:=hns a (by rw[hL];exact List.mem_append_right _ zMs)
   rw[stair] at hI2
   refine gaa ?_
   refine oP (xR (el':=iv a) (cs:=[_]) rfl rfl zo (by rw[hL];exact get_mid iv pre a l2) rfl rfl) rfl ?_
   refine gac ?_
   refine oS (sL (es:=[m,pre.length+a].map iv) [_,_] rfl (iv_els _) rfl rfl rfl ?_) rfl
   refine oS (sF [_] rfl (most_spec m [pre.length+a] (by simp)) ?_) rfl
   refine gat ?_
   exact ⟨l2.length,_,_,Nat.lt_succ_self _,⟨pre++[a],l2,max m (pre.length+a),snoc hL,rfl,rfl,rfl,by rw[hI2,zLa];rfl⟩,⟨rfl,rfl,rfl,rfl,rfl,rfl,int_eq (by simp),trivial⟩,zhR _,hj2⟩
  obtain rfl:=none_left hL hc
  have hI3:stair 0 ns (ns.length+1)=m:=hI2
  rw[hI3] at hcall
  refine gaa ?_
  refine oL (fun kk ls H'=>∃ (pre l1:List FnD) (cp cl:List FSum) (m:Nat),fs=pre++l1∧c.funcs=cp++cl∧cp.length=pre.length∧kk=l1.length∧ls=[(1,.list (fs.map encFn)),(2,.list ((c.funcs.map (·.need)).map iv)),(3,ptr b3 0),(10,iv m),(126,.list (fs.map encFn)),(127,int .i64 ((fs.map encFn).length:Int)),(128,int .i64 (pre.length:Int))] ∧
    H'=[exH b3 [99,97,108,108] num name args]∧cl.map (·.name)=l1.map (·.name)∧R=iv (overF (·.need) name cl m))
   ⟨_,_,_,⟨[],fs,[],c.funcs,m,rfl,rfl,rfl,rfl,rfl,rfl,hfn,hcall.symm⟩,⟨rfl,rfl,rfl,rfl,rfl,rfl,rfl,trivial⟩,zhR _⟩ ?_
  rintro kk ls H' ⟨pre,l1,cp,cl,m,hL,hC,hcp,rfl,rfl,rfl,hcl,hI4⟩ j3 hj3
  have hb:=pre_le hL hfl
  refine gah ?_
  refine oC rfl (fun hc=>?_) (fun hc=>?_)
  ·obtain ⟨a,l2,rfl⟩:=more hL hc
   obtain ⟨s,cl,rfl⟩:∃ s l,cl=s::l:=by
    cases cl with
    |nil=>simp at hcl
    |cons s l=>exact ⟨s,l,rfl⟩
   rw[zMc,zMc] at hcl
   injection hcl with hs hcl
   have hget:((c.funcs.map (·.need)).map iv)[((pre.length:Nat):Int).toNat]? = some (iv s.need):=by
    rw[hC,List.map_map,←hcp]
    exact get_mid _ cp s cl
   refine gaa ?_
   refine oP (xR (el':=encFn a) (cs:=[_,_,_,_]) rfl rfl zo (by rw[hL];exact get_mid encFn pre a l2) rfl rfl) rfl ?_
   refine gaq ?_
   refine oS (sA fun b13=>?_) rfl
   refine gab ?_
   by_cases h14:a.name=name
   ·refine oC rfl (fun _=>?_) (fun hd=>absurd h14 (zf hd))
    refine gaa ?_
    refine oP (xR (el':=iv s.need) (cs:=[_]) rfl rfl zo hget rfl rfl) rfl ?_
    refine gac ?_
    refine oS (sL (es:=[m,s.need].map iv) [_,_] rfl (iv_els _) rfl rfl rfl ?_) rfl
    refine oS (sF [_] rfl (most_spec m [s.need] (by simp)) ?_) rfl
    refine gat ?_
    exact ⟨l2.length,_,_,Nat.lt_succ_self _,⟨pre++[a],l2,cp++[s],cl,max m s.need,snoc hL,snoc hC,by simp[hcp],rfl,rfl,rfl,hcl,by rw[hI4];unfold overF;rw[List.foldl_cons,if_pos (hs.trans h14)]⟩,⟨rfl,rfl,rfl,rfl,rfl,rfl,int_eq (by simp),trivial⟩,zhD zhr,hj3⟩
   ·refine oC rfl (fun hd=>absurd (zt hd) h14) (fun _=>?_)
    refine gaa ?_
    exact ⟨l2.length,_,_,Nat.lt_succ_self _,⟨pre++[a],l2,cp++[s],cl,m,snoc hL,snoc hC,by simp[hcp],rfl,rfl,rfl,hcl,by rw[hI4];unfold overF;rw[List.foldl_cons,if_neg (fun h=>h14 (hs.symm.trans h))]⟩,⟨rfl,rfl,rfl,rfl,rfl,rfl,int_eq (by simp),trivial⟩,zhD zhr,hj3⟩
  obtain rfl:=none_left hL hc
  have hcl0:cl=[]:=by
   cases cl with
   |nil=>rfl
   |cons s l=>simp at hcl
  subst hcl0
  refine gaa ?_
  exact retRet ((hj3.trans hj2).trans hj) (zra rfl) hI4.symm
end
end Go.Proofs.YtpbbgkoalnonoaaGreatDoor.RC
namespace Go.Proofs.YtpbbgkoalnonoaaGreatDoor.RC
open Go.GL Go.RowKit Go.Stele
theorem lastN_snoc (c:CEnv) (pre:List Ex) (a:Ex):lastN (needEs c (pre++[a]))=needE c a:=by
 rw[needEs_snoc]
 unfold lastN
 rw[List.getLast?_append]
 rfl
theorem lastN_le {c:CEnv} {M:Nat} {l:List Ex} (h:∀ x∈l,needE c x≤M):lastN (needEs c l)≤M:=by
 rcases List.eq_nil_or_concat l with rfl|⟨pre,a,rfl⟩
 ·rw[needEs];exact Nat.zero_le _
 ·rw[List.concat_eq_append,lastN_snoc]
  exact h a (by simp)
theorem needS_by {c:CEnv} (hd:Dist c.funcs) {kind:Int} {name:Nm} {index value:List Ex} {thn els:List Sm} (h:errS c (.mk kind name index value thn els)=0) :
  needS c (.mk kind name index value thn els)=if kind=1∨kind=6 then max 2 (lastN (needEs c value)) else if kind=2 then max (lastN (needEs c value)) (2+lastN (needEs c index))
   else if kind=3∨kind=4 then max (max (max 2 (lastN (needEs c value))) (needSs c thn)) (needSs c els) else if kind=5 then lastN (needEs c value) else 0:=by
 rw[←refS_eq hd _ h]
 rw[errS] at h
 split at h
 ·cases h
 obtain ⟨h1,h⟩:=orE_zero.1 h
 obtain ⟨h2,h⟩:=orE_zero.1 h
 obtain ⟨_,h⟩:=orE_zero.1 h
 obtain ⟨h3,h4⟩:=orE_zero.1 h
 rw[refS,refEs_eq hd value h1,refEs_eq hd index h2,refSs_eq hd thn h3,refSs_eq hd els h4]
attribute [local irreducible] LOps LCode LStep LCalls Go.GL.Pure QThen QBlock RetPost LQ LAny LLate LLateOp LS
section
variable {B0:Nat} {w0:World}
def NeedsH (B0:Nat) (w0:World) (c:CEnv) (fs:List FnD) (n:Nat):Prop:=∀ l:List Sm,errSs c l=0→ndSs l<n→LCalls (KC B0 w0) 88 [.list (l.map encS),.list (fs.map encFn),.list ((c.funcs.map (·.need)).map iv)] [] (Ret (iv (needSs c l)))
theorem needs_spec {c:CEnv} {fs:List FnD} (hfl:fs.length≤100000000) (hfn:c.funcs.map (·.name)=fs.map (·.name)) (hd:Dist c.funcs) {B D:Nat} (hB:KnB B D c.funcs) (hB8:B≤100000000):∀ n:Nat,n≤100000000→NeedsH B0 w0 c fs n
 |0,_=>fun x _ h=>by omega
 |n+1,hn6=>by
  have ih:=needs_spec hfl hfn hd hB hB8 n zo
  have hN:NeedH B0 w0 c fs n:=Need_spec hfl hfn hd hB hB8 n zo
  intro l herr hnd
  have hal:=ndSs_len l
  generalize hR:needSs c l=R
  refine cI Tryz.func88 rfl (n:=88) rfl rfl rfl ?_
  refine gaa ?_
  refine oL (fun kk ls H'=>∃ (pre l1:List Sm) (m:Nat),l=pre++l1∧kk=l1.length∧ls=[(1,.list (fs.map encFn)),(2,.list ((c.funcs.map (·.need)).map iv)),(7,iv m),(16,.list (l.map encS)),(17,int .i64 ((l.map encS).length:Int)),(18,int .i64 (pre.length:Int))] ∧
    H'=[]∧errSs c l1=0∧R=max m (needSs c l1))
   ⟨_,_,_,⟨[],l,0,rfl,rfl,rfl,rfl,herr,by rw[hR,Nat.zero_max]⟩,⟨rfl,rfl,rfl,rfl,rfl,rfl,trivial⟩,zhR _⟩ ?_
  rintro kk ls H' ⟨pre,l1,m,hL,rfl,rfl,rfl,hI2,hI3⟩ j hj
  have hb:=pre_le hL (show l.length≤100000000 by omega)
  refine gah ?_
  refine oC rfl (fun hc=>?_) (fun hc=>?_)
  rotate_left
  ·obtain rfl:=none_left hL hc
   refine gaa ?_
   exact retRet hj (zra rfl) (iv_eq (by rw[hI3,needSs,Nat.max_zero]))
  obtain ⟨a,l2,rfl⟩:=more hL hc
  have ham:ndS a≤ndSs l:=ndSs_mem (by rw[hL];exact List.mem_append_right _ zMs)
  obtain ⟨kind,name,index,value,thn,els⟩:=a
  rw[errSs] at hI2
  obtain ⟨he1,he2⟩:=orE_zero.1 hI2
  have hby:=needS_by hd he1
  rw[errS] at he1
  rw[ndS] at ham
  have hform:formS (.mk kind name index value thn els)=true:=by
   cases hf:formS (.mk kind name index value thn els) with
   |true=>rfl
   |false=>rw[if_pos hf] at he1;cases he1
  rw[if_neg (by rw[hform];decide)] at he1
  obtain ⟨hev,he1⟩:=orE_zero.1 he1
  obtain ⟨hei,he1⟩:=orE_zero.1 he1
  obtain ⟨_,he1⟩:=orE_zero.1 he1
  obtain ⟨het,hee⟩:=orE_zero.1 he1
  rw[needSs] at hI3
  have hle:∀ l:List Ex,ndEs l≤ndSs (pre++Sm.mk kind name index value thn els::l2)→lastN (needEs c l)≤500000000:=fun l4 h4=>lastN_le fun x hx=>by
   have h1:=needE_le B D c hB x
   have h2:=ndEs_mem hx
   rw[←hL] at h4
   omega
  have hV:=hle value (by rw[←hL];omega)
  have hX:=hle index (by rw[←hL];omega)
  refine gak ?_
  refine oP (xR (el':=.agg [int .i64 kind,str name,.list (index.map encE),.list (value.map encE),.list (thn.map encS),.list (els.map encS)]) (cs:=[_,_,_,_,_,_]) rfl rfl zo (by rw[hL,←encS_mk];exact get_mid encS pre _ l2) rfl rfl) rfl ?_
  refine gac ?_
  refine oS (sA fun b9=>?_) rfl
  refine gab ?_
  refine oL (fun kk ls H'=>∃ (p2 l3:List Ex),value=p2++l3∧kk=l3.length∧ls=[(1,.list (fs.map encFn)),(2,.list ((c.funcs.map (·.need)).map iv)),(7,iv m),(9,ptr b9 0),(10,iv (lastN (needEs c p2))),(11,iv 0),(16,.list (l.map encS)),(17,int .i64 ((l.map encS).length:Int)),(18,int .i64 (pre.length:Int)),(23,.list (value.map encE)),(24,int .i64 ((value.map encE).length:Int)),(25,int .i64 (p2.length:Int))] ∧
    H'=[smH b9 kind name index value thn els]∧errEs c l3=0)
   ⟨_,_,_,⟨[],value,rfl,rfl,rfl,rfl,hev⟩,⟨rfl,rfl,rfl,rfl,rfl,rfl,rfl,rfl,rfl,rfl,rfl,rfl,trivial⟩,zhR _⟩ ?_
  rintro kk ls H' ⟨p2,l3,hL2,rfl,rfl,rfl,hI4⟩ j2 hj2
  have hval:=ndEs_len value
  have hb2:=pre_le hL2 (show value.length≤100000000 by omega)
  refine gah ?_
  refine oC rfl (fun hc2=>?_) (fun hc2=>?_)
  ·obtain ⟨a,l4,rfl⟩:=more hL2 hc2
   have ham2:ndE a≤ndEs value:=ndEs_mem (by rw[hL2];exact List.mem_append_right _ zMs)
   rw[errEs] at hI4
   obtain ⟨h1,h2⟩:=orE_zero.1 hI4
   refine gak ?_
   refine oP (xR (el':=encE a) (cs:=[_,_,_,_]) rfl rfl zo (by rw[hL2];exact get_mid encE p2 a l4) rfl rfl) rfl ?_
   refine gaq ?_
   refine oS (sA fun b13=>?_) rfl
   refine gab ?_
   refine oS (sF [_,_,_] rfl (hN a h1 zo) ?_) rfl
   refine gat ?_
   exact ⟨l4.length,_,_,Nat.lt_succ_self _,⟨p2++[a],l4,snoc hL2,rfl,rfl,rfl,h2⟩,⟨rfl,rfl,rfl,rfl,iv_eq (lastN_snoc c p2 a).symm,rfl,rfl,rfl,rfl,rfl,rfl,int_eq (by simp),trivial⟩,zhD zhr,hj2⟩
  obtain rfl:=none_left hL2 hc2
  rw[zLz] at hL2
  subst hL2
  refine gaa ?_
  refine oL (fun kk ls H'=>∃ (p3 l3:List Ex),index=p3++l3∧kk=l3.length∧ls=[(1,.list (fs.map encFn)),(2,.list ((c.funcs.map (·.need)).map iv)),(7,iv m),(9,ptr b9 0),(10,iv (lastN (needEs c value))),(11,iv (lastN (needEs c p3))),(16,.list (l.map encS)),(17,int .i64 ((l.map encS).length:Int)),(18,int .i64 (pre.length:Int)),(35,.list (index.map encE)),(36,int .i64 ((index.map encE).length:Int)),(37,int .i64 (p3.length:Int))] ∧
    H'=[smH b9 kind name index value thn els]∧errEs c l3=0)
   ⟨_,_,_,⟨[],index,rfl,rfl,rfl,rfl,hei⟩,⟨rfl,rfl,rfl,rfl,rfl,rfl,rfl,rfl,rfl,rfl,rfl,rfl,trivial⟩,zhR _⟩ ?_
  rintro kk ls H' ⟨p3,l3,hL3,rfl,rfl,rfl,hI5⟩ j3 hj3
  have hixl:=ndEs_len index
  have hb3:=pre_le hL3 (show index.length≤100000000 by omega)
  refine gah ?_
  refine oC rfl (fun hc2=>?_) (fun hc2=>?_)
  ·obtain ⟨a,l4,rfl⟩:=more hL3 hc2
   have ham2:ndE a≤ndEs index:=ndEs_mem (by rw[hL3];exact List.mem_append_right _ zMs)
   rw[errEs] at hI5
   obtain ⟨h1,h2⟩:=orE_zero.1 hI5
   refine gak ?_
   refine oP (xR (el':=encE a) (cs:=[_,_,_,_]) rfl rfl zo (by rw[hL3];exact get_mid encE p3 a l4) rfl rfl) rfl ?_
   refine gaq ?_
   refine oS (sA fun b13=>?_) rfl
   refine gab ?_
   refine oS (sF [_,_,_] rfl (hN a h1 zo) ?_) rfl
   refine gat ?_
   exact ⟨l4.length,_,_,Nat.lt_succ_self _,⟨p3++[a],l4,snoc hL3,rfl,rfl,rfl,h2⟩,⟨rfl,rfl,rfl,rfl,rfl,iv_eq (lastN_snoc c p3 a).symm,rfl,rfl,rfl,rfl,rfl,int_eq (by simp),trivial⟩,zhD zhr,hj3⟩
  obtain rfl:=none_left hL3 hc2
  rw[zLz] at hL3
  subst hL3
  rw[hby] at hI3
  generalize lastN (needEs c value)=nv at hI3 hV ⊢
  generalize lastN (needEs c index)=ni at hI3 hX ⊢
  have hjj:=hj3.trans (hj2.trans hj)
  have fin:∀ {m2:Nat},R=max m2 (needSs c l2)→∀ {e:Env} {H:Heap},e.s 1=.list (fs.map encFn)→e.s 2=.list ((c.funcs.map (·.need)).map iv)→e.s 7=iv m2→e.s 16=.list (l.map encS)→e.s 17=int .i64 ((l.map encS).length:Int)→e.s 18=int .i64 ((pre.length:Int)+1)→e.ds=(argsEnv [.list (l.map encS),.list (fs.map encFn),.list ((c.funcs.map (·.need)).map iv)]).ds →
    Again (fun kk ls H'=>∃ (pre l1:List Sm) (m:Nat),l=pre++l1∧kk=l1.length∧ls=[(1,.list (fs.map encFn)),(2,.list ((c.funcs.map (·.need)).map iv)),(7,iv m),(16,.list (l.map encS)),(17,int .i64 ((l.map encS).length:Int)),(18,int .i64 (pre.length:Int))]∧H'=[]∧errSs c l1=0∧R=max m (needSs c l1)) (Sm.mk kind name index value thn els::l2).length [] e H:=
   fun {m2} hm {e H} e1 e2 e7 e16 e17 e18 hd2=>⟨l2.length,_,_,Nat.lt_succ_self _,⟨pre++[Sm.mk kind name index value thn els],l2,m2,snoc hL,rfl,rfl,rfl,he2,hm⟩,⟨e1,e2,e7,e16,e17,e18.trans (int_eq (by simp)),trivial⟩,HSub.nil _,hd2⟩
  refine gaa ?_
  by_cases k1:kind=1
  ·subst k1
   rw[if_pos (.inl rfl)] at hI3
   refine oC rfl (fun _=>?_) (fun hd=>by cases hd)
   refine gar ?_
   refine oC rfl (fun _=>?_) (fun hd=>by cases hd)
   refine gaj ?_
   refine oS (sL (es:=[m,2,nv].map iv) [_,_,_] rfl (iv_els _) rfl rfl rfl ?_) rfl
   refine oS (sF [_] rfl (most_spec m [2,nv] (by simp)) ?_) rfl
   refine gat ?_
   exact fin (m2:=mostN [m,2,nv]) (by rw[hI3];show _=max (max (max m 2) nv) _;omega) rfl rfl rfl rfl rfl rfl hjj
  refine oC rfl (fun hd=>absurd (zt hd) k1) (fun _=>?_)
  refine gas ?_
  by_cases k6:kind=6
  ·subst k6
   rw[if_pos (.inr rfl)] at hI3
   refine oC rfl (fun _=>?_) (fun hd=>by cases hd)
   refine gaj ?_
   refine oS (sL (es:=[m,2,nv].map iv) [_,_,_] rfl (iv_els _) rfl rfl rfl ?_) rfl
   refine oS (sF [_] rfl (most_spec m [2,nv] (by simp)) ?_) rfl
   refine gat ?_
   exact fin (m2:=mostN [m,2,nv]) (by rw[hI3];show _=max (max (max m 2) nv) _;omega) rfl rfl rfl rfl rfl rfl hjj
  rw[if_neg (fun h=>h.elim k1 k6)] at hI3
  refine oC rfl (fun hd=>absurd (zt hd) k6) (fun _=>?_)
  refine gas ?_
  by_cases k2:kind=2
  ·subst k2
   rw[if_pos rfl] at hI3
   refine oC rfl (fun _=>?_) (fun hd=>by cases hd)
   refine gal ?_
   refine oS (sL (es:=[m,nv,2+ni].map iv) [_,_,_] rfl (iv_els _) rfl rfl rfl ?_) rfl
   refine oS (sF [_] rfl (most_spec m [nv,2+ni] (by simp)) ?_) rfl
   refine gat ?_
   exact fin (m2:=mostN [m,nv,2+ni]) (by rw[hI3];show _=max (max (max m nv) (2+ni)) _;omega) rfl rfl rfl rfl rfl rfl hjj
  rw[if_neg k2] at hI3
  refine oC rfl (fun hd=>absurd (zt hd) k2) (fun _=>?_)
  refine gas ?_
  by_cases k3:kind=3
  ·rw[if_pos (.inl k3)] at hI3
   refine oC rfl (fun _=>?_) (fun hd=>absurd k3 (zf hd))
   refine gar ?_
   refine oC rfl (fun _=>?_) (fun hd=>absurd k3 (zf hd))
   refine LCode.draw (m:=15) rfl [smH b9 kind name index value thn els] ?_
   refine aT 0 rfl rfl (pM (lv:=.atom _) rfl) ?_
   refine aT 1 rfl rfl (pM (lv:=.atom _) rfl) ?_
   refine aT 2 rfl rfl (pF rfl) ?_
   refine aT 3 rfl rfl (pL (c:=.list _) rfl zm0 rfl) ?_
   refine aT 4 rfl rfl (pM (lv:=.list _) rfl) ?_
   refine aT 5 rfl rfl (pM (lv:=.list _) rfl) ?_
   refine aT 7 rfl rfl (pF rfl) ?_
   refine aT 8 rfl rfl (pL (c:=.list _) rfl zm0 rfl) ?_
   refine aT 9 rfl rfl (pM (lv:=.list _) rfl) ?_
   refine aT 10 rfl rfl (pM (lv:=.list _) rfl) ?_
   refine LAny.late ?_ zhr
   refine lO 6 (lS (H1:=[]) rfl (.inl rfl) rfl zpr zhr (sF [_,_,_] rfl (ih thn het zo) ?_))
   refine lO 11 (lS (H1:=[]) rfl (.inl rfl) rfl zpr zhr (sF [_,_,_] rfl (ih els hee zo) ?_))
   refine lO 12 (lS (H1:=[]) rfl (.inl rfl) rfl zpr zhr (sL (es:=[m,2,nv,needSs c thn,needSs c els].map iv) [_,_,_,_,_] rfl (iv_els _) rfl rfl rfl ?_))
   refine lO 13 (lS (H1:=[]) rfl (.inl rfl) rfl zpr zhr (sF [_] rfl (most_spec m [2,nv,needSs c thn,needSs c els] (by simp)) ?_))
   refine lO 14 (lH rfl rfl (pA (lv:=.atom _) rfl) ?_)
   refine lD zk ?_
   refine gal ?_
   exact fin (m2:=mostN [m,2,nv,needSs c thn,needSs c els]) (by rw[hI3];show _=max (max (max (max (max m 2) nv) (needSs c thn)) (needSs c els)) _;omega) rfl rfl rfl rfl rfl rfl hjj
  refine oC rfl (fun hd=>absurd (zt hd) k3) (fun _=>?_)
  refine gas ?_
  by_cases k4:kind=4
  ·rw[if_pos (.inr k4)] at hI3
   refine oC rfl (fun _=>?_) (fun hd=>absurd k4 (zf hd))
   refine LCode.draw (m:=15) rfl [smH b9 kind name index value thn els] ?_
   refine aT 0 rfl rfl (pM (lv:=.atom _) rfl) ?_
   refine aT 1 rfl rfl (pM (lv:=.atom _) rfl) ?_
   refine aT 2 rfl rfl (pF rfl) ?_
   refine aT 3 rfl rfl (pL (c:=.list _) rfl zm0 rfl) ?_
   refine aT 4 rfl rfl (pM (lv:=.list _) rfl) ?_
   refine aT 5 rfl rfl (pM (lv:=.list _) rfl) ?_
   refine aT 7 rfl rfl (pF rfl) ?_
   refine aT 8 rfl rfl (pL (c:=.list _) rfl zm0 rfl) ?_
   refine aT 9 rfl rfl (pM (lv:=.list _) rfl) ?_
   refine aT 10 rfl rfl (pM (lv:=.list _) rfl) ?_
   refine LAny.late ?_ zhr
   refine lO 6 (lS (H1:=[]) rfl (.inl rfl) rfl zpr zhr (sF [_,_,_] rfl (ih thn het zo) ?_))
   refine lO 11 (lS (H1:=[]) rfl (.inl rfl) rfl zpr zhr (sF [_,_,_] rfl (ih els hee zo) ?_))
   refine lO 12 (lS (H1:=[]) rfl (.inl rfl) rfl zpr zhr (sL (es:=[m,2,nv,needSs c thn,needSs c els].map iv) [_,_,_,_,_] rfl (iv_els _) rfl rfl rfl ?_))
   refine lO 13 (lS (H1:=[]) rfl (.inl rfl) rfl zpr zhr (sF [_] rfl (most_spec m [2,nv,needSs c thn,needSs c els] (by simp)) ?_))
   refine lO 14 (lH rfl rfl (pA (lv:=.atom _) rfl) ?_)
   refine lD zk ?_
   refine gal ?_
   exact fin (m2:=mostN [m,2,nv,needSs c thn,needSs c els]) (by rw[hI3];show _=max (max (max (max (max m 2) nv) (needSs c thn)) (needSs c els)) _;omega) rfl rfl rfl rfl rfl rfl hjj
  rw[if_neg (fun h=>h.elim k3 k4)] at hI3
  refine oC rfl (fun hd=>absurd (zt hd) k4) (fun _=>?_)
  refine gas ?_
  by_cases k5:kind=5
  ·rw[if_pos k5] at hI3
   refine oC rfl (fun _=>?_) (fun hd=>absurd k5 (zf hd))
   refine gaj ?_
   refine oS (sL (es:=[m,nv].map iv) [_,_] rfl (iv_els _) rfl rfl rfl ?_) rfl
   refine oS (sF [_] rfl (most_spec m [nv] (by simp)) ?_) rfl
   refine gat ?_
   exact fin (m2:=mostN [m,nv]) (by rw[hI3];show _=max (max m nv) _;omega) rfl rfl rfl rfl rfl rfl hjj
  rw[if_neg k5] at hI3
  refine oC rfl (fun hd=>absurd (zt hd) k5) (fun _=>?_)
  refine gaa ?_
  exact fin (m2:=m) (by rw[hI3];omega) rfl rfl rfl rfl rfl rfl hjj
end
end Go.Proofs.YtpbbgkoalnonoaaGreatDoor.RC
